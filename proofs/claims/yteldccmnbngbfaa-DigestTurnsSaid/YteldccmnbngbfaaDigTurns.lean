/- The walk of the law DigestTurns: a frozen set's hash is the same for every order. Conditions: none but how the arguments read. -/
import Derived.Test.YteldccmnbngbfaaDigRows
namespace Go.Proofs.Yteldccmnbngbfaa
open Go.RowKit

theorem xor_bv (a b : Int) : bits BinOp.xor IntKind.u64 a b = ((BitVec.ofInt 64 a ^^^ BitVec.ofInt 64 b).toNat : Int) := by
  show IntKind.u64.wrap ((BitVec.ofInt 64 a ^^^ BitVec.ofInt 64 b).toNat : Int) = _
  rw [wrapU64]
  have := (BitVec.ofInt 64 a ^^^ BitVec.ofInt 64 b).isLt
  omega
theorem ofInt_nat (x : BitVec 64) : BitVec.ofInt 64 (x.toNat : Int) = x := by
  apply BitVec.eq_of_toNat_eq
  rw [BitVec.ofInt_natCast, BitVec.toNat_ofNat]
  exact Nat.mod_eq_of_lt x.isLt
theorem fro_comm (x p q : Int) : froStep (froStep x p) q = froStep (froStep x q) p := by
  unfold froStep
  rw [xor_bv (bits BinOp.xor IntKind.u64 x _), xor_bv x, xor_bv (bits BinOp.xor IntKind.u64 x _), xor_bv x, ofInt_nat, ofInt_nat, BitVec.xor_assoc, BitVec.xor_assoc, BitVec.xor_comm (BitVec.ofInt 64 (IntKind.u64.wrap _)) (BitVec.ofInt 64 (IntKind.u64.wrap _))]
theorem frozenV_perm {xs ys : List Int} (h : xs.Perm ys) : frozenV xs = frozenV ys := by
  have : foldW froStep 0 xs = foldW froStep 0 ys := by
    unfold foldW
    exact h.foldl_eq' (fun x _ y _ z => fro_comm z (IntKind.u64.wrap x) (IntKind.u64.wrap y)) 0
  rw [frozenV, frozenV, this, h.length_eq]

set_option maxHeartbeats 1000000 in
set_option maxRecDepth 100000 in
theorem lawTurns_any (A : Option Addr) (c : Nat) (zs : List Int) (A' : Option Addr) (c' : Nat) (ts : List Int) (w : World) (hr : RdI w .i64 A zs) (hl : zs.length ≤ c) (hm : c ≤ maxLen) (hw : ∀ z ∈ zs, (Lit.int .i64 z).wf = true)
    (hr' : RdI w .i64 A' ts) (hl' : ts.length ≤ c') (hm' : c' ≤ maxLen) (hw' : ∀ z ∈ ts, (Lit.int .i64 z).wf = true) :
    Calls Try.prog 6 #[.slice A zs.length c, .slice A' ts.length c'] w fun e w' => e = .returned (.bool true) ∧ Below w.heap.size w w' := by
  unfold maxLen at hm hm'
  obtain ⟨i0, hi0, hz0, hz1, hz2⟩ := info_parts int_info
  by_cases h : zs.length ≤ 3000
  · by_cases h' : ts.length ≤ 3000
    · have HW := Lib.hid hw'
      clear hw hw'
      have hB : Below w.heap.size w w := Below.refl _ _
      go_enter Try.func6, Try.ntmps6
      go_wp2_with (at_builtin; refine wpList_append_ints _ rfl (.tmp 19) (.tmp 20) _ rfl w.heap.size 3 i0 _ 8 .i64 Try.underlying35 hi0 hz0 hz1 hz2 rfl (.slice none 0 0) 0 [] rfl (World.ownsRow_nil _ _ _ _) _ _ _ zs rfl rfl hr (by unfold maxLen; omega) (by omega) (Nat.le_refl _) ?_; intro v1 w1 hown1 hg1 hat1; have hB1 := hB.grown hg1 (Nat.le_refl _) (by simp [Value.ownBlock]); simp only [Nat.zero_add, List.nil_append] at hown1; obtain ⟨A1, c1, rfl, l1, m1, _⟩ := own_form hown1)
      clear hB hg1 hat1
      go_loopw [6] (fun i wr => ∃ (k : Nat) (ys : List Int), k ≤ ts.length ∧ i = .int .i64 k ∧ Hid (ys.Perm zs) ∧ wr.ownsRow w.heap.size 3 1 (.slice A1 zs.length c1) zs.length (ys.map (Value.int .i64)) ∧ Below w.heap.size w wr) (fun i _ => ts.length - (intOf i).toNat)
      case atStart => exact ⟨0, zs, Nat.zero_le _, rfl, List.Perm.refl _, hown1, hB1⟩
      case round =>
        obtain ⟨k, ys, hk, rfl, hp, hown, hB⟩ := hrel
        clear hown1 hB1
        have HL := Lib.hid hp.out.length_eq
        by_cases hgo : k < ts.length ∧ 0 < zs.length
        · obtain ⟨hlt, hn⟩ := hgo
          obtain ⟨g, cg, hA1, hgB, hgl⟩ := hown.form hn
          injection hA1 with e1 _ e3
          subst e1; subst e3
          obtain ⟨b, off, t, rfl, ht, hct⟩ := (hr'.later hB) k hlt
          obtain ⟨j, hj⟩ : ∃ j : Nat, j = k % zs.length := ⟨_, rfl⟩
          have hjl : j < zs.length := by rw [hj]; exact Nat.mod_lt _ hn
          have ej : (k : Int) % (zs.length : Int) = (j : Int) := by rw [hj]; omega
          have q0 : -(zs.length : Int) < t.tmod zs.length ∧ t.tmod zs.length < zs.length := by
            have h1 := Int.tmod_lt_of_pos t (show (0 : Int) < zs.length by omega)
            have h2 := Int.neg_tmod t zs.length
            have h3 := Int.tmod_lt_of_pos (-t) (show (0 : Int) < zs.length by omega)
            omega
          have hmove : ∀ m : Nat, m < zs.length → ∃ y x : Int, wr.cell? ⟨g, m, none⟩ = some (.int .i64 y) ∧ wr.cell? ⟨g, j, none⟩ = some (.int .i64 x) ∧ ((ys.set j y).set m x).Perm zs := by
            intro m hm
            have hml : m < ys.length := by rw [HL.out]; exact hm
            have hjy : j < ys.length := by rw [HL.out]; exact hjl
            have hy : (ys.map (Value.int .i64))[m]? = some (.int .i64 ys[m]) := by rw [List.getElem?_map, List.getElem?_eq_getElem (by rw [HL.out]; exact hm)]; rfl
            have hx : (ys.map (Value.int .i64))[j]? = some (.int .i64 ys[j]) := by rw [List.getElem?_map, List.getElem?_eq_getElem (by rw [HL.out]; exact hjl)]; rfl
            refine ⟨ys[m], ys[j], by rw [hown.cellAt m (by omega), hy], by rw [hown.cellAt j (by omega), hx], ?_⟩
            exact (List.set_set_perm (by rw [HL.out]; exact hjl) (by rw [HL.out]; exact hm)).trans hp.out
          obtain ⟨q, hq⟩ : ∃ q, t.tmod zs.length = q := ⟨_, rfl⟩
          rw [hq] at q0
          obtain ⟨q0, q1⟩ := q0
          obtain ⟨m, hml, hm⟩ : ∃ m : Nat, m < zs.length ∧ ((q < 0 ∧ q + (zs.length : Int) = (m : Int)) ∨ (0 ≤ q ∧ q = (m : Int))) := by
            rcases Int.lt_or_le q 0 with h1 | h1
            · exact ⟨(q + zs.length).toNat, by omega, .inl ⟨h1, by omega⟩⟩
            · exact ⟨q.toNat, by omega, .inr ⟨h1, by omega⟩⟩
          obtain ⟨y, x, hcm, hcj, hperm⟩ := hmove m hml
          have HP := Lib.hid hperm
          have hf1 : wr.frozen? ⟨g, j, none⟩ = false := hown.frozenAt j
          have hf2 : wr.frozen? ⟨g, m, none⟩ = false := hown.frozenAt m
          have hst := (hown.stored j (.int .i64 y)).1
          obtain ⟨v2, hc2⟩ : ∃ v2, (wr.setCell ⟨g, j, none⟩ (.int .i64 y)).cell? ⟨g, m, none⟩ = some v2 := by
            rw [hst.cellAt m (by omega)]
            exact ⟨_, List.getElem?_eq_getElem (by simp only [List.length_set, List.length_map]; rw [HL.out]; exact hml)⟩
          have hst2 := (hst.stored m (.int .i64 x)).1
          rw [← List.map_set, ← List.map_set] at hst2
          have hB3 := (hB.setCell (p := ⟨g, j, none⟩) hgB (.int .i64 y)).setCell (p := ⟨g, m, none⟩) hgB (.int .i64 x)
          have HS := Lib.hid hst2
          have HQ := Lib.hid hq
          clear hmove hst hst2 hown hperm hp hj ht
          rcases hm with ⟨hq0, hqm⟩ | ⟨hq0, hqm⟩
          · have hq' : t.tmod zs.length = q := HQ.out
            go_wp2
            go_roundw
            case rel => exact ⟨k + 1, _, by omega, by go_num, HP, HS.out, hB3⟩
            case measure => simp [intOf]; omega
          · have hq' : t.tmod zs.length = (m : Int) := HQ.out.trans hqm
            subst hqm
            go_wp2
            go_roundw
            case rel => exact ⟨k + 1, _, by omega, by go_num, HP, HS.out, hB3⟩
            case measure => simp [intOf]; omega
        · have hF1 : ∀ W, Below wr.heap.size wr W → Calls Try.prog 18 #[.slice A1 zs.length c1] W fun e w' => e = .returned (.int .i64 (frozenV zs)) ∧ Below W.heap.size W w' := by
            intro W hW
            have := frozen_any A1 c1 ys W ((FrI.of_own hown).rd.later hW) (by rw [HL.out]; exact h)
            rw [HL.out, frozenV_perm hp.out] at this
            exact this
          have HF1 := Lib.hid hF1
          have t3 : ((frozenV zs) == (frozenV zs)) = true := by simp
          clear hF1 hown hp
          have hstop : ¬ k < ts.length ∨ (k < ts.length ∧ ¬ 0 < zs.length) := by omega
          clear hgo
          rcases hstop with hs | ⟨hs, hs0⟩
          all_goals
            go_wp2_with fail
            refine (HF1.out _ (Below.refl _ _)).mono ?_
            rintro e w2 ⟨rfl, hb2⟩
            go_wp2_with fail
            refine (frozen_any A c zs _ (hr.later (hB.trans (hb2.mono hB.size))) h).mono ?_
            rintro e w3 ⟨rfl, hb3⟩
            go_wp2_with (go_at_call 8; refine (awake_any _).mono ?_; rintro e w4 ⟨rfl, hb4⟩)
            go_ret
            have h2 := hB.trans (hb2.mono hB.size)
            have h3 := h2.trans (hb3.mono h2.size)
            exact ⟨rfl, h3.trans (hb4.mono h3.size)⟩
    · go_enter Try.func6, Try.ntmps6
      go_wp2_with (go_at_call 8; refine (awake_any _).mono ?_; rintro e w1 ⟨rfl, hb1⟩)
      go_ret
      exact ⟨rfl, hb1⟩
  · go_enter Try.func6, Try.ntmps6
    go_wp2_with (go_at_call 8; refine (awake_any _).mono ?_; rintro e w1 ⟨rfl, hb1⟩)
    go_ret
    exact ⟨rfl, hb1⟩
end Go.Proofs.Yteldccmnbngbfaa
