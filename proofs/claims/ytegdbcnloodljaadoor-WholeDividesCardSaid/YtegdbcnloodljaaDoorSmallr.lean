/- The reference's Small: an Int as an int, if it is one. Conditions: the slice reads as at most a million words of 32 bits. -/
import Derived.Test.YtegdbcnloodljaaDoorRefRest
namespace Go.Proofs.YtegdbcnloodljaaDoor
set_option linter.unusedVariables false
set_option linter.unusedSimpArgs false
open Go.RowKit

/-- An Int in its form as an int, if it is one. -/
def smallF (b : Bool) (ts : List Int) : Int × Bool :=
  if 2 < ts.length then (0, false)
  else match b with
    | true => if 9223372036854775808 < val ts then (0, false) else (-(val ts), true)
    | false => if 9223372036854775808 ≤ val ts then (0, false) else (val ts, true)

theorem or_zero (x : Int) (x0 : 0 ≤ x) (x1 : x ≤ 4294967295) : bits BinOp.or IntKind.u64 0 x = x := by
  rw [u64_or 0 x (by decide) (by decide) x0 (by omega)]; simp; omega
theorem or_high (u x : Int) (u0 : 0 ≤ u) (u1 : u ≤ 4294967295) (x0 : 0 ≤ x) (x1 : x ≤ 4294967295) : bits BinOp.or IntKind.u64 u (x * 4294967296) = u + x * 4294967296 := by
  rw [or_join' 32 _ _ (by omega) (by omega) u0 (by omega)]
  · omega
  · obtain ⟨n, rfl⟩ := Int.eq_ofNat_of_zero_le x0
    have : ((n : Int) * 4294967296).toNat = n * 4294967296 := by omega
    rw [this]; exact Nat.mul_mod_left n (2 ^ 32)
  · have : (2 : Nat) ^ 32 = 4294967296 := by rfl
    omega

set_option maxRecDepth 100000 in
set_option maxHeartbeats 1000000 in
theorem refSmall_any (neg : Bool) (A : Option Addr) (c : Nat) (zs : List U32) (w : World) (hr : RdI w .u32 A (vals zs)) (hl : zs.length ≤ c) (hc : c ≤ 9223372036854775807) (hn : zs.length ≤ 1000000) (rv : Int) (rb : Bool)
    (HR : Hid (smallF (negN neg (vals zs)) (vals (trimU zs)) = (rv, rb))) :
    Calls Tryd.prog 35 #[.agg #[.bool neg, .slice A zs.length c]] w fun e w' => e = .returned (.tuple #[.int .i64 rv, .bool rb]) ∧ Below w.heap.size w w' := by
  have HC := Lib.hid (fun W (hb : Below w.heap.size w W) => form_any neg A c (vals zs) W (hr.later hb) (by rw [vals_length]; exact hl) hc (by rw [vals_length]; exact hn))
  rw [vals_length, ← vals_trimU] at HC
  obtain ⟨ts, hts⟩ : ∃ ts, ts = trimU zs := ⟨_, rfl⟩
  obtain ⟨bb, hbb⟩ : ∃ bb, bb = negN neg (vals zs) := ⟨_, rfl⟩
  rw [← hts, ← hbb] at HC HR
  clear hts hbb
  have hb1 : ∀ o, Below w.heap.size w (w.alloc o) := fun o => (Below.refl _ _).alloc (Nat.le_refl _) _
  by_cases h2 : 2 < ts.length
  · have HR2 : Hid (rv = 0 ∧ rb = false) := by
      have := HR.out
      unfold smallF at this
      rw [if_pos (by rw [vals_length]; exact h2)] at this
      injection this with e1 e2
      exact ⟨e1.symm, e2.symm⟩
    go_enter Tryd.func35, Tryd.ntmps35
    go_wp2_with (go_at_call 37; refine (HC.out _ (hb1 _)).mono ?_; rintro e w' ⟨A', c', he, l1, l2, fr, hb⟩; rw [vals_length] at he l1; subst he; obtain ⟨ko, kf⟩ := oldCells hb; have hsz : w.heap.size + 1 ≤ w'.heap.size := (by have := hb.size; simpa using this))
    go_ret2
    exact ⟨by rw [HR2.out.1, HR2.out.2]; rfl, (((hb1 _).trans (hb.mono (by simp))).setCell (p := ⟨w.heap.size, 0, none⟩) (Nat.le_refl _) _).setCell (p := ⟨w.heap.size, 1, none⟩) (Nat.le_refl _) _⟩
  · have v0 := val_nonneg ts
    have v1 := val_lt ts
    obtain ⟨V, hV⟩ : ∃ V, V = val (vals ts) := ⟨_, rfl⟩
    have HR2 : Hid (smallF bb (vals ts) = (rv, rb)) := HR.out
    unfold Hid smallF at HR2
    rw [if_neg (by rw [vals_length]; exact h2), ← hV] at HR2
    have hVb : 0 ≤ V ∧ V < 18446744073709551616 := by
      rw [← hV] at v0 v1
      refine ⟨v0, Int.lt_of_lt_of_le v1 ?_⟩
      have : ts.length = 0 ∨ ts.length = 1 ∨ ts.length = 2 := by omega
      rcases this with e | e | e <;> rw [e] <;> decide
    obtain ⟨V0, V1⟩ := hVb
    have HV := Lib.hid hV
    have HR3 := Lib.hid HR2
    clear HR2 hV v0 v1
    go_enter Tryd.func35, Tryd.ntmps35
    go_wp2_with (go_at_call 37; refine (HC.out _ (hb1 _)).mono ?_; rintro e w' ⟨A', c', he, l1, l2, fr, hb⟩; rw [vals_length] at he l1; subst he; obtain ⟨ko, kf⟩ := oldCells hb; have hsz : w.heap.size + 1 ≤ w'.heap.size := (by have := hb.size; simpa using this))
    have hB : Below w.heap.size w ((w'.setCell ⟨w.heap.size, 0, none⟩ (.bool bb)).setCell ⟨w.heap.size, 1, none⟩ (.slice A' ts.length c')) :=
      (((hb1 _).trans (hb.mono (by simp))).setCell (p := ⟨w.heap.size, 0, none⟩) (Nat.le_refl _) _).setCell (p := ⟨w.heap.size, 1, none⟩) (Nat.le_refl _) _
    have fr1 : FrI w' (w.heap.size + 1) .u32 A' (vals ts) := by simpa using fr
    have fr2 := (fr1.setCell (p := ⟨w.heap.size, 0, none⟩) (by simp) (.bool bb)).setCell (p := ⟨w.heap.size, 1, none⟩) (by simp) (.slice A' ts.length c')
    have k0 : ((w'.setCell ⟨w.heap.size, 0, none⟩ (.bool bb)).setCell ⟨w.heap.size, 1, none⟩ (.slice A' ts.length c')).cell? ⟨w.heap.size, 0, none⟩ = some (.bool bb) := by go_simp
    have k1 : ((w'.setCell ⟨w.heap.size, 0, none⟩ (.bool bb)).setCell ⟨w.heap.size, 1, none⟩ (.slice A' ts.length c')).cell? ⟨w.heap.size, 1, none⟩ = some (.slice A' ts.length c') := by go_simp
    generalize ((w'.setCell ⟨w.heap.size, 0, none⟩ (.bool bb)).setCell ⟨w.heap.size, 1, none⟩ (.slice A' ts.length c')) = W at *
    clear ko kf hsz hb fr fr1
    go_loop [4, 5] (fun su si => ∃ (k : Nat) (u : Int), k ≤ ts.length ∧ si = .int .i64 k ∧ su = .int .u64 u ∧ Hid (u = val ((vals ts).take k))) (fun _ si => 2 - (intOf si).toNat)
    case atStart => exact ⟨0, 0, Nat.zero_le _, rfl, rfl, rfl⟩
    case round =>
      obtain ⟨k, u, hk, rfl, rfl, hu⟩ := hrel
      by_cases hlt : k < ts.length
      · obtain ⟨b, off, z, rfl, _, hz, hcell, _⟩ := fr2 k (by rw [vals_length]; exact hlt)
        rw [vals_get ts k hlt] at hz
        have zz := (u32at ts k).2
        obtain ⟨z', hz'⟩ : ∃ z', (u32at ts k).1 = z' := ⟨_, rfl⟩
        have hval := hu.out
        have hnext : val ((vals ts).take (k + 1)) = val ((vals ts).take k) + 4294967296 ^ k * z' := by
          have hkl : k < (vals ts).length := by rw [vals_length]; exact hlt
          have hg := vals_get ts k hlt
          rw [List.getElem?_eq_getElem hkl] at hg
          injection hg with hg
          rw [List.take_succ_eq_append_getElem hkl, val_append, List.length_take, Nat.min_eq_left (by omega), hg, hz']
          simp [val]
        rw [hz'] at hz zz
        clear hz'
        obtain ⟨z0, z1⟩ := zz
        injection hz with hz
        subst hz
        rw [← hval] at hnext
        have HN := Lib.hid hnext
        have hk2 : k = 0 ∨ k = 1 := by omega
        clear hnext hu
        rcases hk2 with rfl | rfl
        · have hu0 : u = 0 := by rw [hval]; rfl
          subst hu0
          have ho := or_zero z' z0 z1
          clear hval
          simp only [Nat.add_zero] at hcell
          go_wp2
          go_round
          case rel => exact ⟨1, _, by omega, rfl, rfl, by rw [HN.out]; show _ = _; omega⟩
          case measure => simp [intOf]
        · have hu1 : 0 ≤ u ∧ u ≤ 4294967295 := by
            have e : (vals ts).take 1 = vals (ts.take 1) := by rw [vals, vals, List.map_take]
            rw [e] at hval
            have a := val_nonneg (ts.take 1)
            have b := val_lt (ts.take 1)
            rw [List.length_take, Nat.min_eq_left (by omega)] at b
            omega
          obtain ⟨u0, u1⟩ := hu1
          have ho := or_high u z' u0 u1 z0 z1
          clear hval
          go_wp2
          go_round
          case rel => exact ⟨2, _, by omega, rfl, rfl, by rw [HN.out]; show _ = _; omega⟩
          case measure => simp [intOf]
      · have hkk : u = V := by rw [hu.out, HV.out, List.take_of_length_le (by rw [vals_length]; omega)]
        subst hkk
        clear hu
        cases bb
        · by_cases h : 9223372036854775808 ≤ u
          · have HF : Hid (rv = 0 ∧ rb = false) := by
              have := HR3.out
              simp only [if_pos h] at this
              injection this with e1 e2
              exact ⟨e1.symm, e2.symm⟩
            go_wp2
            go_ret2
            exact ⟨by rw [HF.out.1, HF.out.2]; rfl, hB⟩
          · have HF : Hid (rv = u ∧ rb = true) := by
              have := HR3.out
              simp only [if_neg h] at this
              injection this with e1 e2
              exact ⟨e1.symm, e2.symm⟩
            go_wp2
            go_ret2
            exact ⟨by rw [HF.out.1, HF.out.2]; rfl, hB⟩
        · by_cases h : 9223372036854775808 < u
          · have HF : Hid (rv = 0 ∧ rb = false) := by
              have := HR3.out
              simp only [if_pos h] at this
              injection this with e1 e2
              exact ⟨e1.symm, e2.symm⟩
            go_wp2
            go_ret2
            exact ⟨by rw [HF.out.1, HF.out.2]; rfl, hB⟩
          · have HF : Hid (rv = -u ∧ rb = true) := by
              have := HR3.out
              simp only [if_neg h] at this
              injection this with e1 e2
              exact ⟨e1.symm, e2.symm⟩
            have hng : wrap64 (IntKind.u64.wrap (-u)) = -u := by rw [wrapU64, wrapI64]; omega
            go_wp2
            go_ret2
            exact ⟨by rw [HF.out.1, HF.out.2]; rfl, hB⟩
end Go.Proofs.YtegdbcnloodljaaDoor
