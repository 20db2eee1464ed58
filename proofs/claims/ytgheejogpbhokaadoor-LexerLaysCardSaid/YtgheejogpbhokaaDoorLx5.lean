/- The lexer's number. -/
import Derived.Test.YtgheejogpbhokaaDoorLx4
namespace Go.Proofs.YtgheejogpbhokaaDoor
set_option linter.unusedVariables false
set_option linter.unusedSimpArgs false
open Go.RowKit
set_option maxRecDepth 1000000

theorem num_bad {T : ByteArray} {x : List UInt8} (hx : T.data.toList = x) (k : Nat) (hk : k < T.size) (hd : isDig T[k] = false) : numOk x = false := by
  have hm : T[k] ∈ x := by rw [← hx]; exact List.getElem_mem (by simpa using hk)
  have : x.all isDig = false := by rw [List.all_eq_false]; exact ⟨_, hm, by rw [hd]; decide⟩
  rw [numOk, this]; rfl
theorem num_all {T : ByteArray} {x : List UInt8} (hx : T.data.toList = x) (h : ∀ k (hk : k < T.size), isDig T[k] = true) : x.all isDig = true := by
  rw [List.all_eq_true]
  intro c hc
  rw [← hx] at hc
  obtain ⟨k, hk, rfl⟩ := List.getElem_of_mem hc
  exact h k (by simpa using hk)
theorem num_head {T : ByteArray} {x : List UInt8} (hx : T.data.toList = x) (h0 : 0 < T.size) : x.head? = some T[0] := by
  rw [← hx, List.head?_eq_getElem?, List.getElem?_eq_getElem (by simpa using h0)]
  rfl

section
variable {w : World} {base X : Nat} {s : ByteArray} {p o : Nat} {st : List Nat} {toks : List Tk}
set_option maxHeartbeats 2000000 in
theorem lxNumber_ok (hL : LxS w base X s p o st toks) (hz : base ≤ w.heap.size) (hs : s.size ≤ 1099511627776) (hp : p ≤ s.size) (hn : toks.length ≤ 1000000) (h0 : 0 < (wd (s.data.toList.drop p)).length) :
    Calls Tryd.prog 43 #[.pointer (some ⟨X, 0, none⟩)] w (TokR w base X s p st toks (if numOk (wd (s.data.toList.drop p)) then .tok 3 (wd (s.data.toList.drop p)) (wd (s.data.toList.drop p)).length o else .bad 105)) := by
  have hr := lxRun_ok hL hs hp
  have hTl := wdS_list s p
  have hTs := wdS_size s p
  have hsz := wdS_fits s p hp
  have hP := fun (k : Int) (W : World) (h : LxS W base X s p o st toks) (h2 : base ≤ W.heap.size) => lxPut_ok k (wdS s p) p h h2 (by omega) hn
  rw [hTl] at hP
  rw [← hTs] at h0 ⊢
  generalize wdS s p = T at *
  generalize wd (s.data.toList.drop p) = x at *
  have hlen : x.length = T.size := by rw [← hTl]; simp
  obtain ⟨R, hR⟩ : ∃ R, TokR w base X s p st toks (if numOk x then .tok 3 x T.size o else .bad 105) = R := ⟨_, rfl⟩
  have hBad := Lib.hid (fun (h : numOk x = false) e w' (he : e = .panicked [{ v := stopV 105 p, recovered := false }]) (hb : Below base w w') => show R e w' by rw [← hR, h]; exact ⟨he, hb⟩)
  have hGood := Lib.hid (fun (h : numOk x = true) e w' (he : e = .returned (.tuple #[])) (hl : LxS w' base X s (p + T.size) o st (toks ++ [⟨3, x, p⟩])) (hb : Below base w w') => show R e w' by rw [← hR, h]; exact ⟨he, hl, hb⟩)
  rw [hR]
  have HB := Lib.hid (num_bad hTl)
  have HA := Lib.hid (num_all hTl)
  have HH := Lib.hid (num_head hTl h0)
  have HN := Lib.hid hlen
  clear hR hTl hTs hlen
  obtain ⟨q0, q1, q3, f1, f3, hX, hbX⟩ := hL.cells
  go_enter Tryd.func43, Tryd.ntmps43
  go_wp2_with fail
  go_at_call 50
  refine hr.mono ?_
  rintro e w1 ⟨rfl, hb1⟩
  clear q0 q1 q3 f1 f3
  replace hL := hL.later hb1
  have hz1 := Nat.le_trans hz hb1.size
  replace hb1 := hb1.mono hz
  obtain ⟨q0, q1, q3, f1, f3, hX, hbX⟩ := hL.cells
  go_wp2
  go_loop [8] (fun v => ∃ k : Nat, v = .int .i64 k ∧ k ≤ T.size ∧ Hid (∀ i (hi : i < T.size), i < k → isDig T[i] = true)) (fun v => T.size - (intOf v).toNat)
  case atStart => exact ⟨0, rfl, Nat.zero_le _, Lib.hid (fun i _ h => absurd h (Nat.not_lt_zero i))⟩
  case round =>
    obtain ⟨k, rfl, hk, hd⟩ := hrel
    by_cases hlt : k < T.size
    · cases hdk : isDig T[k]
      · have hnum := Lib.hid (HB.out k hlt hdk)
        go_wp2_with (first
          | (go_at_call 42; refine (isDig_ok _ _).mono ?_; rintro e w' ⟨rfl, rfl⟩)
          | (go_at_call 39; refine (lxFail_ok X 105 p _).mono ?_; rintro e w' ⟨rfl, rfl⟩))
        exact ⟨rfl, hBad.out hnum.out _ _ rfl hb1⟩
      · have hd2 := Lib.hid (show ∀ i (hi : i < T.size), i < k + 1 → isDig T[i] = true from fun i hi h => if e : i = k then by subst e; exact hdk else hd.out i hi (by omega))
        go_wp2_with (go_at_call 42; refine (isDig_ok _ _).mono ?_; rintro e w' ⟨rfl, rfl⟩)
        go_round
        case rel => exact ⟨k + 1, by go_num, by omega, hd2⟩
        case measure => simp [intOf]; omega
    · have hks : k = T.size := by omega
      subst hks
      obtain ⟨b1, e1⟩ : ∃ b, ((T[0].toNat : Int) == 48) = b := ⟨_, rfl⟩
      obtain ⟨b2, e2⟩ : ∃ b, decide (1 < (T.size : Int)) = b := ⟨_, rfl⟩
      obtain ⟨b3, e3⟩ : ∃ b, decide (1000 < (T.size : Int)) = b := ⟨_, rfl⟩
      have e4 : decide (1 < T.size) = b2 := by rw [← e2]; simp; omega
      have e5 : decide (1000 < T.size) = b3 := by rw [← e3]; simp; omega
      have hnum := Lib.hid (show numOk x = (!(b1 && b2) && !b3) by
        rw [numOk, HA.out (fun i hi => hd.out i hi hi), HH.out, HN.out]
        have a1 : (some T[0] == some (48 : UInt8)) = b1 := by
          rw [← e1, Bool.eq_iff_iff]
          simp only [beq_iff_eq, Option.some.injEq]
          constructor
          · intro h; rw [h]; rfl
          · intro h; exact UInt8.toNat_inj.1 (by show T[0].toNat = 48; omega)
        have a2 : decide (T.size ≤ 1000) = !b3 := by rw [← e5]; by_cases h : T.size ≤ 1000 <;> simp [h] <;> omega
        rw [a1, e4, a2]
        simp)
      have i0 : (0 : Int) < (T.size : Int) := by omega
      cases b1 <;> cases b2 <;> cases b3
      all_goals
        go_wp2_with (first
          | (go_at_call 39; refine (lxFail_ok X 105 p _).mono ?_; rintro e w' ⟨rfl, rfl⟩)
          | (go_at_call 28; refine (hP _ _ hL hz1).mono ?_; rintro e w2 ⟨rfl, hL2, hb2⟩; clear q0 q1 q3 f1 f3; obtain ⟨q0, q1, q3, f1, f3, hX, hbX⟩ := hL2.cells))
      all_goals first
        | exact ⟨rfl, hBad.out hnum.out _ _ rfl hb1⟩
        | (go_end0; exact hGood.out hnum.out _ _ rfl (hL2.setPos _ _ (by omega)) (Below.setCell (p := ⟨X, 1, none⟩) (hb1.trans hb2) hbX _))
end
end Go.Proofs.YtgheejogpbhokaaDoor
