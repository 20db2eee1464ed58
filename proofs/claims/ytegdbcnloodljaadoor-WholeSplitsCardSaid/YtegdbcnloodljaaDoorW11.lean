/- whole.Negate; the law's few, large, sum. -/
import Derived.Test.YtegdbcnloodljaaDoorClone
namespace Go.Proofs.YtegdbcnloodljaaDoor
set_option linter.unusedVariables false
set_option linter.unusedSimpArgs false
open Go.RowKit
set_option maxRecDepth 1000000

theorem IntAt.get {w : World} {base : Nat} {X : Int} {b : Bool} {A : Option Addr} {n c : Nat} (h : IntAt w base X (.agg #[.bool b, .slice A n c])) : ∃ zs, n = zs.length ∧ zs.length ≤ c ∧ c ≤ 9223372036854775807 ∧ FrI w base .u32 A zs ∧ W32 zs ∧ NT zs ∧ valI b zs = X ∧ (b = true → zs ≠ []) := by
  obtain ⟨b', A', c', zs, hv, rest⟩ := h
  injection hv with hv
  injection hv with hv
  simp only [List.cons.injEq, Value.bool.injEq, Value.slice.injEq, and_true] at hv
  obtain ⟨rfl, rfl, rfl, rfl⟩ := hv
  exact ⟨zs, rfl, rest⟩
theorem IntAt.form {w : World} {base : Nat} {X : Int} {v : Value} (h : IntAt w base X v) : ∃ b A n c, v = .agg #[.bool b, .slice A n c] := by
  obtain ⟨b', A', c', zs, hv, rest⟩ := h
  exact ⟨_, _, _, _, hv⟩
theorem valI_not (b : Bool) (zs : List Int) : valI (!b) zs = -(valI b zs) := by
  unfold valI; cases b <;> simp

set_option maxHeartbeats 2000000 in
theorem wNegate_ok (neg : Bool) (A : Option Addr) (c : Nat) (zs : List Int) (w : World) (hW : W32 zs) (hr : RdI w .u32 A zs) (hl : zs.length ≤ c) (hc : c ≤ 9223372036854775807) (hm : zs.length ≤ 1000000) :
    Calls Tryd.prog 14 #[.agg #[.bool neg, .slice A zs.length c]] w fun e w' => ∃ b' A' n' c', e = .returned (.agg #[.bool b', .slice A' n' c']) ∧ IntAt w' w.heap.size (-(valI neg zs)) (.agg #[.bool b', .slice A' n' c']) ∧ Below w.heap.size w w' := by
  obtain ⟨X, hX⟩ : ∃ X, valI neg zs = X := ⟨_, rfl⟩
  have hC := fun W (hb : Below w.heap.size w W) => copied_ok neg A c zs W hW (hr.later hb) hl hc hm
  rw [hX] at hC ⊢
  clear hX
  have hw0 : Below w.heap.size w ((w.alloc (.cells #[.bool neg, .slice A zs.length c] 24)).alloc (.cells #[.bool false, .slice none 0 0] 24)) := ((Below.refl _ _).alloc (Nat.le_refl _) _).alloc (by simp) _
  have hz0 : Below (w.heap.size + 2) ((w.alloc (.cells #[.bool neg, .slice A zs.length c] 24)).alloc (.cells #[.bool false, .slice none 0 0] 24)) ((w.alloc (.cells #[.bool neg, .slice A zs.length c] 24)).alloc (.cells #[.bool false, .slice none 0 0] 24)) := Below.refl _ _
  go_enter Tryd.func14, Tryd.ntmps14
  go_wp2_with fail
  go_at_call 45
  refine (hC _ hw0).mono ?_
  rintro e w1 ⟨b1, A1, n1, c1, rfl, hv1, hb1⟩
  obtain ⟨zs1, rfl, l1, m1, f1, q1, -, v1, -⟩ := hv1.get
  have hz1 := hz0.trans (hb1.mono (by simp))
  have hB1 := hw0.trans (hb1.mono hw0.size)
  have f1 := f1.mono (show w.heap.size + 2 ≤ _ by simp)
  obtain ⟨k1, k2, k3, k4, k5, k6, k7⟩ := boxes2 w _ _ w1 hz1
  have hw2 : Below w1.heap.size w1 (w1.alloc (.cells #[.bool b1, .slice A1 zs1.length c1] 24)) := (Below.refl _ _).alloc (Nat.le_refl _) _
  go_wp2_with fail
  go_at_call 46
  refine (form_int (!b1) A1 c1 zs1 (w.heap.size + 2) _ q1 (f1.later hw2) l1 m1 (-X) (by rw [valI_not, v1])).mono ?_
  rintro e w2 ⟨b', A', n', c', rfl, hv, b2⟩
  have b3 : Below w1.heap.size w1 w2 := hw2.trans (b2.mono (by simp))
  have hz2 := hz1.trans (b3.mono k7)
  have hB2 := hB1.trans (b3.mono hB1.size)
  clear k1 k2 k3 k4 k5 k6 k7
  obtain ⟨k1, k2, k3, k4, k5, k6, k7⟩ := boxes2 w _ _ w2 hz2
  go_wp2
  exact bodyPost_ret (v := .agg #[.bool b', .slice A' n' c']) (by simp [results, Tryd.results14, go_sem, k3, k4, k5, k6, k7]) rfl ⟨_, _, _, _, rfl, ((hv.setCell (p := ⟨w.heap.size + 1, 0, none⟩) (by simp <;> omega) _).setCell (p := ⟨w.heap.size + 1, 1, none⟩) (by simp <;> omega) _).mono (by omega), (hB2.setCell (p := ⟨w.heap.size + 1, 0, none⟩) (by simp <;> omega) _).setCell (p := ⟨w.heap.size + 1, 1, none⟩) (by simp <;> omega) _⟩

set_option maxHeartbeats 400000 in
theorem few_ok (neg : Bool) (A : Option Addr) (c n : Nat) (w : World) : Calls Tryd.prog 11 #[.agg #[.bool neg, .slice A n c]] w fun e w' => e = .returned (.bool (decide (n ≤ 80))) ∧ Below w.heap.size w w' := by
  obtain ⟨b, hb⟩ : ∃ b, decide (n ≤ 80) = b := ⟨_, rfl⟩
  have hb2 : decide ((n : Int) ≤ 80) = b := by rw [← hb]; simp; omega
  rw [hb]
  clear hb
  go_enter Tryd.func11, Tryd.ntmps11
  go_wp2
  go_ret
  exact ⟨rfl, (Below.refl _ w).alloc (Nat.le_refl _) _⟩

set_option maxHeartbeats 400000 in
theorem large_ok (neg : Bool) (A : Option Addr) (c n : Nat) (w : World) : Calls Tryd.prog 20 #[.agg #[.bool neg, .slice A n c]] w fun e w' => e = .returned (.bool (decide (600 < n))) ∧ Below w.heap.size w w' := by
  obtain ⟨b, hb⟩ : ∃ b, decide (600 < n) = b := ⟨_, rfl⟩
  have hb2 : decide ((600 : Int) < n) = b := by rw [← hb]; simp; omega
  rw [hb]
  clear hb
  go_enter Tryd.func20, Tryd.ntmps20
  go_wp2
  go_ret
  exact ⟨rfl, (Below.refl _ w).alloc (Nat.le_refl _) _⟩

/-- what the law's sum hands back. -/
def RetSum2 (w : World) (O : Option Int) (e : Ending) (w' : World) : Prop :=
  (match O with
    | none => e = .returned (.tuple #[.agg #[.bool false, .slice none 0 0], .bool false])
    | some S => ∃ b A n c, e = .returned (.tuple #[.agg #[.bool b, .slice A n c], .bool true]) ∧ IntAt w' w.heap.size S (.agg #[.bool b, .slice A n c])) ∧ Below w.heap.size w w'

set_option maxHeartbeats 2000000 in
theorem wSum_ok (b1 b2 : Bool) (A B : Option Addr) (c d : Nat) (xs ys : List Int) (w : World) (hX : W32 xs) (hY : W32 ys) (hr : RdI w .u32 A xs) (hs : RdI w .u32 B ys) (hl : xs.length ≤ c) (hc : c ≤ 9223372036854775807) (hl2 : ys.length ≤ d) (hd : d ≤ 9223372036854775807) :
    Calls Tryd.prog 15 #[.agg #[.bool b1, .slice A xs.length c], .agg #[.bool b2, .slice B ys.length d]] w (RetSum2 w (addO (valI b1 xs) (valI b2 ys))) := by
  have hC := fun W (hb : Below w.heap.size w W) => wAdd_ok b1 b2 A B c d xs ys W hX hY (hr.later hb) (hs.later hb) hl hc hl2 hd
  generalize addO (valI b1 xs) (valI b2 ys) = O at *
  have hw0 : Below w.heap.size w (((w.alloc (.cells #[.bool b1, .slice A xs.length c] 24)).alloc (.cells #[.bool b2, .slice B ys.length d] 24)).alloc (.cells #[.bool false, .slice none 0 0] 24)) := (((Below.refl _ _).alloc (Nat.le_refl _) _).alloc (by simp) _).alloc (by simp; omega) _
  have hz0 : Below (w.heap.size + 3) (((w.alloc (.cells #[.bool b1, .slice A xs.length c] 24)).alloc (.cells #[.bool b2, .slice B ys.length d] 24)).alloc (.cells #[.bool false, .slice none 0 0] 24)) (((w.alloc (.cells #[.bool b1, .slice A xs.length c] 24)).alloc (.cells #[.bool b2, .slice B ys.length d] 24)).alloc (.cells #[.bool false, .slice none 0 0] 24)) := Below.refl _ _
  cases O with
  | none =>
    go_enter Tryd.func15, Tryd.ntmps15
    go_wp2_with fail
    go_at_call 22
    refine (hC _ hw0).mono ?_
    rintro e w1 ⟨h1, hb1⟩
    dsimp only at h1
    subst h1
    have hz1 := hz0.trans (hb1.mono (by simp))
    have hB1 := hw0.trans (hb1.mono hw0.size)
    obtain ⟨k1, k2, k3, k4, k5, k6, k7, k8, k9⟩ := boxes3 w _ _ _ _ w1 hz1
    simp only [none3]
    have k10 : w.heap.size + 1 + 1 < w1.heap.size := by omega
    go_wp2
    exact bodyPost_ret (v := .tuple #[.agg #[.bool false, .slice none 0 0], .bool false]) (by simp [results, Tryd.results15, go_sem, k5, k6, k9, k10]) rfl ⟨rfl, ((hB1.setCell (p := ⟨w.heap.size + 1 + 1, 0, none⟩) (by simp; omega) _).setCell (p := ⟨w.heap.size + 1 + 1, 1, none⟩) (by simp; omega) _).alloc (by simp <;> omega) _⟩
  | some S =>
    go_enter Tryd.func15, Tryd.ntmps15
    go_wp2_with fail
    go_at_call 22
    refine (hC _ hw0).mono ?_
    rintro e w1 ⟨⟨v, rfl, hv⟩, hb1⟩
    obtain ⟨b, A1, n1, c1, rfl⟩ := hv.form
    have hz1 := hz0.trans (hb1.mono (by simp))
    have hB1 := hw0.trans (hb1.mono hw0.size)
    have hv := hv.mono (show w.heap.size + 3 ≤ _ by simp)
    obtain ⟨k1, k2, k3, k4, k5, k6, k7, k8, k9⟩ := boxes3 w _ _ _ _ w1 hz1
    have k10 : w.heap.size + 1 + 1 < w1.heap.size := by omega
    go_wp2
    exact bodyPost_ret (v := .tuple #[.agg #[.bool b, .slice A1 n1 c1], .bool true]) (by simp [results, Tryd.results15, go_sem, k5, k6, k9, k10]) rfl ⟨⟨_, _, _, _, rfl, (((hv.setCell (p := ⟨w.heap.size + 1 + 1, 0, none⟩) (by simp <;> omega) _).setCell (p := ⟨w.heap.size + 1 + 1, 1, none⟩) (by simp <;> omega) _).later ((Below.refl _ _).alloc (Nat.le_refl _) _)).mono (by omega)⟩, ((hB1.setCell (p := ⟨w.heap.size + 1 + 1, 0, none⟩) (by simp <;> omega) _).setCell (p := ⟨w.heap.size + 1 + 1, 1, none⟩) (by simp <;> omega) _).alloc (by simp <;> omega) _⟩
end Go.Proofs.YtegdbcnloodljaaDoor
