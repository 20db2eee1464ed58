/- The law's awake: 2 + -5 is written -3. -/
import Derived.Test.YtegdbcnloodljaaDoorT1
import Derived.Test.YtegdbcnloodljaaDoorW11
import Derived.Test.YtegdbcnloodljaaDoorW9
namespace Go.Proofs.YtegdbcnloodljaaDoor
set_option linter.unusedVariables false
set_option linter.unusedSimpArgs false
open Go.RowKit
set_option maxRecDepth 1000000

theorem big_small {X : Int} (h : X.natAbs < 4294967296) : big X = false := by
  rw [big, decide_eq_false_iff_not]
  have := pow_mono (show 1 ≤ 256 by decide)
  rw [Int.pow_one] at this
  unfold BIG
  omega
theorem few_words {b : Bool} {zs : List Int} {X : Int} (h : W32 zs) (hn : NT zs) (hv : valI b zs = X) (hX : X.natAbs < 4294967296) : zs.length ≤ 1 := by
  have h1 := nt_len h hn 1
  have h2 := valI_abs (b := b) h
  rw [hv] at h2
  rw [Int.pow_one] at h1
  omega

set_option maxHeartbeats 2000000 in
theorem wawake_ok (w : World) : Calls Tryd.prog 12 #[] w fun e w' => e = .returned (.bool true) ∧ Below w.heap.size w w' := by
  have ha : addO 2 (-5) = some (-3) := by
    rw [addO, big_small (by decide), big_small (by decide), big_small (by decide)]; rfl
  have hO1 := fun W => wOf_ok 2 W (by omega)
  have hO2 := fun W => wOf_ok (-5) W (by omega)
  go_enter Tryd.func12, Tryd.ntmps12
  go_wp2_with fail
  go_at_call 33
  refine (hO1 _).mono ?_
  rintro e w1 ⟨b1, A1, n1, c1, rfl, hv1, hb1⟩
  obtain ⟨zs1, rfl, l1, m1, f1, q1, t1, v1, -⟩ := hv1.get
  go_wp2_with fail
  go_at_call 33
  refine (hO2 _).mono ?_
  rintro e w2 ⟨b2, A2, n2, c2, rfl, hv2, hb2⟩
  obtain ⟨zs2, rfl, l2, m2, f2, q2, t2, v2, -⟩ := hv2.get
  have hB2 := hb1.trans (hb2.mono hb1.size)
  have hC := wAdd_ok b1 b2 A1 A2 c1 c2 zs1 zs2 w2 q1 q2 (f1.later hb2).rd f2.rd l1 m1 l2 m2
  rw [v1, v2, ha] at hC
  clear v1 v2 t1 t2
  go_wp2_with fail
  go_at_call 22
  refine hC.mono ?_
  rintro e w3 ⟨⟨v, rfl, hv⟩, hb3⟩
  obtain ⟨b, A3, n3, c3, rfl⟩ := hv.form
  obtain ⟨zs3, rfl, l3, m3, f3, q3, t3, v3, -⟩ := hv.get
  have hB3 := hB2.trans (hb3.mono hB2.size)
  have hlen := few_words q3 t3 v3 (by decide)
  have hX : Below w3.heap.size w3 (w3.alloc (.cells #[.bool b, .slice A3 zs3.length c3] 24)) := (Below.refl _ _).alloc (Nat.le_refl _) _
  have hT := wText_ok b A3 c3 zs3 _ q3 (f3.later hX).rd l3 m3 (by omega)
  rw [v3, textL_three] at hT
  clear v3 t3
  go_wp2_with (go_at_call 19; refine hT.mono ?_; rintro e w4 ⟨rfl, hb4⟩)
  go_ret
  exact ⟨rfl, hB3.trans ((hX.trans (hb4.mono (by simp))).mono hB3.size)⟩
end Go.Proofs.YtegdbcnloodljaaDoor
