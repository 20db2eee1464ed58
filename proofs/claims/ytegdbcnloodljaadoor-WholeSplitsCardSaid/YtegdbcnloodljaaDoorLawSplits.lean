/- The walks of WholeSplits, one for each case. -/
import Derived.Test.YtegdbcnloodljaaDoorSplitsP
namespace Go.Proofs.YtegdbcnloodljaaDoor
set_option linter.unusedVariables false
set_option linter.unusedSimpArgs false
open Go.RowKit
set_option maxRecDepth 1000000

theorem sm_two {m : Int} (h1 : 1 ≤ m) (h2 : m ≤ 4611686018427387904) : Sm m 2 := by
  have e : (4294967296 : Int) ^ 2 = 18446744073709551616 := by decide
  unfold Sm
  rw [e]
  omega
theorem CanAt.apart2 {w : World} {base : Nat} {O : Option Int} {A : Option Addr} {c : Nat} (h : CanAt w base O A c) (k : Nat) (hne : 0 < (cz O).length → ∀ ad, A = some ad → ad.block ≠ k) (x y : Value) : CanAt ((w.setCell ⟨k, 0, none⟩ x).setCell ⟨k, 1, none⟩ y) base O A c := by
  refine ⟨h.1, h.2.1, fun i hi => ?_⟩
  obtain ⟨b, off, z, hA, hB, hz, hc, hf⟩ := h.2.2 i hi
  have hb : b ≠ k := hne (by omega) _ hA
  exact ⟨b, off, z, hA, hB, hz, cell_off (cell_off hc (Ne.symm hb)) (Ne.symm hb), by rw [World.frozen?_setCell, World.frozen?_setCell]; exact hf⟩
theorem sz_al (u : World) (o : Obj) : (u.alloc o).heap.size = u.heap.size + 1 := by simp
theorem bx_at {u : World} {a0 a1 : Value} {n : Nat} (h : n = u.heap.size) : Bx n a0 a1 (u.alloc (.cells #[a0, a1] 24)) := by subst h; exact (bx_new u a0 a1 _ rfl).2
theorem Bx.al {u : World} {a0 a1 : Value} {n : Nat} {o : Obj} (h : Bx n a0 a1 u) : Bx n a0 a1 (u.alloc o) := h.later ((Below.refl _ _).alloc (Nat.le_refl _) _)
theorem CanAt.al {u : World} {base : Nat} {O : Option Int} {A : Option Addr} {c : Nat} {o : Obj} (h : CanAt u base O A c) : CanAt (u.alloc o) base O A c := h.later ((Below.refl _ _).alloc (Nat.le_refl _) _)
theorem al0 {u W : World} (h : Below u.drew.heap.size u.drew W) : Below u.heap.size u W := (below_drew (Below.refl _ _)).trans h
theorem al1 {u W : World} {a0 a1 : Value} (h : Below (u.alloc (.cells #[a0, a1] 24)).heap.size (u.alloc (.cells #[a0, a1] 24)) W) : Below u.heap.size u W ∧ Bx u.heap.size a0 a1 W := by
  obtain ⟨h1, h2⟩ := bx_new u a0 a1 _ rfl
  exact ⟨h1.trans (h.mono h1.size), h2.later h⟩
theorem al2 {u W : World} {a0 a1 b0 b1 : Value} (h : Below ((u.alloc (.cells #[a0, a1] 24)).alloc (.cells #[b0, b1] 24)).heap.size ((u.alloc (.cells #[a0, a1] 24)).alloc (.cells #[b0, b1] 24)) W) : Below u.heap.size u W ∧ Bx u.heap.size a0 a1 W ∧ Bx (u.heap.size + 1) b0 b1 W := by
  obtain ⟨h1, h2⟩ := bx_new u a0 a1 _ rfl
  obtain ⟨h3, h4⟩ := bx_new (u.alloc (.cells #[a0, a1] 24)) b0 b1 _ rfl
  have e : (u.alloc (.cells #[a0, a1] 24)).heap.size = u.heap.size + 1 := by simp
  rw [e] at h4
  exact ⟨(h1.trans (h3.mono h1.size)).trans (h.mono (by have := h1.size; have := h3.size; omega)), (h2.later h3).later h, h4.later h⟩
theorem vCmpNN {w : World} {b1 b2 : Bool} {A B : Option Addr} {m n c d : Nat} {X Y : Int} (h : IsI w b1 A m c X) (h' : IsI w b2 B n d Y) (h0 : Y ≤ X) : Calls Tryd.prog 13 #[.agg #[.bool b1, .slice A m c], .agg #[.bool b2, .slice B n d]] w fun e w' => ∃ k : Int, 0 ≤ k ∧ k ≤ 1 ∧ e = .returned (.int .i64 k) ∧ Below w.heap.size w w' :=
  (vCompare h h').mono fun e w' ⟨he, hb⟩ => ⟨cmp3 X Y, by have := cmp3_ge h0; omega, by have := cmp3_ge h0; omega, he, hb⟩
theorem vCmpNP {w : World} {b1 b2 : Bool} {A B : Option Addr} {m n c d : Nat} {X Y : Int} (h : IsI w b1 A m c X) (h' : IsI w b2 B n d Y) (h0 : X ≤ Y) : Calls Tryd.prog 13 #[.agg #[.bool b1, .slice A m c], .agg #[.bool b2, .slice B n d]] w fun e w' => ∃ k : Int, -1 ≤ k ∧ k ≤ 0 ∧ e = .returned (.int .i64 k) ∧ Below w.heap.size w w' :=
  (vCompare h h').mono fun e w' ⟨he, hb⟩ => ⟨cmp3 X Y, by have := cmp3_le h0; omega, by have := cmp3_le h0; omega, he, hb⟩
theorem vCmpIs {w : World} {b1 b2 : Bool} {A B : Option Addr} {m n c d : Nat} {X Y k : Int} (h : IsI w b1 A m c X) (h' : IsI w b2 B n d Y) (h0 : cmp3 X Y = k) : Calls Tryd.prog 13 #[.agg #[.bool b1, .slice A m c], .agg #[.bool b2, .slice B n d]] w fun e w' => e = .returned (.int .i64 k) ∧ Below w.heap.size w w' :=
  (vCompare h h').mono fun e w' ⟨he, hb⟩ => ⟨by rw [he, h0], hb⟩

set_option maxHeartbeats 4000000 in
theorem splits_big1 (b1 b2 : Bool) (A B : Option Addr) (n1 c1 n2 c2 : Nat) (m : Int) (w : World) (hn1 : ¬ n1 ≤ 80) :
    Calls Tryd.prog 10 #[.agg #[.bool b1, .slice A n1 c1], .agg #[.bool b2, .slice B n2 c2], .int .i64 m] w fun e w' => e = .returned (.bool true) ∧ Below w.heap.size w w' := by
  obtain ⟨W1, hW1⟩ : ∃ W1, w.alloc (.cells #[.bool b1, .slice A n1 c1] 24) = W1 := ⟨_, rfl⟩
  obtain ⟨hz1, Ka⟩ := bx_new w _ _ W1 hW1
  obtain ⟨W0, hW0⟩ : ∃ W0, W1.alloc (.cells #[.bool b2, .slice B n2 c2] 24) = W0 := ⟨_, rfl⟩
  obtain ⟨hz2, Kb⟩ := bx_new W1 _ _ W0 hW0
  have hs1 : W1.heap.size = w.heap.size + 1 := by rw [← hW1]; simp
  rw [hs1] at Kb
  have hz := hz1.trans (hz2.mono hz1.size)
  replace Ka := Ka.later hz2
  rw [← hW1] at hW0
  clear hz1 hz2 hs1 hW1
  have hF1 := fun W => few_ok b1 A c1 n1 W
  have hF2 := fun W => few_ok b2 B c2 n2 W
  rw [decide_eq_false hn1] at hF1
  go_enter Tryd.func10, Tryd.ntmps10
  obtain ⟨q0a, q1a, f0a, f1a, qla⟩ := id Ka
  go_wp2_with fail
  go_at_call 11
  refine (hF1 _).mono ?_
  rintro e v1 ⟨rfl, hb⟩
  clear q0a q1a f0a f1a qla
  replace hz := hz.trans (hb.mono hz.size)
  replace Ka := Ka.later hb
  replace Kb := Kb.later hb
  clear hb
  clear hF1 hF2
  go_wp2_with fail
  go_at_call 12
  refine (wawake_ok _).mono ?_
  rintro e v99 ⟨rfl, hb⟩
  go_wp2
  go_ret
  exact ⟨rfl, hz.trans (hb.mono hz.size)⟩

set_option maxHeartbeats 4000000 in
theorem splits_big2 (b1 b2 : Bool) (A B : Option Addr) (n1 c1 n2 c2 : Nat) (m : Int) (w : World) (hn1 : n1 ≤ 80) (hn2 : ¬ n2 ≤ 80) :
    Calls Tryd.prog 10 #[.agg #[.bool b1, .slice A n1 c1], .agg #[.bool b2, .slice B n2 c2], .int .i64 m] w fun e w' => e = .returned (.bool true) ∧ Below w.heap.size w w' := by
  obtain ⟨W1, hW1⟩ : ∃ W1, w.alloc (.cells #[.bool b1, .slice A n1 c1] 24) = W1 := ⟨_, rfl⟩
  obtain ⟨hz1, Ka⟩ := bx_new w _ _ W1 hW1
  obtain ⟨W0, hW0⟩ : ∃ W0, W1.alloc (.cells #[.bool b2, .slice B n2 c2] 24) = W0 := ⟨_, rfl⟩
  obtain ⟨hz2, Kb⟩ := bx_new W1 _ _ W0 hW0
  have hs1 : W1.heap.size = w.heap.size + 1 := by rw [← hW1]; simp
  rw [hs1] at Kb
  have hz := hz1.trans (hz2.mono hz1.size)
  replace Ka := Ka.later hz2
  rw [← hW1] at hW0
  clear hz1 hz2 hs1 hW1
  have hF1 := fun W => few_ok b1 A c1 n1 W
  have hF2 := fun W => few_ok b2 B c2 n2 W
  rw [decide_eq_true hn1] at hF1
  rw [decide_eq_false hn2] at hF2
  go_enter Tryd.func10, Tryd.ntmps10
  obtain ⟨q0a, q1a, f0a, f1a, qla⟩ := id Ka
  go_wp2_with fail
  go_at_call 11
  refine (hF1 _).mono ?_
  rintro e v1 ⟨rfl, hb⟩
  clear q0a q1a f0a f1a qla
  replace hz := hz.trans (hb.mono hz.size)
  replace Ka := Ka.later hb
  replace Kb := Kb.later hb
  clear hb
  obtain ⟨q0b, q1b, f0b, f1b, qlb⟩ := id Kb
  go_wp2_with fail
  go_at_call 11
  refine (hF2 _).mono ?_
  rintro e v2 ⟨rfl, hb⟩
  clear q0b q1b f0b f1b qlb
  replace hz := hz.trans (hb.mono hz.size)
  replace Ka := Ka.later hb
  replace Kb := Kb.later hb
  clear hb
  clear hF1 hF2
  go_wp2_with fail
  go_at_call 12
  refine (wawake_ok _).mono ?_
  rintro e v99 ⟨rfl, hb⟩
  go_wp2
  go_ret
  exact ⟨rfl, hz.trans (hb.mono hz.size)⟩

set_option maxHeartbeats 4000000 in
theorem splits_zero (b1 b2 : Bool) (A B : Option Addr) (n1 c1 n2 c2 : Nat) (X Y m : Int) (w : World) (Ia : IsI w b1 A n1 c1 X) (Ib : IsI w b2 B n2 c2 Y) (hn1 : n1 ≤ 80) (hn2 : n2 ≤ 80) (hY : Y = 0) :
    Calls Tryd.prog 10 #[.agg #[.bool b1, .slice A n1 c1], .agg #[.bool b2, .slice B n2 c2], .int .i64 m] w fun e w' => e = .returned (.bool true) ∧ Below w.heap.size w w' := by
  obtain ⟨W1, hW1⟩ : ∃ W1, w.alloc (.cells #[.bool b1, .slice A n1 c1] 24) = W1 := ⟨_, rfl⟩
  obtain ⟨hz1, Ka⟩ := bx_new w _ _ W1 hW1
  obtain ⟨W0, hW0⟩ : ∃ W0, W1.alloc (.cells #[.bool b2, .slice B n2 c2] 24) = W0 := ⟨_, rfl⟩
  obtain ⟨hz2, Kb⟩ := bx_new W1 _ _ W0 hW0
  have hs1 : W1.heap.size = w.heap.size + 1 := by rw [← hW1]; simp
  rw [hs1] at Kb
  have hz := hz1.trans (hz2.mono hz1.size)
  replace Ka := Ka.later hz2
  rw [← hW1] at hW0
  clear hz1 hz2 hs1 hW1
  replace Ia := Ia.later hz
  replace Ib := Ib.later hz
  subst hY
  have sX := Ia.sm.mono hn1
  have hF1 := fun W => few_ok b1 A c1 n1 W
  have hF2 := fun W => few_ok b2 B c2 n2 W
  rw [decide_eq_true hn1] at hF1
  rw [decide_eq_true hn2] at hF2
  go_enter Tryd.func10, Tryd.ntmps10
  obtain ⟨q0a, q1a, f0a, f1a, qla⟩ := id Ka
  go_wp2_with fail
  go_at_call 11
  refine (hF1 _).mono ?_
  rintro e v1 ⟨rfl, hb⟩
  clear q0a q1a f0a f1a qla
  replace hz := hz.trans (hb.mono hz.size)
  replace Ka := Ka.later hb
  replace Kb := Kb.later hb
  replace Ia := Ia.later hb
  replace Ib := Ib.later hb
  clear hb
  obtain ⟨q0b, q1b, f0b, f1b, qlb⟩ := id Kb
  go_wp2_with fail
  go_at_call 11
  refine (hF2 _).mono ?_
  rintro e v2 ⟨rfl, hb⟩
  clear q0b q1b f0b f1b qlb
  replace hz := hz.trans (hb.mono hz.size)
  replace Ka := Ka.later hb
  replace Kb := Kb.later hb
  replace Ia := Ia.later hb
  replace Ib := Ib.later hb
  clear hb
  clear hF1 hF2
  obtain ⟨q0b, q1b, f0b, f1b, qlb⟩ := id Kb
  go_wp2_with fail
  go_at_call 13
  refine (vCmpIs Ib (isI_zero _) (cmp3_eq 0)).mono ?_
  rintro e v3 ⟨rfl, hb⟩
  clear q0b q1b f0b f1b qlb
  replace hz := hz.trans (hb.mono hz.size)
  replace Ka := Ka.later hb
  replace Kb := Kb.later hb
  replace Ia := Ia.later hb
  replace Ib := Ib.later hb
  clear hb
  obtain ⟨q0a, q1a, f0a, f1a, qla⟩ := id Ka
  obtain ⟨q0b, q1b, f0b, f1b, qlb⟩ := id Kb
  go_wp2_with fail
  go_at_call 41
  refine (vDivZero Ia Ib sX (by omega)).mono ?_
  rintro e v4 ⟨A1, d1, A2, d2, rfl, hb⟩
  clear q0a q1a f0a f1a qla
  clear q0b q1b f0b f1b qlb
  replace hz := hz.trans (hb.mono hz.size)
  replace Ka := Ka.later hb
  replace Kb := Kb.later hb
  replace Ia := Ia.later hb
  replace Ib := Ib.later hb
  clear hb
  obtain ⟨uq, huq⟩ : ∃ u, (v4.alloc (.cells #[.bool false, .slice A1 0 d1] 24)).alloc (.cells #[.bool false, .slice A2 0 d2] 24) = u := ⟨_, rfl⟩
  obtain ⟨hx, Kq⟩ := bx_new v4 (.bool false) (.slice A1 0 d1) _ rfl
  obtain ⟨hy, Kr⟩ := bx_new (v4.alloc (.cells #[.bool false, .slice A1 0 d1] 24)) (.bool false) (.slice A2 0 d2) uq huq
  have hszq : (v4.alloc (.cells #[.bool false, .slice A1 0 d1] 24)).heap.size = v4.heap.size + 1 := by simp
  rw [hszq] at Kr
  clear hszq
  replace Kq := Kq.later hy
  replace hx := hx.trans (hy.mono hx.size)
  clear hy
  replace hz := hz.trans (hx.mono hz.size)
  replace Ka := Ka.later hx
  replace Kb := Kb.later hx
  replace Ia := Ia.later hx
  replace Ib := Ib.later hx
  clear hx
  go_wp2_with fail
  go_at_call 12
  refine (wawake_ok _).mono ?_
  rintro e v99 ⟨rfl, hb⟩
  go_wp2
  go_ret
  exact ⟨rfl, hz.trans (hb.mono hz.size)⟩

set_option maxHeartbeats 4000000 in
theorem splits_pos_low (b1 b2 : Bool) (A B : Option Addr) (n1 c1 n2 c2 : Nat) (X Y m : Int) (w : World) (Ia : IsI w b1 A n1 c1 X) (Ib : IsI w b2 B n2 c2 Y) (hn1 : n1 ≤ 80) (hn2 : n2 ≤ 80) (hY : 0 < Y) (hm : m < 1) :
    Calls Tryd.prog 10 #[.agg #[.bool b1, .slice A n1 c1], .agg #[.bool b2, .slice B n2 c2], .int .i64 m] w fun e w' => e = .returned (.bool true) ∧ Below w.heap.size w w' := by
  obtain ⟨W1, hW1⟩ : ∃ W1, w.alloc (.cells #[.bool b1, .slice A n1 c1] 24) = W1 := ⟨_, rfl⟩
  obtain ⟨hz1, Ka⟩ := bx_new w _ _ W1 hW1
  obtain ⟨W0, hW0⟩ : ∃ W0, W1.alloc (.cells #[.bool b2, .slice B n2 c2] 24) = W0 := ⟨_, rfl⟩
  obtain ⟨hz2, Kb⟩ := bx_new W1 _ _ W0 hW0
  have hs1 : W1.heap.size = w.heap.size + 1 := by rw [← hW1]; simp
  rw [hs1] at Kb
  have hz := hz1.trans (hz2.mono hz1.size)
  replace Ka := Ka.later hz2
  rw [← hW1] at hW0
  clear hz1 hz2 hs1 hW1
  replace Ia := Ia.later hz
  replace Ib := Ib.later hz
  have hmd1 : decide (m < 1) = true := decide_eq_true hm
  have hRA := fun W => rest_arg (.agg #[.bool b1, .slice A n1 c1]) b1 A n1 c1 m W rfl (by omega)
  clear hm
  have sX := Ia.sm.mono hn1
  have sY := Ib.sm.mono hn2
  have hid := dv_id X Y
  have hdr := dr_pos (X := X) hY
  have hY0 : Y ≠ 0 := by omega
  have sQ : Sm (dq X Y) 80 := dq_sm sX
  have sR : Sm (dr X Y) 80 := dr_sm hY0 sY
  have hDV := fun (W : World) (h : IsI W b1 A n1 c1 X) (h' : IsI W b2 B n2 c2 Y) => vDivide h h' sX sY (by omega) (by omega) hY0
  obtain ⟨Q, hQ⟩ : ∃ Q, dq X Y = Q := ⟨_, rfl⟩
  obtain ⟨R, hR⟩ : ∃ R, dr X Y = R := ⟨_, rfl⟩
  rw [hQ, hR] at hid hDV
  rw [hQ] at sQ
  rw [hR] at sR hdr
  obtain ⟨hdr1, hdr2⟩ := hdr
  clear hQ hR
  have hQY : ∃ P, Q * Y = P := ⟨_, rfl⟩
  obtain ⟨P, hP⟩ := hQY
  have sP : Sm P 160 := by rw [← hP]; exact (sQ.mul sY).mono (by omega)
  have HP := Lib.hid hP
  have HI := Lib.hid (show P + R = X by rw [← hP]; exact hid)
  clear hP hid
  have hF1 := fun W => few_ok b1 A c1 n1 W
  have hF2 := fun W => few_ok b2 B c2 n2 W
  rw [decide_eq_true hn1] at hF1
  rw [decide_eq_true hn2] at hF2
  go_enter Tryd.func10, Tryd.ntmps10
  obtain ⟨q0a, q1a, f0a, f1a, qla⟩ := id Ka
  go_wp2_with fail
  go_at_call 11
  refine (hF1 _).mono ?_
  rintro e v1 ⟨rfl, hb⟩
  clear q0a q1a f0a f1a qla
  replace hz := hz.trans (hb.mono hz.size)
  replace Ka := Ka.later hb
  replace Kb := Kb.later hb
  replace Ia := Ia.later hb
  replace Ib := Ib.later hb
  clear hb
  obtain ⟨q0b, q1b, f0b, f1b, qlb⟩ := id Kb
  go_wp2_with fail
  go_at_call 11
  refine (hF2 _).mono ?_
  rintro e v2 ⟨rfl, hb⟩
  clear q0b q1b f0b f1b qlb
  replace hz := hz.trans (hb.mono hz.size)
  replace Ka := Ka.later hb
  replace Kb := Kb.later hb
  replace Ia := Ia.later hb
  replace Ib := Ib.later hb
  clear hb
  clear hF1 hF2
  obtain ⟨q0b, q1b, f0b, f1b, qlb⟩ := id Kb
  go_wp2_with fail
  go_at_call 13
  refine (vCmpIs Ib (isI_zero _) (cmp3_gt hY)).mono ?_
  rintro e v3 ⟨rfl, hb⟩
  clear q0b q1b f0b f1b qlb
  replace hz := hz.trans (hb.mono hz.size)
  replace Ka := Ka.later hb
  replace Kb := Kb.later hb
  replace Ia := Ia.later hb
  replace Ib := Ib.later hb
  clear hb
  obtain ⟨q0a, q1a, f0a, f1a, qla⟩ := id Ka
  obtain ⟨q0b, q1b, f0b, f1b, qlb⟩ := id Kb
  go_wp2_with fail
  go_at_call 41
  refine (hDV _ Ia Ib).mono ?_
  rintro e v4 ⟨Aq, nq, cq, Ar, nr, cr, rfl, hnq, hnr, Cq, Cr, hb⟩
  clear q0a q1a f0a f1a qla
  clear q0b q1b f0b f1b qlb
  replace hz := hz.trans (hb.mono hz.size)
  replace Ka := Ka.later hb
  replace Kb := Kb.later hb
  replace Ia := Ia.later hb
  replace Ib := Ib.later hb
  clear hb
  have Iq := Cq.isI hnq (sQ.mono (by omega))
  have Ir := Cr.isI hnr (sR.mono (by omega))
  clear Cq Cr hnq hnr hDV
  obtain ⟨uq, huq⟩ : ∃ u, (v4.alloc (.cells #[.bool (cb (some Q)), .slice Aq nq cq] 24)).alloc (.cells #[.bool (cb (some R)), .slice Ar nr cr] 24) = u := ⟨_, rfl⟩
  obtain ⟨hx, Kq⟩ := bx_new v4 (.bool (cb (some Q))) (.slice Aq nq cq) _ rfl
  obtain ⟨hy, Kr⟩ := bx_new (v4.alloc (.cells #[.bool (cb (some Q)), .slice Aq nq cq] 24)) (.bool (cb (some R))) (.slice Ar nr cr) uq huq
  have hszq : (v4.alloc (.cells #[.bool (cb (some Q)), .slice Aq nq cq] 24)).heap.size = v4.heap.size + 1 := by simp
  rw [hszq] at Kr
  clear hszq
  replace Kq := Kq.later hy
  replace hx := hx.trans (hy.mono hx.size)
  clear hy
  replace hz := hz.trans (hx.mono hz.size)
  replace Ka := Ka.later hx
  replace Kb := Kb.later hx
  replace Ia := Ia.later hx
  replace Ib := Ib.later hx
  replace Iq := Iq.later hx
  replace Ir := Ir.later hx
  clear hx
  have hT := vTimes2 Iq Ib sQ sY (by omega)
  rw [HP.out] at hT
  obtain ⟨q0q, q1q, f0q, f1q, qlq⟩ := id Kq
  obtain ⟨q0b, q1b, f0b, f1b, qlb⟩ := id Kb
  go_wp2_with fail
  go_at_call 32
  refine (hT).mono ?_
  rintro e v5 ⟨Ap, np, cp, rfl, hnp, Cp, hb⟩
  clear q0q q1q f0q f1q qlq
  clear q0b q1b f0b f1b qlb
  replace hz := hz.trans (hb.mono hz.size)
  replace Ka := Ka.later hb
  replace Kb := Kb.later hb
  replace Kq := Kq.later hb
  replace Kr := Kr.later hb
  replace Ia := Ia.later hb
  replace Ib := Ib.later hb
  replace Iq := Iq.later hb
  replace Ir := Ir.later hb
  clear hb
  have Ip := Cp.isI hnp (sP.mono (by omega))
  clear Cp hnp hT
  clear Kq Iq HP
  obtain ⟨up, hup⟩ : ∃ u, v5.alloc (.cells #[.bool (cb (some P)), .slice Ap np cp] 24) = u := ⟨_, rfl⟩
  obtain ⟨hx, Kp⟩ := bx_new v5 _ _ up hup
  replace hz := hz.trans (hx.mono hz.size)
  replace Ka := Ka.later hx
  replace Kb := Kb.later hx
  replace Kr := Kr.later hx
  replace Ia := Ia.later hx
  replace Ib := Ib.later hx
  replace Ir := Ir.later hx
  replace Ip := Ip.later hx
  clear hx
  have hT := vSum Ip Ir sP (sR.mono (by omega)) (by omega)
  rw [HI.out] at hT
  obtain ⟨q0p, q1p, f0p, f1p, qlp⟩ := id Kp
  obtain ⟨q0r, q1r, f0r, f1r, qlr⟩ := id Kr
  go_wp2_with fail
  go_at_call 15
  refine (hT).mono ?_
  rintro e v6 ⟨Ax, nx, cx, rfl, hnx, Cx, hb⟩
  clear q0p q1p f0p f1p qlp
  clear q0r q1r f0r f1r qlr
  replace hz := hz.trans (hb.mono hz.size)
  replace Ka := Ka.later hb
  replace Kb := Kb.later hb
  replace Kr := Kr.later hb
  replace Kp := Kp.later hb
  replace Ia := Ia.later hb
  replace Ib := Ib.later hb
  replace Ir := Ir.later hb
  replace Ip := Ip.later hb
  clear hb
  have Ix := Cx.isI hnx (sX.mono (by omega))
  clear Cx hnx hT HI
  clear Kp Ip
  obtain ⟨ux, hux⟩ : ∃ u, v6.alloc (.cells #[.bool (cb (some X)), .slice Ax nx cx] 24) = u := ⟨_, rfl⟩
  obtain ⟨hx, Kx⟩ := bx_new v6 _ _ ux hux
  replace hz := hz.trans (hx.mono hz.size)
  replace Ka := Ka.later hx
  replace Kb := Kb.later hx
  replace Kr := Kr.later hx
  replace Ia := Ia.later hx
  replace Ib := Ib.later hx
  replace Ir := Ir.later hx
  replace Ix := Ix.later hx
  clear hx
  obtain ⟨q0x, q1x, f0x, f1x, qlx⟩ := id Kx
  obtain ⟨q0a, q1a, f0a, f1a, qla⟩ := id Ka
  go_wp2_with fail
  go_at_call 13
  refine (vCmpIs Ix Ia (cmp3_eq X)).mono ?_
  rintro e v7 ⟨rfl, hb⟩
  clear q0x q1x f0x f1x qlx
  clear q0a q1a f0a f1a qla
  replace hz := hz.trans (hb.mono hz.size)
  replace Ka := Ka.later hb
  replace Kb := Kb.later hb
  replace Kr := Kr.later hb
  replace Kx := Kx.later hb
  replace Ia := Ia.later hb
  replace Ib := Ib.later hb
  replace Ir := Ir.later hb
  replace Ix := Ix.later hb
  clear hb
  clear Kx Ix
  obtain ⟨q0b, q1b, f0b, f1b, qlb⟩ := id Kb
  go_wp2_with fail
  go_at_call 13
  refine (vCmpIs Ib (isI_zero _) (cmp3_gt hY)).mono ?_
  rintro e v8 ⟨rfl, hb⟩
  clear q0b q1b f0b f1b qlb
  replace hz := hz.trans (hb.mono hz.size)
  replace Ka := Ka.later hb
  replace Kb := Kb.later hb
  replace Kr := Kr.later hb
  replace Ia := Ia.later hb
  replace Ib := Ib.later hb
  replace Ir := Ir.later hb
  clear hb
  obtain ⟨q0r, q1r, f0r, f1r, qlr⟩ := id Kr
  go_wp2_with fail
  go_at_call 13
  refine (vCmpNN Ir (isI_zero _) hdr1).mono ?_
  rintro e v9 ⟨k, hk0, hk1, rfl, hb⟩
  clear q0r q1r f0r f1r qlr
  replace hz := hz.trans (hb.mono hz.size)
  replace Ka := Ka.later hb
  replace Kb := Kb.later hb
  replace Kr := Kr.later hb
  replace Ia := Ia.later hb
  replace Ib := Ib.later hb
  replace Ir := Ir.later hb
  clear hb
  have hkd : decide (k < 0) = false := decide_eq_false (by clear hz Ka Kb Kr Ia Ib Ir; omega)
  clear hk0 hk1
  obtain ⟨q0r, q1r, f0r, f1r, qlr⟩ := id Kr
  obtain ⟨q0b, q1b, f0b, f1b, qlb⟩ := id Kb
  go_wp2_with fail
  go_at_call 13
  refine (vCmpIs Ir Ib (cmp3_lt hdr2)).mono ?_
  rintro e v10 ⟨rfl, hb⟩
  clear q0r q1r f0r f1r qlr
  clear q0b q1b f0b f1b qlb
  replace hz := hz.trans (hb.mono hz.size)
  replace Ka := Ka.later hb
  replace Kb := Kb.later hb
  replace Kr := Kr.later hb
  replace Ia := Ia.later hb
  replace Ib := Ib.later hb
  replace Ir := Ir.later hb
  clear hb
  obtain ⟨q0b, q1b, f0b, f1b, qlb⟩ := id Kb
  go_wp2_with fail
  go_at_call 13
  refine (vCmpIs Ib (isI_zero _) (cmp3_gt hY)).mono ?_
  rintro e v11 ⟨rfl, hb⟩
  clear q0b q1b f0b f1b qlb
  replace hz := hz.trans (hb.mono hz.size)
  replace Ka := Ka.later hb
  replace Kb := Kb.later hb
  replace Kr := Kr.later hb
  replace Ia := Ia.later hb
  replace Ib := Ib.later hb
  replace Ir := Ir.later hb
  clear hb
  clear Kr Ir
  obtain ⟨q0a, q1a, f0a, f1a, qla⟩ := id Ka
  go_wp2_with fail
  go_at_call 39
  refine (hRA _).mono ?_
  rintro e v12 ⟨rfl, hb⟩
  clear q0a q1a f0a f1a qla
  replace hz := hz.trans (hb.mono hz.size)
  replace Ka := Ka.later hb
  replace Kb := Kb.later hb
  replace Ia := Ia.later hb
  replace Ib := Ib.later hb
  clear hb
  go_wp2_with fail
  go_at_call 12
  refine (wawake_ok _).mono ?_
  rintro e v99 ⟨rfl, hb⟩
  go_wp2
  go_ret
  exact ⟨rfl, hz.trans (hb.mono hz.size)⟩

set_option maxHeartbeats 4000000 in
theorem splits_pos_high (b1 b2 : Bool) (A B : Option Addr) (n1 c1 n2 c2 : Nat) (X Y m : Int) (w : World) (Ia : IsI w b1 A n1 c1 X) (Ib : IsI w b2 B n2 c2 Y) (hn1 : n1 ≤ 80) (hn2 : n2 ≤ 80) (hY : 0 < Y) (hm : 4611686018427387904 < m) :
    Calls Tryd.prog 10 #[.agg #[.bool b1, .slice A n1 c1], .agg #[.bool b2, .slice B n2 c2], .int .i64 m] w fun e w' => e = .returned (.bool true) ∧ Below w.heap.size w w' := by
  obtain ⟨W1, hW1⟩ : ∃ W1, w.alloc (.cells #[.bool b1, .slice A n1 c1] 24) = W1 := ⟨_, rfl⟩
  obtain ⟨hz1, Ka⟩ := bx_new w _ _ W1 hW1
  obtain ⟨W0, hW0⟩ : ∃ W0, W1.alloc (.cells #[.bool b2, .slice B n2 c2] 24) = W0 := ⟨_, rfl⟩
  obtain ⟨hz2, Kb⟩ := bx_new W1 _ _ W0 hW0
  have hs1 : W1.heap.size = w.heap.size + 1 := by rw [← hW1]; simp
  rw [hs1] at Kb
  have hz := hz1.trans (hz2.mono hz1.size)
  replace Ka := Ka.later hz2
  rw [← hW1] at hW0
  clear hz1 hz2 hs1 hW1
  replace Ia := Ia.later hz
  replace Ib := Ib.later hz
  have hmd1 : decide (m < 1) = false := decide_eq_false (by omega)
  have hmd2 : decide (4611686018427387904 < m) = true := decide_eq_true hm
  have hRA := fun W => rest_arg (.agg #[.bool b1, .slice A n1 c1]) b1 A n1 c1 m W rfl (by omega)
  clear hm
  have sX := Ia.sm.mono hn1
  have sY := Ib.sm.mono hn2
  have hid := dv_id X Y
  have hdr := dr_pos (X := X) hY
  have hY0 : Y ≠ 0 := by omega
  have sQ : Sm (dq X Y) 80 := dq_sm sX
  have sR : Sm (dr X Y) 80 := dr_sm hY0 sY
  have hDV := fun (W : World) (h : IsI W b1 A n1 c1 X) (h' : IsI W b2 B n2 c2 Y) => vDivide h h' sX sY (by omega) (by omega) hY0
  obtain ⟨Q, hQ⟩ : ∃ Q, dq X Y = Q := ⟨_, rfl⟩
  obtain ⟨R, hR⟩ : ∃ R, dr X Y = R := ⟨_, rfl⟩
  rw [hQ, hR] at hid hDV
  rw [hQ] at sQ
  rw [hR] at sR hdr
  obtain ⟨hdr1, hdr2⟩ := hdr
  clear hQ hR
  have hQY : ∃ P, Q * Y = P := ⟨_, rfl⟩
  obtain ⟨P, hP⟩ := hQY
  have sP : Sm P 160 := by rw [← hP]; exact (sQ.mul sY).mono (by omega)
  have HP := Lib.hid hP
  have HI := Lib.hid (show P + R = X by rw [← hP]; exact hid)
  clear hP hid
  have hF1 := fun W => few_ok b1 A c1 n1 W
  have hF2 := fun W => few_ok b2 B c2 n2 W
  rw [decide_eq_true hn1] at hF1
  rw [decide_eq_true hn2] at hF2
  go_enter Tryd.func10, Tryd.ntmps10
  obtain ⟨q0a, q1a, f0a, f1a, qla⟩ := id Ka
  go_wp2_with fail
  go_at_call 11
  refine (hF1 _).mono ?_
  rintro e v1 ⟨rfl, hb⟩
  clear q0a q1a f0a f1a qla
  replace hz := hz.trans (hb.mono hz.size)
  replace Ka := Ka.later hb
  replace Kb := Kb.later hb
  replace Ia := Ia.later hb
  replace Ib := Ib.later hb
  clear hb
  obtain ⟨q0b, q1b, f0b, f1b, qlb⟩ := id Kb
  go_wp2_with fail
  go_at_call 11
  refine (hF2 _).mono ?_
  rintro e v2 ⟨rfl, hb⟩
  clear q0b q1b f0b f1b qlb
  replace hz := hz.trans (hb.mono hz.size)
  replace Ka := Ka.later hb
  replace Kb := Kb.later hb
  replace Ia := Ia.later hb
  replace Ib := Ib.later hb
  clear hb
  clear hF1 hF2
  obtain ⟨q0b, q1b, f0b, f1b, qlb⟩ := id Kb
  go_wp2_with fail
  go_at_call 13
  refine (vCmpIs Ib (isI_zero _) (cmp3_gt hY)).mono ?_
  rintro e v3 ⟨rfl, hb⟩
  clear q0b q1b f0b f1b qlb
  replace hz := hz.trans (hb.mono hz.size)
  replace Ka := Ka.later hb
  replace Kb := Kb.later hb
  replace Ia := Ia.later hb
  replace Ib := Ib.later hb
  clear hb
  obtain ⟨q0a, q1a, f0a, f1a, qla⟩ := id Ka
  obtain ⟨q0b, q1b, f0b, f1b, qlb⟩ := id Kb
  go_wp2_with fail
  go_at_call 41
  refine (hDV _ Ia Ib).mono ?_
  rintro e v4 ⟨Aq, nq, cq, Ar, nr, cr, rfl, hnq, hnr, Cq, Cr, hb⟩
  clear q0a q1a f0a f1a qla
  clear q0b q1b f0b f1b qlb
  replace hz := hz.trans (hb.mono hz.size)
  replace Ka := Ka.later hb
  replace Kb := Kb.later hb
  replace Ia := Ia.later hb
  replace Ib := Ib.later hb
  clear hb
  have Iq := Cq.isI hnq (sQ.mono (by omega))
  have Ir := Cr.isI hnr (sR.mono (by omega))
  clear Cq Cr hnq hnr hDV
  obtain ⟨uq, huq⟩ : ∃ u, (v4.alloc (.cells #[.bool (cb (some Q)), .slice Aq nq cq] 24)).alloc (.cells #[.bool (cb (some R)), .slice Ar nr cr] 24) = u := ⟨_, rfl⟩
  obtain ⟨hx, Kq⟩ := bx_new v4 (.bool (cb (some Q))) (.slice Aq nq cq) _ rfl
  obtain ⟨hy, Kr⟩ := bx_new (v4.alloc (.cells #[.bool (cb (some Q)), .slice Aq nq cq] 24)) (.bool (cb (some R))) (.slice Ar nr cr) uq huq
  have hszq : (v4.alloc (.cells #[.bool (cb (some Q)), .slice Aq nq cq] 24)).heap.size = v4.heap.size + 1 := by simp
  rw [hszq] at Kr
  clear hszq
  replace Kq := Kq.later hy
  replace hx := hx.trans (hy.mono hx.size)
  clear hy
  replace hz := hz.trans (hx.mono hz.size)
  replace Ka := Ka.later hx
  replace Kb := Kb.later hx
  replace Ia := Ia.later hx
  replace Ib := Ib.later hx
  replace Iq := Iq.later hx
  replace Ir := Ir.later hx
  clear hx
  have hT := vTimes2 Iq Ib sQ sY (by omega)
  rw [HP.out] at hT
  obtain ⟨q0q, q1q, f0q, f1q, qlq⟩ := id Kq
  obtain ⟨q0b, q1b, f0b, f1b, qlb⟩ := id Kb
  go_wp2_with fail
  go_at_call 32
  refine (hT).mono ?_
  rintro e v5 ⟨Ap, np, cp, rfl, hnp, Cp, hb⟩
  clear q0q q1q f0q f1q qlq
  clear q0b q1b f0b f1b qlb
  replace hz := hz.trans (hb.mono hz.size)
  replace Ka := Ka.later hb
  replace Kb := Kb.later hb
  replace Kq := Kq.later hb
  replace Kr := Kr.later hb
  replace Ia := Ia.later hb
  replace Ib := Ib.later hb
  replace Iq := Iq.later hb
  replace Ir := Ir.later hb
  clear hb
  have Ip := Cp.isI hnp (sP.mono (by omega))
  clear Cp hnp hT
  clear Kq Iq HP
  obtain ⟨up, hup⟩ : ∃ u, v5.alloc (.cells #[.bool (cb (some P)), .slice Ap np cp] 24) = u := ⟨_, rfl⟩
  obtain ⟨hx, Kp⟩ := bx_new v5 _ _ up hup
  replace hz := hz.trans (hx.mono hz.size)
  replace Ka := Ka.later hx
  replace Kb := Kb.later hx
  replace Kr := Kr.later hx
  replace Ia := Ia.later hx
  replace Ib := Ib.later hx
  replace Ir := Ir.later hx
  replace Ip := Ip.later hx
  clear hx
  have hT := vSum Ip Ir sP (sR.mono (by omega)) (by omega)
  rw [HI.out] at hT
  obtain ⟨q0p, q1p, f0p, f1p, qlp⟩ := id Kp
  obtain ⟨q0r, q1r, f0r, f1r, qlr⟩ := id Kr
  go_wp2_with fail
  go_at_call 15
  refine (hT).mono ?_
  rintro e v6 ⟨Ax, nx, cx, rfl, hnx, Cx, hb⟩
  clear q0p q1p f0p f1p qlp
  clear q0r q1r f0r f1r qlr
  replace hz := hz.trans (hb.mono hz.size)
  replace Ka := Ka.later hb
  replace Kb := Kb.later hb
  replace Kr := Kr.later hb
  replace Kp := Kp.later hb
  replace Ia := Ia.later hb
  replace Ib := Ib.later hb
  replace Ir := Ir.later hb
  replace Ip := Ip.later hb
  clear hb
  have Ix := Cx.isI hnx (sX.mono (by omega))
  clear Cx hnx hT HI
  clear Kp Ip
  obtain ⟨ux, hux⟩ : ∃ u, v6.alloc (.cells #[.bool (cb (some X)), .slice Ax nx cx] 24) = u := ⟨_, rfl⟩
  obtain ⟨hx, Kx⟩ := bx_new v6 _ _ ux hux
  replace hz := hz.trans (hx.mono hz.size)
  replace Ka := Ka.later hx
  replace Kb := Kb.later hx
  replace Kr := Kr.later hx
  replace Ia := Ia.later hx
  replace Ib := Ib.later hx
  replace Ir := Ir.later hx
  replace Ix := Ix.later hx
  clear hx
  obtain ⟨q0x, q1x, f0x, f1x, qlx⟩ := id Kx
  obtain ⟨q0a, q1a, f0a, f1a, qla⟩ := id Ka
  go_wp2_with fail
  go_at_call 13
  refine (vCmpIs Ix Ia (cmp3_eq X)).mono ?_
  rintro e v7 ⟨rfl, hb⟩
  clear q0x q1x f0x f1x qlx
  clear q0a q1a f0a f1a qla
  replace hz := hz.trans (hb.mono hz.size)
  replace Ka := Ka.later hb
  replace Kb := Kb.later hb
  replace Kr := Kr.later hb
  replace Kx := Kx.later hb
  replace Ia := Ia.later hb
  replace Ib := Ib.later hb
  replace Ir := Ir.later hb
  replace Ix := Ix.later hb
  clear hb
  clear Kx Ix
  obtain ⟨q0b, q1b, f0b, f1b, qlb⟩ := id Kb
  go_wp2_with fail
  go_at_call 13
  refine (vCmpIs Ib (isI_zero _) (cmp3_gt hY)).mono ?_
  rintro e v8 ⟨rfl, hb⟩
  clear q0b q1b f0b f1b qlb
  replace hz := hz.trans (hb.mono hz.size)
  replace Ka := Ka.later hb
  replace Kb := Kb.later hb
  replace Kr := Kr.later hb
  replace Ia := Ia.later hb
  replace Ib := Ib.later hb
  replace Ir := Ir.later hb
  clear hb
  obtain ⟨q0r, q1r, f0r, f1r, qlr⟩ := id Kr
  go_wp2_with fail
  go_at_call 13
  refine (vCmpNN Ir (isI_zero _) hdr1).mono ?_
  rintro e v9 ⟨k, hk0, hk1, rfl, hb⟩
  clear q0r q1r f0r f1r qlr
  replace hz := hz.trans (hb.mono hz.size)
  replace Ka := Ka.later hb
  replace Kb := Kb.later hb
  replace Kr := Kr.later hb
  replace Ia := Ia.later hb
  replace Ib := Ib.later hb
  replace Ir := Ir.later hb
  clear hb
  have hkd : decide (k < 0) = false := decide_eq_false (by clear hz Ka Kb Kr Ia Ib Ir; omega)
  clear hk0 hk1
  obtain ⟨q0r, q1r, f0r, f1r, qlr⟩ := id Kr
  obtain ⟨q0b, q1b, f0b, f1b, qlb⟩ := id Kb
  go_wp2_with fail
  go_at_call 13
  refine (vCmpIs Ir Ib (cmp3_lt hdr2)).mono ?_
  rintro e v10 ⟨rfl, hb⟩
  clear q0r q1r f0r f1r qlr
  clear q0b q1b f0b f1b qlb
  replace hz := hz.trans (hb.mono hz.size)
  replace Ka := Ka.later hb
  replace Kb := Kb.later hb
  replace Kr := Kr.later hb
  replace Ia := Ia.later hb
  replace Ib := Ib.later hb
  replace Ir := Ir.later hb
  clear hb
  obtain ⟨q0b, q1b, f0b, f1b, qlb⟩ := id Kb
  go_wp2_with fail
  go_at_call 13
  refine (vCmpIs Ib (isI_zero _) (cmp3_gt hY)).mono ?_
  rintro e v11 ⟨rfl, hb⟩
  clear q0b q1b f0b f1b qlb
  replace hz := hz.trans (hb.mono hz.size)
  replace Ka := Ka.later hb
  replace Kb := Kb.later hb
  replace Kr := Kr.later hb
  replace Ia := Ia.later hb
  replace Ib := Ib.later hb
  replace Ir := Ir.later hb
  clear hb
  clear Kr Ir
  obtain ⟨q0a, q1a, f0a, f1a, qla⟩ := id Ka
  go_wp2_with fail
  go_at_call 39
  refine (hRA _).mono ?_
  rintro e v12 ⟨rfl, hb⟩
  clear q0a q1a f0a f1a qla
  replace hz := hz.trans (hb.mono hz.size)
  replace Ka := Ka.later hb
  replace Kb := Kb.later hb
  replace Ia := Ia.later hb
  replace Ib := Ib.later hb
  clear hb
  go_wp2_with fail
  go_at_call 12
  refine (wawake_ok _).mono ?_
  rintro e v99 ⟨rfl, hb⟩
  go_wp2
  go_ret
  exact ⟨rfl, hz.trans (hb.mono hz.size)⟩

set_option maxHeartbeats 4000000 in
theorem splits_neg_low (b1 b2 : Bool) (A B : Option Addr) (n1 c1 n2 c2 : Nat) (X Y m : Int) (w : World) (Ia : IsI w b1 A n1 c1 X) (Ib : IsI w b2 B n2 c2 Y) (hn1 : n1 ≤ 80) (hn2 : n2 ≤ 80) (hY : Y < 0) (hm : m < 1) :
    Calls Tryd.prog 10 #[.agg #[.bool b1, .slice A n1 c1], .agg #[.bool b2, .slice B n2 c2], .int .i64 m] w fun e w' => e = .returned (.bool true) ∧ Below w.heap.size w w' := by
  obtain ⟨W1, hW1⟩ : ∃ W1, w.alloc (.cells #[.bool b1, .slice A n1 c1] 24) = W1 := ⟨_, rfl⟩
  obtain ⟨hz1, Ka⟩ := bx_new w _ _ W1 hW1
  obtain ⟨W0, hW0⟩ : ∃ W0, W1.alloc (.cells #[.bool b2, .slice B n2 c2] 24) = W0 := ⟨_, rfl⟩
  obtain ⟨hz2, Kb⟩ := bx_new W1 _ _ W0 hW0
  have hs1 : W1.heap.size = w.heap.size + 1 := by rw [← hW1]; simp
  rw [hs1] at Kb
  have hz := hz1.trans (hz2.mono hz1.size)
  replace Ka := Ka.later hz2
  rw [← hW1] at hW0
  clear hz1 hz2 hs1 hW1
  replace Ia := Ia.later hz
  replace Ib := Ib.later hz
  have hmd1 : decide (m < 1) = true := decide_eq_true hm
  have hRA := fun W => rest_arg (.agg #[.bool b1, .slice A n1 c1]) b1 A n1 c1 m W rfl (by omega)
  clear hm
  have sX := Ia.sm.mono hn1
  have sY := Ib.sm.mono hn2
  have hid := dv_id X Y
  have hdr := dr_neg (X := X) hY
  have hY0 : Y ≠ 0 := by omega
  have sQ : Sm (dq X Y) 80 := dq_sm sX
  have sR : Sm (dr X Y) 80 := dr_sm hY0 sY
  have hDV := fun (W : World) (h : IsI W b1 A n1 c1 X) (h' : IsI W b2 B n2 c2 Y) => vDivide h h' sX sY (by omega) (by omega) hY0
  obtain ⟨Q, hQ⟩ : ∃ Q, dq X Y = Q := ⟨_, rfl⟩
  obtain ⟨R, hR⟩ : ∃ R, dr X Y = R := ⟨_, rfl⟩
  rw [hQ, hR] at hid hDV
  rw [hQ] at sQ
  rw [hR] at sR hdr
  obtain ⟨hdr1, hdr2⟩ := hdr
  clear hQ hR
  have hQY : ∃ P, Q * Y = P := ⟨_, rfl⟩
  obtain ⟨P, hP⟩ := hQY
  have sP : Sm P 160 := by rw [← hP]; exact (sQ.mul sY).mono (by omega)
  have HP := Lib.hid hP
  have HI := Lib.hid (show P + R = X by rw [← hP]; exact hid)
  clear hP hid
  have hF1 := fun W => few_ok b1 A c1 n1 W
  have hF2 := fun W => few_ok b2 B c2 n2 W
  rw [decide_eq_true hn1] at hF1
  rw [decide_eq_true hn2] at hF2
  go_enter Tryd.func10, Tryd.ntmps10
  obtain ⟨q0a, q1a, f0a, f1a, qla⟩ := id Ka
  go_wp2_with fail
  go_at_call 11
  refine (hF1 _).mono ?_
  rintro e v1 ⟨rfl, hb⟩
  clear q0a q1a f0a f1a qla
  replace hz := hz.trans (hb.mono hz.size)
  replace Ka := Ka.later hb
  replace Kb := Kb.later hb
  replace Ia := Ia.later hb
  replace Ib := Ib.later hb
  clear hb
  obtain ⟨q0b, q1b, f0b, f1b, qlb⟩ := id Kb
  go_wp2_with fail
  go_at_call 11
  refine (hF2 _).mono ?_
  rintro e v2 ⟨rfl, hb⟩
  clear q0b q1b f0b f1b qlb
  replace hz := hz.trans (hb.mono hz.size)
  replace Ka := Ka.later hb
  replace Kb := Kb.later hb
  replace Ia := Ia.later hb
  replace Ib := Ib.later hb
  clear hb
  clear hF1 hF2
  obtain ⟨q0b, q1b, f0b, f1b, qlb⟩ := id Kb
  go_wp2_with fail
  go_at_call 13
  refine (vCmpIs Ib (isI_zero _) (cmp3_lt hY)).mono ?_
  rintro e v3 ⟨rfl, hb⟩
  clear q0b q1b f0b f1b qlb
  replace hz := hz.trans (hb.mono hz.size)
  replace Ka := Ka.later hb
  replace Kb := Kb.later hb
  replace Ia := Ia.later hb
  replace Ib := Ib.later hb
  clear hb
  obtain ⟨q0a, q1a, f0a, f1a, qla⟩ := id Ka
  obtain ⟨q0b, q1b, f0b, f1b, qlb⟩ := id Kb
  go_wp2_with fail
  go_at_call 41
  refine (hDV _ Ia Ib).mono ?_
  rintro e v4 ⟨Aq, nq, cq, Ar, nr, cr, rfl, hnq, hnr, Cq, Cr, hb⟩
  clear q0a q1a f0a f1a qla
  clear q0b q1b f0b f1b qlb
  replace hz := hz.trans (hb.mono hz.size)
  replace Ka := Ka.later hb
  replace Kb := Kb.later hb
  replace Ia := Ia.later hb
  replace Ib := Ib.later hb
  clear hb
  have Iq := Cq.isI hnq (sQ.mono (by omega))
  have Ir := Cr.isI hnr (sR.mono (by omega))
  clear Cq Cr hnq hnr hDV
  obtain ⟨uq, huq⟩ : ∃ u, (v4.alloc (.cells #[.bool (cb (some Q)), .slice Aq nq cq] 24)).alloc (.cells #[.bool (cb (some R)), .slice Ar nr cr] 24) = u := ⟨_, rfl⟩
  obtain ⟨hx, Kq⟩ := bx_new v4 (.bool (cb (some Q))) (.slice Aq nq cq) _ rfl
  obtain ⟨hy, Kr⟩ := bx_new (v4.alloc (.cells #[.bool (cb (some Q)), .slice Aq nq cq] 24)) (.bool (cb (some R))) (.slice Ar nr cr) uq huq
  have hszq : (v4.alloc (.cells #[.bool (cb (some Q)), .slice Aq nq cq] 24)).heap.size = v4.heap.size + 1 := by simp
  rw [hszq] at Kr
  clear hszq
  replace Kq := Kq.later hy
  replace hx := hx.trans (hy.mono hx.size)
  clear hy
  replace hz := hz.trans (hx.mono hz.size)
  replace Ka := Ka.later hx
  replace Kb := Kb.later hx
  replace Ia := Ia.later hx
  replace Ib := Ib.later hx
  replace Iq := Iq.later hx
  replace Ir := Ir.later hx
  clear hx
  have hT := vTimes2 Iq Ib sQ sY (by omega)
  rw [HP.out] at hT
  obtain ⟨q0q, q1q, f0q, f1q, qlq⟩ := id Kq
  obtain ⟨q0b, q1b, f0b, f1b, qlb⟩ := id Kb
  go_wp2_with fail
  go_at_call 32
  refine (hT).mono ?_
  rintro e v5 ⟨Ap, np, cp, rfl, hnp, Cp, hb⟩
  clear q0q q1q f0q f1q qlq
  clear q0b q1b f0b f1b qlb
  replace hz := hz.trans (hb.mono hz.size)
  replace Ka := Ka.later hb
  replace Kb := Kb.later hb
  replace Kq := Kq.later hb
  replace Kr := Kr.later hb
  replace Ia := Ia.later hb
  replace Ib := Ib.later hb
  replace Iq := Iq.later hb
  replace Ir := Ir.later hb
  clear hb
  have Ip := Cp.isI hnp (sP.mono (by omega))
  clear Cp hnp hT
  clear Kq Iq HP
  obtain ⟨up, hup⟩ : ∃ u, v5.alloc (.cells #[.bool (cb (some P)), .slice Ap np cp] 24) = u := ⟨_, rfl⟩
  obtain ⟨hx, Kp⟩ := bx_new v5 _ _ up hup
  replace hz := hz.trans (hx.mono hz.size)
  replace Ka := Ka.later hx
  replace Kb := Kb.later hx
  replace Kr := Kr.later hx
  replace Ia := Ia.later hx
  replace Ib := Ib.later hx
  replace Ir := Ir.later hx
  replace Ip := Ip.later hx
  clear hx
  have hT := vSum Ip Ir sP (sR.mono (by omega)) (by omega)
  rw [HI.out] at hT
  obtain ⟨q0p, q1p, f0p, f1p, qlp⟩ := id Kp
  obtain ⟨q0r, q1r, f0r, f1r, qlr⟩ := id Kr
  go_wp2_with fail
  go_at_call 15
  refine (hT).mono ?_
  rintro e v6 ⟨Ax, nx, cx, rfl, hnx, Cx, hb⟩
  clear q0p q1p f0p f1p qlp
  clear q0r q1r f0r f1r qlr
  replace hz := hz.trans (hb.mono hz.size)
  replace Ka := Ka.later hb
  replace Kb := Kb.later hb
  replace Kr := Kr.later hb
  replace Kp := Kp.later hb
  replace Ia := Ia.later hb
  replace Ib := Ib.later hb
  replace Ir := Ir.later hb
  replace Ip := Ip.later hb
  clear hb
  have Ix := Cx.isI hnx (sX.mono (by omega))
  clear Cx hnx hT HI
  clear Kp Ip
  obtain ⟨ux, hux⟩ : ∃ u, v6.alloc (.cells #[.bool (cb (some X)), .slice Ax nx cx] 24) = u := ⟨_, rfl⟩
  obtain ⟨hx, Kx⟩ := bx_new v6 _ _ ux hux
  replace hz := hz.trans (hx.mono hz.size)
  replace Ka := Ka.later hx
  replace Kb := Kb.later hx
  replace Kr := Kr.later hx
  replace Ia := Ia.later hx
  replace Ib := Ib.later hx
  replace Ir := Ir.later hx
  replace Ix := Ix.later hx
  clear hx
  obtain ⟨q0x, q1x, f0x, f1x, qlx⟩ := id Kx
  obtain ⟨q0a, q1a, f0a, f1a, qla⟩ := id Ka
  go_wp2_with fail
  go_at_call 13
  refine (vCmpIs Ix Ia (cmp3_eq X)).mono ?_
  rintro e v7 ⟨rfl, hb⟩
  clear q0x q1x f0x f1x qlx
  clear q0a q1a f0a f1a qla
  replace hz := hz.trans (hb.mono hz.size)
  replace Ka := Ka.later hb
  replace Kb := Kb.later hb
  replace Kr := Kr.later hb
  replace Kx := Kx.later hb
  replace Ia := Ia.later hb
  replace Ib := Ib.later hb
  replace Ir := Ir.later hb
  replace Ix := Ix.later hb
  clear hb
  clear Kx Ix
  obtain ⟨q0b, q1b, f0b, f1b, qlb⟩ := id Kb
  go_wp2_with fail
  go_at_call 13
  refine (vCmpIs Ib (isI_zero _) (cmp3_lt hY)).mono ?_
  rintro e v8 ⟨rfl, hb⟩
  clear q0b q1b f0b f1b qlb
  replace hz := hz.trans (hb.mono hz.size)
  replace Ka := Ka.later hb
  replace Kb := Kb.later hb
  replace Kr := Kr.later hb
  replace Ia := Ia.later hb
  replace Ib := Ib.later hb
  replace Ir := Ir.later hb
  clear hb
  obtain ⟨q0b, q1b, f0b, f1b, qlb⟩ := id Kb
  go_wp2_with fail
  go_at_call 13
  refine (vCmpIs Ib (isI_zero _) (cmp3_lt hY)).mono ?_
  rintro e v9 ⟨rfl, hb⟩
  clear q0b q1b f0b f1b qlb
  replace hz := hz.trans (hb.mono hz.size)
  replace Ka := Ka.later hb
  replace Kb := Kb.later hb
  replace Kr := Kr.later hb
  replace Ia := Ia.later hb
  replace Ib := Ib.later hb
  replace Ir := Ir.later hb
  clear hb
  obtain ⟨q0r, q1r, f0r, f1r, qlr⟩ := id Kr
  go_wp2_with fail
  go_at_call 13
  refine (vCmpNP Ir (isI_zero _) hdr1).mono ?_
  rintro e v10 ⟨k, hk0, hk1, rfl, hb⟩
  clear q0r q1r f0r f1r qlr
  replace hz := hz.trans (hb.mono hz.size)
  replace Ka := Ka.later hb
  replace Kb := Kb.later hb
  replace Kr := Kr.later hb
  replace Ia := Ia.later hb
  replace Ib := Ib.later hb
  replace Ir := Ir.later hb
  clear hb
  have hkd : decide (0 < k) = false := decide_eq_false (by clear hz Ka Kb Kr Ia Ib Ir; omega)
  clear hk0 hk1
  obtain ⟨q0r, q1r, f0r, f1r, qlr⟩ := id Kr
  obtain ⟨q0b, q1b, f0b, f1b, qlb⟩ := id Kb
  go_wp2_with fail
  go_at_call 13
  refine (vCmpIs Ir Ib (cmp3_gt hdr2)).mono ?_
  rintro e v11 ⟨rfl, hb⟩
  clear q0r q1r f0r f1r qlr
  clear q0b q1b f0b f1b qlb
  replace hz := hz.trans (hb.mono hz.size)
  replace Ka := Ka.later hb
  replace Kb := Kb.later hb
  replace Kr := Kr.later hb
  replace Ia := Ia.later hb
  replace Ib := Ib.later hb
  replace Ir := Ir.later hb
  clear hb
  clear Kr Ir
  obtain ⟨q0a, q1a, f0a, f1a, qla⟩ := id Ka
  go_wp2_with fail
  go_at_call 39
  refine (hRA _).mono ?_
  rintro e v12 ⟨rfl, hb⟩
  clear q0a q1a f0a f1a qla
  replace hz := hz.trans (hb.mono hz.size)
  replace Ka := Ka.later hb
  replace Kb := Kb.later hb
  replace Ia := Ia.later hb
  replace Ib := Ib.later hb
  clear hb
  go_wp2_with fail
  go_at_call 12
  refine (wawake_ok _).mono ?_
  rintro e v99 ⟨rfl, hb⟩
  go_wp2
  go_ret
  exact ⟨rfl, hz.trans (hb.mono hz.size)⟩

set_option maxHeartbeats 4000000 in
theorem splits_neg_high (b1 b2 : Bool) (A B : Option Addr) (n1 c1 n2 c2 : Nat) (X Y m : Int) (w : World) (Ia : IsI w b1 A n1 c1 X) (Ib : IsI w b2 B n2 c2 Y) (hn1 : n1 ≤ 80) (hn2 : n2 ≤ 80) (hY : Y < 0) (hm : 4611686018427387904 < m) :
    Calls Tryd.prog 10 #[.agg #[.bool b1, .slice A n1 c1], .agg #[.bool b2, .slice B n2 c2], .int .i64 m] w fun e w' => e = .returned (.bool true) ∧ Below w.heap.size w w' := by
  obtain ⟨W1, hW1⟩ : ∃ W1, w.alloc (.cells #[.bool b1, .slice A n1 c1] 24) = W1 := ⟨_, rfl⟩
  obtain ⟨hz1, Ka⟩ := bx_new w _ _ W1 hW1
  obtain ⟨W0, hW0⟩ : ∃ W0, W1.alloc (.cells #[.bool b2, .slice B n2 c2] 24) = W0 := ⟨_, rfl⟩
  obtain ⟨hz2, Kb⟩ := bx_new W1 _ _ W0 hW0
  have hs1 : W1.heap.size = w.heap.size + 1 := by rw [← hW1]; simp
  rw [hs1] at Kb
  have hz := hz1.trans (hz2.mono hz1.size)
  replace Ka := Ka.later hz2
  rw [← hW1] at hW0
  clear hz1 hz2 hs1 hW1
  replace Ia := Ia.later hz
  replace Ib := Ib.later hz
  have hmd1 : decide (m < 1) = false := decide_eq_false (by omega)
  have hmd2 : decide (4611686018427387904 < m) = true := decide_eq_true hm
  have hRA := fun W => rest_arg (.agg #[.bool b1, .slice A n1 c1]) b1 A n1 c1 m W rfl (by omega)
  clear hm
  have sX := Ia.sm.mono hn1
  have sY := Ib.sm.mono hn2
  have hid := dv_id X Y
  have hdr := dr_neg (X := X) hY
  have hY0 : Y ≠ 0 := by omega
  have sQ : Sm (dq X Y) 80 := dq_sm sX
  have sR : Sm (dr X Y) 80 := dr_sm hY0 sY
  have hDV := fun (W : World) (h : IsI W b1 A n1 c1 X) (h' : IsI W b2 B n2 c2 Y) => vDivide h h' sX sY (by omega) (by omega) hY0
  obtain ⟨Q, hQ⟩ : ∃ Q, dq X Y = Q := ⟨_, rfl⟩
  obtain ⟨R, hR⟩ : ∃ R, dr X Y = R := ⟨_, rfl⟩
  rw [hQ, hR] at hid hDV
  rw [hQ] at sQ
  rw [hR] at sR hdr
  obtain ⟨hdr1, hdr2⟩ := hdr
  clear hQ hR
  have hQY : ∃ P, Q * Y = P := ⟨_, rfl⟩
  obtain ⟨P, hP⟩ := hQY
  have sP : Sm P 160 := by rw [← hP]; exact (sQ.mul sY).mono (by omega)
  have HP := Lib.hid hP
  have HI := Lib.hid (show P + R = X by rw [← hP]; exact hid)
  clear hP hid
  have hF1 := fun W => few_ok b1 A c1 n1 W
  have hF2 := fun W => few_ok b2 B c2 n2 W
  rw [decide_eq_true hn1] at hF1
  rw [decide_eq_true hn2] at hF2
  go_enter Tryd.func10, Tryd.ntmps10
  obtain ⟨q0a, q1a, f0a, f1a, qla⟩ := id Ka
  go_wp2_with fail
  go_at_call 11
  refine (hF1 _).mono ?_
  rintro e v1 ⟨rfl, hb⟩
  clear q0a q1a f0a f1a qla
  replace hz := hz.trans (hb.mono hz.size)
  replace Ka := Ka.later hb
  replace Kb := Kb.later hb
  replace Ia := Ia.later hb
  replace Ib := Ib.later hb
  clear hb
  obtain ⟨q0b, q1b, f0b, f1b, qlb⟩ := id Kb
  go_wp2_with fail
  go_at_call 11
  refine (hF2 _).mono ?_
  rintro e v2 ⟨rfl, hb⟩
  clear q0b q1b f0b f1b qlb
  replace hz := hz.trans (hb.mono hz.size)
  replace Ka := Ka.later hb
  replace Kb := Kb.later hb
  replace Ia := Ia.later hb
  replace Ib := Ib.later hb
  clear hb
  clear hF1 hF2
  obtain ⟨q0b, q1b, f0b, f1b, qlb⟩ := id Kb
  go_wp2_with fail
  go_at_call 13
  refine (vCmpIs Ib (isI_zero _) (cmp3_lt hY)).mono ?_
  rintro e v3 ⟨rfl, hb⟩
  clear q0b q1b f0b f1b qlb
  replace hz := hz.trans (hb.mono hz.size)
  replace Ka := Ka.later hb
  replace Kb := Kb.later hb
  replace Ia := Ia.later hb
  replace Ib := Ib.later hb
  clear hb
  obtain ⟨q0a, q1a, f0a, f1a, qla⟩ := id Ka
  obtain ⟨q0b, q1b, f0b, f1b, qlb⟩ := id Kb
  go_wp2_with fail
  go_at_call 41
  refine (hDV _ Ia Ib).mono ?_
  rintro e v4 ⟨Aq, nq, cq, Ar, nr, cr, rfl, hnq, hnr, Cq, Cr, hb⟩
  clear q0a q1a f0a f1a qla
  clear q0b q1b f0b f1b qlb
  replace hz := hz.trans (hb.mono hz.size)
  replace Ka := Ka.later hb
  replace Kb := Kb.later hb
  replace Ia := Ia.later hb
  replace Ib := Ib.later hb
  clear hb
  have Iq := Cq.isI hnq (sQ.mono (by omega))
  have Ir := Cr.isI hnr (sR.mono (by omega))
  clear Cq Cr hnq hnr hDV
  obtain ⟨uq, huq⟩ : ∃ u, (v4.alloc (.cells #[.bool (cb (some Q)), .slice Aq nq cq] 24)).alloc (.cells #[.bool (cb (some R)), .slice Ar nr cr] 24) = u := ⟨_, rfl⟩
  obtain ⟨hx, Kq⟩ := bx_new v4 (.bool (cb (some Q))) (.slice Aq nq cq) _ rfl
  obtain ⟨hy, Kr⟩ := bx_new (v4.alloc (.cells #[.bool (cb (some Q)), .slice Aq nq cq] 24)) (.bool (cb (some R))) (.slice Ar nr cr) uq huq
  have hszq : (v4.alloc (.cells #[.bool (cb (some Q)), .slice Aq nq cq] 24)).heap.size = v4.heap.size + 1 := by simp
  rw [hszq] at Kr
  clear hszq
  replace Kq := Kq.later hy
  replace hx := hx.trans (hy.mono hx.size)
  clear hy
  replace hz := hz.trans (hx.mono hz.size)
  replace Ka := Ka.later hx
  replace Kb := Kb.later hx
  replace Ia := Ia.later hx
  replace Ib := Ib.later hx
  replace Iq := Iq.later hx
  replace Ir := Ir.later hx
  clear hx
  have hT := vTimes2 Iq Ib sQ sY (by omega)
  rw [HP.out] at hT
  obtain ⟨q0q, q1q, f0q, f1q, qlq⟩ := id Kq
  obtain ⟨q0b, q1b, f0b, f1b, qlb⟩ := id Kb
  go_wp2_with fail
  go_at_call 32
  refine (hT).mono ?_
  rintro e v5 ⟨Ap, np, cp, rfl, hnp, Cp, hb⟩
  clear q0q q1q f0q f1q qlq
  clear q0b q1b f0b f1b qlb
  replace hz := hz.trans (hb.mono hz.size)
  replace Ka := Ka.later hb
  replace Kb := Kb.later hb
  replace Kq := Kq.later hb
  replace Kr := Kr.later hb
  replace Ia := Ia.later hb
  replace Ib := Ib.later hb
  replace Iq := Iq.later hb
  replace Ir := Ir.later hb
  clear hb
  have Ip := Cp.isI hnp (sP.mono (by omega))
  clear Cp hnp hT
  clear Kq Iq HP
  obtain ⟨up, hup⟩ : ∃ u, v5.alloc (.cells #[.bool (cb (some P)), .slice Ap np cp] 24) = u := ⟨_, rfl⟩
  obtain ⟨hx, Kp⟩ := bx_new v5 _ _ up hup
  replace hz := hz.trans (hx.mono hz.size)
  replace Ka := Ka.later hx
  replace Kb := Kb.later hx
  replace Kr := Kr.later hx
  replace Ia := Ia.later hx
  replace Ib := Ib.later hx
  replace Ir := Ir.later hx
  replace Ip := Ip.later hx
  clear hx
  have hT := vSum Ip Ir sP (sR.mono (by omega)) (by omega)
  rw [HI.out] at hT
  obtain ⟨q0p, q1p, f0p, f1p, qlp⟩ := id Kp
  obtain ⟨q0r, q1r, f0r, f1r, qlr⟩ := id Kr
  go_wp2_with fail
  go_at_call 15
  refine (hT).mono ?_
  rintro e v6 ⟨Ax, nx, cx, rfl, hnx, Cx, hb⟩
  clear q0p q1p f0p f1p qlp
  clear q0r q1r f0r f1r qlr
  replace hz := hz.trans (hb.mono hz.size)
  replace Ka := Ka.later hb
  replace Kb := Kb.later hb
  replace Kr := Kr.later hb
  replace Kp := Kp.later hb
  replace Ia := Ia.later hb
  replace Ib := Ib.later hb
  replace Ir := Ir.later hb
  replace Ip := Ip.later hb
  clear hb
  have Ix := Cx.isI hnx (sX.mono (by omega))
  clear Cx hnx hT HI
  clear Kp Ip
  obtain ⟨ux, hux⟩ : ∃ u, v6.alloc (.cells #[.bool (cb (some X)), .slice Ax nx cx] 24) = u := ⟨_, rfl⟩
  obtain ⟨hx, Kx⟩ := bx_new v6 _ _ ux hux
  replace hz := hz.trans (hx.mono hz.size)
  replace Ka := Ka.later hx
  replace Kb := Kb.later hx
  replace Kr := Kr.later hx
  replace Ia := Ia.later hx
  replace Ib := Ib.later hx
  replace Ir := Ir.later hx
  replace Ix := Ix.later hx
  clear hx
  obtain ⟨q0x, q1x, f0x, f1x, qlx⟩ := id Kx
  obtain ⟨q0a, q1a, f0a, f1a, qla⟩ := id Ka
  go_wp2_with fail
  go_at_call 13
  refine (vCmpIs Ix Ia (cmp3_eq X)).mono ?_
  rintro e v7 ⟨rfl, hb⟩
  clear q0x q1x f0x f1x qlx
  clear q0a q1a f0a f1a qla
  replace hz := hz.trans (hb.mono hz.size)
  replace Ka := Ka.later hb
  replace Kb := Kb.later hb
  replace Kr := Kr.later hb
  replace Kx := Kx.later hb
  replace Ia := Ia.later hb
  replace Ib := Ib.later hb
  replace Ir := Ir.later hb
  replace Ix := Ix.later hb
  clear hb
  clear Kx Ix
  obtain ⟨q0b, q1b, f0b, f1b, qlb⟩ := id Kb
  go_wp2_with fail
  go_at_call 13
  refine (vCmpIs Ib (isI_zero _) (cmp3_lt hY)).mono ?_
  rintro e v8 ⟨rfl, hb⟩
  clear q0b q1b f0b f1b qlb
  replace hz := hz.trans (hb.mono hz.size)
  replace Ka := Ka.later hb
  replace Kb := Kb.later hb
  replace Kr := Kr.later hb
  replace Ia := Ia.later hb
  replace Ib := Ib.later hb
  replace Ir := Ir.later hb
  clear hb
  obtain ⟨q0b, q1b, f0b, f1b, qlb⟩ := id Kb
  go_wp2_with fail
  go_at_call 13
  refine (vCmpIs Ib (isI_zero _) (cmp3_lt hY)).mono ?_
  rintro e v9 ⟨rfl, hb⟩
  clear q0b q1b f0b f1b qlb
  replace hz := hz.trans (hb.mono hz.size)
  replace Ka := Ka.later hb
  replace Kb := Kb.later hb
  replace Kr := Kr.later hb
  replace Ia := Ia.later hb
  replace Ib := Ib.later hb
  replace Ir := Ir.later hb
  clear hb
  obtain ⟨q0r, q1r, f0r, f1r, qlr⟩ := id Kr
  go_wp2_with fail
  go_at_call 13
  refine (vCmpNP Ir (isI_zero _) hdr1).mono ?_
  rintro e v10 ⟨k, hk0, hk1, rfl, hb⟩
  clear q0r q1r f0r f1r qlr
  replace hz := hz.trans (hb.mono hz.size)
  replace Ka := Ka.later hb
  replace Kb := Kb.later hb
  replace Kr := Kr.later hb
  replace Ia := Ia.later hb
  replace Ib := Ib.later hb
  replace Ir := Ir.later hb
  clear hb
  have hkd : decide (0 < k) = false := decide_eq_false (by clear hz Ka Kb Kr Ia Ib Ir; omega)
  clear hk0 hk1
  obtain ⟨q0r, q1r, f0r, f1r, qlr⟩ := id Kr
  obtain ⟨q0b, q1b, f0b, f1b, qlb⟩ := id Kb
  go_wp2_with fail
  go_at_call 13
  refine (vCmpIs Ir Ib (cmp3_gt hdr2)).mono ?_
  rintro e v11 ⟨rfl, hb⟩
  clear q0r q1r f0r f1r qlr
  clear q0b q1b f0b f1b qlb
  replace hz := hz.trans (hb.mono hz.size)
  replace Ka := Ka.later hb
  replace Kb := Kb.later hb
  replace Kr := Kr.later hb
  replace Ia := Ia.later hb
  replace Ib := Ib.later hb
  replace Ir := Ir.later hb
  clear hb
  clear Kr Ir
  obtain ⟨q0a, q1a, f0a, f1a, qla⟩ := id Ka
  go_wp2_with fail
  go_at_call 39
  refine (hRA _).mono ?_
  rintro e v12 ⟨rfl, hb⟩
  clear q0a q1a f0a f1a qla
  replace hz := hz.trans (hb.mono hz.size)
  replace Ka := Ka.later hb
  replace Kb := Kb.later hb
  replace Ia := Ia.later hb
  replace Ib := Ib.later hb
  clear hb
  go_wp2_with fail
  go_at_call 12
  refine (wawake_ok _).mono ?_
  rintro e v99 ⟨rfl, hb⟩
  go_wp2
  go_ret
  exact ⟨rfl, hz.trans (hb.mono hz.size)⟩

set_option maxHeartbeats 4000000 in
theorem splits_pos_full (b1 b2 : Bool) (A B : Option Addr) (n1 c1 n2 c2 : Nat) (X Y m : Int) (w : World) (Ia : IsI w b1 A n1 c1 X) (Ib : IsI w b2 B n2 c2 Y) (hn1 : n1 ≤ 80) (hn2 : n2 ≤ 80) (hY : 0 < Y) (hm1 : 1 ≤ m) (hm2 : m ≤ 4611686018427387904) (hRest : ∀ W, Below w.heap.size w W → Calls Tryd.prog 39 #[.agg #[.bool b1, .slice A n1 c1], .int .i64 m] W fun e w' => e = .returned (.tuple #[.int .i64 (dr X m), .int .i64 0]) ∧ Below W.heap.size W w') :
    Calls Tryd.prog 10 #[.agg #[.bool b1, .slice A n1 c1], .agg #[.bool b2, .slice B n2 c2], .int .i64 m] w fun e w' => e = .returned (.bool true) ∧ Below w.heap.size w w' := by
  obtain ⟨W1, hW1⟩ : ∃ W1, w.alloc (.cells #[.bool b1, .slice A n1 c1] 24) = W1 := ⟨_, rfl⟩
  obtain ⟨hz1, Ka⟩ := bx_new w _ _ W1 hW1
  obtain ⟨W0, hW0⟩ : ∃ W0, W1.alloc (.cells #[.bool b2, .slice B n2 c2] 24) = W0 := ⟨_, rfl⟩
  obtain ⟨hz2, Kb⟩ := bx_new W1 _ _ W0 hW0
  have hs1 : W1.heap.size = w.heap.size + 1 := by rw [← hW1]; simp
  rw [hs1] at Kb
  have hz := hz1.trans (hz2.mono hz1.size)
  replace Ka := Ka.later hz2
  rw [← hW1] at hW0
  clear hz1 hz2 hs1 hW1
  replace Ia := Ia.later hz
  replace Ib := Ib.later hz
  have hT := dr_pos (X := X) (Y := m) (by omega)
  have sM : Sm m 2 := sm_two hm1 hm2
  have hDM := fun (W : World) (B' : Option Addr) (n' c' : Nat) (bb : Bool) (h : IsI W b1 A n1 c1 X) (h' : IsI W bb B' n' c' m) => vDivide h h' (Ia.sm.mono hn1) sM (by omega) (by omega) (by omega)
  have sT : Sm (dr X m) 2 := dr_sm (by omega) sM
  have sT7 : Sm (dr X m) 257 := sT.mono (by omega)
  obtain ⟨T, hTe⟩ : ∃ T, dr X m = T := ⟨_, rfl⟩
  rw [hTe] at hT hDM hRest sT sT7
  generalize dq X m = U at hDM
  clear hTe
  obtain ⟨hT0, hT1⟩ := hT
  have hmd1 : decide (m < 1) = false := decide_eq_false (by omega)
  have hmd2 : decide (4611686018427387904 < m) = false := decide_eq_false (by omega)
  have hmd3 : decide (0 ≤ T) = true := decide_eq_true hT0
  have hmd4 : decide (T < m) = true := decide_eq_true hT1
  have hOf := fun W => vOf m W (by omega)
  have hOk := fun W => vOf T W (by omega)
  clear hm1 hm2 hT0 hT1
  have sX := Ia.sm.mono hn1
  have sY := Ib.sm.mono hn2
  have hid := dv_id X Y
  have hdr := dr_pos (X := X) hY
  have hY0 : Y ≠ 0 := by omega
  have sQ : Sm (dq X Y) 80 := dq_sm sX
  have sR : Sm (dr X Y) 80 := dr_sm hY0 sY
  have hDV := fun (W : World) (h : IsI W b1 A n1 c1 X) (h' : IsI W b2 B n2 c2 Y) => vDivide h h' sX sY (by omega) (by omega) hY0
  obtain ⟨Q, hQ⟩ : ∃ Q, dq X Y = Q := ⟨_, rfl⟩
  obtain ⟨R, hR⟩ : ∃ R, dr X Y = R := ⟨_, rfl⟩
  rw [hQ, hR] at hid hDV
  rw [hQ] at sQ
  rw [hR] at sR hdr
  obtain ⟨hdr1, hdr2⟩ := hdr
  clear hQ hR
  have hQY : ∃ P, Q * Y = P := ⟨_, rfl⟩
  obtain ⟨P, hP⟩ := hQY
  have sP : Sm P 160 := by rw [← hP]; exact (sQ.mul sY).mono (by omega)
  have HP := Lib.hid hP
  have HI := Lib.hid (show P + R = X by rw [← hP]; exact hid)
  clear hP hid
  have hF1 := fun W => few_ok b1 A c1 n1 W
  have hF2 := fun W => few_ok b2 B c2 n2 W
  rw [decide_eq_true hn1] at hF1
  rw [decide_eq_true hn2] at hF2
  go_enter Tryd.func10, Tryd.ntmps10
  obtain ⟨q0a, q1a, f0a, f1a, qla⟩ := id Ka
  go_wp2_with fail
  go_at_call 11
  refine (hF1 _).mono ?_
  rintro e v1 ⟨rfl, hb⟩
  clear q0a q1a f0a f1a qla
  replace hz := hz.trans (hb.mono hz.size)
  replace Ka := Ka.later hb
  replace Kb := Kb.later hb
  replace Ia := Ia.later hb
  replace Ib := Ib.later hb
  clear hb
  obtain ⟨q0b, q1b, f0b, f1b, qlb⟩ := id Kb
  go_wp2_with fail
  go_at_call 11
  refine (hF2 _).mono ?_
  rintro e v2 ⟨rfl, hb⟩
  clear q0b q1b f0b f1b qlb
  replace hz := hz.trans (hb.mono hz.size)
  replace Ka := Ka.later hb
  replace Kb := Kb.later hb
  replace Ia := Ia.later hb
  replace Ib := Ib.later hb
  clear hb
  clear hF1 hF2
  obtain ⟨q0b, q1b, f0b, f1b, qlb⟩ := id Kb
  go_wp2_with fail
  go_at_call 13
  refine (vCmpIs Ib (isI_zero _) (cmp3_gt hY)).mono ?_
  rintro e v3 ⟨rfl, hb⟩
  clear q0b q1b f0b f1b qlb
  replace hz := hz.trans (hb.mono hz.size)
  replace Ka := Ka.later hb
  replace Kb := Kb.later hb
  replace Ia := Ia.later hb
  replace Ib := Ib.later hb
  clear hb
  obtain ⟨q0a, q1a, f0a, f1a, qla⟩ := id Ka
  obtain ⟨q0b, q1b, f0b, f1b, qlb⟩ := id Kb
  go_wp2_with fail
  go_at_call 41
  refine (hDV _ Ia Ib).mono ?_
  rintro e v4 ⟨Aq, nq, cq, Ar, nr, cr, rfl, hnq, hnr, Cq, Cr, hb⟩
  clear q0a q1a f0a f1a qla
  clear q0b q1b f0b f1b qlb
  replace hz := hz.trans (hb.mono hz.size)
  replace Ka := Ka.later hb
  replace Kb := Kb.later hb
  replace Ia := Ia.later hb
  replace Ib := Ib.later hb
  clear hb
  have Iq := Cq.isI hnq (sQ.mono (by omega))
  have Ir := Cr.isI hnr (sR.mono (by omega))
  clear Cq Cr hnq hnr hDV
  obtain ⟨uq, huq⟩ : ∃ u, (v4.alloc (.cells #[.bool (cb (some Q)), .slice Aq nq cq] 24)).alloc (.cells #[.bool (cb (some R)), .slice Ar nr cr] 24) = u := ⟨_, rfl⟩
  obtain ⟨hx, Kq⟩ := bx_new v4 (.bool (cb (some Q))) (.slice Aq nq cq) _ rfl
  obtain ⟨hy, Kr⟩ := bx_new (v4.alloc (.cells #[.bool (cb (some Q)), .slice Aq nq cq] 24)) (.bool (cb (some R))) (.slice Ar nr cr) uq huq
  have hszq : (v4.alloc (.cells #[.bool (cb (some Q)), .slice Aq nq cq] 24)).heap.size = v4.heap.size + 1 := by simp
  rw [hszq] at Kr
  clear hszq
  replace Kq := Kq.later hy
  replace hx := hx.trans (hy.mono hx.size)
  clear hy
  replace hz := hz.trans (hx.mono hz.size)
  replace Ka := Ka.later hx
  replace Kb := Kb.later hx
  replace Ia := Ia.later hx
  replace Ib := Ib.later hx
  replace Iq := Iq.later hx
  replace Ir := Ir.later hx
  clear hx
  have hT := vTimes2 Iq Ib sQ sY (by omega)
  rw [HP.out] at hT
  obtain ⟨q0q, q1q, f0q, f1q, qlq⟩ := id Kq
  obtain ⟨q0b, q1b, f0b, f1b, qlb⟩ := id Kb
  go_wp2_with fail
  go_at_call 32
  refine (hT).mono ?_
  rintro e v5 ⟨Ap, np, cp, rfl, hnp, Cp, hb⟩
  clear q0q q1q f0q f1q qlq
  clear q0b q1b f0b f1b qlb
  replace hz := hz.trans (hb.mono hz.size)
  replace Ka := Ka.later hb
  replace Kb := Kb.later hb
  replace Kq := Kq.later hb
  replace Kr := Kr.later hb
  replace Ia := Ia.later hb
  replace Ib := Ib.later hb
  replace Iq := Iq.later hb
  replace Ir := Ir.later hb
  clear hb
  have Ip := Cp.isI hnp (sP.mono (by omega))
  clear Cp hnp hT
  clear Kq Iq HP
  obtain ⟨up, hup⟩ : ∃ u, v5.alloc (.cells #[.bool (cb (some P)), .slice Ap np cp] 24) = u := ⟨_, rfl⟩
  obtain ⟨hx, Kp⟩ := bx_new v5 _ _ up hup
  replace hz := hz.trans (hx.mono hz.size)
  replace Ka := Ka.later hx
  replace Kb := Kb.later hx
  replace Kr := Kr.later hx
  replace Ia := Ia.later hx
  replace Ib := Ib.later hx
  replace Ir := Ir.later hx
  replace Ip := Ip.later hx
  clear hx
  have hT := vSum Ip Ir sP (sR.mono (by omega)) (by omega)
  rw [HI.out] at hT
  obtain ⟨q0p, q1p, f0p, f1p, qlp⟩ := id Kp
  obtain ⟨q0r, q1r, f0r, f1r, qlr⟩ := id Kr
  go_wp2_with fail
  go_at_call 15
  refine (hT).mono ?_
  rintro e v6 ⟨Ax, nx, cx, rfl, hnx, Cx, hb⟩
  clear q0p q1p f0p f1p qlp
  clear q0r q1r f0r f1r qlr
  replace hz := hz.trans (hb.mono hz.size)
  replace Ka := Ka.later hb
  replace Kb := Kb.later hb
  replace Kr := Kr.later hb
  replace Kp := Kp.later hb
  replace Ia := Ia.later hb
  replace Ib := Ib.later hb
  replace Ir := Ir.later hb
  replace Ip := Ip.later hb
  clear hb
  have Ix := Cx.isI hnx (sX.mono (by omega))
  clear Cx hnx hT HI
  clear Kp Ip
  obtain ⟨ux, hux⟩ : ∃ u, v6.alloc (.cells #[.bool (cb (some X)), .slice Ax nx cx] 24) = u := ⟨_, rfl⟩
  obtain ⟨hx, Kx⟩ := bx_new v6 _ _ ux hux
  replace hz := hz.trans (hx.mono hz.size)
  replace Ka := Ka.later hx
  replace Kb := Kb.later hx
  replace Kr := Kr.later hx
  replace Ia := Ia.later hx
  replace Ib := Ib.later hx
  replace Ir := Ir.later hx
  replace Ix := Ix.later hx
  clear hx
  obtain ⟨q0x, q1x, f0x, f1x, qlx⟩ := id Kx
  obtain ⟨q0a, q1a, f0a, f1a, qla⟩ := id Ka
  go_wp2_with fail
  go_at_call 13
  refine (vCmpIs Ix Ia (cmp3_eq X)).mono ?_
  rintro e v7 ⟨rfl, hb⟩
  clear q0x q1x f0x f1x qlx
  clear q0a q1a f0a f1a qla
  replace hz := hz.trans (hb.mono hz.size)
  replace Ka := Ka.later hb
  replace Kb := Kb.later hb
  replace Kr := Kr.later hb
  replace Kx := Kx.later hb
  replace Ia := Ia.later hb
  replace Ib := Ib.later hb
  replace Ir := Ir.later hb
  replace Ix := Ix.later hb
  clear hb
  clear Kx Ix
  obtain ⟨q0b, q1b, f0b, f1b, qlb⟩ := id Kb
  go_wp2_with fail
  go_at_call 13
  refine (vCmpIs Ib (isI_zero _) (cmp3_gt hY)).mono ?_
  rintro e v8 ⟨rfl, hb⟩
  clear q0b q1b f0b f1b qlb
  replace hz := hz.trans (hb.mono hz.size)
  replace Ka := Ka.later hb
  replace Kb := Kb.later hb
  replace Kr := Kr.later hb
  replace Ia := Ia.later hb
  replace Ib := Ib.later hb
  replace Ir := Ir.later hb
  clear hb
  obtain ⟨q0r, q1r, f0r, f1r, qlr⟩ := id Kr
  go_wp2_with fail
  go_at_call 13
  refine (vCmpNN Ir (isI_zero _) hdr1).mono ?_
  rintro e v9 ⟨k, hk0, hk1, rfl, hb⟩
  clear q0r q1r f0r f1r qlr
  replace hz := hz.trans (hb.mono hz.size)
  replace Ka := Ka.later hb
  replace Kb := Kb.later hb
  replace Kr := Kr.later hb
  replace Ia := Ia.later hb
  replace Ib := Ib.later hb
  replace Ir := Ir.later hb
  clear hb
  have hkd : decide (k < 0) = false := decide_eq_false (by clear hz Ka Kb Kr Ia Ib Ir; omega)
  clear hk0 hk1
  obtain ⟨q0r, q1r, f0r, f1r, qlr⟩ := id Kr
  obtain ⟨q0b, q1b, f0b, f1b, qlb⟩ := id Kb
  go_wp2_with fail
  go_at_call 13
  refine (vCmpIs Ir Ib (cmp3_lt hdr2)).mono ?_
  rintro e v10 ⟨rfl, hb⟩
  clear q0r q1r f0r f1r qlr
  clear q0b q1b f0b f1b qlb
  replace hz := hz.trans (hb.mono hz.size)
  replace Ka := Ka.later hb
  replace Kb := Kb.later hb
  replace Kr := Kr.later hb
  replace Ia := Ia.later hb
  replace Ib := Ib.later hb
  replace Ir := Ir.later hb
  clear hb
  obtain ⟨q0b, q1b, f0b, f1b, qlb⟩ := id Kb
  go_wp2_with fail
  go_at_call 13
  refine (vCmpIs Ib (isI_zero _) (cmp3_gt hY)).mono ?_
  rintro e v11 ⟨rfl, hb⟩
  clear q0b q1b f0b f1b qlb
  replace hz := hz.trans (hb.mono hz.size)
  replace Ka := Ka.later hb
  replace Kb := Kb.later hb
  replace Kr := Kr.later hb
  replace Ia := Ia.later hb
  replace Ib := Ib.later hb
  replace Ir := Ir.later hb
  clear hb
  clear Kr Ir
  obtain ⟨q0a, q1a, f0a, f1a, qla⟩ := id Ka
  go_wp2_with fail
  have H0 : Below v11.heap.size v11 v11 := Below.refl _ _
  have HPK : ∀ W, Below v11.heap.size v11 W → (W.cell? ⟨w.heap.size, 0, none⟩ = some (.bool b1) ∧ W.cell? ⟨w.heap.size, 1, none⟩ = some (.slice A n1 c1) ∧ w.heap.size < W.heap.size) := fun W h => by
    obtain ⟨d1, d2, d3, d4, d5⟩ := Ka.later h
    exact ⟨d1, d2, d5⟩
  have H1 : Below v11.heap.size v11 v11 := Below.refl _ _
  have H2 := H1
  go_upto_region 18 with fail
  go_cut [20, 21] (fun sa sb wx => ∃ (nb : Nat) (Ar : Option Addr) (cr : Nat), sa = .pointer (some ⟨nb, 0, none⟩) ∧ sb = .int .i64 0 ∧ Below v11.heap.size v11 wx ∧ Bx nb (.bool (cb (some T))) (.slice Ar (cz (some T)).length cr) wx ∧ CanAt wx 0 (some T) Ar cr)
  case first =>
    go_region_held3 (fun W => W.cell? ⟨w.heap.size, 0, none⟩ = some (.bool b1) ∧ W.cell? ⟨w.heap.size, 1, none⟩ = some (.slice A n1 c1) ∧ w.heap.size < W.heap.size) (first | (refine HPK _ ?_; (repeat' (first | with_reducible exact H2 | with_reducible exact H1 | with_reducible exact Below.refl _ _ | (with_reducible refine Below.setCell ?_ ?_ _) | (with_reducible refine Below.alloc ?_ ?_ _) | (with_reducible refine below_drew ?_))); all_goals (first | omega | (simp; done) | (simp; omega)))) (first
        | (go_at_call 33; refine (hOf _).mono ?_; rintro e va ⟨Ao, _, co, rfl, rfl, Co, hba⟩; (first | (with_reducible have q2 := al2 (u := v11) (al0 hba)) | (with_reducible have q2 := al2 (u := v11) hba) | (with_reducible have q1 := al1 (u := v11) (al0 hba)) | (with_reducible have q1 := al1 (u := v11) hba) | (with_reducible have H1 := al0 (u := v11) hba) | (with_reducible have H1 : Below v11.heap.size v11 va := hba)); (first | (obtain ⟨H1, o1, o2⟩ := q2) | (obtain ⟨H1, o1⟩ := q1) | skip); have s1 := H1.size; (try (obtain ⟨o1a, o1b, o1c, o1d, o1e⟩ := id o1)); (try (obtain ⟨o2a, o2b, o2c, o2d, o2e⟩ := id o2)))
        | (go_at_call 41; refine (hDM _ Ao _ co (cb (some m)) (Ia.later (by first | with_reducible exact H1 | with_reducible exact H1.alloc H1.size _ | with_reducible exact (H1.alloc H1.size _).alloc (by simp; omega) _)) ((Co.isI rfl (sM.mono (by omega))).later (by first | with_reducible exact Below.refl _ _ | with_reducible exact (Below.refl _ _).alloc (Nat.le_refl _) _ | with_reducible exact ((Below.refl _ _).alloc (Nat.le_refl _) _).alloc (by simp) _))).mono ?_; rintro e vb ⟨A5, _, d5, A6, _, d6, rfl, rfl, rfl, C5, C6, hbb⟩; (first | (with_reducible have q4 := al2 (u := va) hbb) | (with_reducible have q3 := al1 (u := va) hbb) | (with_reducible have h2 : Below va.heap.size va vb := hbb)); (first | (obtain ⟨h2, o3, o4⟩ := q4) | (obtain ⟨h2, o3⟩ := q3) | skip); have H2 := H1.trans (h2.mono H1.size); have s2 := H2.size; have s3 := h2.size; have C0 := C6.mono (Nat.zero_le _); have NB := Lib.hid (can_block C6); (try simp only [sz_al] at NB); (try (replace o1 := o1.later h2)); (try (obtain ⟨o1a, o1b, o1c, o1d, o1e⟩ := id o1)); (try (replace o2 := o2.later h2)); (try (obtain ⟨o2a, o2b, o2c, o2d, o2e⟩ := id o2)); (try (obtain ⟨o3a, o3b, o3c, o3d, o3e⟩ := id o3)); (try (obtain ⟨o4a, o4b, o4c, o4d, o4e⟩ := id o4))))
    all_goals (go_wp2_with fail; go_meet)
    all_goals exact ⟨_, A6, d6, rfl, rfl, by ((repeat' (first | with_reducible exact H2 | (with_reducible refine Below.setCell ?_ ?_ _) | (with_reducible refine Below.alloc ?_ ?_ _) | (with_reducible refine below_drew ?_))); all_goals (first | omega | (dsimp only; omega) | (simp only [World.size_setCell, sz_al]; done) | (simp only [World.size_setCell, sz_al]; omega) | (dsimp only; simp only [World.size_setCell, sz_al]; omega))), by ((repeat' (first | with_reducible exact o1 | with_reducible exact o2 | with_reducible exact o3 | with_reducible exact o4 | (with_reducible refine Bx.set (a0 := .bool false) (a1 := .slice none 0 0) ?_ _ _) | (with_reducible refine Bx.off ?_ ?_ _ _) | (with_reducible refine bx_at ?_) | (with_reducible refine Bx.al ?_))); all_goals (first | omega | (dsimp only; omega) | (simp only [World.size_setCell, sz_al]; done) | (simp only [World.size_setCell, sz_al]; omega) | (dsimp only; simp only [World.size_setCell, sz_al]; omega))), by ((repeat' (first | with_reducible exact C0 | (with_reducible refine CanAt.apart2 ?_ _ ?_ _ _) | (with_reducible refine CanAt.al ?_))); all_goals (intro h0 ad ha; have := NB.out h0 ad ha; omega))⟩
  case rest =>
  obtain ⟨nb, Ar, cr, rfl, rfl, hcB, Ks, Cs⟩ := hcut
  obtain ⟨wc2, hwe⟩ : ∃ u, u = wc := ⟨_, rfl⟩
  subst hwe
  clear H1 H2 HPK q0a q1a f0a f1a qla
  replace hz := hz.trans (hcB.mono hz.size)
  replace Ka := Ka.later hcB
  replace Kb := Kb.later hcB
  replace Ia := Ia.later hcB
  replace Ib := Ib.later hcB
  clear hcB
  obtain ⟨q0a, q1a, f0a, f1a, qla⟩ := id Ka
  go_wp2_with fail
  go_at_call 39
  refine (hRest _ hz).mono ?_
  rintro e v12 ⟨rfl, hb⟩
  clear q0a q1a f0a f1a qla
  replace hz := hz.trans (hb.mono hz.size)
  replace Ka := Ka.later hb
  replace Kb := Kb.later hb
  replace Ks := Ks.later hb
  replace Ia := Ia.later hb
  replace Ib := Ib.later hb
  replace Cs := Cs.later hb
  clear hb
  go_wp2_with fail
  have H1 : Below v12.heap.size v12 v12 := Below.refl _ _
  have H2 := H1
  have H3 := H1
  have HPK : ∀ W, Below v12.heap.size v12 W → (W.cell? ⟨nb, 0, none⟩ = some (.bool (cb (some T))) ∧ W.cell? ⟨nb, 1, none⟩ = some (.slice Ar (cz (some T)).length cr) ∧ nb < W.heap.size) := fun W h => by
    obtain ⟨d1, d2, d3, d4, d5⟩ := Ks.later h
    exact ⟨d1, d2, d5⟩
  obtain ⟨q0s, q1s, f0s, f1s, qls⟩ := id Ks
  go_region_held3 (fun W => W.cell? ⟨nb, 0, none⟩ = some (.bool (cb (some T))) ∧ W.cell? ⟨nb, 1, none⟩ = some (.slice Ar (cz (some T)).length cr) ∧ nb < W.heap.size) (first | with_reducible exact HPK _ H3 | with_reducible exact HPK _ H2 | with_reducible exact HPK _ H1 | exact HPK _ (below_drew (Below.refl _ _))) (first
    | (go_at_call 33; refine (hOk _).mono ?_; rintro e va ⟨Ao, _, co, rfl, rfl, Co, hba⟩; first | (with_reducible have H1 := al0 (u := v12) hba) | (with_reducible have H1 : Below v12.heap.size v12 va := hba))
    | (go_at_call 18; refine (same_ok (cb (some T)) Ar Ao cr co (cz (some T)) _ (Cs.later H1).2.2.rd Co.2.2.rd Cs.1 Cs.2.1 Co.1 Co.2.1).mono ?_; rintro e vb ⟨rfl, hbb⟩; have H2 := H1.trans (hbb.mono H1.size))
    | (go_at_call 12; refine (wawake_ok _).mono ?_; rintro e vc ⟨rfl, hbc⟩; have H3 := H2.trans (hbc.mono H2.size)))
  all_goals (go_wp2; go_ret; exact ⟨rfl, hz.trans (H3.mono hz.size)⟩)

set_option maxHeartbeats 4000000 in
theorem splits_neg_full (b1 b2 : Bool) (A B : Option Addr) (n1 c1 n2 c2 : Nat) (X Y m : Int) (w : World) (Ia : IsI w b1 A n1 c1 X) (Ib : IsI w b2 B n2 c2 Y) (hn1 : n1 ≤ 80) (hn2 : n2 ≤ 80) (hY : Y < 0) (hm1 : 1 ≤ m) (hm2 : m ≤ 4611686018427387904) (hRest : ∀ W, Below w.heap.size w W → Calls Tryd.prog 39 #[.agg #[.bool b1, .slice A n1 c1], .int .i64 m] W fun e w' => e = .returned (.tuple #[.int .i64 (dr X m), .int .i64 0]) ∧ Below W.heap.size W w') :
    Calls Tryd.prog 10 #[.agg #[.bool b1, .slice A n1 c1], .agg #[.bool b2, .slice B n2 c2], .int .i64 m] w fun e w' => e = .returned (.bool true) ∧ Below w.heap.size w w' := by
  obtain ⟨W1, hW1⟩ : ∃ W1, w.alloc (.cells #[.bool b1, .slice A n1 c1] 24) = W1 := ⟨_, rfl⟩
  obtain ⟨hz1, Ka⟩ := bx_new w _ _ W1 hW1
  obtain ⟨W0, hW0⟩ : ∃ W0, W1.alloc (.cells #[.bool b2, .slice B n2 c2] 24) = W0 := ⟨_, rfl⟩
  obtain ⟨hz2, Kb⟩ := bx_new W1 _ _ W0 hW0
  have hs1 : W1.heap.size = w.heap.size + 1 := by rw [← hW1]; simp
  rw [hs1] at Kb
  have hz := hz1.trans (hz2.mono hz1.size)
  replace Ka := Ka.later hz2
  rw [← hW1] at hW0
  clear hz1 hz2 hs1 hW1
  replace Ia := Ia.later hz
  replace Ib := Ib.later hz
  have hT := dr_pos (X := X) (Y := m) (by omega)
  have sM : Sm m 2 := sm_two hm1 hm2
  have hDM := fun (W : World) (B' : Option Addr) (n' c' : Nat) (bb : Bool) (h : IsI W b1 A n1 c1 X) (h' : IsI W bb B' n' c' m) => vDivide h h' (Ia.sm.mono hn1) sM (by omega) (by omega) (by omega)
  have sT : Sm (dr X m) 2 := dr_sm (by omega) sM
  have sT7 : Sm (dr X m) 257 := sT.mono (by omega)
  obtain ⟨T, hTe⟩ : ∃ T, dr X m = T := ⟨_, rfl⟩
  rw [hTe] at hT hDM hRest sT sT7
  generalize dq X m = U at hDM
  clear hTe
  obtain ⟨hT0, hT1⟩ := hT
  have hmd1 : decide (m < 1) = false := decide_eq_false (by omega)
  have hmd2 : decide (4611686018427387904 < m) = false := decide_eq_false (by omega)
  have hmd3 : decide (0 ≤ T) = true := decide_eq_true hT0
  have hmd4 : decide (T < m) = true := decide_eq_true hT1
  have hOf := fun W => vOf m W (by omega)
  have hOk := fun W => vOf T W (by omega)
  clear hm1 hm2 hT0 hT1
  have sX := Ia.sm.mono hn1
  have sY := Ib.sm.mono hn2
  have hid := dv_id X Y
  have hdr := dr_neg (X := X) hY
  have hY0 : Y ≠ 0 := by omega
  have sQ : Sm (dq X Y) 80 := dq_sm sX
  have sR : Sm (dr X Y) 80 := dr_sm hY0 sY
  have hDV := fun (W : World) (h : IsI W b1 A n1 c1 X) (h' : IsI W b2 B n2 c2 Y) => vDivide h h' sX sY (by omega) (by omega) hY0
  obtain ⟨Q, hQ⟩ : ∃ Q, dq X Y = Q := ⟨_, rfl⟩
  obtain ⟨R, hR⟩ : ∃ R, dr X Y = R := ⟨_, rfl⟩
  rw [hQ, hR] at hid hDV
  rw [hQ] at sQ
  rw [hR] at sR hdr
  obtain ⟨hdr1, hdr2⟩ := hdr
  clear hQ hR
  have hQY : ∃ P, Q * Y = P := ⟨_, rfl⟩
  obtain ⟨P, hP⟩ := hQY
  have sP : Sm P 160 := by rw [← hP]; exact (sQ.mul sY).mono (by omega)
  have HP := Lib.hid hP
  have HI := Lib.hid (show P + R = X by rw [← hP]; exact hid)
  clear hP hid
  have hF1 := fun W => few_ok b1 A c1 n1 W
  have hF2 := fun W => few_ok b2 B c2 n2 W
  rw [decide_eq_true hn1] at hF1
  rw [decide_eq_true hn2] at hF2
  go_enter Tryd.func10, Tryd.ntmps10
  obtain ⟨q0a, q1a, f0a, f1a, qla⟩ := id Ka
  go_wp2_with fail
  go_at_call 11
  refine (hF1 _).mono ?_
  rintro e v1 ⟨rfl, hb⟩
  clear q0a q1a f0a f1a qla
  replace hz := hz.trans (hb.mono hz.size)
  replace Ka := Ka.later hb
  replace Kb := Kb.later hb
  replace Ia := Ia.later hb
  replace Ib := Ib.later hb
  clear hb
  obtain ⟨q0b, q1b, f0b, f1b, qlb⟩ := id Kb
  go_wp2_with fail
  go_at_call 11
  refine (hF2 _).mono ?_
  rintro e v2 ⟨rfl, hb⟩
  clear q0b q1b f0b f1b qlb
  replace hz := hz.trans (hb.mono hz.size)
  replace Ka := Ka.later hb
  replace Kb := Kb.later hb
  replace Ia := Ia.later hb
  replace Ib := Ib.later hb
  clear hb
  clear hF1 hF2
  obtain ⟨q0b, q1b, f0b, f1b, qlb⟩ := id Kb
  go_wp2_with fail
  go_at_call 13
  refine (vCmpIs Ib (isI_zero _) (cmp3_lt hY)).mono ?_
  rintro e v3 ⟨rfl, hb⟩
  clear q0b q1b f0b f1b qlb
  replace hz := hz.trans (hb.mono hz.size)
  replace Ka := Ka.later hb
  replace Kb := Kb.later hb
  replace Ia := Ia.later hb
  replace Ib := Ib.later hb
  clear hb
  obtain ⟨q0a, q1a, f0a, f1a, qla⟩ := id Ka
  obtain ⟨q0b, q1b, f0b, f1b, qlb⟩ := id Kb
  go_wp2_with fail
  go_at_call 41
  refine (hDV _ Ia Ib).mono ?_
  rintro e v4 ⟨Aq, nq, cq, Ar, nr, cr, rfl, hnq, hnr, Cq, Cr, hb⟩
  clear q0a q1a f0a f1a qla
  clear q0b q1b f0b f1b qlb
  replace hz := hz.trans (hb.mono hz.size)
  replace Ka := Ka.later hb
  replace Kb := Kb.later hb
  replace Ia := Ia.later hb
  replace Ib := Ib.later hb
  clear hb
  have Iq := Cq.isI hnq (sQ.mono (by omega))
  have Ir := Cr.isI hnr (sR.mono (by omega))
  clear Cq Cr hnq hnr hDV
  obtain ⟨uq, huq⟩ : ∃ u, (v4.alloc (.cells #[.bool (cb (some Q)), .slice Aq nq cq] 24)).alloc (.cells #[.bool (cb (some R)), .slice Ar nr cr] 24) = u := ⟨_, rfl⟩
  obtain ⟨hx, Kq⟩ := bx_new v4 (.bool (cb (some Q))) (.slice Aq nq cq) _ rfl
  obtain ⟨hy, Kr⟩ := bx_new (v4.alloc (.cells #[.bool (cb (some Q)), .slice Aq nq cq] 24)) (.bool (cb (some R))) (.slice Ar nr cr) uq huq
  have hszq : (v4.alloc (.cells #[.bool (cb (some Q)), .slice Aq nq cq] 24)).heap.size = v4.heap.size + 1 := by simp
  rw [hszq] at Kr
  clear hszq
  replace Kq := Kq.later hy
  replace hx := hx.trans (hy.mono hx.size)
  clear hy
  replace hz := hz.trans (hx.mono hz.size)
  replace Ka := Ka.later hx
  replace Kb := Kb.later hx
  replace Ia := Ia.later hx
  replace Ib := Ib.later hx
  replace Iq := Iq.later hx
  replace Ir := Ir.later hx
  clear hx
  have hT := vTimes2 Iq Ib sQ sY (by omega)
  rw [HP.out] at hT
  obtain ⟨q0q, q1q, f0q, f1q, qlq⟩ := id Kq
  obtain ⟨q0b, q1b, f0b, f1b, qlb⟩ := id Kb
  go_wp2_with fail
  go_at_call 32
  refine (hT).mono ?_
  rintro e v5 ⟨Ap, np, cp, rfl, hnp, Cp, hb⟩
  clear q0q q1q f0q f1q qlq
  clear q0b q1b f0b f1b qlb
  replace hz := hz.trans (hb.mono hz.size)
  replace Ka := Ka.later hb
  replace Kb := Kb.later hb
  replace Kq := Kq.later hb
  replace Kr := Kr.later hb
  replace Ia := Ia.later hb
  replace Ib := Ib.later hb
  replace Iq := Iq.later hb
  replace Ir := Ir.later hb
  clear hb
  have Ip := Cp.isI hnp (sP.mono (by omega))
  clear Cp hnp hT
  clear Kq Iq HP
  obtain ⟨up, hup⟩ : ∃ u, v5.alloc (.cells #[.bool (cb (some P)), .slice Ap np cp] 24) = u := ⟨_, rfl⟩
  obtain ⟨hx, Kp⟩ := bx_new v5 _ _ up hup
  replace hz := hz.trans (hx.mono hz.size)
  replace Ka := Ka.later hx
  replace Kb := Kb.later hx
  replace Kr := Kr.later hx
  replace Ia := Ia.later hx
  replace Ib := Ib.later hx
  replace Ir := Ir.later hx
  replace Ip := Ip.later hx
  clear hx
  have hT := vSum Ip Ir sP (sR.mono (by omega)) (by omega)
  rw [HI.out] at hT
  obtain ⟨q0p, q1p, f0p, f1p, qlp⟩ := id Kp
  obtain ⟨q0r, q1r, f0r, f1r, qlr⟩ := id Kr
  go_wp2_with fail
  go_at_call 15
  refine (hT).mono ?_
  rintro e v6 ⟨Ax, nx, cx, rfl, hnx, Cx, hb⟩
  clear q0p q1p f0p f1p qlp
  clear q0r q1r f0r f1r qlr
  replace hz := hz.trans (hb.mono hz.size)
  replace Ka := Ka.later hb
  replace Kb := Kb.later hb
  replace Kr := Kr.later hb
  replace Kp := Kp.later hb
  replace Ia := Ia.later hb
  replace Ib := Ib.later hb
  replace Ir := Ir.later hb
  replace Ip := Ip.later hb
  clear hb
  have Ix := Cx.isI hnx (sX.mono (by omega))
  clear Cx hnx hT HI
  clear Kp Ip
  obtain ⟨ux, hux⟩ : ∃ u, v6.alloc (.cells #[.bool (cb (some X)), .slice Ax nx cx] 24) = u := ⟨_, rfl⟩
  obtain ⟨hx, Kx⟩ := bx_new v6 _ _ ux hux
  replace hz := hz.trans (hx.mono hz.size)
  replace Ka := Ka.later hx
  replace Kb := Kb.later hx
  replace Kr := Kr.later hx
  replace Ia := Ia.later hx
  replace Ib := Ib.later hx
  replace Ir := Ir.later hx
  replace Ix := Ix.later hx
  clear hx
  obtain ⟨q0x, q1x, f0x, f1x, qlx⟩ := id Kx
  obtain ⟨q0a, q1a, f0a, f1a, qla⟩ := id Ka
  go_wp2_with fail
  go_at_call 13
  refine (vCmpIs Ix Ia (cmp3_eq X)).mono ?_
  rintro e v7 ⟨rfl, hb⟩
  clear q0x q1x f0x f1x qlx
  clear q0a q1a f0a f1a qla
  replace hz := hz.trans (hb.mono hz.size)
  replace Ka := Ka.later hb
  replace Kb := Kb.later hb
  replace Kr := Kr.later hb
  replace Kx := Kx.later hb
  replace Ia := Ia.later hb
  replace Ib := Ib.later hb
  replace Ir := Ir.later hb
  replace Ix := Ix.later hb
  clear hb
  clear Kx Ix
  obtain ⟨q0b, q1b, f0b, f1b, qlb⟩ := id Kb
  go_wp2_with fail
  go_at_call 13
  refine (vCmpIs Ib (isI_zero _) (cmp3_lt hY)).mono ?_
  rintro e v8 ⟨rfl, hb⟩
  clear q0b q1b f0b f1b qlb
  replace hz := hz.trans (hb.mono hz.size)
  replace Ka := Ka.later hb
  replace Kb := Kb.later hb
  replace Kr := Kr.later hb
  replace Ia := Ia.later hb
  replace Ib := Ib.later hb
  replace Ir := Ir.later hb
  clear hb
  obtain ⟨q0b, q1b, f0b, f1b, qlb⟩ := id Kb
  go_wp2_with fail
  go_at_call 13
  refine (vCmpIs Ib (isI_zero _) (cmp3_lt hY)).mono ?_
  rintro e v9 ⟨rfl, hb⟩
  clear q0b q1b f0b f1b qlb
  replace hz := hz.trans (hb.mono hz.size)
  replace Ka := Ka.later hb
  replace Kb := Kb.later hb
  replace Kr := Kr.later hb
  replace Ia := Ia.later hb
  replace Ib := Ib.later hb
  replace Ir := Ir.later hb
  clear hb
  obtain ⟨q0r, q1r, f0r, f1r, qlr⟩ := id Kr
  go_wp2_with fail
  go_at_call 13
  refine (vCmpNP Ir (isI_zero _) hdr1).mono ?_
  rintro e v10 ⟨k, hk0, hk1, rfl, hb⟩
  clear q0r q1r f0r f1r qlr
  replace hz := hz.trans (hb.mono hz.size)
  replace Ka := Ka.later hb
  replace Kb := Kb.later hb
  replace Kr := Kr.later hb
  replace Ia := Ia.later hb
  replace Ib := Ib.later hb
  replace Ir := Ir.later hb
  clear hb
  have hkd : decide (0 < k) = false := decide_eq_false (by clear hz Ka Kb Kr Ia Ib Ir; omega)
  clear hk0 hk1
  obtain ⟨q0r, q1r, f0r, f1r, qlr⟩ := id Kr
  obtain ⟨q0b, q1b, f0b, f1b, qlb⟩ := id Kb
  go_wp2_with fail
  go_at_call 13
  refine (vCmpIs Ir Ib (cmp3_gt hdr2)).mono ?_
  rintro e v11 ⟨rfl, hb⟩
  clear q0r q1r f0r f1r qlr
  clear q0b q1b f0b f1b qlb
  replace hz := hz.trans (hb.mono hz.size)
  replace Ka := Ka.later hb
  replace Kb := Kb.later hb
  replace Kr := Kr.later hb
  replace Ia := Ia.later hb
  replace Ib := Ib.later hb
  replace Ir := Ir.later hb
  clear hb
  clear Kr Ir
  obtain ⟨q0a, q1a, f0a, f1a, qla⟩ := id Ka
  go_wp2_with fail
  have H0 : Below v11.heap.size v11 v11 := Below.refl _ _
  have HPK : ∀ W, Below v11.heap.size v11 W → (W.cell? ⟨w.heap.size, 0, none⟩ = some (.bool b1) ∧ W.cell? ⟨w.heap.size, 1, none⟩ = some (.slice A n1 c1) ∧ w.heap.size < W.heap.size) := fun W h => by
    obtain ⟨d1, d2, d3, d4, d5⟩ := Ka.later h
    exact ⟨d1, d2, d5⟩
  have H1 : Below v11.heap.size v11 v11 := Below.refl _ _
  have H2 := H1
  go_upto_region 18 with fail
  go_cut [20, 21] (fun sa sb wx => ∃ (nb : Nat) (Ar : Option Addr) (cr : Nat), sa = .pointer (some ⟨nb, 0, none⟩) ∧ sb = .int .i64 0 ∧ Below v11.heap.size v11 wx ∧ Bx nb (.bool (cb (some T))) (.slice Ar (cz (some T)).length cr) wx ∧ CanAt wx 0 (some T) Ar cr)
  case first =>
    go_region_held3 (fun W => W.cell? ⟨w.heap.size, 0, none⟩ = some (.bool b1) ∧ W.cell? ⟨w.heap.size, 1, none⟩ = some (.slice A n1 c1) ∧ w.heap.size < W.heap.size) (first | (refine HPK _ ?_; (repeat' (first | with_reducible exact H2 | with_reducible exact H1 | with_reducible exact Below.refl _ _ | (with_reducible refine Below.setCell ?_ ?_ _) | (with_reducible refine Below.alloc ?_ ?_ _) | (with_reducible refine below_drew ?_))); all_goals (first | omega | (simp; done) | (simp; omega)))) (first
        | (go_at_call 33; refine (hOf _).mono ?_; rintro e va ⟨Ao, _, co, rfl, rfl, Co, hba⟩; (first | (with_reducible have q2 := al2 (u := v11) (al0 hba)) | (with_reducible have q2 := al2 (u := v11) hba) | (with_reducible have q1 := al1 (u := v11) (al0 hba)) | (with_reducible have q1 := al1 (u := v11) hba) | (with_reducible have H1 := al0 (u := v11) hba) | (with_reducible have H1 : Below v11.heap.size v11 va := hba)); (first | (obtain ⟨H1, o1, o2⟩ := q2) | (obtain ⟨H1, o1⟩ := q1) | skip); have s1 := H1.size; (try (obtain ⟨o1a, o1b, o1c, o1d, o1e⟩ := id o1)); (try (obtain ⟨o2a, o2b, o2c, o2d, o2e⟩ := id o2)))
        | (go_at_call 41; refine (hDM _ Ao _ co (cb (some m)) (Ia.later (by first | with_reducible exact H1 | with_reducible exact H1.alloc H1.size _ | with_reducible exact (H1.alloc H1.size _).alloc (by simp; omega) _)) ((Co.isI rfl (sM.mono (by omega))).later (by first | with_reducible exact Below.refl _ _ | with_reducible exact (Below.refl _ _).alloc (Nat.le_refl _) _ | with_reducible exact ((Below.refl _ _).alloc (Nat.le_refl _) _).alloc (by simp) _))).mono ?_; rintro e vb ⟨A5, _, d5, A6, _, d6, rfl, rfl, rfl, C5, C6, hbb⟩; (first | (with_reducible have q4 := al2 (u := va) hbb) | (with_reducible have q3 := al1 (u := va) hbb) | (with_reducible have h2 : Below va.heap.size va vb := hbb)); (first | (obtain ⟨h2, o3, o4⟩ := q4) | (obtain ⟨h2, o3⟩ := q3) | skip); have H2 := H1.trans (h2.mono H1.size); have s2 := H2.size; have s3 := h2.size; have C0 := C6.mono (Nat.zero_le _); have NB := Lib.hid (can_block C6); (try simp only [sz_al] at NB); (try (replace o1 := o1.later h2)); (try (obtain ⟨o1a, o1b, o1c, o1d, o1e⟩ := id o1)); (try (replace o2 := o2.later h2)); (try (obtain ⟨o2a, o2b, o2c, o2d, o2e⟩ := id o2)); (try (obtain ⟨o3a, o3b, o3c, o3d, o3e⟩ := id o3)); (try (obtain ⟨o4a, o4b, o4c, o4d, o4e⟩ := id o4))))
    all_goals (go_wp2_with fail; go_meet)
    all_goals exact ⟨_, A6, d6, rfl, rfl, by ((repeat' (first | with_reducible exact H2 | (with_reducible refine Below.setCell ?_ ?_ _) | (with_reducible refine Below.alloc ?_ ?_ _) | (with_reducible refine below_drew ?_))); all_goals (first | omega | (dsimp only; omega) | (simp only [World.size_setCell, sz_al]; done) | (simp only [World.size_setCell, sz_al]; omega) | (dsimp only; simp only [World.size_setCell, sz_al]; omega))), by ((repeat' (first | with_reducible exact o1 | with_reducible exact o2 | with_reducible exact o3 | with_reducible exact o4 | (with_reducible refine Bx.set (a0 := .bool false) (a1 := .slice none 0 0) ?_ _ _) | (with_reducible refine Bx.off ?_ ?_ _ _) | (with_reducible refine bx_at ?_) | (with_reducible refine Bx.al ?_))); all_goals (first | omega | (dsimp only; omega) | (simp only [World.size_setCell, sz_al]; done) | (simp only [World.size_setCell, sz_al]; omega) | (dsimp only; simp only [World.size_setCell, sz_al]; omega))), by ((repeat' (first | with_reducible exact C0 | (with_reducible refine CanAt.apart2 ?_ _ ?_ _ _) | (with_reducible refine CanAt.al ?_))); all_goals (intro h0 ad ha; have := NB.out h0 ad ha; omega))⟩
  case rest =>
  obtain ⟨nb, Ar, cr, rfl, rfl, hcB, Ks, Cs⟩ := hcut
  obtain ⟨wc2, hwe⟩ : ∃ u, u = wc := ⟨_, rfl⟩
  subst hwe
  clear H1 H2 HPK q0a q1a f0a f1a qla
  replace hz := hz.trans (hcB.mono hz.size)
  replace Ka := Ka.later hcB
  replace Kb := Kb.later hcB
  replace Ia := Ia.later hcB
  replace Ib := Ib.later hcB
  clear hcB
  obtain ⟨q0a, q1a, f0a, f1a, qla⟩ := id Ka
  go_wp2_with fail
  go_at_call 39
  refine (hRest _ hz).mono ?_
  rintro e v12 ⟨rfl, hb⟩
  clear q0a q1a f0a f1a qla
  replace hz := hz.trans (hb.mono hz.size)
  replace Ka := Ka.later hb
  replace Kb := Kb.later hb
  replace Ks := Ks.later hb
  replace Ia := Ia.later hb
  replace Ib := Ib.later hb
  replace Cs := Cs.later hb
  clear hb
  go_wp2_with fail
  have H1 : Below v12.heap.size v12 v12 := Below.refl _ _
  have H2 := H1
  have H3 := H1
  have HPK : ∀ W, Below v12.heap.size v12 W → (W.cell? ⟨nb, 0, none⟩ = some (.bool (cb (some T))) ∧ W.cell? ⟨nb, 1, none⟩ = some (.slice Ar (cz (some T)).length cr) ∧ nb < W.heap.size) := fun W h => by
    obtain ⟨d1, d2, d3, d4, d5⟩ := Ks.later h
    exact ⟨d1, d2, d5⟩
  obtain ⟨q0s, q1s, f0s, f1s, qls⟩ := id Ks
  go_region_held3 (fun W => W.cell? ⟨nb, 0, none⟩ = some (.bool (cb (some T))) ∧ W.cell? ⟨nb, 1, none⟩ = some (.slice Ar (cz (some T)).length cr) ∧ nb < W.heap.size) (first | with_reducible exact HPK _ H3 | with_reducible exact HPK _ H2 | with_reducible exact HPK _ H1 | exact HPK _ (below_drew (Below.refl _ _))) (first
    | (go_at_call 33; refine (hOk _).mono ?_; rintro e va ⟨Ao, _, co, rfl, rfl, Co, hba⟩; first | (with_reducible have H1 := al0 (u := v12) hba) | (with_reducible have H1 : Below v12.heap.size v12 va := hba))
    | (go_at_call 18; refine (same_ok (cb (some T)) Ar Ao cr co (cz (some T)) _ (Cs.later H1).2.2.rd Co.2.2.rd Cs.1 Cs.2.1 Co.1 Co.2.1).mono ?_; rintro e vb ⟨rfl, hbb⟩; have H2 := H1.trans (hbb.mono H1.size))
    | (go_at_call 12; refine (wawake_ok _).mono ?_; rintro e vc ⟨rfl, hbc⟩; have H3 := H2.trans (hbc.mono H2.size)))
  all_goals (go_wp2; go_ret; exact ⟨rfl, hz.trans (H3.mono hz.size)⟩)

set_option maxHeartbeats 2000000 in
theorem lawSplits_any (b1 : Bool) (A : Option Addr) (c1 : Nat) (us : List U32) (b2 : Bool) (B : Option Addr) (c2 : Nat) (vs : List U32) (m : Int) (w : World)
    (hr : RdI w .u32 A (vals us)) (hl : us.length ≤ c1) (hc : c1 ≤ maxLen) (hr2 : RdI w .u32 B (vals vs)) (hl2 : vs.length ≤ c2) (hc2 : c2 ≤ maxLen) (hm : -9223372036854775808 ≤ m ∧ m ≤ 9223372036854775807) :
    Calls Tryd.prog 10 #[.agg #[.bool b1, .slice A us.length c1], .agg #[.bool b2, .slice B vs.length c2], .int .i64 m] w fun e w' => e = .returned (.bool true) ∧ Below w.heap.size w w' := by
  have hc : c1 ≤ 9223372036854775807 := hc
  have hc2 : c2 ≤ 9223372036854775807 := hc2
  by_cases f1 : us.length ≤ 80
  · by_cases f2 : vs.length ≤ 80
    · have Ia : IsI w b1 A us.length c1 (valI b1 (vals us)) := ⟨vals us, (vals_length us).symm, hr, us_w32s us, by rw [vals_length]; exact hl, hc, by rw [vals_length]; omega, rfl⟩
      have Ib : IsI w b2 B vs.length c2 (valI b2 (vals vs)) := ⟨vals vs, (vals_length vs).symm, hr2, us_w32s vs, by rw [vals_length]; exact hl2, hc2, by rw [vals_length]; omega, rfl⟩
      have hRest : 1 ≤ m → m ≤ 4611686018427387904 → ∀ W, Below w.heap.size w W → Calls Tryd.prog 39 #[.agg #[.bool b1, .slice A us.length c1], .int .i64 m] W fun e w' => e = .returned (.tuple #[.int .i64 (dr (valI b1 (vals us)) m), .int .i64 0]) ∧ Below W.heap.size W w' := by
        intro h1 h2 W hb
        have := rest_any b1 A c1 us m W (hr.later hb) hl hc h1 h2
        rw [rest_num b1 m _ h1, ← valI_cases] at this
        exact this
      generalize valI b1 (vals us) = X at *
      generalize valI b2 (vals vs) = Y at *
      rcases Int.lt_trichotomy Y 0 with hY | hY | hY
      · by_cases h1 : m < 1
        · exact splits_neg_low _ _ _ _ _ _ _ _ X Y m w Ia Ib f1 f2 hY h1
        · by_cases h2 : 4611686018427387904 < m
          · exact splits_neg_high _ _ _ _ _ _ _ _ X Y m w Ia Ib f1 f2 hY h2
          · exact splits_neg_full _ _ _ _ _ _ _ _ X Y m w Ia Ib f1 f2 hY (Int.not_lt.1 h1) (Int.not_lt.1 h2) (hRest (Int.not_lt.1 h1) (Int.not_lt.1 h2))
      · exact splits_zero _ _ _ _ _ _ _ _ X Y m w Ia Ib f1 f2 hY
      · by_cases h1 : m < 1
        · exact splits_pos_low _ _ _ _ _ _ _ _ X Y m w Ia Ib f1 f2 hY h1
        · by_cases h2 : 4611686018427387904 < m
          · exact splits_pos_high _ _ _ _ _ _ _ _ X Y m w Ia Ib f1 f2 hY h2
          · exact splits_pos_full _ _ _ _ _ _ _ _ X Y m w Ia Ib f1 f2 hY (Int.not_lt.1 h1) (Int.not_lt.1 h2) (hRest (Int.not_lt.1 h1) (Int.not_lt.1 h2))
    · exact splits_big2 _ _ _ _ _ _ _ _ m w f1 f2
  · exact splits_big1 _ _ _ _ _ _ _ _ m w f1
end Go.Proofs.YtegdbcnloodljaaDoor
