/- The reference's Mul, Compare (chapter 1). -/
import Derived.Test.YtegdbcnloodljaaDoorR7
import Derived.Deep.RegionHeld3
namespace Go.Proofs.YtegdbcnloodljaaDoor
set_option linter.unusedVariables false
set_option linter.unusedSimpArgs false
open Go.RowKit
set_option maxRecDepth 1000000

theorem low_set {w : World} {W : World} (h : Below w.heap.size w W) (k : Nat) (hk : w.heap.size ≤ k) (x y : Value) : Below w.heap.size w ((W.setCell ⟨k, 0, none⟩ x).setCell ⟨k, 1, none⟩ y) := (h.setCell (p := ⟨k, 0, none⟩) hk _).setCell (p := ⟨k, 1, none⟩) hk _
theorem CanAt.two {w : World} {base : Nat} {O : Option Int} {A : Option Addr} {c : Nat} (h : CanAt w base O A c) (k : Nat) (hk : k < base) (x y : Value) : CanAt ((w.setCell ⟨k, 0, none⟩ x).setCell ⟨k, 1, none⟩ y) base O A c := (h.setCell (p := ⟨k, 0, none⟩) hk _).setCell (p := ⟨k, 1, none⟩) hk _

theorem mulO_keep' {X Y : Int} (h1 : big X = false) (h2 : big Y = false) : mulO X Y = keepO (X * Y) := mulO_keep h1 h2
set_option maxHeartbeats 4000000 in
theorem refMul_ok (b1 b2 : Bool) (A B : Option Addr) (c d : Nat) (xs ys : List Int) (w : World) (hX : W32 xs) (hY : W32 ys) (hr : RdI w .u32 A xs) (hs : RdI w .u32 B ys) (hl : xs.length ≤ c) (hc : c ≤ 9223372036854775807) (hl2 : ys.length ≤ d) (hd : d ≤ 9223372036854775807) (hm : xs.length ≤ 400000) (hm2 : ys.length ≤ 400000) :
    Calls Tryd.prog 28 #[.agg #[.bool b1, .slice A xs.length c], .agg #[.bool b2, .slice B ys.length d]] w (RetO w (mulO (valI b1 xs) (valI b2 ys))) := by
  obtain ⟨W0, hW0⟩ : ∃ W0, ((w.alloc (.cells #[.bool b1, .slice A xs.length c] 24)).alloc (.cells #[.bool b2, .slice B ys.length d] 24)).alloc (.cells #[.bool false, .slice none 0 0] 24) = W0 := ⟨_, rfl⟩
  have hw0 : Below w.heap.size w W0 := by rw [← hW0]; exact (((Below.refl _ _).alloc (Nat.le_refl _) _).alloc (by simp) _).alloc (by simp; omega) _
  have hb3 : B3 w (.bool b1) (.slice A xs.length c) (.bool b2) (.slice B ys.length d) W0 := by rw [← hW0]; exact b3_new w _ _ _ _
  have hL1 := fun W (hb : Below w.heap.size w W) => refLong_ok b1 A c xs W hX (hr.later hb) hl hc (by omega)
  have hL2 := fun W (hb : Below w.heap.size w W) => refLong_ok b2 B d ys W hY (hs.later hb) hl2 hd (by omega)
  have hF1 := fun W (hb : Below w.heap.size w W) => refForm_can b1 A c xs W hX (hr.later hb) hl hc (by omega)
  have hF2 := fun W (hb : Below w.heap.size w W) => refForm_can b2 B d ys W hY (hs.later hb) hl2 hd (by omega)
  generalize valI b1 xs = X at *
  generalize valI b2 ys = Y at *
  clear hX hY hr hs
  have hb3' := hb3
  obtain ⟨k1, k2, k3, k4, k5, k6, k7, k8, k9, k10, k11, k12, k13⟩ := hb3'
  cases h1 : big X with
  | true =>
    rw [mulO, h1, Bool.true_or, Bool.true_or, if_pos rfl]
    rw [h1] at hL1
    go_enter Tryd.func28, Tryd.ntmps28
    go_wp2_with fail
    go_at_call 64
    refine (hL1 _ hw0).mono ?_
    rintro e w1 ⟨rfl, hb1⟩
    have hB1 := hw0.trans (hb1.mono hw0.size)
    have hb31 := hb3.later hb1
    clear hb3 k1 k2 k3 k4 k5 k6 k7 k8 k9 k10 k11 k12 k13
    have hb31' := hb31
    obtain ⟨g1, g2, g3, g4, g5, g6, g7, g8, g9, g10, g11, g12, g13⟩ := hb31'
    go_wp2
    exact bodyPost_ret (v := none3) (by simp [results, none3, Tryd.results28, go_sem, g5, g6, g13]) rfl ⟨none, 0, rfl, can_none _ _, (hB1.setCell (p := ⟨w.heap.size + 1 + 1, 0, none⟩) (by simp; omega) _).setCell (p := ⟨w.heap.size + 1 + 1, 1, none⟩) (by simp; omega) _⟩
  | false =>
  rw [h1] at hL1
  cases h2 : big Y with
  | true =>
    rw [mulO, h1, h2, Bool.false_or, Bool.true_or, if_pos rfl]
    rw [h2] at hL2
    go_enter Tryd.func28, Tryd.ntmps28
    go_wp2_with fail
    go_at_call 64
    refine (hL1 _ hw0).mono ?_
    rintro e w1 ⟨rfl, hb1⟩
    have hB1 := hw0.trans (hb1.mono hw0.size)
    have hb31 := hb3.later hb1
    clear hb3 k1 k2 k3 k4 k5 k6 k7 k8 k9 k10 k11 k12 k13
    have hb31' := hb31
    obtain ⟨g1, g2, g3, g4, g5, g6, g7, g8, g9, g10, g11, g12, g13⟩ := hb31'
    go_wp2_with fail
    go_at_call 64
    refine (hL2 _ hB1).mono ?_
    rintro e w2 ⟨rfl, hb2⟩
    have hB2 := hB1.trans (hb2.mono hB1.size)
    clear g1 g2 g3 g4 g5 g6 g7 g8 g9 g10 g11 g12 g13
    obtain ⟨g1, g2, g3, g4, g5, g6, g7, g8, g9, g10, g11, g12, g13⟩ := hb31.later hb2
    go_wp2
    exact bodyPost_ret (v := none3) (by simp [results, none3, Tryd.results28, go_sem, g5, g6, g13]) rfl ⟨none, 0, rfl, can_none _ _, (hB2.setCell (p := ⟨w.heap.size + 1 + 1, 0, none⟩) (by simp; omega) _).setCell (p := ⟨w.heap.size + 1 + 1, 1, none⟩) (by simp; omega) _⟩
  | false =>
    rw [h2] at hL2
    have l1 := cz_len h1
    have l2 := cz_len h2
    have l3 := small_prod h1 h2
    rw [mulO_keep h1 h2]
    clear h1 h2
    have HM := Lib.hid (fun zs (h : val zs = val (cz (some X)) * val (cz (some Y))) => show valI (cb (some X) != cb (some Y)) zs = X * Y by
      rw [valI_mul _ _ _ _ _ h, valI_c, valI_c])
    generalize X * Y = S at *
    have HKp := Lib.hid (fun (A : Option Addr) (cc base : Nat) (W : World) (h : CanAt W base (some S) A cc) => kept_can h (by omega))
    generalize keepO S = O at *
    go_enter Tryd.func28, Tryd.ntmps28
    go_wp2_with fail
    go_at_call 64
    refine (hL1 _ hw0).mono ?_
    rintro e w1 ⟨rfl, hb1⟩
    have hB1 := hw0.trans (hb1.mono hw0.size)
    have hb31 := hb3.later hb1
    clear hb3 k1 k2 k3 k4 k5 k6 k7 k8 k9 k10 k11 k12 k13
    have hb31' := hb31
    obtain ⟨g1, g2, g3, g4, g5, g6, g7, g8, g9, g10, g11, g12, g13⟩ := hb31'
    go_wp2_with fail
    go_at_call 64
    refine (hL2 _ hB1).mono ?_
    rintro e w2 ⟨rfl, hb2⟩
    have hB2 := hB1.trans (hb2.mono hB1.size)
    clear g1 g2 g3 g4 g5 g6 g7 g8 g9 g10 g11 g12 g13
    have hb32 := hb31.later hb2
    clear hb31
    have hb32' := hb32
    obtain ⟨g1, g2, g3, g4, g5, g6, g7, g8, g9, g10, g11, g12, g13⟩ := hb32'
    go_wp2_with fail
    go_at_call 37
    refine (hF1 _ hB2).mono ?_
    rintro e w3 ⟨A3, c3, rfl, hc3, b3⟩
    have hB3 := hB2.trans (b3.mono hB2.size)
    have hb33 := hb32.later b3
    have hc3 := hc3.mono (show w.heap.size + 3 ≤ _ from g13)
    clear hb32 g1 g2 g3 g4 g5 g6 g7 g8 g9 g10 g11 g12 g13
    obtain ⟨u3, hu3⟩ : ∃ u, (w3.setCell ⟨w.heap.size, 0, none⟩ (.bool (cb (some X)))).setCell ⟨w.heap.size, 1, none⟩ (.slice A3 (cz (some X)).length c3) = u := ⟨_, rfl⟩
    have hc3 := hc3.two w.heap.size (by omega) (.bool (cb (some X))) (.slice A3 (cz (some X)).length c3)
    have hB3 := low_set hB3 w.heap.size (Nat.le_refl _) (.bool (cb (some X))) (.slice A3 (cz (some X)).length c3)
    have hb34 := hb33.setA (.bool (cb (some X))) (.slice A3 (cz (some X)).length c3)
    rw [hu3] at hc3 hB3 hb34
    obtain ⟨g1, g2, g3, g4, g5, g6, g7, g8, g9, g10, g11, g12, g13⟩ := hb33
    have hb34' := hb34
    obtain ⟨h1, h2, h3, h4, h5, h6, h7, h8, h9, h10, h11, h12, h13⟩ := hb34'
    go_wp2_with fail
    go_at_call 37
    refine (hF2 _ hB3).mono ?_
    clear hu3 g1 g2 g3 g4 g5 g6 g7 g8 g9 g10 g11 g12 g13
    rintro e w4 ⟨A4, c4, rfl, hc4, b4⟩
    have hB4 := hB3.trans (b4.mono hB3.size)
    have hb35 := hb34.later b4
    have hc3 := hc3.later b4
    have hc4 := hc4.mono (show w.heap.size + 3 ≤ _ from h13)
    clear hb34 h1 h2 h3 h4 h5 h6 h7 h8 h9 h10 h11 h12 h13
    obtain ⟨u4, hu4⟩ : ∃ u, (w4.setCell ⟨w.heap.size + 1, 0, none⟩ (.bool (cb (some Y)))).setCell ⟨w.heap.size + 1, 1, none⟩ (.slice A4 (cz (some Y)).length c4) = u := ⟨_, rfl⟩
    have hc3 := hc3.two (w.heap.size + 1) (by omega) (.bool (cb (some Y))) (.slice A4 (cz (some Y)).length c4)
    have hc4 := hc4.two (w.heap.size + 1) (by omega) (.bool (cb (some Y))) (.slice A4 (cz (some Y)).length c4)
    have hB4 := low_set hB4 (w.heap.size + 1) (by omega) (.bool (cb (some Y))) (.slice A4 (cz (some Y)).length c4)
    have hb36 := hb35.setB (.bool (cb (some Y))) (.slice A4 (cz (some Y)).length c4)
    rw [hu4] at hc3 hc4 hB4 hb36
    obtain ⟨h1, h2, h3, h4, h5, h6, h7, h8, h9, h10, h11, h12, h13⟩ := hb35
    have hb36' := hb36
    obtain ⟨k1, k2, k3, k4, k5, k6, k7, k8, k9, k10, k11, k12, k13⟩ := hb36'
    go_wp2_with fail
    clear hu4 h1 h2 h3 h4 h5 h6 h7 h8 h9 h10 h11 h12 h13
    go_region_held3 (fun W => W.cell? ⟨w.heap.size, 0, none⟩ = some (.bool (cb (some X))) ∧ W.cell? ⟨w.heap.size, 1, none⟩ = some (.slice A3 (cz (some X)).length c3) ∧ W.cell? ⟨w.heap.size + 1, 0, none⟩ = some (.bool (cb (some Y))) ∧ W.cell? ⟨w.heap.size + 1, 1, none⟩ = some (.slice A4 (cz (some Y)).length c4) ∧ w.heap.size + 3 ≤ W.heap.size) (first | exact ⟨k1, k2, k3, k4, k13⟩ | exact ⟨j1, j2, j3, j4, j13⟩ | exact ⟨i1, i2, i3, i4, i13⟩ | exact ⟨g1, g2, g3, g4, g13⟩ | exact ⟨cell_off (cell_off g1 (by simp <;> omega)) (by simp <;> omega), cell_off (cell_off g2 (by simp <;> omega)) (by simp <;> omega), cell_off (cell_off g3 (by simp <;> omega)) (by simp <;> omega), cell_off (cell_off g4 (by simp <;> omega)) (by simp <;> omega), by simp <;> omega⟩ | go_keep) (first
      | (go_at_call 51; refine (refTimes_ok A3 A4 c3 c4 (cz (some X)) (cz (some Y)) _ (cz_w32 _) (cz_w32 _) (hc3.later (by first | exact Below.refl _ _ | exact below_drew (Below.refl _ _))).2.2.rd (hc4.later (by first | exact Below.refl _ _ | exact below_drew (Below.refl _ _))).2.2.rd hc3.1 hc3.2.1 hc4.1 hc4.2.1 (by omega) (by omega)).mono ?_; rintro e w5 ⟨zs, q1, q2, q3, A5, c5, rfl, l5, m5, f5, b5⟩; have hb37 := hb36.later (show Below u4.heap.size u4 w5 from (by first | exact b5 | exact (below_drew (Below.refl _ _)).trans b5)); have HB5 : Below w.heap.size w w5 := (by first | exact hB4.trans (b5.mono hB4.size) | exact (below_drew hB4).trans (b5.mono hB4.size)); have hb37' := hb37; obtain ⟨j1, j2, j3, j4, j5, j6, j7, j8, j9, j10, j11, j12, j13⟩ := hb37')
      | (go_at_call 52; refine (made_int (cb (some X) != cb (some Y)) A5 c5 zs w5 q1 f5.rd l5 m5 (by omega) S (HM.out zs q2)).mono ?_; rintro e w6 h6; obtain ⟨A6, c6, rfl, hc6, b6⟩ := retI_can h6; have hb38 := hb37.later b6; have HB6 := HB5.trans (b6.mono HB5.size); have hc6 := hc6.mono (show w.heap.size + 3 ≤ _ from j13); have hb38' := hb38; obtain ⟨i1, i2, i3, i4, i5, i6, i7, i8, i9, i10, i11, i12, i13⟩ := hb38')
      | (go_at_call 65; refine (HKp.out _ _ _ _ hc6).mono ?_; rintro e w7 ⟨A7, c7, rfl, HC, b7⟩; have HB := HB6.trans (b7.mono HB6.size); obtain ⟨g1, g2, g3, g4, g5, g6, g7, g8, g9, g10, g11, g12, g13⟩ := hb38.later b7))
    all_goals
      go_wp2
      exact bodyPost_ret (v := .tuple #[.agg #[.bool (cb O), .slice A7 (cz O).length c7], .int .i64 (ce O)]) (by simp [results, Tryd.results28, go_sem, g5, g6, g11, g12, g13]) rfl ⟨_, _, rfl, ((HC.setCell (p := ⟨w.heap.size + 1 + 1, 0, none⟩) (by simp <;> omega) _).setCell (p := ⟨w.heap.size + 1 + 1, 1, none⟩) (by simp <;> omega) _).mono (by omega), (HB.setCell (p := ⟨w.heap.size + 1 + 1, 0, none⟩) (by simp <;> omega) _).setCell (p := ⟨w.heap.size + 1 + 1, 1, none⟩) (by simp <;> omega) _⟩
end Go.Proofs.YtegdbcnloodljaaDoor
