/- whole.Sub; the reference's Sub, Mul, Compare; the law's times (chapter 1). -/
import Derived.Test.YtegdbcnloodljaaDoorM2
import Derived.Test.YtegdbcnloodljaaDoorBoxes
import Derived.Deep.RegionHeld3
namespace Go.Proofs.YtegdbcnloodljaaDoor
set_option linter.unusedVariables false
set_option linter.unusedSimpArgs false
open Go.RowKit
set_option maxRecDepth 1000000

/-- the blocks of two Ints that are turned, and of one that is to be answered. -/
def B3 (w : World) (a0 a1 b0 b1 : Value) (W : World) : Prop :=
  W.cell? ⟨w.heap.size, 0, none⟩ = some a0 ∧ W.cell? ⟨w.heap.size, 1, none⟩ = some a1 ∧ W.cell? ⟨w.heap.size + 1, 0, none⟩ = some b0 ∧ W.cell? ⟨w.heap.size + 1, 1, none⟩ = some b1 ∧
  W.cell? ⟨w.heap.size + 1 + 1, 0, none⟩ = some (.bool false) ∧ W.cell? ⟨w.heap.size + 1 + 1, 1, none⟩ = some (.slice none 0 0) ∧
  W.frozen? ⟨w.heap.size, 0, none⟩ = false ∧ W.frozen? ⟨w.heap.size, 1, none⟩ = false ∧ W.frozen? ⟨w.heap.size + 1, 0, none⟩ = false ∧ W.frozen? ⟨w.heap.size + 1, 1, none⟩ = false ∧
  W.frozen? ⟨w.heap.size + 1 + 1, 0, none⟩ = false ∧ W.frozen? ⟨w.heap.size + 1 + 1, 1, none⟩ = false ∧ w.heap.size + 3 ≤ W.heap.size
theorem B3.later {w : World} {a0 a1 b0 b1 : Value} {W W' : World} (h : B3 w a0 a1 b0 b1 W) (hb : Below W.heap.size W W') : B3 w a0 a1 b0 b1 W' := by
  obtain ⟨h1, h2, h3, h4, h5, h6, h7, h8, h9, h10, h11, h12, h13⟩ := h
  exact ⟨cell_later hb h1, cell_later hb h2, cell_later hb h3, cell_later hb h4, cell_later hb h5, cell_later hb h6, frozen_later h7 (by show w.heap.size < _; omega) hb, frozen_later h8 (by show w.heap.size < _; omega) hb, frozen_later h9 (by show w.heap.size + 1 < _; omega) hb, frozen_later h10 (by show w.heap.size + 1 < _; omega) hb, frozen_later h11 (by show w.heap.size + 1 + 1 < _; omega) hb, frozen_later h12 (by show w.heap.size + 1 + 1 < _; omega) hb, Nat.le_trans h13 hb.size⟩
theorem B3.setA {w : World} {a0 a1 b0 b1 : Value} {W : World} (h : B3 w a0 a1 b0 b1 W) (x y : Value) : B3 w x y b0 b1 ((W.setCell ⟨w.heap.size, 0, none⟩ x).setCell ⟨w.heap.size, 1, none⟩ y) := by
  obtain ⟨h1, h2, h3, h4, h5, h6, h7, h8, h9, h10, h11, h12, h13⟩ := h
  obtain ⟨t1, t2⟩ := two_cells (x := x) (y := y) h1 h2
  refine ⟨t1, t2, cell_off (cell_off h3 (by simp)) (by simp), cell_off (cell_off h4 (by simp)) (by simp), cell_off (cell_off h5 (by simp; omega)) (by simp; omega), cell_off (cell_off h6 (by simp; omega)) (by simp; omega), ?_, ?_, ?_, ?_, ?_, ?_, by simp; omega⟩
  all_goals (rw [World.frozen?_setCell, World.frozen?_setCell]; assumption)
theorem B3.setB {w : World} {a0 a1 b0 b1 : Value} {W : World} (h : B3 w a0 a1 b0 b1 W) (x y : Value) : B3 w a0 a1 x y ((W.setCell ⟨w.heap.size + 1, 0, none⟩ x).setCell ⟨w.heap.size + 1, 1, none⟩ y) := by
  obtain ⟨h1, h2, h3, h4, h5, h6, h7, h8, h9, h10, h11, h12, h13⟩ := h
  obtain ⟨t1, t2⟩ := two_cells (x := x) (y := y) h3 h4
  refine ⟨cell_off (cell_off h1 (by simp)) (by simp), cell_off (cell_off h2 (by simp)) (by simp), t1, t2, cell_off (cell_off h5 (by simp)) (by simp), cell_off (cell_off h6 (by simp)) (by simp), ?_, ?_, ?_, ?_, ?_, ?_, by simp; omega⟩
  all_goals (rw [World.frozen?_setCell, World.frozen?_setCell]; assumption)
theorem b3_new (w : World) (a0 a1 b0 b1 : Value) : B3 w a0 a1 b0 b1 (((w.alloc (.cells #[a0, a1] 24)).alloc (.cells #[b0, b1] 24)).alloc (.cells #[.bool false, .slice none 0 0] 24)) := by
  refine ⟨?_, ?_, ?_, ?_, ?_, ?_, ?_, ?_, ?_, ?_, ?_, ?_, ?_⟩ <;> simp [go_sem]

/-- the length of a number's row. -/
theorem cz_le {b : Bool} {zs : List Int} (h : W32 zs) : (cz (some (valI b zs))).length ≤ zs.length := by
  refine cz_len2 ?_
  rw [valI_abs h]
  exact val_bound h
theorem cz_neg (S : Int) : (cz (some (-S))).length = (cz (some S)).length := by rw [cz, cz, Int.natAbs_neg]

set_option maxHeartbeats 2000000 in
theorem wSub_ok (b1 b2 : Bool) (A B : Option Addr) (c d : Nat) (xs ys : List Int) (w : World) (hX : W32 xs) (hY : W32 ys) (hr : RdI w .u32 A xs) (hs : RdI w .u32 B ys) (hl : xs.length ≤ c) (hc : c ≤ 9223372036854775807) (hl2 : ys.length ≤ d) (hd : d ≤ 9223372036854775807) :
    Calls Tryd.prog 25 #[.agg #[.bool b1, .slice A xs.length c], .agg #[.bool b2, .slice B ys.length d]] w (RetO w (addO (valI b1 xs) (-(valI b2 ys)))) := by
  obtain ⟨W0, hW0⟩ : ∃ W0, ((w.alloc (.cells #[.bool b1, .slice A xs.length c] 24)).alloc (.cells #[.bool b2, .slice B ys.length d] 24)).alloc (.cells #[.bool false, .slice none 0 0] 24) = W0 := ⟨_, rfl⟩
  have hw0 : Below w.heap.size w W0 := by rw [← hW0]; exact (((Below.refl _ _).alloc (Nat.le_refl _) _).alloc (by simp) _).alloc (by simp; omega) _
  have hb3 : B3 w (.bool b1) (.slice A xs.length c) (.bool b2) (.slice B ys.length d) W0 := by rw [← hW0]; exact b3_new w _ _ _ _
  have hC := fun W (hb : Below w.heap.size w W) => wAdd_ok b1 (!b2) A B c d xs ys W hX hY (hr.later hb) (hs.later hb) hl hc hl2 hd
  simp only [valI_not] at hC
  generalize addO (valI b1 xs) (-(valI b2 ys)) = O at *
  have hb3' := hb3
  obtain ⟨k1, k2, k3, k4, k5, k6, k7, k8, k9, k10, k11, k12, k13⟩ := hb3'
  go_enter Tryd.func25, Tryd.ntmps25
  go_wp2_with (go_at_call 22; refine (hC _ hw0).mono ?_; rintro e w1 h1; obtain ⟨A1, c1, rfl, HC, hb1⟩ := retO_of h1; have HB := hw0.trans (hb1.mono hw0.size); have HC := HC.mono (show w.heap.size + 3 ≤ _ from k13); obtain ⟨g1, g2, g3, g4, g5, g6, g7, g8, g9, g10, g11, g12, g13⟩ := hb3.later hb1)
  exact bodyPost_ret (v := .tuple #[.agg #[.bool (cb O), .slice A1 (cz O).length c1], .int .i64 (ce O)]) (by simp [results, Tryd.results25, go_sem, g5, g6, g11, g12, g13]) rfl ⟨_, _, rfl, ((HC.setCell (p := ⟨w.heap.size + 1 + 1, 0, none⟩) (by simp <;> omega) _).setCell (p := ⟨w.heap.size + 1 + 1, 1, none⟩) (by simp <;> omega) _).mono (by omega), (HB.setCell (p := ⟨w.heap.size + 1 + 1, 0, none⟩) (by simp <;> omega) _).setCell (p := ⟨w.heap.size + 1 + 1, 1, none⟩) (by simp <;> omega) _⟩

set_option maxHeartbeats 2000000 in
theorem refSub_ok (b1 b2 : Bool) (A B : Option Addr) (c d : Nat) (xs ys : List Int) (w : World) (hX : W32 xs) (hY : W32 ys) (hr : RdI w .u32 A xs) (hs : RdI w .u32 B ys) (hl : xs.length ≤ c) (hc : c ≤ 9223372036854775807) (hl2 : ys.length ≤ d) (hd : d ≤ 9223372036854775807) (hm : xs.length ≤ 400000) (hm2 : ys.length ≤ 400000) :
    Calls Tryd.prog 26 #[.agg #[.bool b1, .slice A xs.length c], .agg #[.bool b2, .slice B ys.length d]] w (RetO w (addO (valI b1 xs) (-(valI b2 ys)))) := by
  obtain ⟨W0, hW0⟩ : ∃ W0, ((w.alloc (.cells #[.bool b1, .slice A xs.length c] 24)).alloc (.cells #[.bool b2, .slice B ys.length d] 24)).alloc (.cells #[.bool false, .slice none 0 0] 24) = W0 := ⟨_, rfl⟩
  have hw0 : Below w.heap.size w W0 := by rw [← hW0]; exact (((Below.refl _ _).alloc (Nat.le_refl _) _).alloc (by simp) _).alloc (by simp; omega) _
  have hb3 : B3 w (.bool b1) (.slice A xs.length c) (.bool b2) (.slice B ys.length d) W0 := by rw [← hW0]; exact b3_new w _ _ _ _
  have hN := fun W (hb : Below w.heap.size w W) => (refNegate_int b2 B d ys W hY (hs.later hb) hl2 hd (by omega)).mono fun e w' h => retI_can h
  have hC := fun W (hb : Below w.heap.size w W) (base : Nat) (B' : Option Addr) (d' : Nat) (hc' : CanAt W base (some (-(valI b2 ys))) B' d') => refAdd_ok b1 (cb (some (-(valI b2 ys)))) A B' c d' xs (cz (some (-(valI b2 ys)))) W hX (cz_w32 _) (hr.later hb) hc'.2.2.rd hl hc hc'.1 hc'.2.1 hm (by rw [cz_neg]; exact Nat.le_trans (cz_le hY) hm2)
  simp only [valI_c] at hC
  generalize addO (valI b1 xs) (-(valI b2 ys)) = O at *
  have hb3' := hb3
  obtain ⟨k1, k2, k3, k4, k5, k6, k7, k8, k9, k10, k11, k12, k13⟩ := hb3'
  go_enter Tryd.func26, Tryd.ntmps26
  go_wp2_with fail
  go_region_held3 (fun W => W.cell? ⟨w.heap.size, 0, none⟩ = some (.bool b1) ∧ W.cell? ⟨w.heap.size, 1, none⟩ = some (.slice A xs.length c) ∧ W.cell? ⟨w.heap.size + 1, 0, none⟩ = some (.bool b2) ∧ W.cell? ⟨w.heap.size + 1, 1, none⟩ = some (.slice B ys.length d) ∧ w.heap.size + 3 ≤ W.heap.size) (first | exact ⟨k1, k2, k3, k4, k13⟩ | exact ⟨j1, j2, j3, j4, j13⟩ | exact ⟨g1, g2, g3, g4, g13⟩ | exact ⟨cell_off (cell_off g1 (by simp <;> omega)) (by simp <;> omega), cell_off (cell_off g2 (by simp <;> omega)) (by simp <;> omega), cell_off (cell_off g3 (by simp <;> omega)) (by simp <;> omega), cell_off (cell_off g4 (by simp <;> omega)) (by simp <;> omega), by simp <;> omega⟩ | go_keep) (first
    | (go_at_call 29; refine (hN _ (by first | exact hw0 | exact below_drew hw0)).mono ?_; rintro e w1 ⟨A1, c1, rfl, hc1, hb1⟩; have HB1 : Below w.heap.size w w1 := (by first | exact hw0.trans (hb1.mono hw0.size) | exact (below_drew hw0).trans (hb1.mono hw0.size)); have hb31 := hb3.later (show Below W0.heap.size W0 w1 from (by first | exact hb1 | exact (below_drew (Below.refl _ _)).trans hb1)); have hb31' := hb31; obtain ⟨j1, j2, j3, j4, j5, j6, j7, j8, j9, j10, j11, j12, j13⟩ := hb31')
    | (go_at_call 23; refine (hC _ HB1 _ _ _ hc1).mono ?_; rintro e w2 ⟨A2, c2, rfl, HC, hb2⟩; have HB := HB1.trans (hb2.mono HB1.size); have HC := HC.mono (show w.heap.size + 3 ≤ _ from j13); obtain ⟨g1, g2, g3, g4, g5, g6, g7, g8, g9, g10, g11, g12, g13⟩ := hb31.later hb2))
  all_goals
    go_wp2
    exact bodyPost_ret (v := .tuple #[.agg #[.bool (cb O), .slice A2 (cz O).length c2], .int .i64 (ce O)]) (by simp [results, Tryd.results26, go_sem, g5, g6, g11, g12, g13]) rfl ⟨_, _, rfl, ((HC.setCell (p := ⟨w.heap.size + 1 + 1, 0, none⟩) (by simp <;> omega) _).setCell (p := ⟨w.heap.size + 1 + 1, 1, none⟩) (by simp <;> omega) _).mono (by omega), (HB.setCell (p := ⟨w.heap.size + 1 + 1, 0, none⟩) (by simp <;> omega) _).setCell (p := ⟨w.heap.size + 1 + 1, 1, none⟩) (by simp <;> omega) _⟩

set_option maxHeartbeats 2000000 in
theorem wTimes_ok (b1 b2 : Bool) (A B : Option Addr) (c d : Nat) (xs ys : List Int) (w : World) (hX : W32 xs) (hY : W32 ys) (hr : RdI w .u32 A xs) (hs : RdI w .u32 B ys) (hl : xs.length ≤ c) (hc : c ≤ 9223372036854775807) (hl2 : ys.length ≤ d) (hd : d ≤ 9223372036854775807) (S : Int) (hS : mulO (valI b1 xs) (valI b2 ys) = some S) :
    Calls Tryd.prog 32 #[.agg #[.bool b1, .slice A xs.length c], .agg #[.bool b2, .slice B ys.length d]] w fun e w' => ∃ A' c', e = .returned (.tuple #[.agg #[.bool (cb (some S)), .slice A' (cz (some S)).length c'], .bool true]) ∧ CanAt w' w.heap.size (some S) A' c' ∧ Below w.heap.size w w' := by
  obtain ⟨W0, hW0⟩ : ∃ W0, ((w.alloc (.cells #[.bool b1, .slice A xs.length c] 24)).alloc (.cells #[.bool b2, .slice B ys.length d] 24)).alloc (.cells #[.bool false, .slice none 0 0] 24) = W0 := ⟨_, rfl⟩
  have hw0 : Below w.heap.size w W0 := by rw [← hW0]; exact (((Below.refl _ _).alloc (Nat.le_refl _) _).alloc (by simp) _).alloc (by simp; omega) _
  have hb3 : B3 w (.bool b1) (.slice A xs.length c) (.bool b2) (.slice B ys.length d) W0 := by rw [← hW0]; exact b3_new w _ _ _ _
  have hC := fun W (hb : Below w.heap.size w W) => wMul_ok b1 b2 A B c d xs ys W hX hY (hr.later hb) (hs.later hb) hl hc hl2 hd
  rw [hS] at hC
  clear hS
  have hb3' := hb3
  obtain ⟨k1, k2, k3, k4, k5, k6, k7, k8, k9, k10, k11, k12, k13⟩ := hb3'
  go_enter Tryd.func32, Tryd.ntmps32
  go_wp2_with fail
  go_at_call 27
  refine (hC _ hw0).mono ?_
  rintro e w1 ⟨A1, c1, rfl, HC, hb1⟩
  have HB := hw0.trans (hb1.mono hw0.size)
  have HC := HC.mono (show w.heap.size + 3 ≤ _ from k13)
  obtain ⟨g1, g2, g3, g4, g5, g6, g7, g8, g9, g10, g11, g12, g13⟩ := hb3.later hb1
  have k10' : w.heap.size + 1 + 1 < w1.heap.size := by omega
  simp only [ce]
  go_wp2
  exact bodyPost_ret (v := .tuple #[.agg #[.bool (cb (some S)), .slice A1 (cz (some S)).length c1], .bool true]) (by simp [results, Tryd.results32, go_sem, g5, g6, g11, g12, g13, k10']) rfl ⟨_, _, rfl, (((HC.setCell (p := ⟨w.heap.size + 1 + 1, 0, none⟩) (by simp <;> omega) _).setCell (p := ⟨w.heap.size + 1 + 1, 1, none⟩) (by simp <;> omega) _).later ((Below.refl _ _).alloc (Nat.le_refl _) _)).mono (by omega), ((HB.setCell (p := ⟨w.heap.size + 1 + 1, 0, none⟩) (by simp <;> omega) _).setCell (p := ⟨w.heap.size + 1 + 1, 1, none⟩) (by simp <;> omega) _).alloc (by simp <;> omega) _⟩
end Go.Proofs.YtegdbcnloodljaaDoor
