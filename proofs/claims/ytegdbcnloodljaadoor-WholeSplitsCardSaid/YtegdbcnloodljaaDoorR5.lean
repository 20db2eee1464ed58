/- The reference's kept, sum, Add, Sub, Compare (chapter 1). -/
import Derived.Test.YtegdbcnloodljaaDoorR4
import Derived.Test.YtegdbcnloodljaaDoorCan
import Derived.Deep.RegionHeld3
namespace Go.Proofs.YtegdbcnloodljaaDoor
set_option linter.unusedVariables false
set_option linter.unusedSimpArgs false
open Go.RowKit
set_option maxRecDepth 1000000

set_option maxHeartbeats 1000000 in
theorem refKept_ok (b : Bool) (A : Option Addr) (c : Nat) (zs : List Int) (w : World) (hW : W32 zs) (hr : RdI w .u32 A zs) (hl : zs.length ≤ c) (hc : c ≤ 9223372036854775807) (hm : zs.length ≤ 1000000) :
    Calls Tryd.prog 65 #[.agg #[.bool b, .slice A zs.length c]] w fun e w' => e = .returned (if big (valI b zs) then none3 else .tuple #[.agg #[.bool b, .slice A zs.length c], .int .i64 0]) ∧ Below w.heap.size w w' := by
  have HC := Lib.hid (fun W (hb : Below w.heap.size w W) => refLong_ok b A c zs W hW (hr.later hb) hl hc hm)
  cases hb : big (valI b zs) with
  | true =>
    rw [if_pos rfl, none3]
    rw [hb] at HC
    clear hb
    go_enter Tryd.func65, Tryd.ntmps65
    go_wp2_with fail
    go_at_call 64
    refine (HC.out _ (((Below.refl _ w).alloc (Nat.le_refl _) _).alloc (by simp) _)).mono ?_
    rintro e w1 ⟨rfl, hbl⟩
    obtain ⟨ko, kf⟩ := oldCells hbl
    have hsz : w.heap.size + 1 + 1 ≤ w1.heap.size := by have := hbl.size; simpa using this
    have hB : Below w.heap.size w w1 := (((Below.refl _ w).alloc (Nat.le_refl _) _).alloc (by simp) _).trans (hbl.mono (by simp; omega))
    go_wp2
    exact bodyPost_ret (v := none3) (by simp [results, none3, Tryd.results65, go_sem, ko, hsz]) rfl ⟨rfl, (hB.setCell (p := ⟨w.heap.size + 1, 0, none⟩) (by simp) _).setCell (p := ⟨w.heap.size + 1, 1, none⟩) (by simp) _⟩
  | false =>
    rw [if_neg (by decide)]
    rw [hb] at HC
    clear hb
    go_enter Tryd.func65, Tryd.ntmps65
    go_wp2_with fail
    go_at_call 64
    refine (HC.out _ (((Below.refl _ w).alloc (Nat.le_refl _) _).alloc (by simp) _)).mono ?_
    rintro e w1 ⟨rfl, hbl⟩
    obtain ⟨ko, kf⟩ := oldCells hbl
    have hsz : w.heap.size + 1 + 1 ≤ w1.heap.size := by have := hbl.size; simpa using this
    have hB : Below w.heap.size w w1 := (((Below.refl _ w).alloc (Nat.le_refl _) _).alloc (by simp) _).trans (hbl.mono (by simp; omega))
    go_wp2
    exact bodyPost_ret (v := .tuple #[.agg #[.bool b, .slice A zs.length c], .int .i64 0]) (by simp [results, Tryd.results65, go_sem, ko, hsz]) rfl ⟨rfl, (hB.setCell (p := ⟨w.heap.size + 1, 0, none⟩) (by simp) _).setCell (p := ⟨w.heap.size + 1, 1, none⟩) (by simp) _⟩

set_option maxHeartbeats 4000000 in
theorem refSum_ok (b1 b2 : Bool) (A B : Option Addr) (c d : Nat) (xs ys : List Int) (w : World) (hX : W32 xs) (hY : W32 ys) (nX : NT xs) (nY : NT ys) (hr : RdI w .u32 A xs) (hs : RdI w .u32 B ys) (hl : xs.length ≤ c) (hc : c ≤ 9223372036854775807) (hl2 : ys.length ≤ d) (hd : d ≤ 9223372036854775807) (hm : xs.length ≤ 400000) (hm2 : ys.length ≤ 400000) :
    Calls Tryd.prog 66 #[.agg #[.bool b1, .slice A xs.length c], .agg #[.bool b2, .slice B ys.length d]] w (RetI w (valI b1 xs + valI b2 ys)) := by
  have hw0 : Below w.heap.size w (((w.alloc (.cells #[.bool b1, .slice A xs.length c] 24)).alloc (.cells #[.bool b2, .slice B ys.length d] 24)).alloc (.cells #[.bool false, .slice none 0 0] 24)) := (((Below.refl _ _).alloc (Nat.le_refl _) _).alloc (by simp) _).alloc (by simp; omega) _
  have hz0 : Below (w.heap.size + 3) (((w.alloc (.cells #[.bool b1, .slice A xs.length c] 24)).alloc (.cells #[.bool b2, .slice B ys.length d] 24)).alloc (.cells #[.bool false, .slice none 0 0] 24)) (((w.alloc (.cells #[.bool b1, .slice A xs.length c] 24)).alloc (.cells #[.bool b2, .slice B ys.length d] 24)).alloc (.cells #[.bool false, .slice none 0 0] 24)) := Below.refl _ _
  obtain ⟨S, hSe⟩ : ∃ S, valI b1 xs + valI b2 ys = S := ⟨_, rfl⟩
  rw [hSe]
  by_cases hbb : b1 = b2
  · subst hbb
    have hS : ∀ zs, val zs = val xs + val ys → valI b1 zs = S := by
      intro zs hz
      rw [← hSe]
      unfold valI
      cases b1 <;> simp only [Bool.false_eq_true, if_false, if_true] <;> omega
    have x1 : (b1 == b1) = true := by simp
    clear hSe
    have hBq := hw0
    have hzq := hz0
    have HM := Lib.hid (fun W (hb : Below w.heap.size w W) => refPlus_ok A B c d xs ys W hX hY (hr.later hb) (hs.later hb) hl hc hl2 hd (by omega) (by omega))
    have HS := Lib.hid hS
    have HN := Lib.hid (And.intro hm hm2)
    clear hS
    clear hX hY nX nY hr hs hl hc hl2 hd hm hm2
    go_enter Tryd.func66, Tryd.ntmps66
    obtain ⟨k1, k2, k3, k4, k5, k6, k7, k8, k9⟩ := boxes3 w _ _ _ _ _ hzq
    go_wp2_with fail
    go_region_held3 (fun W => W.cell? ⟨w.heap.size, 0, none⟩ = some (.bool b1) ∧ W.cell? ⟨w.heap.size, 1, none⟩ = some (.slice A xs.length c) ∧ W.cell? ⟨w.heap.size + 1, 0, none⟩ = some (.bool b1) ∧ W.cell? ⟨w.heap.size + 1, 1, none⟩ = some (.slice B ys.length d) ∧ w.heap.size + 3 ≤ W.heap.size) (first | exact ⟨k1, k2, k3, k4, k9⟩ | exact ⟨j1, j2, j3, j4, j9⟩ | exact ⟨g1, g2, g3, g4, g9⟩ | exact ⟨cell_off (cell_off g1 (by simp <;> omega)) (by simp <;> omega), cell_off (cell_off g2 (by simp <;> omega)) (by simp <;> omega), cell_off (cell_off g3 (by simp <;> omega)) (by simp <;> omega), cell_off (cell_off g4 (by simp <;> omega)) (by simp <;> omega), by simp <;> omega⟩ | go_keep) (first
      | (go_at_call 50; refine (HM.out _ (by first | exact hBq | exact below_drew hBq)).mono ?_; rintro e w3 ⟨zs, q1, q2, q3, A3, c3, rfl, l3, m3, f3, b3⟩; have hz3 : Below (w.heap.size + 3) _ w3 := (by first | exact hzq.trans (b3.mono k9) | exact (below_drew hzq).trans (b3.mono k9)); have hB3 : Below w.heap.size w w3 := (by first | exact hBq.trans (b3.mono hBq.size) | exact (below_drew hBq).trans (b3.mono hBq.size)); have f3 := f3.mono (show w.heap.size + 3 ≤ _ from k9); obtain ⟨j1, j2, j3, j4, j5, j6, j7, j8, j9⟩ := boxes3 w _ _ _ _ w3 hz3)
      | (go_at_call 52; refine (made_int b1 A3 c3 zs _ q1 (f3.later (by first | exact Below.refl _ _ | exact below_drew (Below.refl _ _))).rd l3 m3 (by have := HN.out; omega) S (HS.out zs q2)).mono ?_; rintro e w4 ⟨b', A', n', c', rfl, hv, b4⟩; have hz4 : Below (w.heap.size + 3) _ w4 := (by first | exact hz3.trans (b4.mono j9) | exact (below_drew hz3).trans (b4.mono j9)); have hB4 : Below w.heap.size w w4 := (by first | exact hB3.trans (b4.mono hB3.size) | exact (below_drew hB3).trans (b4.mono hB3.size)); have hv := hv.mono (show w.heap.size + 3 ≤ _ from j9); obtain ⟨g1, g2, g3, g4, g5, g6, g7, g8, g9⟩ := boxes3 w _ _ _ _ w4 hz4))
    all_goals
      go_wp2
      exact bodyPost_ret (v := .agg #[.bool b', .slice A' n' c']) (by simp [results, Tryd.results66, go_sem, g5, g6, g7, g8, g9]) rfl ⟨_, _, _, _, rfl, ((hv.setCell (p := ⟨w.heap.size + 1 + 1, 0, none⟩) (by simp <;> omega) _).setCell (p := ⟨w.heap.size + 1 + 1, 1, none⟩) (by simp <;> omega) _).mono (by omega), (hB4.setCell (p := ⟨w.heap.size + 1 + 1, 0, none⟩) (by simp <;> omega) _).setCell (p := ⟨w.heap.size + 1 + 1, 1, none⟩) (by simp <;> omega) _⟩
  have x1 : (b1 == b2) = false := by simpa using hbb
  have hb2 : b2 = !b1 := by cases b1 <;> cases b2 <;> simp at hbb ⊢
  have HC := Lib.hid (fun W (hb : Below w.heap.size w W) => refSize_ok A B c d xs ys W hX hY nX nY (hr.later hb) (hs.later hb) hl hc hl2 hd)
  obtain ⟨C, hC⟩ : ∃ C, cmp3 (val xs) (val ys) = C := ⟨_, rfl⟩
  rw [hC] at HC
  by_cases hle : val ys ≤ val xs
  · have hS : ∀ zs, val zs = val xs - val ys → valI b1 zs = S := by
      intro zs hz
      rw [← hSe, hb2]
      unfold valI
      cases b1 <;> simp only [Bool.false_eq_true, if_false, if_true, Bool.not_true, Bool.not_false] <;> omega
    have hlen : ys.length ≤ xs.length := by
      rcases Nat.lt_or_ge xs.length ys.length with h | h
      · have := val_lt_len hX hY nY h; omega
      · exact h
    have hC0 : 0 ≤ C := by rw [← hC, cmp3]; split <;> (try split) <;> omega
    clear hC hSe hb2 hbb
    have HM := Lib.hid (fun W (hb : Below w.heap.size w W) => refMinus_ok A B c d xs ys W hX hY (hr.later hb) (hs.later hb) hl hc hl2 hd (by omega) hlen hle)
    have HS := Lib.hid hS
    have HN := Lib.hid (And.intro hm hm2)
    clear hS hlen hle
    clear hX hY nX nY hr hs hl hc hl2 hd hm hm2
    go_enter Tryd.func66, Tryd.ntmps66
    go_wp2_with fail
    go_at_call 67
    refine (HC.out _ hw0).mono ?_
    rintro e w9 ⟨rfl, b9⟩
    have hBq := hw0.trans (b9.mono hw0.size)
    have hzq := hz0.trans (b9.mono (by simp))
    obtain ⟨k1, k2, k3, k4, k5, k6, k7, k8, k9⟩ := boxes3 w _ _ _ _ w9 hzq
    go_wp2_with fail
    go_region_held3 (fun W => W.cell? ⟨w.heap.size, 0, none⟩ = some (.bool b1) ∧ W.cell? ⟨w.heap.size, 1, none⟩ = some (.slice A xs.length c) ∧ W.cell? ⟨w.heap.size + 1, 0, none⟩ = some (.bool b2) ∧ W.cell? ⟨w.heap.size + 1, 1, none⟩ = some (.slice B ys.length d) ∧ w.heap.size + 3 ≤ W.heap.size) (first | exact ⟨k1, k2, k3, k4, k9⟩ | exact ⟨j1, j2, j3, j4, j9⟩ | exact ⟨g1, g2, g3, g4, g9⟩ | exact ⟨cell_off (cell_off g1 (by simp <;> omega)) (by simp <;> omega), cell_off (cell_off g2 (by simp <;> omega)) (by simp <;> omega), cell_off (cell_off g3 (by simp <;> omega)) (by simp <;> omega), cell_off (cell_off g4 (by simp <;> omega)) (by simp <;> omega), by simp <;> omega⟩ | go_keep) (first
      | (go_at_call 80; refine (HM.out _ (by first | exact hBq | exact below_drew hBq)).mono ?_; rintro e w3 ⟨zs, q1, q2, q3, A3, c3, rfl, l3, m3, f3, b3⟩; have hz3 : Below (w.heap.size + 3) _ w3 := (by first | exact hzq.trans (b3.mono k9) | exact (below_drew hzq).trans (b3.mono k9)); have hB3 : Below w.heap.size w w3 := (by first | exact hBq.trans (b3.mono hBq.size) | exact (below_drew hBq).trans (b3.mono hBq.size)); have f3 := f3.mono (show w.heap.size + 3 ≤ _ from k9); obtain ⟨j1, j2, j3, j4, j5, j6, j7, j8, j9⟩ := boxes3 w _ _ _ _ w3 hz3)
      | (go_at_call 52; refine (made_int b1 A3 c3 zs _ q1 (f3.later (by first | exact Below.refl _ _ | exact below_drew (Below.refl _ _))).rd l3 m3 (by have := HN.out; omega) S (HS.out zs q2)).mono ?_; rintro e w4 ⟨b', A', n', c', rfl, hv, b4⟩; have hz4 : Below (w.heap.size + 3) _ w4 := (by first | exact hz3.trans (b4.mono j9) | exact (below_drew hz3).trans (b4.mono j9)); have hB4 : Below w.heap.size w w4 := (by first | exact hB3.trans (b4.mono hB3.size) | exact (below_drew hB3).trans (b4.mono hB3.size)); have hv := hv.mono (show w.heap.size + 3 ≤ _ from j9); obtain ⟨g1, g2, g3, g4, g5, g6, g7, g8, g9⟩ := boxes3 w _ _ _ _ w4 hz4))
    all_goals
      go_wp2
      exact bodyPost_ret (v := .agg #[.bool b', .slice A' n' c']) (by simp [results, Tryd.results66, go_sem, g5, g6, g7, g8, g9]) rfl ⟨_, _, _, _, rfl, ((hv.setCell (p := ⟨w.heap.size + 1 + 1, 0, none⟩) (by simp <;> omega) _).setCell (p := ⟨w.heap.size + 1 + 1, 1, none⟩) (by simp <;> omega) _).mono (by omega), (hB4.setCell (p := ⟨w.heap.size + 1 + 1, 0, none⟩) (by simp <;> omega) _).setCell (p := ⟨w.heap.size + 1 + 1, 1, none⟩) (by simp <;> omega) _⟩
  · have hS : ∀ zs, val zs = val ys - val xs → valI b2 zs = S := by
      intro zs hz
      rw [← hSe, hb2]
      unfold valI
      cases b1 <;> simp only [Bool.false_eq_true, if_false, if_true, Bool.not_true, Bool.not_false] <;> omega
    have hlen : xs.length ≤ ys.length := by
      rcases Nat.lt_or_ge ys.length xs.length with h | h
      · have := val_lt_len hY hX nX h; omega
      · exact h
    have hC0 : C < 0 := by rw [← hC, cmp3, if_pos (by omega)]; omega
    have hle2 : val xs ≤ val ys := by omega
    clear hC hSe hb2 hbb
    have HM := Lib.hid (fun W (hb : Below w.heap.size w W) => refMinus_ok B A d c ys xs W hY hX (hs.later hb) (hr.later hb) hl2 hd hl hc (by omega) hlen hle2)
    have HS := Lib.hid hS
    have HN := Lib.hid (And.intro hm hm2)
    clear hS hlen hle hle2
    clear hX hY nX nY hr hs hl hc hl2 hd hm hm2
    go_enter Tryd.func66, Tryd.ntmps66
    go_wp2_with fail
    go_at_call 67
    refine (HC.out _ hw0).mono ?_
    rintro e w9 ⟨rfl, b9⟩
    have hBq := hw0.trans (b9.mono hw0.size)
    have hzq := hz0.trans (b9.mono (by simp))
    obtain ⟨k1, k2, k3, k4, k5, k6, k7, k8, k9⟩ := boxes3 w _ _ _ _ w9 hzq
    go_wp2_with fail
    go_region_held3 (fun W => W.cell? ⟨w.heap.size, 0, none⟩ = some (.bool b1) ∧ W.cell? ⟨w.heap.size, 1, none⟩ = some (.slice A xs.length c) ∧ W.cell? ⟨w.heap.size + 1, 0, none⟩ = some (.bool b2) ∧ W.cell? ⟨w.heap.size + 1, 1, none⟩ = some (.slice B ys.length d) ∧ w.heap.size + 3 ≤ W.heap.size) (first | exact ⟨k1, k2, k3, k4, k9⟩ | exact ⟨j1, j2, j3, j4, j9⟩ | exact ⟨g1, g2, g3, g4, g9⟩ | exact ⟨cell_off (cell_off g1 (by simp <;> omega)) (by simp <;> omega), cell_off (cell_off g2 (by simp <;> omega)) (by simp <;> omega), cell_off (cell_off g3 (by simp <;> omega)) (by simp <;> omega), cell_off (cell_off g4 (by simp <;> omega)) (by simp <;> omega), by simp <;> omega⟩ | go_keep) (first
      | (go_at_call 80; refine (HM.out _ (by first | exact hBq | exact below_drew hBq)).mono ?_; rintro e w3 ⟨zs, q1, q2, q3, A3, c3, rfl, l3, m3, f3, b3⟩; have hz3 : Below (w.heap.size + 3) _ w3 := (by first | exact hzq.trans (b3.mono k9) | exact (below_drew hzq).trans (b3.mono k9)); have hB3 : Below w.heap.size w w3 := (by first | exact hBq.trans (b3.mono hBq.size) | exact (below_drew hBq).trans (b3.mono hBq.size)); have f3 := f3.mono (show w.heap.size + 3 ≤ _ from k9); obtain ⟨j1, j2, j3, j4, j5, j6, j7, j8, j9⟩ := boxes3 w _ _ _ _ w3 hz3)
      | (go_at_call 52; refine (made_int b2 A3 c3 zs _ q1 (f3.later (by first | exact Below.refl _ _ | exact below_drew (Below.refl _ _))).rd l3 m3 (by have := HN.out; omega) S (HS.out zs q2)).mono ?_; rintro e w4 ⟨b', A', n', c', rfl, hv, b4⟩; have hz4 : Below (w.heap.size + 3) _ w4 := (by first | exact hz3.trans (b4.mono j9) | exact (below_drew hz3).trans (b4.mono j9)); have hB4 : Below w.heap.size w w4 := (by first | exact hB3.trans (b4.mono hB3.size) | exact (below_drew hB3).trans (b4.mono hB3.size)); have hv := hv.mono (show w.heap.size + 3 ≤ _ from j9); obtain ⟨g1, g2, g3, g4, g5, g6, g7, g8, g9⟩ := boxes3 w _ _ _ _ w4 hz4))
    all_goals
      go_wp2
      exact bodyPost_ret (v := .agg #[.bool b', .slice A' n' c']) (by simp [results, Tryd.results66, go_sem, g5, g6, g7, g8, g9]) rfl ⟨_, _, _, _, rfl, ((hv.setCell (p := ⟨w.heap.size + 1 + 1, 0, none⟩) (by simp <;> omega) _).setCell (p := ⟨w.heap.size + 1 + 1, 1, none⟩) (by simp <;> omega) _).mono (by omega), (hB4.setCell (p := ⟨w.heap.size + 1 + 1, 0, none⟩) (by simp <;> omega) _).setCell (p := ⟨w.heap.size + 1 + 1, 1, none⟩) (by simp <;> omega) _⟩
end Go.Proofs.YtegdbcnloodljaaDoor
