/- Joined by a program: Tcp1, Bar1, Bre1, Spo1, Non1. -/
import Derived.WalkKit
import Derived.Deep.RegionHeld3
import Derived.Deep.RegionWith
import Derived.Test.YtjefhdlncikhmaaGreatDoorChecked
import Derived.Test.YtjefhdlncikhmaaGreatDoorPB23
import Derived.Test.YtjefhdlncikhmaaGreatDoorPB24
namespace Go.Proofs.YtjefhdlncikhmaaGreatDoor
section
set_option linter.unusedVariables false
set_option linter.unusedSimpArgs false
open Go.RowKit
set_option maxRecDepth 1000000
theorem cell_set_neT {w : World} {X i j : Nat} {u v : Value} (h : w.cell? ⟨X, j, none⟩ = some v) (hne : i ≠ j) : (w.setCell ⟨X, i, none⟩ u).cell? ⟨X, j, none⟩ = some v := by
  rw [World.cell?_setCell_other _ _ _ _ (fun e => by injection e; omega)]; exact h
/-- what stands while the kids are copied: the row lies at g, its first k nodes are copies that lie apart. -/
def Cpd (D : Nat) (w : World) (g M k : Nat) (l : List Nd) (wr : World) : Prop :=
  ∃ E : Nat → Nat, E 0 = M ∧ (∀ i, E i ≤ E (i + 1)) ∧ E l.length ≤ wr.heap.size ∧ ∀ i t, l[i]? = some t → ∃ A c K d, CellsN wr g (i * 6) t A c K d ∧ (∀ j, wr.frozen? ⟨g, j, none⟩ = false) ∧ (i < k → NodeFr D wr t (E i) (E (i + 1)) A c K d) ∧ (k ≤ i → NodeAt w t A c K d)
theorem Cpd.next {D : Nat} {w : World} {g M k : Nat} {l : List Nd} {wr w1 w2 : World} (h : Cpd D w g M k l wr) (hg : g < M) (hk : k < l.length) (h1 : Below wr.heap.size wr w1) {t : Nd} (ht : l[k]? = some t) {lo : Nat} (hlo : wr.heap.size ≤ lo) {A : Option Addr} {c : Nat} {K : Option Addr} {d : Nat} (hN : NodeFr D w1 t lo w1.heap.size A c K d)
    (hC : CellsN w2 g (k * 6) t A c K d) (hf : ∀ j, w2.frozen? ⟨g, j, none⟩ = w1.frozen? ⟨g, j, none⟩) (ho : ∀ j, (j < k * 6 ∨ k * 6 + 6 ≤ j) → w2.cell? ⟨g, j, none⟩ = w1.cell? ⟨g, j, none⟩) (hb : ∀ q, q ≠ g → w2.heap[q]? = w1.heap[q]?) (hs : w2.heap.size = w1.heap.size) : Cpd D w g M (k + 1) l w2 := by
  obtain ⟨E, e0, e1, e2, e3⟩ := h
  have hsz := h1.size
  have hkE := steps_le e1 (show k ≤ l.length by omega)
  have h0E := steps_le e1 (Nat.zero_le l.length)
  refine ⟨fun i => if i ≤ k then E i else w1.heap.size, by simp [e0], fun i => ?_, ?_, fun i s hi => ?_⟩
  · by_cases hik : i + 1 ≤ k
    · simp only [if_pos hik, if_pos (show i ≤ k by omega)]; exact e1 i
    · by_cases hik2 : i ≤ k
      · simp only [if_pos hik2, if_neg hik]
        have := steps_le e1 hik2
        omega
      · simp only [if_neg hik, if_neg hik2]; exact Nat.le_refl _
  · simp only [if_neg (show ¬ l.length ≤ k by omega)]; omega
  · obtain ⟨A', c', K', d', c1, c2, c3, c4⟩ := e3 i s hi
    have hil := (List.getElem?_eq_some_iff.1 hi).1
    have hgl : g < wr.heap.size := World.block_lt_of_cell? _ _ c1.1
    have hg1 := h1.5 g hgl
    have hff : ∀ j, w2.frozen? ⟨g, j, none⟩ = false := fun j => (hf j).trans ((World.frozen?_of_block hg1).trans (c2 j))
    by_cases hik : i = k
    · subst hik
      rw [ht] at hi
      injection hi with hi
      subst hi
      refine ⟨A, c, K, d, hC, hff, fun _ => ?_, fun h => by omega⟩
      simp only [if_pos (Nat.le_refl i), if_neg (show ¬ i + 1 ≤ i by omega)]
      exact (hN.lo (by omega)).keep (fun q q1 q2 => hb q (by have := steps_le e1 (Nat.zero_le i); omega)) (by omega)
    · refine ⟨A', c', K', d', cells_off (cellsN_keep c1 hg1) (by omega) ho, hff, fun h => ?_, fun h => c4 (by omega)⟩
      simp only [if_pos (show i ≤ k by omega), if_pos (show i + 1 ≤ k by omega)]
      have := steps_le e1 (show i + 1 ≤ l.length by omega)
      have := steps_le e1 (Nat.zero_le i)
      exact (c3 (by omega)).keep (fun q q1 q2 => (hb q (by omega)).trans (h1.5 q (by omega))) (by omega)
set_option maxHeartbeats 8000000 in
theorem tcopied_ok : ∀ (D : Nat) (T : Nd), T.depth ≤ D → ∀ (A : Option Addr) (c : Nat) (K : Option Addr) (d : Nat) (w : World), NodeAt w T A c K d → T.weight ≤ 1048576 →
    Calls Tryz.prog 41 #[ndV T A c K d] w fun e w' => ∃ A2 c2 K2 d2, e = .returned (ndV T A2 c2 K2 d2) ∧ NodeFr D w' T w.heap.size w'.heap.size A2 c2 K2 d2 ∧ Below w.heap.size w w'
  | 0, T, hD => absurd hD (by have := T.depth_eq; omega)
  | D + 1, T, hD => by
    intro A c K d w hN hW
    obtain ⟨hm1, hm2, hrm, hw32, hk1, hk2, hk64, ha64, hts, hKs⟩ := hN.parts
    have hNP := Lib.hid (show I64 T.kind ∧ I64 T.pos ∧ T.text.size ≤ maxLen ∧ ∀ z ∈ T.mag, 0 ≤ z ∧ z < 4294967296 from ⟨hk64, ha64, hts, hw32⟩)
    have hlw : T.kids.length ≤ 1048576 := by have := T.weight_eq; have := weights_lenT T.kids; omega
    have hmw : T.mag.length ≤ 1048576 := by have := T.weight_eq; omega
    have hb0 := (Below.refl w.heap.size w).alloc (Nat.le_refl _) (.cells #[.int .i64 T.kind, .int .i64 T.pos, .string T.text, .bool T.neg, .slice A T.mag.length c, .slice K T.kids.length d] 27)
    have hb1 := hb0.alloc hb0.size (.cells #[.int .i64 0, .int .i64 0, .string ⟨#[]⟩, .bool false, .slice none 0 0, .slice none 0 0] 27)
    have x0 := heap_alloc_new w (.cells #[.int .i64 T.kind, .int .i64 T.pos, .string T.text, .bool T.neg, .slice A T.mag.length c, .slice K T.kids.length d] 27)
    have hlx : w.heap.size < (w.alloc (.cells #[.int .i64 T.kind, .int .i64 T.pos, .string T.text, .bool T.neg, .slice A T.mag.length c, .slice K T.kids.length d] 27)).heap.size := by simp
    have x1 := (Lib.alloc_old _ (.cells #[.int .i64 0, .int .i64 0, .string ⟨#[]⟩, .bool false, .slice none 0 0, .slice none 0 0] 27) _ hlx).trans x0
    have x2 := heap_alloc_new (w.alloc (.cells #[.int .i64 T.kind, .int .i64 T.pos, .string T.text, .bool T.neg, .slice A T.mag.length c, .slice K T.kids.length d] 27)) (.cells #[.int .i64 0, .int .i64 0, .string ⟨#[]⟩, .bool false, .slice none 0 0, .slice none 0 0] 27)
    have hsg : (w.alloc (.cells #[.int .i64 T.kind, .int .i64 T.pos, .string T.text, .bool T.neg, .slice A T.mag.length c, .slice K T.kids.length d] 27)).heap.size = w.heap.size + 1 := by simp
    have hs2 : ((w.alloc (.cells #[.int .i64 T.kind, .int .i64 T.pos, .string T.text, .bool T.neg, .slice A T.mag.length c, .slice K T.kids.length d] 27)).alloc (.cells #[.int .i64 0, .int .i64 0, .string ⟨#[]⟩, .bool false, .slice none 0 0, .slice none 0 0] 27)).heap.size = w.heap.size + 2 := by simp
    rw [hsg] at x2
    obtain ⟨c0, c1, c2, c3, c4, c5⟩ := (cells_boxT x1).box
    have HB := Lib.hid (show _ ∧ _ ∧ _ from ⟨x1, x2, hs2⟩)
    have hdk := Lib.hid (fun (t : Nd) (ht : t ∈ T.kids) => show t.depth ≤ D by have := Nd.depth_kid ht; omega)
    obtain ⟨news, nw1, nw2, nw3, nw4⟩ := kids_news hKs
    have HNW := Lib.hid nw3
    have hcW := fun (W : World) (hb : Below w.heap.size w W) => cloneW_ok A T.mag.length c (T.mag.map (.int .u32)) W (by simp) (by omega) hm2 (fun h0 => by
      obtain ⟨b, off, z, hA, _, _⟩ := (hrm.later hb) 0 h0
      refine ⟨b, off, hA, fun j u hu => ?_⟩
      rw [List.getElem?_map] at hu
      obtain ⟨y, hy, rfl⟩ := Option.map_eq_some_iff.1 hu
      obtain ⟨b', off', z', hA', hz', hc'⟩ := (hrm.later hb) j (List.getElem?_eq_some_iff.1 hy).1
      rw [hA] at hA'
      injection hA' with hA'
      injection hA' with e1 e2 _
      subst e1 e2
      rw [hy] at hz'
      injection hz' with hz'
      subst hz'
      exact hc') (by simp [Value.oneCell'])
    have hcN := fun (W : World) (hb : Below w.heap.size w W) => cloneN_ok K T.kids.length d news W nw1 (by omega) hk2 (fun h0 => by
      obtain ⟨b, off, hK, h⟩ := nw4 h0
      exact ⟨b, off, hK, fun j u hj => cell_later hb (by have := h j u hj; rwa [Nat.zero_mul, Nat.add_zero] at this)⟩) nw2
    have HCW := Lib.hid hcW
    have HCN := Lib.hid hcN
    unfold maxLen at hm2 hk2 hts
    obtain ⟨hk64a, hk64b⟩ := hk64
    obtain ⟨ha64a, ha64b⟩ := ha64
    clear x0 hlx x1 x2 hb0 hsg hN hKs hrm hw32 hs2 nw1 nw2 nw3 nw4 hcW hcN
    unfold ndV
    go_enter Tryz.func41, Tryz.ntmps41
    have hb0c := hb1.size
    go_wp2_with (first
      | (go_at_call 59; refine (HCW.out _ hb1).mono ?_; rintro e w3 ⟨A2, c2', rfl, ma1, ma2, hmo, hb3⟩; have d5 := cell_later hb3 c5; have d4 := cell_later hb3 c4; have hX3 := (hb3.5 w.heap.size (by rw [HB.out.2.2]; omega)).trans HB.out.1; have z4 := Lib.frozen_of_heap hX3 4; have hbX := (hb1.trans (hb3.mono hb0c)).setCell (p := ⟨w.heap.size, 4, none⟩) (Nat.le_refl _) (.slice A2 T.mag.length c2'); have d5 := cell_set_neT (u := .slice A2 T.mag.length c2') d5 (show 4 ≠ 5 by decide))
      | (go_at_call 60; refine (HCN.out _ hbX).mono ?_; rintro e w4 ⟨K2, d2, rfl, ka1, ka2, hko, hb4⟩; have d5 := cell_later hb4 d5; have hsX : w3.heap.size = (w3.setCell ⟨w.heap.size, 4, none⟩ (.slice A2 T.mag.length c2')).heap.size := (World.size_setCell _ _ _).symm; have hw3 := hb3.size; have z5 : w4.frozen? ⟨w.heap.size, 5, none⟩ = false := (hb4.frozen (p := ⟨w.heap.size, 5, none⟩) (by rw [← hsX]; have := HB.out.2.2; show w.heap.size < _; omega)).trans (by rw [World.frozen?_setCell]; exact Lib.frozen_of_heap hX3 5)))
    clear c0 c1 c2 c3 c4 c5 d5 d4 hX3
    have hW2 := HB.out
    clear HB
    generalize (w.alloc (.cells #[.int .i64 T.kind, .int .i64 T.pos, .string T.text, .bool T.neg, .slice A T.mag.length c, .slice K T.kids.length d] 27)).alloc (.cells #[.int .i64 0, .int .i64 0, .string ⟨#[]⟩, .bool false, .slice none 0 0, .slice none 0 0] 27) = w2 at *
    obtain ⟨hx1, hx2, hs2⟩ := hW2
    have hw3' : (w3.setCell ⟨w.heap.size, 4, none⟩ (.slice A2 T.mag.length c2')).heap.size = w3.heap.size := World.size_setCell _ _ _
    have hw4 := hb4.size
    have hs5 : (w4.setCell ⟨w.heap.size, 5, none⟩ (.slice K2 T.kids.length d2)).heap.size = w4.heap.size := World.size_setCell _ _ _
    have hB5 := (hbX.trans (hb4.mono hbX.size)).setCell (p := ⟨w.heap.size, 5, none⟩) (Nat.le_refl _) (.slice K2 T.kids.length d2)
    have hX1 : (w4.setCell ⟨w.heap.size, 5, none⟩ (.slice K2 T.kids.length d2)).heap[w.heap.size + 1]? = some (.cells #[.int .i64 0, .int .i64 0, .string ⟨#[]⟩, .bool false, .slice none 0 0, .slice none 0 0] 27) :=
      (heap_ne _ (by omega) _ _).trans ((hb4.5 _ (by omega)).trans ((heap_ne _ (by omega) _ _).trans ((hb3.5 _ (by omega)).trans hx2)))
    have hcx := (cells_boxT hx1).box
    have y0 := cell_set_neT (u := .slice K2 T.kids.length d2) (cell_later hb4 (cell_set_neT (u := .slice A2 T.mag.length c2') (cell_later hb3 hcx.1) (show 4 ≠ 0 by decide))) (show 5 ≠ 0 by decide)
    have y1 := cell_set_neT (u := .slice K2 T.kids.length d2) (cell_later hb4 (cell_set_neT (u := .slice A2 T.mag.length c2') (cell_later hb3 hcx.2.1) (show 4 ≠ 1 by decide))) (show 5 ≠ 1 by decide)
    have y2 := cell_set_neT (u := .slice K2 T.kids.length d2) (cell_later hb4 (cell_set_neT (u := .slice A2 T.mag.length c2') (cell_later hb3 hcx.2.2.1) (show 4 ≠ 2 by decide))) (show 5 ≠ 2 by decide)
    have y3 := cell_set_neT (u := .slice K2 T.kids.length d2) (cell_later hb4 (cell_set_neT (u := .slice A2 T.mag.length c2') (cell_later hb3 hcx.2.2.2.1) (show 4 ≠ 3 by decide))) (show 5 ≠ 3 by decide)
    have y4 := cell_set_neT (u := .slice K2 T.kids.length d2) (cell_later hb4 (World.cell?_setCell_same' w3 ⟨w.heap.size, 4, none⟩ (.slice A2 T.mag.length c2') (by rw [cell_later hb3 hcx.2.2.2.2.1]; rfl))) (show 5 ≠ 4 by decide)
    have y5 : (w4.setCell ⟨w.heap.size, 5, none⟩ (.slice K2 T.kids.length d2)).cell? ⟨w.heap.size, 5, none⟩ = some (.slice K2 T.kids.length d2) := World.cell?_setCell_same' _ _ _ (by rw [cell_later hb4 (cell_set_neT (u := .slice A2 T.mag.length c2') (cell_later hb3 hcx.2.2.2.2.2) (show 4 ≠ 5 by decide))]; rfl)
    have hF3 : FrI w3 w2.heap.size .u32 A2 T.mag ∧ (0 < T.mag.length → ∀ ad, A2 = some ad → ad.block < w3.heap.size) := by
      by_cases h0 : 0 < T.mag.length
      · exact ⟨FrI.of_own (hmo h0), fun _ ad e => ((hmo h0).lt ad.block (by rw [e]; rfl)).2⟩
      · exact ⟨fun i hi => by omega, fun h => absurd h h0⟩
    have hG : ∃ g, w3.heap.size ≤ g ∧ g ≤ w4.heap.size ∧ (0 < T.kids.length → K2 = some ⟨g, 0, none⟩ ∧ g < w4.heap.size ∧ (∀ j u, news[j]? = some u → w4.cell? ⟨g, j, none⟩ = some u) ∧ ∀ j, w4.frozen? ⟨g, j, none⟩ = false) := by
      by_cases h0 : 0 < T.kids.length
      · have ho := hko h0
        rcases ho.2 with ⟨_, h⟩ | ⟨g, cap, cur, hv, hg, hh, _⟩
        · omega
        · injection hv with hK2 _ _
          refine ⟨g, by omega, Nat.le_of_lt (Array.getElem?_eq_some_iff.1 hh).1, fun _ => ⟨hK2, (Array.getElem?_eq_some_iff.1 hh).1, fun j u hj => ?_, fun j => Lib.frozen_of_heap hh j⟩⟩
          have := ho.cells (g := g) (by rw [hK2]; rfl) j u hj
          rwa [Addr.add_lit, Nat.zero_add] at this
      · exact ⟨w3.heap.size, Nat.le_refl _, by omega, fun h => absurd h h0⟩
    obtain ⟨g, hg1, hg3, hg2⟩ := hG
    have hCp0 : Cpd D w g w4.heap.size 0 T.kids (w4.setCell ⟨w.heap.size, 5, none⟩ (.slice K2 T.kids.length d2)) := by
      refine ⟨fun _ => w4.heap.size, rfl, fun _ => Nat.le_refl _, by rw [hs5]; exact Nat.le_refl _, fun i t hi => ?_⟩
      have hil := (List.getElem?_eq_some_iff.1 hi).1
      obtain ⟨A', c', K', d', e1, hNt⟩ := HNW.out i t hi
      obtain ⟨f1, f2, f3, f4⟩ := hg2 (by omega)
      have hx : ∀ j, (w4.setCell ⟨w.heap.size, 5, none⟩ (.slice K2 T.kids.length d2)).cell? ⟨g, j, none⟩ = w4.cell? ⟨g, j, none⟩ := fun j => World.cell?_of_block (heap_ne _ (show g ≠ w.heap.size by omega) _ _)
      refine ⟨A', c', K', d', ⟨?_, ?_, ?_, ?_, ?_, ?_⟩, fun j => by rw [World.frozen?_setCell]; exact f4 j, fun h => absurd h (Nat.not_lt_zero _), fun _ => hNt⟩
      · rw [hx]; exact f3 _ _ (e1 0 (by decide))
      · rw [hx]; exact f3 _ _ (e1 1 (by decide))
      · rw [hx]; exact f3 _ _ (e1 2 (by decide))
      · rw [hx]; exact f3 _ _ (e1 3 (by decide))
      · rw [hx]; exact f3 _ _ (e1 4 (by decide))
      · rw [hx]; exact f3 _ _ (e1 5 (by decide))
    have hF5 : FrI (w4.setCell ⟨w.heap.size, 5, none⟩ (.slice K2 T.kids.length d2)) w2.heap.size .u32 A2 T.mag := frI_keep hF3.1 hF3.2 (fun k k1 k2 => (heap_ne _ (by omega) _ _).trans ((hb4.5 k (by omega)).trans (heap_ne _ (by omega) _ _)))
    have hA2 := Lib.hid hF3.2
    have hG2 := Lib.hid (fun h0 => (hg2 h0).1)
    have hGM : 0 < T.kids.length → g < w4.heap.size := fun h0 => (hg2 h0).2.1
    clear hcx hmo hko hg2 HNW hbX hb3 hx1 hx2 hb4 HCW HCN hF3 z4 z5 hsX
    have hM : w4.heap.size = (w4.setCell ⟨w.heap.size, 5, none⟩ (.slice K2 T.kids.length d2)).heap.size := hs5.symm
    generalize w4.setCell ⟨w.heap.size, 5, none⟩ (.slice K2 T.kids.length d2) = w5 at *
    have hM2 : w3.heap.size ≤ w4.heap.size := by omega
    clear hw3' hs5 hw4
    generalize hMM : w4.heap.size = M at *
    go_loopw [18] (fun iv wr => ∃ k : Nat, iv = .int .i64 k ∧ k ≤ T.kids.length ∧ Cpd D w g M k T.kids wr ∧ Turned g (g + 1) w5 wr) (fun iv _ => T.kids.length - (intOf iv).toNat)
    case atStart => exact ⟨0, rfl, Nat.zero_le _, hCp0, Turned.refl _ _ _⟩
    case round =>
      obtain ⟨k, rfl, hk, hCp, hTr⟩ := hrel
      have hsr := hTr.size
      have hX0r := hTr.block w.heap.size (by omega) (.inl (by omega))
      have r5 := (World.cell?_of_block (a := ⟨w.heap.size, 5, none⟩) hX0r).trans y5
      have hlr : w.heap.size < wr.heap.size := by omega
      by_cases hkl : k < T.kids.length
      · have o1 : decide ((k : Int) < (T.kids.length : Int)) = true := decide_eq_true (by omega)
        have o2 : decide (k < T.kids.length) = true := decide_eq_true hkl
        obtain ⟨t, ht⟩ : ∃ t, T.kids[k]? = some t := ⟨_, List.getElem?_eq_getElem hkl⟩
        have htm := List.mem_of_getElem? ht
        have htw := T.weight_kid htm
        have hK2 := hG2.out (by omega)
        have hgM := hGM (by omega)
        subst hK2
        obtain ⟨A', c', K', d', hCk, hFk, hNk⟩ : ∃ A' c' K' d', CellsN wr g (k * 6) t A' c' K' d' ∧ (∀ j, wr.frozen? ⟨g, j, none⟩ = false) ∧ NodeAt w t A' c' K' d' := by
          obtain ⟨E, _, _, _, e3⟩ := id hCp
          obtain ⟨A', c', K', d', q1, q2, _, q4⟩ := e3 k t ht
          exact ⟨A', c', K', d', q1, q2, q4 (Nat.le_refl _)⟩
        obtain ⟨n0, n1, n2, n3, n4, n5⟩ := id hCk
        have hbw : Below w.heap.size w wr := hB5.trans (hTr.below (by omega) |>.mono (by omega))
        have hcall := fun (W : World) (hb : Below wr.heap.size wr W) => tcopied_ok D t (hdk.out t htm) A' c' K' d' W (hNk.later (hbw.trans (hb.mono hbw.size))) (by omega)
        unfold ndV at hcall
        have HS := Lib.hid hcall
        have HCk := Lib.hid (show _ ∧ _ ∧ _ ∧ _ from ⟨hCk, hFk, hCp, ht⟩)
        have hgr := World.block_lt_of_cell? _ _ n0
        clear hcall hNk hCk hFk hCp ht htm hdk
        go_wp2_with fail
        have hba := (Below.refl wr.heap.size wr).alloc (Nat.le_refl _) (.cells #[.int .i64 t.kind, .int .i64 t.pos, .string t.text, .bool t.neg, .slice A' t.mag.length c', .slice K' t.kids.length d'] 27)
        obtain ⟨v0, v1, v2, v3, v4, v5⟩ := (cells_boxT (T := t) (heap_alloc_new wr (.cells #[.int .i64 t.kind, .int .i64 t.pos, .string t.text, .bool t.neg, .slice A' t.mag.length c', .slice K' t.kids.length d'] 27))).box
        have hsa : (wr.alloc (.cells #[.int .i64 t.kind, .int .i64 t.pos, .string t.text, .bool t.neg, .slice A' t.mag.length c', .slice K' t.kids.length d'] 27)).heap.size = wr.heap.size + 1 := by simp
        generalize wr.alloc (.cells #[.int .i64 t.kind, .int .i64 t.pos, .string t.text, .bool t.neg, .slice A' t.mag.length c', .slice K' t.kids.length d'] 27) = wa at *
        have hs2 := fun (W : World) (hb : Below wa.heap.size wa W) => (HS.out W (hba.trans (hb.mono hba.size))).mono (fun e w' (h : ∃ A2 c2 K2 d2, e = .returned (.agg #[.int .i64 t.kind, .int .i64 t.pos, .string t.text, .bool t.neg, .slice A2 t.mag.length c2, .slice K2 t.kids.length d2]) ∧ NodeFr D w' t W.heap.size w'.heap.size A2 c2 K2 d2 ∧ Below W.heap.size W w') => (show ∃ A2 c2 K2 d2 lo, e = .returned (.agg #[.int .i64 t.kind, .int .i64 t.pos, .string t.text, .bool t.neg, .slice A2 t.mag.length c2, .slice K2 t.kids.length d2]) ∧ wr.heap.size ≤ lo ∧ NodeFr D w' t lo w'.heap.size A2 c2 K2 d2 ∧ Below wa.heap.size wa w' from by
          obtain ⟨A2, c2, K2, d2, q1, q2, q3⟩ := h
          exact ⟨A2, c2, K2, d2, W.heap.size, q1, Nat.le_trans hba.size hb.size, q2, hb.trans (q3.mono hb.size)⟩))
        have HS2 := Lib.hid hs2
        clear hs2
        have HPK : ∀ W, Below wa.heap.size wa W → (W.cell? ⟨w.heap.size, 5, none⟩ = some (.slice (some ⟨g, 0, none⟩) T.kids.length d2) ∧ W.cell? ⟨wr.heap.size, 0, none⟩ = some (.int .i64 t.kind) ∧ W.cell? ⟨wr.heap.size, 1, none⟩ = some (.int .i64 t.pos) ∧ W.cell? ⟨wr.heap.size, 2, none⟩ = some (.string t.text) ∧ W.cell? ⟨wr.heap.size, 3, none⟩ = some (.bool t.neg) ∧ W.cell? ⟨wr.heap.size, 4, none⟩ = some (.slice A' t.mag.length c') ∧ W.cell? ⟨wr.heap.size, 5, none⟩ = some (.slice K' t.kids.length d') ∧ W.cell? ⟨g, k * 6, none⟩ = some (.int .i64 t.kind) ∧ W.cell? ⟨g, k * 6 + 1, none⟩ = some (.int .i64 t.pos) ∧ W.cell? ⟨g, k * 6 + 2, none⟩ = some (.string t.text) ∧ W.cell? ⟨g, k * 6 + 3, none⟩ = some (.bool t.neg) ∧ W.cell? ⟨g, k * 6 + 4, none⟩ = some (.slice A' t.mag.length c') ∧ W.cell? ⟨g, k * 6 + 5, none⟩ = some (.slice K' t.kids.length d') ∧ W.frozen? ⟨g, k * 6, none⟩ = false ∧ W.frozen? ⟨g, k * 6 + 1, none⟩ = false ∧ W.frozen? ⟨g, k * 6 + 2, none⟩ = false ∧ W.frozen? ⟨g, k * 6 + 3, none⟩ = false ∧ W.frozen? ⟨g, k * 6 + 4, none⟩ = false ∧ W.frozen? ⟨g, k * 6 + 5, none⟩ = false ∧ w.heap.size < W.heap.size ∧ wr.heap.size < W.heap.size ∧ g < W.heap.size) := fun W h => ⟨cell_later h (cell_later hba r5), cell_later h v0, cell_later h v1, cell_later h v2, cell_later h v3, cell_later h v4, cell_later h v5, cell_later h (cell_later hba n0), cell_later h (cell_later hba n1), cell_later h (cell_later hba n2), cell_later h (cell_later hba n3), cell_later h (cell_later hba n4), cell_later h (cell_later hba n5), (h.frozen (p := ⟨g, k * 6, none⟩) (by rw [hsa]; show g < _; omega)).trans ((hba.frozen (p := ⟨g, k * 6, none⟩) hgr).trans (HCk.out.2.1 _)), (h.frozen (p := ⟨g, k * 6 + 1, none⟩) (by rw [hsa]; show g < _; omega)).trans ((hba.frozen (p := ⟨g, k * 6 + 1, none⟩) hgr).trans (HCk.out.2.1 _)), (h.frozen (p := ⟨g, k * 6 + 2, none⟩) (by rw [hsa]; show g < _; omega)).trans ((hba.frozen (p := ⟨g, k * 6 + 2, none⟩) hgr).trans (HCk.out.2.1 _)), (h.frozen (p := ⟨g, k * 6 + 3, none⟩) (by rw [hsa]; show g < _; omega)).trans ((hba.frozen (p := ⟨g, k * 6 + 3, none⟩) hgr).trans (HCk.out.2.1 _)), (h.frozen (p := ⟨g, k * 6 + 4, none⟩) (by rw [hsa]; show g < _; omega)).trans ((hba.frozen (p := ⟨g, k * 6 + 4, none⟩) hgr).trans (HCk.out.2.1 _)), (h.frozen (p := ⟨g, k * 6 + 5, none⟩) (by rw [hsa]; show g < _; omega)).trans ((hba.frozen (p := ⟨g, k * 6 + 5, none⟩) hgr).trans (HCk.out.2.1 _)), by have := h.size; omega, by have := h.size; omega, by have := h.size; omega⟩
        clear HS hX0r r5 v0 v1 v2 v3 v4 v5 n0 n1 n2 n3 n4 n5 y0 y1 y2 y3 y4 y5
        have q3 : (0 : Int) ≤ (k : Int) := by omega
        have q4 : (k : Int) < (T.kids.length : Int) := by omega
        obtain ⟨u5, v0, v1, v2, v3, v4, v5, n0, n1, n2, n3, n4, n5, z0, z1, z2, z3, z4, z5, l1, l2, l3⟩ := HPK wa (Below.refl _ _)
        go_region_with (go_at_call 41; (with_reducible refine (HS2.out _ ?hbel).mono ?_); (case hbel => (repeat' (first | with_reducible exact H0 | with_reducible exact Below.refl _ _ | (with_reducible refine below_drewT ?_)))); rintro e w_0 ⟨A3, c3, K3, d3, lo, rfl, hlo, hF0, H0⟩; obtain ⟨u5, v0, v1, v2, v3, v4, v5, n0, n1, n2, n3, n4, n5, z0, z1, z2, z3, z4, z5, l1, l2, l3⟩ := HPK w_0 H0)
        all_goals
          have h01 := hba.trans (H0.mono hba.size)
          go_wp2_with fail
          go_roundw
          case rel =>
            refine ⟨k + 1, by go_num, by omega, ?_, (hTr.trans (Turned.of_below h01)).trans (Turned.put6 w_0 (Nat.le_refl g) (Nat.lt_succ_self g) _ _ _ _ _ _)⟩
            exact HCk.out.2.2.1.next hgM hkl h01 HCk.out.2.2.2 hlo hF0 (put6 n0 n1 n2 n3 n4 n5 _ _ _ _ _ _) (fun j => put6_frozen w_0 g (k * 6) _ _ _ _ _ _ _) (fun j hj => put6_off w_0 hj _ _ _ _ _ _) (fun q hq => put6_block w_0 hq _ _ _ _ _ _) (put6_size w_0 g (k * 6) _ _ _ _ _ _)
          case measure => simp [intOf]; omega
      · have o1 : decide ((k : Int) < (T.kids.length : Int)) = false := decide_eq_false (by omega)
        have o2 : decide (k < T.kids.length) = false := decide_eq_false hkl
        have hke : k = T.kids.length := by omega
        subst hke
        have r0 := (World.cell?_of_block (a := ⟨w.heap.size, 0, none⟩) hX0r).trans y0
        have r1 := (World.cell?_of_block (a := ⟨w.heap.size, 1, none⟩) hX0r).trans y1
        have r2 := (World.cell?_of_block (a := ⟨w.heap.size, 2, none⟩) hX0r).trans y2
        have r3 := (World.cell?_of_block (a := ⟨w.heap.size, 3, none⟩) hX0r).trans y3
        have r4 := (World.cell?_of_block (a := ⟨w.heap.size, 4, none⟩) hX0r).trans y4
        have hX1r := (hTr.block (w.heap.size + 1) (by omega) (.inl (by omega))).trans hX1
        have s0 := cell_of_row wr _ 0 _ _ _ hX1r
        have s1 := cell_of_row wr _ 1 _ _ _ hX1r
        have s2 := cell_of_row wr _ 2 _ _ _ hX1r
        have s3 := cell_of_row wr _ 3 _ _ _ hX1r
        have s4 := cell_of_row wr _ 4 _ _ _ hX1r
        have s5 := cell_of_row wr _ 5 _ _ _ hX1r
        have z0 := Lib.frozen_of_heap hX1r 0
        have z1 := Lib.frozen_of_heap hX1r 1
        have z2 := Lib.frozen_of_heap hX1r 2
        have z3 := Lib.frozen_of_heap hX1r 3
        have z4 := Lib.frozen_of_heap hX1r 4
        have z5 := Lib.frozen_of_heap hX1r 5
        have hbw : Below w.heap.size w wr := hB5.trans (hTr.below (by omega) |>.mono (by omega))
        have HCp := Lib.hid hCp
        clear y0 y1 y2 y3 y4 y5 hCp hCp0 hX0r hX1r
        go_wp2_with fail
        refine bodyPost_ret (v := .agg #[.int .i64 T.kind, .int .i64 T.pos, .string T.text, .bool T.neg, .slice A2 T.mag.length c2', .slice K2 T.kids.length d2]) (by simp [results, Tryz.results41, go_sem, s0, s1, s2, s3, s4, s5, z0, z1, z2, z3, z4, z5]) rfl ?_
        have hblk : ∀ q, q ≠ w.heap.size + 1 → ((((((wr.setCell ⟨w.heap.size + 1, 0, none⟩ (.int .i64 T.kind)).setCell ⟨w.heap.size + 1, 1, none⟩ (.int .i64 T.pos)).setCell ⟨w.heap.size + 1, 2, none⟩ (.string T.text)).setCell ⟨w.heap.size + 1, 3, none⟩ (.bool T.neg)).setCell ⟨w.heap.size + 1, 4, none⟩ (.slice A2 T.mag.length c2')).setCell ⟨w.heap.size + 1, 5, none⟩ (.slice K2 T.kids.length d2)).heap[q]? = wr.heap[q]? := fun q hq => put0_block wr hq _ _ _ _ _ _
        have hszF : ((((((wr.setCell ⟨w.heap.size + 1, 0, none⟩ (.int .i64 T.kind)).setCell ⟨w.heap.size + 1, 1, none⟩ (.int .i64 T.pos)).setCell ⟨w.heap.size + 1, 2, none⟩ (.string T.text)).setCell ⟨w.heap.size + 1, 3, none⟩ (.bool T.neg)).setCell ⟨w.heap.size + 1, 4, none⟩ (.slice A2 T.mag.length c2')).setCell ⟨w.heap.size + 1, 5, none⟩ (.slice K2 T.kids.length d2)).heap.size = wr.heap.size := put0_size wr _ _ _ _ _ _ _
        have hbF : Below w.heap.size w ((((((wr.setCell ⟨w.heap.size + 1, 0, none⟩ (.int .i64 T.kind)).setCell ⟨w.heap.size + 1, 1, none⟩ (.int .i64 T.pos)).setCell ⟨w.heap.size + 1, 2, none⟩ (.string T.text)).setCell ⟨w.heap.size + 1, 3, none⟩ (.bool T.neg)).setCell ⟨w.heap.size + 1, 4, none⟩ (.slice A2 T.mag.length c2')).setCell ⟨w.heap.size + 1, 5, none⟩ (.slice K2 T.kids.length d2)) := put0_below hbw (Nat.le_succ _) _ _ _ _ _ _
        generalize ((((((wr.setCell ⟨w.heap.size + 1, 0, none⟩ (.int .i64 T.kind)).setCell ⟨w.heap.size + 1, 1, none⟩ (.int .i64 T.pos)).setCell ⟨w.heap.size + 1, 2, none⟩ (.string T.text)).setCell ⟨w.heap.size + 1, 3, none⟩ (.bool T.neg)).setCell ⟨w.heap.size + 1, 4, none⟩ (.slice A2 T.mag.length c2')).setCell ⟨w.heap.size + 1, 5, none⟩ (.slice K2 T.kids.length d2)) = wF at *
        refine ⟨A2, c2', K2, d2, rfl, ?_, hbF⟩
        obtain ⟨E, e0, e1, e2, e3⟩ := HCp.out
        have hN := hNP.out
        have hFF : FrI wF w2.heap.size .u32 A2 T.mag := frI_keep hF5 (hi := w3.heap.size) hA2.out (fun q q1 q2 => (hblk q (by omega)).trans (hTr.block q (by omega) (.inl (by omega))))
        have hgh : wF.heap[g]? = wr.heap[g]? := hblk g (by omega)
        refine ⟨⟨ma1, ma2, hN.2.2.2, ka1, ka2, hN.1, hN.2.1, hN.2.2.1, hFF.mono (by omega), Nat.le_refl _⟩, E, by omega, by rw [hszF]; exact e2, e1, fun h ad e => ?_, fun i t hi => ?_⟩
        · have := hA2.out h ad e
          omega
        · have hil := (List.getElem?_eq_some_iff.1 hi).1
          have hgM := hGM (by omega)
          obtain ⟨A', c', K', d', q1, q2, q3, _⟩ := e3 i t hi
          have hle := steps_le e1 (Nat.zero_le i)
          have hkeep := (q3 hil).keep (w' := wF) (fun q l1 l2 => hblk q (by omega)) (by rw [hszF]; exact Nat.le_refl _)
          exact ⟨g, A', c', K', d', hG2.out (by omega), by omega, by omega, fun h ad e => by have := hA2.out h ad e; omega, cellsN_keep q1 hgh, fun j => (World.frozen?_of_block hgh).trans (q2 j), hkeep⟩
end
section
set_option linter.unusedVariables false
set_option linter.unusedSimpArgs false
open Go.RowKit
set_option maxRecDepth 1000000
set_option maxHeartbeats 8000000 in
theorem bare_ok : ∀ (D : Nat) (T : Nd) (lo hi : Nat) (A : Option Addr) (c : Nat) (K : Option Addr) (d X o : Nat) (w : World), NodeFr D w T lo hi A c K d → CellsN w X o T A c K d → (∀ j, w.frozen? ⟨X, j, none⟩ = false) → (X < lo ∨ hi ≤ X) →
    Calls Tryz.prog 43 #[.pointer (some ⟨X, o, none⟩)] w fun e w' => e = .returned (.tuple #[]) ∧ NodeFr D w' (bareN T) lo hi A c K d ∧ CellsN w' X o (bareN T) A c K d ∧ Trn lo hi X (o + 1) w w'
  | 0, _, _, _, _, _, _, _, _, _, _, h, _, _, _ => h.elim
  | D + 1, T, lo, hi, A, c, K, d, X, o, w, hN, hC, hF, hX => by
    have hlh := hN.size
    obtain ⟨c0, c1, c2, c3, c4, c5⟩ := id hC
    have hd1 := hN.at.parts.2.2.2.2.1
    have hd2 := hN.at.parts.2.2.2.2.2.1
    unfold maxLen at hd2
    have hT0 := Trn.set lo hi X (o + 1) w (.int .i64 0)
    have f1 := hF (o + 1)
    have s0 := (hT0.cell o (by omega)).trans c0
    have s1 : (w.setCell ⟨X, o + 1, none⟩ (.int .i64 0)).cell? ⟨X, o + 1, none⟩ = some (.int .i64 0) := World.cell?_setCell_same' _ _ _ (by rw [c1]; rfl)
    have s2 := (hT0.cell (o + 2) (by omega)).trans c2
    have s3 := (hT0.cell (o + 3) (by omega)).trans c3
    have s4 := (hT0.cell (o + 4) (by omega)).trans c4
    have s5 := (hT0.cell (o + 5) (by omega)).trans c5
    have hN0 := ((hN.keep (fun k k1 k2 => Below.heap_setCell _ _ _ _ (fun e => by have e : k = X := e; omega)) (Nat.le_of_eq hT0.size.symm)).pos 0 (by unfold I64; omega))
    have hl := World.block_lt_of_cell? _ _ c0
    have HI := Lib.hid (show _ ∧ _ ∧ _ from ⟨hN0, hF, hT0⟩)
    clear hN hC hF hN0 hT0
    go_enter Tryz.func43, Tryz.ntmps43
    go_wp2_with fail
    have hl0 : (w.setCell ⟨X, o + 1, none⟩ (.int .i64 0)).heap.size = w.heap.size := World.size_setCell _ _ _
    generalize w.setCell ⟨X, o + 1, none⟩ (.int .i64 0) = w1 at *
    have hS1 : CellsN w1 X o (bareN T) A c K d := by
      rw [bareN_eq]
      exact ⟨s0, s1, s2, s3, s4, by simpa [Nd.kids] using s5⟩
    go_loopw [11] (fun iv wr => ∃ k : Nat, iv = .int .i64 k ∧ k ≤ T.kids.length ∧ NodeFr (D + 1) wr (barK T k) lo hi A c K d ∧ CellsN wr X o (bareN T) A c K d ∧ Trn lo hi X (o + 1) w wr) (fun iv _ => T.kids.length - (intOf iv).toNat)
    case atStart => exact ⟨0, rfl, Nat.zero_le _, by simpa [barK] using HI.out.1, hS1, HI.out.2.2⟩
    case round =>
      obtain ⟨k, rfl, hk, hNr, hCr, hTr⟩ := hrel
      have r5 := hCr.2.2.2.2.2
      rw [bareN_eq] at r5
      simp only [Nd.kids, List.length_map] at r5
      change wr.cell? _ = some (Value.slice K T.kids.length d) at r5
      have hlr : X < wr.heap.size := by rw [hTr.size]; exact hl
      by_cases hkl : k < T.kids.length
      · have o1 : decide ((k : Int) < (T.kids.length : Int)) = true := decide_eq_true (by omega)
        have o2 : decide (k < T.kids.length) = true := decide_eq_true hkl
        obtain ⟨t, ht⟩ : ∃ t, T.kids[k]? = some t := ⟨_, List.getElem?_eq_getElem hkl⟩
        have hkt : (barK T k).kids[k]? = some t := (bar_get T.kids k).trans ht
        obtain ⟨e1, e2, b, A', c', K', d', hK, b1, b2, b3, b4, b5, b6, hCk, hFk, hNk, hput⟩ := hNr.kid hkt
        subst hK
        have hcall := bare_ok D t e1 e2 A' c' K' d' b (k * 6) wr hNk hCk hFk (.inl b6)
        have HP := Lib.hid hput
        have hlb := World.block_lt_of_cell? _ _ hCk.1
        clear hput hNk hNr s0 s1 s2 s3 s4 s5 c0 c1 c2 c3 c4 c5 HI hS1
        have HC := Lib.hid hCr
        clear hCr hCk
        have hXb : X ≠ b := by omega
        have hXe : X < e1 ∨ e2 ≤ X := by omega
        go_wp2_with (go_at_call 43; refine hcall.mono ?_; rintro e w3 ⟨rfl, hN3, hC3, hT3⟩)
        go_roundw
        case rel => exact ⟨k + 1, by go_num, by omega, by rw [← barK_next ht]; exact HP.out w3 _ _ _ _ _ hN3 hC3 (fun j => (hT3.frozen j).trans (hFk j)) (fun j hj => hT3.cell j (by omega)) (fun m _ m1 m2 => hT3.block m m1 m2) (Nat.le_of_eq hT3.size.symm), cellsN_keep HC.out (hT3.block X hXb hXe), hTr.kid hT3 hXb hXe b1 b2 b3 b5⟩
        case measure => simp [intOf]; omega
      · have o1 : decide ((k : Int) < (T.kids.length : Int)) = false := decide_eq_false (by omega)
        have o2 : decide (k < T.kids.length) = false := decide_eq_false hkl
        have hke : k = T.kids.length := by omega
        subst hke
        rw [barK_all] at hNr
        go_wp2_with fail
        go_end0
        exact ⟨rfl, hNr, hCr, hTr⟩
end
section
set_option linter.unusedVariables false
set_option linter.unusedSimpArgs false
open Go.RowKit
set_option maxRecDepth 1000000
set_option maxHeartbeats 8000000 in
theorem tBare_ok (D : Nat) (T : Nd) (hD : T.depth ≤ D) (A : Option Addr) (c : Nat) (K : Option Addr) (d : Nat) (w : World) (hN : NodeAt w T A c K d) (hW : T.weight ≤ 1048576) :
    Calls Tryz.prog 24 #[ndV T A c K d] w fun e w' => ∃ A2 c2 K2 d2, e = .returned (ndV (bareN T) A2 c2 K2 d2) ∧ NodeFr D w' (bareN T) w.heap.size w'.heap.size A2 c2 K2 d2 ∧ Below w.heap.size w w' := by
  obtain ⟨T', hT'⟩ : ∃ T', bareN T = T' := ⟨_, rfl⟩
  rw [hT']
  have hb0 := (Below.refl w.heap.size w).alloc (Nat.le_refl _) (.cells #[.int .i64 T.kind, .int .i64 T.pos, .string T.text, .bool T.neg, .slice A T.mag.length c, .slice K T.kids.length d] 27)
  have hb1 := hb0.alloc hb0.size (.cells #[.int .i64 0, .int .i64 0, .string ⟨#[]⟩, .bool false, .slice none 0 0, .slice none 0 0] 27)
  have x0 := heap_alloc_new w (.cells #[.int .i64 T.kind, .int .i64 T.pos, .string T.text, .bool T.neg, .slice A T.mag.length c, .slice K T.kids.length d] 27)
  have hlx : w.heap.size < (w.alloc (.cells #[.int .i64 T.kind, .int .i64 T.pos, .string T.text, .bool T.neg, .slice A T.mag.length c, .slice K T.kids.length d] 27)).heap.size := by simp
  have x1 := (Lib.alloc_old _ (.cells #[.int .i64 0, .int .i64 0, .string ⟨#[]⟩, .bool false, .slice none 0 0, .slice none 0 0] 27) _ hlx).trans x0
  have x2 := heap_alloc_new (w.alloc (.cells #[.int .i64 T.kind, .int .i64 T.pos, .string T.text, .bool T.neg, .slice A T.mag.length c, .slice K T.kids.length d] 27)) (.cells #[.int .i64 0, .int .i64 0, .string ⟨#[]⟩, .bool false, .slice none 0 0, .slice none 0 0] 27)
  have hsg : (w.alloc (.cells #[.int .i64 T.kind, .int .i64 T.pos, .string T.text, .bool T.neg, .slice A T.mag.length c, .slice K T.kids.length d] 27)).heap.size = w.heap.size + 1 := by simp
  have hs2 : ((w.alloc (.cells #[.int .i64 T.kind, .int .i64 T.pos, .string T.text, .bool T.neg, .slice A T.mag.length c, .slice K T.kids.length d] 27)).alloc (.cells #[.int .i64 0, .int .i64 0, .string ⟨#[]⟩, .bool false, .slice none 0 0, .slice none 0 0] 27)).heap.size = w.heap.size + 2 := by simp
  rw [hsg] at x2
  obtain ⟨c0, c1, c2, c3, c4, c5⟩ := (cells_boxT x1).box
  have HB := Lib.hid (show _ ∧ _ ∧ _ from ⟨x1, x2, hs2⟩)
  have hC := tcopied_ok D T hD A c K d _ (hN.later hb1) hW
  unfold ndV at hC
  have HC := Lib.hid hC
  clear hC x0 hlx x1 x2 hb0 hsg hN hs2
  unfold ndV
  go_enter Tryz.func24, Tryz.ntmps24
  go_wp2_with (go_at_call 41; refine HC.out.mono ?_; rintro e w3 ⟨A2, c2', K2, d2, rfl, hF3, hb3⟩; have hX0 := (hb3.5 w.heap.size (by rw [HB.out.2.2]; omega)).trans HB.out.1; have d0 := cell_of_row w3 _ 0 _ _ _ hX0; have d1 := cell_of_row w3 _ 1 _ _ _ hX0; have d2' := cell_of_row w3 _ 2 _ _ _ hX0; have d3 := cell_of_row w3 _ 3 _ _ _ hX0; have d4 := cell_of_row w3 _ 4 _ _ _ hX0; have d5 := cell_of_row w3 _ 5 _ _ _ hX0; have z0 := Lib.frozen_of_heap hX0 0; have z1 := Lib.frozen_of_heap hX0 1; have z2 := Lib.frozen_of_heap hX0 2; have z3 := Lib.frozen_of_heap hX0 3; have z4 := Lib.frozen_of_heap hX0 4; have z5 := Lib.frozen_of_heap hX0 5)
  have hs2 := HB.out.2.2
  have hs3 := hb3.size
  have hCX := put0 d0 d1 d2' d3 d4 d5 (.int .i64 T.kind) (.int .i64 T.pos) (.string T.text) (.bool T.neg) (.slice A2 T.mag.length c2') (.slice K2 T.kids.length d2)
  have hF4 := hF3.keep (w' := ((((((w3.setCell ⟨w.heap.size, 0, none⟩ (.int .i64 T.kind)).setCell ⟨w.heap.size, 1, none⟩ (.int .i64 T.pos)).setCell ⟨w.heap.size, 2, none⟩ (.string T.text)).setCell ⟨w.heap.size, 3, none⟩ (.bool T.neg)).setCell ⟨w.heap.size, 4, none⟩ (.slice A2 T.mag.length c2')).setCell ⟨w.heap.size, 5, none⟩ (.slice K2 T.kids.length d2))) (fun q q1 q2 => put0_block w3 (by omega) _ _ _ _ _ _) (by rw [put0_size]; exact Nat.le_refl _)
  have hX1 : ((((((w3.setCell ⟨w.heap.size, 0, none⟩ (.int .i64 T.kind)).setCell ⟨w.heap.size, 1, none⟩ (.int .i64 T.pos)).setCell ⟨w.heap.size, 2, none⟩ (.string T.text)).setCell ⟨w.heap.size, 3, none⟩ (.bool T.neg)).setCell ⟨w.heap.size, 4, none⟩ (.slice A2 T.mag.length c2')).setCell ⟨w.heap.size, 5, none⟩ (.slice K2 T.kids.length d2)).heap[w.heap.size + 1]? = some (.cells #[.int .i64 0, .int .i64 0, .string ⟨#[]⟩, .bool false, .slice none 0 0, .slice none 0 0] 27) := (put0_block w3 (by omega) _ _ _ _ _ _).trans ((hb3.5 _ (by omega)).trans HB.out.2.1)
  have hB4 : Below w.heap.size w ((((((w3.setCell ⟨w.heap.size, 0, none⟩ (.int .i64 T.kind)).setCell ⟨w.heap.size, 1, none⟩ (.int .i64 T.pos)).setCell ⟨w.heap.size, 2, none⟩ (.string T.text)).setCell ⟨w.heap.size, 3, none⟩ (.bool T.neg)).setCell ⟨w.heap.size, 4, none⟩ (.slice A2 T.mag.length c2')).setCell ⟨w.heap.size, 5, none⟩ (.slice K2 T.kids.length d2)) := put0_below (hb1.trans (hb3.mono hb1.size)) (Nat.le_refl _) _ _ _ _ _ _
  have hfz : ∀ j, ((((((w3.setCell ⟨w.heap.size, 0, none⟩ (.int .i64 T.kind)).setCell ⟨w.heap.size, 1, none⟩ (.int .i64 T.pos)).setCell ⟨w.heap.size, 2, none⟩ (.string T.text)).setCell ⟨w.heap.size, 3, none⟩ (.bool T.neg)).setCell ⟨w.heap.size, 4, none⟩ (.slice A2 T.mag.length c2')).setCell ⟨w.heap.size, 5, none⟩ (.slice K2 T.kids.length d2)).frozen? ⟨w.heap.size, j, none⟩ = false := fun j => (put0_frozen w3 _ _ _ _ _ _ _ _).trans (Lib.frozen_of_heap hX0 j)
  have hsz : ((((((w3.setCell ⟨w.heap.size, 0, none⟩ (.int .i64 T.kind)).setCell ⟨w.heap.size, 1, none⟩ (.int .i64 T.pos)).setCell ⟨w.heap.size, 2, none⟩ (.string T.text)).setCell ⟨w.heap.size, 3, none⟩ (.bool T.neg)).setCell ⟨w.heap.size, 4, none⟩ (.slice A2 T.mag.length c2')).setCell ⟨w.heap.size, 5, none⟩ (.slice K2 T.kids.length d2)).heap.size = w3.heap.size := put0_size w3 _ _ _ _ _ _ _
  generalize ((((((w3.setCell ⟨w.heap.size, 0, none⟩ (.int .i64 T.kind)).setCell ⟨w.heap.size, 1, none⟩ (.int .i64 T.pos)).setCell ⟨w.heap.size, 2, none⟩ (.string T.text)).setCell ⟨w.heap.size, 3, none⟩ (.bool T.neg)).setCell ⟨w.heap.size, 4, none⟩ (.slice A2 T.mag.length c2')).setCell ⟨w.heap.size, 5, none⟩ (.slice K2 T.kids.length d2)) = w4 at *
  generalize (w.alloc (.cells #[.int .i64 T.kind, .int .i64 T.pos, .string T.text, .bool T.neg, .slice A T.mag.length c, .slice K T.kids.length d] 27)).alloc (.cells #[.int .i64 0, .int .i64 0, .string ⟨#[]⟩, .bool false, .slice none 0 0, .slice none 0 0] 27) = w2 at *
  have hcall := bare_ok D T w2.heap.size w3.heap.size A2 c2' K2 d2 w.heap.size 0 w4 hF4 hCX hfz (.inl (by omega))
  clear d0 d1 d2' d3 d4 d5 z0 z1 z2 z3 z4 z5 hX0 hCX c0 c1 c2 c3 c4 c5 HC
  refine hcall.mono ?_
  rintro e w5 ⟨rfl, hF5, hC5, hT5⟩
  rw [hT'] at hF5 hC5
  obtain ⟨m0, m1, m2, m3, m4, m5⟩ := hC5.box
  have hX5 := (hT5.block (w.heap.size + 1) (by omega) (.inl (by omega))).trans hX1
  have s0 := cell_of_row w5 _ 0 _ _ _ hX5
  have s1 := cell_of_row w5 _ 1 _ _ _ hX5
  have s2 := cell_of_row w5 _ 2 _ _ _ hX5
  have s3 := cell_of_row w5 _ 3 _ _ _ hX5
  have s4 := cell_of_row w5 _ 4 _ _ _ hX5
  have s5 := cell_of_row w5 _ 5 _ _ _ hX5
  have z0 := Lib.frozen_of_heap hX5 0
  have z1 := Lib.frozen_of_heap hX5 1
  have z2 := Lib.frozen_of_heap hX5 2
  have z3 := Lib.frozen_of_heap hX5 3
  have z4 := Lib.frozen_of_heap hX5 4
  have z5 := Lib.frozen_of_heap hX5 5
  have hsT := hT5.size
  have HX := Lib.hid hX5
  clear hX5 hcall hC5 hfz hF4 hX1
  go_wp2_with fail
  refine bodyPost_ret (v := .agg #[.int .i64 T'.kind, .int .i64 T'.pos, .string T'.text, .bool T'.neg, .slice A2 T'.mag.length c2', .slice K2 T'.kids.length d2]) (by simp [results, Tryz.results24, go_sem, s0, s1, s2, s3, s4, s5, z0, z1, z2, z3, z4, z5]) rfl ?_
  have hblk : ∀ q, q ≠ w.heap.size + 1 → ((((((w5.setCell ⟨w.heap.size + 1, 0, none⟩ (.int .i64 T'.kind)).setCell ⟨w.heap.size + 1, 1, none⟩ (.int .i64 T'.pos)).setCell ⟨w.heap.size + 1, 2, none⟩ (.string T'.text)).setCell ⟨w.heap.size + 1, 3, none⟩ (.bool T'.neg)).setCell ⟨w.heap.size + 1, 4, none⟩ (.slice A2 T'.mag.length c2')).setCell ⟨w.heap.size + 1, 5, none⟩ (.slice K2 T'.kids.length d2)).heap[q]? = w5.heap[q]? := fun q hq => put0_block w5 hq _ _ _ _ _ _
  have hszF : ((((((w5.setCell ⟨w.heap.size + 1, 0, none⟩ (.int .i64 T'.kind)).setCell ⟨w.heap.size + 1, 1, none⟩ (.int .i64 T'.pos)).setCell ⟨w.heap.size + 1, 2, none⟩ (.string T'.text)).setCell ⟨w.heap.size + 1, 3, none⟩ (.bool T'.neg)).setCell ⟨w.heap.size + 1, 4, none⟩ (.slice A2 T'.mag.length c2')).setCell ⟨w.heap.size + 1, 5, none⟩ (.slice K2 T'.kids.length d2)).heap.size = w5.heap.size := put0_size w5 _ _ _ _ _ _ _
  have hbT : Below w.heap.size w4 w5 := ⟨hT5.os, hT5.tape, hT5.output, Nat.le_of_eq hT5.size.symm, fun q hq => hT5.block q (by omega) (.inl (by omega))⟩
  have hbF : Below w.heap.size w ((((((w5.setCell ⟨w.heap.size + 1, 0, none⟩ (.int .i64 T'.kind)).setCell ⟨w.heap.size + 1, 1, none⟩ (.int .i64 T'.pos)).setCell ⟨w.heap.size + 1, 2, none⟩ (.string T'.text)).setCell ⟨w.heap.size + 1, 3, none⟩ (.bool T'.neg)).setCell ⟨w.heap.size + 1, 4, none⟩ (.slice A2 T'.mag.length c2')).setCell ⟨w.heap.size + 1, 5, none⟩ (.slice K2 T'.kids.length d2)) := put0_below (hB4.trans hbT) (Nat.le_succ _) _ _ _ _ _ _
  generalize ((((((w5.setCell ⟨w.heap.size + 1, 0, none⟩ (.int .i64 T'.kind)).setCell ⟨w.heap.size + 1, 1, none⟩ (.int .i64 T'.pos)).setCell ⟨w.heap.size + 1, 2, none⟩ (.string T'.text)).setCell ⟨w.heap.size + 1, 3, none⟩ (.bool T'.neg)).setCell ⟨w.heap.size + 1, 4, none⟩ (.slice A2 T'.mag.length c2')).setCell ⟨w.heap.size + 1, 5, none⟩ (.slice K2 T'.kids.length d2)) = wF at *
  refine ⟨A2, c2', K2, d2, rfl, ?_, hbF⟩
  have := (hF5.keep (w' := wF) (fun q q1 q2 => hblk q (by omega)) (by omega)).lo (lo' := w.heap.size) (by omega)
  rw [show wF.heap.size = w3.heap.size by omega]
  exact this
end
section
set_option linter.unusedVariables false
set_option linter.unusedSimpArgs false
open Go.RowKit
set_option maxRecDepth 1000000
set_option maxHeartbeats 8000000 in
theorem spoil_ok : ∀ (D : Nat) (T : Nd) (lo hi : Nat) (A : Option Addr) (c : Nat) (K : Option Addr) (d : Nat) (w : World), NodeFr D w T lo hi A c K d →
    Calls Tryz.prog 26 #[ndV T A c K d] w fun e w' => e = .returned (.tuple #[]) ∧ Turned lo hi w w'
  | 0, _, _, _, _, _, _, _, _, h => h.elim
  | D + 1, T, lo, hi, A, c, K, d, w, hN => by
    have hlh := hN.size
    have hp := hN.at.parts
    have hd1 := hp.2.2.2.2.1
    have hd2 := hp.2.2.2.2.2.1
    have hm1 := hp.1
    have hm2 := hp.2.1
    clear hp
    unfold maxLen at hd2 hm2
    have hb1 := (Below.refl w.heap.size w).alloc (Nat.le_refl _) (.cells #[.int .i64 T.kind, .int .i64 T.pos, .string T.text, .bool T.neg, .slice A T.mag.length c, .slice K T.kids.length d] 27)
    have x0 := heap_alloc_new w (.cells #[.int .i64 T.kind, .int .i64 T.pos, .string T.text, .bool T.neg, .slice A T.mag.length c, .slice K T.kids.length d] 27)
    have hN1 := hN.later hb1
    have hs1 : (w.alloc (.cells #[.int .i64 T.kind, .int .i64 T.pos, .string T.text, .bool T.neg, .slice A T.mag.length c, .slice K T.kids.length d] 27)).heap.size = w.heap.size + 1 := by simp
    clear hN
    unfold ndV
    go_enter Tryz.func26, Tryz.ntmps26
    go_wp2_with fail
    generalize w.alloc (.cells #[.int .i64 T.kind, .int .i64 T.pos, .string T.text, .bool T.neg, .slice A T.mag.length c, .slice K T.kids.length d] 27) = w1 at *
    go_loopw [2] (fun iv wr => ∃ (k : Nat) (m : List Int), iv = .int .i64 k ∧ k ≤ T.mag.length ∧ m.length = T.mag.length ∧ NodeFr (D + 1) wr (T.setMag m) lo hi A c K d ∧ Turned lo hi w1 wr) (fun iv _ => T.mag.length - (intOf iv).toNat)
    case atStart => exact ⟨0, T.mag, rfl, Nat.zero_le _, rfl, by cases T; exact hN1, Turned.refl _ _ _⟩
    case round =>
      obtain ⟨k, m, rfl, hk, hml, hNr, hTr⟩ := hrel
      have hX := (hTr.block w.heap.size (by omega) (.inr hlh.1)).trans x0
      have c4 := cell_of_row wr _ 4 _ _ _ hX
      have c5 := cell_of_row wr _ 5 _ _ _ hX
      have hlr : w.heap.size < wr.heap.size := by have := hTr.size; omega
      by_cases hkl : k < T.mag.length
      · have o1 : decide ((k : Int) < (T.mag.length : Int)) = true := decide_eq_true (by omega)
        have o2 : decide (k < T.mag.length) = true := decide_eq_true hkl
        obtain ⟨b, off, z, hA, q1, q2, hcz, hfz, hput⟩ := hNr.word (k := k) (by show k < m.length; omega)
        subst hA
        have hlb := World.block_lt_of_cell? _ _ hcz
        have HP := Lib.hid (hput 9 (by omega) (by omega))
        have HT := Lib.hid hTr
        clear hput hNr hTr hX x0
        go_wp2_with fail
        go_roundw
        case rel => exact ⟨k + 1, m.set k 9, by go_num, by omega, by rw [List.length_set]; exact hml, HP.out, HT.out.trans (Turned.set _ q1 q2 _)⟩
        case measure => simp [intOf]; omega
      · have o1 : decide ((k : Int) < (T.mag.length : Int)) = false := decide_eq_false (by omega)
        have o2 : decide (k < T.mag.length) = false := decide_eq_false hkl
        have HN := Lib.hid hNr
        have HT := Lib.hid hTr
        clear hNr hTr hX
        go_wp2_with fail
        clear c4 c5 o1 o2 hk hkl hlr
        generalize wr = wp at *
        go_loopw [3] (fun iv wr => ∃ k : Nat, iv = .int .i64 k ∧ k ≤ T.kids.length ∧ NodeFr (D + 1) wr (spoK T m k) lo hi A c K d ∧ Turned lo hi w1 wr) (fun iv _ => T.kids.length - (intOf iv).toNat)
        case atStart => exact ⟨0, rfl, Nat.zero_le _, by have := HN.out; simpa [spoK, Nd.setMag] using this, HT.out⟩
        case round =>
          obtain ⟨k, rfl, hk, hNr, hTr⟩ := hrel
          have hX := (hTr.block w.heap.size (by omega) (.inr hlh.1)).trans x0
          have c5 := cell_of_row wr _ 5 _ _ _ hX
          have hlr : w.heap.size < wr.heap.size := by have := hTr.size; omega
          by_cases hkl : k < T.kids.length
          · have o1 : decide ((k : Int) < (T.kids.length : Int)) = true := decide_eq_true (by omega)
            have o2 : decide (k < T.kids.length) = true := decide_eq_true hkl
            obtain ⟨t, ht⟩ : ∃ t, T.kids[k]? = some t := ⟨_, List.getElem?_eq_getElem hkl⟩
            have hkt : (spoK T m k).kids[k]? = some t := (bar_get T.kids k).trans ht
            obtain ⟨e1, e2, b, A', c', K', d', hK, b1, b2, b3, b4, b5, b6, hCk, hFk, hNk, hput⟩ := hNr.kid hkt
            subst hK
            cases D with
            | zero => exact hNk.elim
            | succ D =>
              have hcall := spoil_ok (D + 1) t e1 e2 A' c' K' d' wr hNk
              unfold ndV at hcall
              obtain ⟨n0, n1, n2, n3, n4, n5⟩ := id hCk
              have hlb := World.block_lt_of_cell? _ _ n0
              have HP := Lib.hid hput
              have HC := Lib.hid (show _ ∧ _ ∧ _ from ⟨hCk, hFk, hTr⟩)
              have HX := Lib.hid hX
              have hez := hNk.size
              clear hput hNk hNr hCk hFk hTr hX x0 hN1 HN HT
              have hq1 : ∀ W, Turned e1 e2 wr W → (∀ j, W.frozen? ⟨b, j, none⟩ = false) ∧ CellsN W b (k * 6) t A' c' K' d' ∧ W.cell? ⟨w.heap.size, 5, none⟩ = some (.slice (some ⟨b, 0, none⟩) T.kids.length d) ∧ b < W.heap.size ∧ w.heap.size < W.heap.size := fun W hW => by
                have h1 := hW.block b hlb (.inl b6)
                have h2 := hW.block w.heap.size hlr (.inr (by omega))
                have h3 := hW.size
                exact ⟨fun j => (World.frozen?_of_block h1).trans (HC.out.2.1 j), cellsN_keep HC.out.1 h1, (World.cell?_of_block h2).trans (cell_of_row wr _ 5 _ _ _ HX.out), by omega, by omega⟩
              go_wp2_with (go_at_call 26; refine hcall.mono ?_; rintro e w3 ⟨rfl, hT3⟩; obtain ⟨hF3, hC3, c53, hl3, hl3'⟩ := hq1 w3 hT3; obtain ⟨m0, m1, m2, m3, m4, m5⟩ := id hC3; have z0 := hF3 (k * 6); have z1 := hF3 (k * 6 + 1); have z2 := hF3 (k * 6 + 2); have z3 := hF3 (k * 6 + 3); have z4 := hF3 (k * 6 + 4); have z5 := hF3 (k * 6 + 5))
              go_roundw
              case rel =>
                have hp6 := put6 m0 m1 m2 m3 m4 m5 (.int .i64 99) (.int .i64 0) (.string ⟨#[]⟩) (.bool false) (.slice none 0 0) (.slice none 0 0)
                refine ⟨k + 1, by go_num, by omega, ?_, (HC.out.2.2.trans (hT3.mono b3 b5)).trans (Turned.put6 w3 b1 b2 _ _ _ _ _ _)⟩
                rw [← spoK_next ht]
                exact HP.out _ zeroNd none 0 none 0 (zero_fr hez.2 (by rw [put6_size]; have := hT3.size; omega)) hp6 (fun j => (put6_frozen w3 b (k * 6) _ _ _ _ _ _ _).trans (hF3 j)) (fun j hj => (put6_off w3 hj _ _ _ _ _ _).trans (World.cell?_of_block (hT3.block b hlb (.inl b6)))) (fun q q1 q2 q3 => (put6_block w3 q2 _ _ _ _ _ _).trans (hT3.block q q1 q3)) (by rw [put6_size]; exact hT3.size)
              case measure => simp [intOf]; omega
          · have o1 : decide ((k : Int) < (T.kids.length : Int)) = false := decide_eq_false (by omega)
            have o2 : decide (k < T.kids.length) = false := decide_eq_false hkl
            have HT := Lib.hid hTr
            clear hNr hTr hX
            go_wp2_with fail
            go_end0
            exact ⟨rfl, (Turned.of_below hb1).trans HT.out⟩
end
section
set_option linter.unusedVariables false
set_option linter.unusedSimpArgs false
open Go.RowKit
set_option maxRecDepth 1000000
set_option maxHeartbeats 8000000 in
theorem lnone_ok : ∀ (D : Nat) (S T : Nd), bareN S = T → S.depth ≤ D → ∀ (A : Option Addr) (c : Nat) (K : Option Addr) (d : Nat) (w : World), NodeAt w T A c K d →
    Calls Tryz.prog 25 #[ndV T A c K d] w fun e w' => e = .returned (.bool true) ∧ Below w.heap.size w w'
  | 0, S, T, _, hD => absurd hD (by have := S.depth_eq; omega)
  | D + 1, S, T, hST, hD => by
    intro A c K d w hN
    have hp0 : T.pos = 0 := by rw [← hST, bareN_eq]; rfl
    have hks : T.kids = S.kids.map bareN := by rw [← hST, bareN_eq]; rfl
    have HD := Lib.hid (fun (s : Nd) (hs : s ∈ S.kids) => show s.depth ≤ D by have := Nd.depth_kid hs; omega)
    have HKS := Lib.hid hks
    clear hks hST hD
    obtain ⟨hm1, hm2, hrm, hw32, hk1, hk2, hk64, ha64, hts, hKs⟩ := hN.parts
    unfold maxLen at hm2 hk2 hts
    obtain ⟨hk64a, hk64b⟩ := hk64
    obtain ⟨ha64a, ha64b⟩ := ha64
    have HK := Lib.hid (fun (i : Nat) (t : Nd) (hi : T.kids[i]? = some t) => hN.kid hi)
    have hb1 := (Below.refl w.heap.size w).alloc (Nat.le_refl _) (.cells #[.int .i64 T.kind, .int .i64 T.pos, .string T.text, .bool T.neg, .slice A T.mag.length c, .slice K T.kids.length d] 27)
    obtain ⟨c0, c1, c2, c3, c4, c5⟩ := (cellsN_new w T A c K d 27).box
    have o0 : (T.pos != 0) = false := by rw [hp0]; rfl
    clear hp0
    unfold ndV
    clear hKs hN
    go_enter Tryz.func25, Tryz.ntmps25
    go_wp2_with fail
    generalize w.alloc (.cells #[.int .i64 T.kind, .int .i64 T.pos, .string T.text, .bool T.neg, .slice A T.mag.length c, .slice K T.kids.length d] 27) = w1 at *
    go_loopw [3] (fun iv wr => ∃ k : Nat, iv = .int .i64 k ∧ k ≤ T.kids.length ∧ Below w1.heap.size w1 wr) (fun iv _ => T.kids.length - (intOf iv).toNat)
    case atStart => exact ⟨0, rfl, Nat.zero_le _, Below.refl _ _⟩
    case round =>
      obtain ⟨k, rfl, hk, hbr⟩ := hrel
      have d5 := cell_later hbr c5
      have hwl : w.heap.size < wr.heap.size := Nat.lt_of_lt_of_le (World.block_lt_of_cell? _ _ c5) hbr.size
      have hbw := hb1.trans (hbr.mono hb1.size)
      by_cases hkl : k < T.kids.length
      · have o1 : decide ((k : Int) < (T.kids.length : Int)) = true := decide_eq_true (by omega)
        have o2 : decide (k < T.kids.length) = true := decide_eq_true hkl
        obtain ⟨t, ht⟩ : ∃ t, T.kids[k]? = some t := ⟨_, List.getElem?_eq_getElem hkl⟩
        obtain ⟨b, off, A', c', K', d', hK, hC, hNt⟩ := HK.out k t ht
        subst hK
        have htm := List.mem_of_getElem? ht
        obtain ⟨n0, n1, n2, n3, n4, n5⟩ := hC.later hbw
        obtain ⟨s, hs, hst⟩ : ∃ s, s ∈ S.kids ∧ bareN s = t := by
          rw [HKS.out, List.getElem?_map] at ht
          obtain ⟨s, hs, e⟩ := Option.map_eq_some_iff.1 ht
          exact ⟨s, List.mem_of_getElem? hs, e⟩
        have HI := Lib.hid (fun W hW => lnone_ok D s t hst (HD.out s hs) A' c' K' d' W (hNt.later hW))
        clear hC hNt ht htm hs hst
        go_wp2_with (go_at_call 25; refine (HI.out _ hbw).mono ?_; rintro e w3 ⟨rfl, hb3⟩)
        go_roundw
        case rel => exact ⟨k + 1, by go_num, by omega, hbr.trans (hb3.mono hbr.size)⟩
        case measure => simp [intOf]; omega
      · have o1 : decide ((k : Int) < (T.kids.length : Int)) = false := decide_eq_false (by omega)
        have o2 : decide (k < T.kids.length) = false := decide_eq_false hkl
        go_wp2_with fail
        go_ret
        exact ⟨rfl, hbw⟩
end
end Go.Proofs.YtjefhdlncikhmaaGreatDoor
