/- Joined by a program: Cp1, Fr1, Fr2, Fr3, Cln1. -/
import Derived.WalkKit
import Derived.Deep.AppendLies
import Derived.Deep.OwnRows
import Derived.Test.YtjefhdlncikhmaaGreatDoorChecked
import Derived.OwnWalk
import Derived.Lib.SliceRun
import Derived.Lib.Walk
import Derived.Test.YtjefhdlncikhmaaGreatDoorPB23
namespace Go.Proofs.YtjefhdlncikhmaaGreatDoor
section
set_option linter.unusedVariables false
set_option linter.unusedSimpArgs false
open Go.RowKit
set_option maxRecDepth 1000000
theorem nd_info : (Tryz.prog.info? 27).map (fun i => (i.zero, i.size, i.bytes)) = some (some (.agg #[.int .i64 0, .int .i64 0, .string ⟨#[]⟩, .bool false, .slice none 0 0, .slice none 0 0]), 6, 88) := by kernel_rfl
theorem w32_info : (Tryz.prog.info? 61).map (fun i => (i.zero, i.size, i.bytes)) = some (some (.int .u32 0), 1, 4) := by kernel_rfl
theorem Far.none_to {base b1 : Nat} {g : Option Nat} {w : World} {T : Nd} {A : Option Addr} {c : Nat} {K : Option Addr} {d : Nat} (h : Far b1 none w T A c K d) (hb : base ≤ b1) (hg : ∀ x, g = some x → x < b1) : Far base g w T A c K d := fun W hW =>
  h W fun k h1 h2 _ => hW k (Nat.le_trans hb h1) h2 (fun e => by have := hg k e.symm; omega)
theorem heap_set_ne (w : World) {X k : Nat} (h : k ≠ X) (i : Nat) (u : Value) : (w.setCell ⟨X, i, none⟩ u).heap[k]? = w.heap[k]? := Below.heap_setCell _ _ _ _ (fun e => h e)
theorem heap_put6 (w : World) {X k : Nat} (h : k ≠ X) (a0 a1 a2 a3 a4 a5 : Value) : ((((((w.setCell ⟨X, 0, none⟩ a0).setCell ⟨X, 1, none⟩ a1).setCell ⟨X, 2, none⟩ a2).setCell ⟨X, 3, none⟩ a3).setCell ⟨X, 4, none⟩ a4).setCell ⟨X, 5, none⟩ a5).heap[k]? = w.heap[k]? := by
  rw [heap_set_ne _ h, heap_set_ne _ h, heap_set_ne _ h, heap_set_ne _ h, heap_set_ne _ h, heap_set_ne _ h]
theorem below_put6 {B : Nat} {w0 w : World} (hb : Below B w0 w) {X : Nat} (h : B ≤ X) (a0 a1 a2 a3 a4 a5 : Value) : Below B w0 ((((((w.setCell ⟨X, 0, none⟩ a0).setCell ⟨X, 1, none⟩ a1).setCell ⟨X, 2, none⟩ a2).setCell ⟨X, 3, none⟩ a3).setCell ⟨X, 4, none⟩ a4).setCell ⟨X, 5, none⟩ a5) :=
  (((((hb.setCell (p := ⟨X, 0, none⟩) h _).setCell (p := ⟨X, 1, none⟩) h _).setCell (p := ⟨X, 2, none⟩) h _).setCell (p := ⟨X, 3, none⟩) h _).setCell (p := ⟨X, 4, none⟩) h _).setCell (p := ⟨X, 5, none⟩) h _
theorem weights_lenT : ∀ l : List Nd, l.length ≤ weights l
  | [] => Nat.le_refl _
  | a :: r => by rw [weights, List.length_cons, a.weight_eq]; have := weights_lenT r; omega
theorem cells_boxT {w : World} {n : Nat} {T : Nd} {A : Option Addr} {c : Nat} {K : Option Addr} {d : Nat} {t : TypeId} (h : w.heap[n]? = some (.cells #[.int .i64 T.kind, .int .i64 T.pos, .string T.text, .bool T.neg, .slice A T.mag.length c, .slice K T.kids.length d] t (0, 0))) : CellsN w n 0 T A c K d :=
  ⟨cell_of_row _ _ 0 _ _ _ h, cell_of_row _ _ 1 _ _ _ h, cell_of_row _ _ 2 _ _ _ h, cell_of_row _ _ 3 _ _ _ h, cell_of_row _ _ 4 _ _ _ h, cell_of_row _ _ 5 _ _ _ h⟩
theorem take_snoc_nd : ∀ (l : List Nd) (k : Nat) (t : Nd), l[k]? = some t → l.take (k + 1) = l.take k ++ [t]
  | [], k, t, h => by simp at h
  | a :: r, 0, t, h => by simp at h; subst h; rfl
  | a :: r, k + 1, t, h => by rw [List.take_succ_cons, List.take_succ_cons, take_snoc_nd r k t (by simpa using h)]; rfl
theorem at_ofN {x : Value} {g H n c : Nat} (h : x.ownBlock = some g ∨ g = H) : (Value.slice (some ⟨g, 0, none⟩) n c).ownBlock = x.ownBlock ∨ (Value.slice (some ⟨g, 0, none⟩) n c).ownBlock = some H := by
  rcases h with h | h
  · exact .inl (by rw [h]; rfl)
  · exact .inr (by rw [h]; rfl)
set_option maxHeartbeats 8000000 in
theorem lcopied_ok (T : Nd) : ∀ (A : Option Addr) (c : Nat) (K : Option Addr) (d : Nat) (w : World), NodeAt w T A c K d → T.weight ≤ 1048576 →
    Calls Tryz.prog 9 #[ndV T A c K d] w fun e w' => ∃ A2 c2 K2 d2, e = .returned (ndV T A2 c2 K2 d2) ∧ Far w.heap.size none w' T A2 c2 K2 d2 ∧ Below w.heap.size w w' := by
  induction T using Nd.ind with
  | h T ih =>
    intro A c K d w hN hW
    obtain ⟨i0, hi0, hz0, hz1, hz2⟩ := info_parts nd_info
    obtain ⟨j0, hj0, jz0, jz1, jz2⟩ := info_parts w32_info
    obtain ⟨hm1, hm2, hrm, hw32, hk1, hk2, hk64, ha64, hts, hKs⟩ := hN.parts
    have hNP := Lib.hid (show I64 T.kind ∧ I64 T.pos ∧ T.text.size ≤ maxLen ∧ ∀ z ∈ T.mag, 0 ≤ z ∧ z < 4294967296 from ⟨hk64, ha64, hts, hw32⟩)
    unfold maxLen at hm2 hk2 hts
    obtain ⟨hk64a, hk64b⟩ := hk64
    obtain ⟨ha64a, ha64b⟩ := ha64
    have HK := Lib.hid (fun (i : Nat) (t : Nd) (hi : T.kids[i]? = some t) => hN.kid hi)
    have hlw : T.kids.length ≤ 1048576 := by have := T.weight_eq; have := weights_lenT T.kids; omega
    have hmw : T.mag.length ≤ 1048576 := by have := T.weight_eq; omega
    have hb0 := (Below.refl w.heap.size w).alloc (Nat.le_refl _) (.cells #[.int .i64 T.kind, .int .i64 T.pos, .string T.text, .bool T.neg, .slice A T.mag.length c, .slice K T.kids.length d] 27)
    have hb1 := hb0.alloc hb0.size (.cells #[.int .i64 0, .int .i64 0, .string ⟨#[]⟩, .bool false, .slice none 0 0, .slice none 0 0] 27)
    have x0 := heap_alloc_new w (.cells #[.int .i64 T.kind, .int .i64 T.pos, .string T.text, .bool T.neg, .slice A T.mag.length c, .slice K T.kids.length d] 27)
    have hlx : w.heap.size < (w.alloc (.cells #[.int .i64 T.kind, .int .i64 T.pos, .string T.text, .bool T.neg, .slice A T.mag.length c, .slice K T.kids.length d] 27)).heap.size := by simp
    have x1 := (Lib.alloc_old _ (.cells #[.int .i64 0, .int .i64 0, .string ⟨#[]⟩, .bool false, .slice none 0 0, .slice none 0 0] 27) _ hlx).trans x0
    have x2 := heap_alloc_new (w.alloc (.cells #[.int .i64 T.kind, .int .i64 T.pos, .string T.text, .bool T.neg, .slice A T.mag.length c, .slice K T.kids.length d] 27)) (.cells #[.int .i64 0, .int .i64 0, .string ⟨#[]⟩, .bool false, .slice none 0 0, .slice none 0 0] 27)
    have hsg : (w.alloc (.cells #[.int .i64 T.kind, .int .i64 T.pos, .string T.text, .bool T.neg, .slice A T.mag.length c, .slice K T.kids.length d] 27)).heap.size = w.heap.size + 1 := by simp
    have hs2 : ((w.alloc (.cells #[.int .i64 T.kind, .int .i64 T.pos, .string T.text, .bool T.neg, .slice A T.mag.length c, .slice K T.kids.length d] 27)).alloc (.cells #[.int .i64 0, .int .i64 0, .string ⟨#[]⟩, .bool false, .slice none 0 0, .slice none 0 0] 27)).heap.size = w.heap.size + 2 := by simp
    rw [hsg] at x2
    obtain ⟨c0, c1, c2, c3, c4, c5⟩ := (cells_boxT x1).box
    have HB := Lib.hid (show _ ∧ _ from ⟨x2, hs2⟩)
    have HM := Lib.hid hrm
    clear x0 hlx x1 x2 hb0 hsg hN hKs hrm hw32 hs2
    unfold ndV
    go_enter Tryz.func9, Tryz.ntmps9
    go_wp2_with fail
    generalize (w.alloc (.cells #[.int .i64 T.kind, .int .i64 T.pos, .string T.text, .bool T.neg, .slice A T.mag.length c, .slice K T.kids.length d] 27)).alloc (.cells #[.int .i64 0, .int .i64 0, .string ⟨#[]⟩, .bool false, .slice none 0 0, .slice none 0 0] 27) = w2 at *
    have hs2 := HB.out.2
    go_loopw [3, 4] (fun kv iv wr => ∃ (k : Nat) (KA : Option Addr) (KC : Nat) (xs : List Value), kv = .slice KA k KC ∧ iv = .int .i64 k ∧ k ≤ T.kids.length ∧ k ≤ KC ∧ KC ≤ maxLen ∧ wr.ownsRow w2.heap.size 27 6 (.slice KA k KC) k xs ∧ RowN w2.heap.size (Value.slice KA k KC).ownBlock wr (T.kids.take k) xs ∧ Below w2.heap.size w2 wr) (fun _ iv _ => T.kids.length - (intOf iv).toNat)
    case atStart => exact ⟨0, none, 0, [], rfl, rfl, Nat.zero_le _, Nat.le_refl _, Nat.zero_le _, World.ownsRow_nil _ _ _ _, RowN.nil _ _ _, Below.refl _ _⟩
    case round =>
      obtain ⟨k, KA, KC, xs, rfl, rfl, hk, hkc, hkm, hown, hrow, hbr⟩ := hrel
      have d5 := cell_later hbr c5
      have hwl : w.heap.size < wr.heap.size := Nat.lt_of_lt_of_le (World.block_lt_of_cell? _ _ c5) hbr.size
      have hbw := hb1.trans (hbr.mono hb1.size)
      by_cases hkl : k < T.kids.length
      · have o1 : decide ((k : Int) < (T.kids.length : Int)) = true := decide_eq_true (by omega)
        have o2 : decide (k < T.kids.length) = true := decide_eq_true hkl
        obtain ⟨t, ht⟩ : ∃ t, T.kids[k]? = some t := ⟨_, List.getElem?_eq_getElem hkl⟩
        obtain ⟨b, off, A', c', K', d', hK, hC, hNt⟩ := HK.out k t ht
        subst hK
        have htm := List.mem_of_getElem? ht
        obtain ⟨n0, n1, n2, n3, n4, n5⟩ := hC.later hbw
        have htw := T.weight_kid htm
        have hI := ih t htm A' c' K' d' wr (hNt.later hbw) (by omega)
        unfold ndV at hI
        have hTk := take_snoc_nd T.kids k t ht
        have HO := Lib.hid (show _ ∧ _ ∧ _ from ⟨hown, hrow, hTk⟩)
        clear hC hNt ht htm hown hrow hTk
        have hbl : b < wr.heap.size := World.block_lt_of_cell? _ _ n0
        go_wp2_with (first
          | (go_at_call 9; refine hI.mono ?_; rintro e w3 ⟨A2, c2, K2, d2, rfl, hF3, hb3⟩; have hb4 : Below wr.heap.size wr (w3.alloc (.cells #[.int .i64 t.kind, .int .i64 t.pos, .string t.text, .bool t.neg, .slice A2 t.mag.length c2, .slice K2 t.kids.length d2] 27)) := hb3.alloc hb3.size _)
          | (at_builtin; refine wpList_append_lies _ rfl _ _ 25 rfl w2.heap.size 27 i0 _ 6 88 Tryz.underlying25 hi0 hz0 hz1 hz2 rfl (by decide) (.slice KA k KC) k xs rfl (own_laterT HO.out.1 hb4) ⟨w3.heap.size, 0, none⟩ 1 1 [.int .i64 t.kind, .int .i64 t.pos, .string t.text, .bool t.neg, .slice A2 t.mag.length c2, .slice K2 t.kids.length d2] rfl rfl (World.news_of_block (cs := #[.int .i64 t.kind, .int .i64 t.pos, .string t.text, .bool t.neg, .slice A2 t.mag.length c2, .slice K2 t.kids.length d2]) (t := 27) (fr := (0, 0)) (heap_alloc_new w3 _)) (by simp [Value.oneCell']) (by decide) (by unfold maxLen; omega) (by omega) (Nat.le_trans hbr.size hb4.size) (w3.heap.size + 1) (by simp) ?_; intro g cap w5 hown5 hgr hat hlt))
        have hgb : ∀ j, (Value.slice KA k KC).ownBlock = some j → w2.heap.size ≤ j ∧ j < wr.heap.size := fun j hj => HO.out.1.lt j hj
        have hb5 : Below w2.heap.size w2 w5 := (hbr.trans (hb4.mono hbr.size)).grown hgr (Nat.le_trans hbr.size hb4.size) (fun j hj => (hgb j hj).1)
        have hrow5 := (((HO.out.2.1.later hb3).snoc (hF3.none_to hbr.size (fun j hj => (hgb j hj).2))).later ((Below.refl _ _).alloc (Nat.le_refl _) (.cells #[.int .i64 t.kind, .int .i64 t.pos, .string t.text, .bool t.neg, .slice A2 t.mag.length c2, .slice K2 t.kids.length d2] 27))).grown (v := .slice KA k KC) (v' := .slice (some ⟨g, 0, none⟩) (k + 1) cap) hgr (at_ofN (by simpa using hat))
        rw [← HO.out.2.2] at hrow5
        have hfit := own_formN hown5
        go_roundw
        case rel => exact ⟨k + 1, some ⟨g, 0, none⟩, cap, xs ++ ndC t A2 c2 K2 d2, rfl, by go_num, by omega, by obtain ⟨_, _, e, h1, h2⟩ := hfit; injection e with _ _ e; omega, by obtain ⟨_, _, e, h1, h2⟩ := hfit; injection e with _ _ e; omega, hown5, hrow5, hb5⟩
        case measure => simp [intOf]; omega
      · have o1 : decide ((k : Int) < (T.kids.length : Int)) = false := decide_eq_false (by omega)
        have o2 : decide (k < T.kids.length) = false := decide_eq_false hkl
        have hke : k = T.kids.length := by omega
        subst hke
        rw [List.take_of_length_le (Nat.le_refl _)] at hrow
        have hsx : w.heap.size + 1 < w2.heap.size := by omega
        have g0 := cell_later hbr c0
        have g1 := cell_later hbr c1
        have g2 := cell_later hbr c2
        have g3 := cell_later hbr c3
        have g4 := cell_later hbr c4
        go_wp2_with (first
          | (at_builtin; refine wpList_append_ints (P := Tryz.prog) _ rfl _ _ 22 rfl w2.heap.size 61 j0 _ 4 .u32 Tryz.underlying22 hj0 jz0 jz1 jz2 rfl (.slice none 0 0) 0 [] rfl (World.ownsRow_nil _ _ _ _) A T.mag.length c T.mag rfl rfl (HM.out.later hbw) (by unfold maxLen; omega) (by omega) hbr.size ?_; intro v6 w6 hown6 hgr6 hat6; obtain ⟨AX, cX, rfl, hx1, hx2, _⟩ := own_form hown6; have hb6 : Below wr.heap.size wr w6 := (Below.refl wr.heap.size wr).grown hgr6 (Nat.le_refl _) (fun j hj => by simp [Value.ownBlock] at hj); have g0 := cell_later hb6 g0; have g1 := cell_later hb6 g1; have g2 := cell_later hb6 g2; have g3 := cell_later hb6 g3; have g4 := cell_later hb6 g4; rw [Nat.zero_add] at hown6; have hw6 : Below w2.heap.size w2 w6 := hbr.trans (hb6.mono hbr.size); have hB6 := (hw6.5 _ hsx).trans HB.out.1; have r0 := cell_of_row w6 _ 0 _ _ _ hB6; have r1 := cell_of_row w6 _ 1 _ _ _ hB6; have r2 := cell_of_row w6 _ 2 _ _ _ hB6; have r3 := cell_of_row w6 _ 3 _ _ _ hB6; have r4 := cell_of_row w6 _ 4 _ _ _ hB6; have r5 := cell_of_row w6 _ 5 _ _ _ hB6; have z0 := Lib.frozen_of_heap hB6 0; have z1 := Lib.frozen_of_heap hB6 1; have z2 := Lib.frozen_of_heap hB6 2; have z3 := Lib.frozen_of_heap hB6 3; have z4 := Lib.frozen_of_heap hB6 4; have z5 := Lib.frozen_of_heap hB6 5; clear hB6))
        have hsz : ∀ a0 a1 a2 a3 a4 a5, ((((((w6.setCell ⟨w.heap.size + 1, 0, none⟩ a0).setCell ⟨w.heap.size + 1, 1, none⟩ a1).setCell ⟨w.heap.size + 1, 2, none⟩ a2).setCell ⟨w.heap.size + 1, 3, none⟩ a3).setCell ⟨w.heap.size + 1, 4, none⟩ a4).setCell ⟨w.heap.size + 1, 5, none⟩ a5).heap.size = w6.heap.size := by intros; simp only [World.size_setCell]
        refine bodyPost_ret (v := .agg #[.int .i64 T.kind, .int .i64 T.pos, .string T.text, .bool T.neg, .slice AX T.mag.length cX, .slice KA T.kids.length KC]) (by simp [results, Tryz.results9, go_sem, r0, r1, r2, r3, r4, r5, z0, z1, z2, z3, z4, z5]) rfl ?_
        refine ⟨AX, cX, KA, KC, rfl, fun W hW => ?_, ?_⟩
        · have hWW : ∀ k, w2.heap.size ≤ k → k < w6.heap.size → W.heap[k]? = w6.heap[k]? := fun k h1 h2 => (hW k (by omega) (by rw [hsz]; exact h2) (by simp)).trans (heap_put6 w6 (by omega) _ _ _ _ _ _)
          have hN := hNP.out
          exact NodeAt.of ⟨by omega, hx2, (FrI.of_own (own_agree hown6 hWW)).rd, hN.2.2.2, hkc, hkm, hN.1, hN.2.1, hN.2.2.1, (hrow.later hb6).kids (own_laterT hown hb6) rfl hWW⟩
        · exact below_put6 (hbw.trans (hb6.mono hbw.size)) (by omega) _ _ _ _ _ _
end
section
set_option linter.unusedVariables false
set_option linter.unusedSimpArgs false
open Go.RowKit
set_option maxRecDepth 1000000
def Nd.setKid (T : Nd) (k : Nat) (t : Nd) : Nd := .mk T.kind T.pos T.text T.neg T.mag (T.kids.set k t)
theorem cells_off {w w' : World} {b o p : Nat} {T : Nd} {A : Option Addr} {c : Nat} {K : Option Addr} {d : Nat} (h : CellsN w b o T A c K d) (ho : o + 6 ≤ p ∨ p + 6 ≤ o) (hw : ∀ j, (j < p ∨ p + 6 ≤ j) → w'.cell? ⟨b, j, none⟩ = w.cell? ⟨b, j, none⟩) : CellsN w' b o T A c K d := by
  obtain ⟨h1, h2, h3, h4, h5, h6⟩ := h
  exact ⟨(hw _ (by omega)).trans h1, (hw _ (by omega)).trans h2, (hw _ (by omega)).trans h3, (hw _ (by omega)).trans h4, (hw _ (by omega)).trans h5, (hw _ (by omega)).trans h6⟩
/-- one of the kids, and what stands when another tree is put in its place. -/
theorem NodeFr.kid {D : Nat} {w : World} {T : Nd} {lo hi : Nat} {A : Option Addr} {c : Nat} {K : Option Addr} {d : Nat} (h : NodeFr (D + 1) w T lo hi A c K d) {k : Nat} {t : Nd} (hk : T.kids[k]? = some t) :
    ∃ e1 e2 b A' c' K' d', K = some ⟨b, 0, none⟩ ∧ lo ≤ b ∧ b < hi ∧ lo ≤ e1 ∧ e1 ≤ e2 ∧ e2 ≤ hi ∧ b < e1 ∧ CellsN w b (k * 6) t A' c' K' d' ∧ (∀ j, w.frozen? ⟨b, j, none⟩ = false) ∧ NodeFr D w t e1 e2 A' c' K' d' ∧
      ∀ (w' : World) (t' : Nd) (A'' : Option Addr) (c'' : Nat) (K'' : Option Addr) (d'' : Nat), NodeFr D w' t' e1 e2 A'' c'' K'' d'' → CellsN w' b (k * 6) t' A'' c'' K'' d'' → (∀ j, w'.frozen? ⟨b, j, none⟩ = false) →
        (∀ j, (j < k * 6 ∨ k * 6 + 6 ≤ j) → w'.cell? ⟨b, j, none⟩ = w.cell? ⟨b, j, none⟩) → (∀ m, m < w.heap.size → m ≠ b → (m < e1 ∨ e2 ≤ m) → w'.heap[m]? = w.heap[m]?) → w.heap.size ≤ w'.heap.size →
        NodeFr (D + 1) w' (T.setKid k t') lo hi A c K d := by
  obtain ⟨⟨h1, h2, h3, h4, h5, h6, h7, h8, h9, h10⟩, E, e1, e2, e3, e4, e5⟩ := h
  have hkl := (List.getElem?_eq_some_iff.1 hk).1
  obtain ⟨b, A', c', K', d', hK, l1, l2, l3, hC, hf, hN⟩ := e5 k t hk
  have f1 := steps_le e3 (Nat.zero_le k)
  have f2 := steps_le e3 (show k + 1 ≤ T.kids.length by omega)
  have f3 := e3 k
  refine ⟨E k, E (k + 1), b, A', c', K', d', hK, l1, by omega, by omega, by omega, by omega, by omega, hC, hf, hN, ?_⟩
  intro w' t' A'' c'' K'' d'' hN' hC' hf' hc hw hs
  have hkk : (T.setKid k t').kids = T.kids.set k t' := rfl
  have hkn : (T.setKid k t').kids.length = T.kids.length := by rw [hkk, List.length_set]
  refine ⟨⟨h1, h2, h3, by rw [hkn]; exact h4, h5, h6, h7, h8, ?_, by omega⟩, E, e1, by rw [hkn]; exact e2, e3, e4, fun i s hi => ?_⟩
  · show FrI w' lo .u32 A T.mag
    intro i hi
    obtain ⟨b1, off, z, e, hB, hz, hcz, hfz⟩ := h9 i hi
    have hlt : b1 < E 0 := e4 (by omega) _ e
    have hne : b1 ≠ b := l3 (by omega) _ e
    have hh := hw b1 (by omega) hne (.inl (by omega))
    exact ⟨b1, off, z, e, hB, hz, (World.cell?_of_block hh).trans hcz, (World.frozen?_of_block hh).trans hfz⟩
  · rw [hkk] at hi
    by_cases hik : i = k
    · subst hik
      rw [List.getElem?_set_self hkl] at hi
      injection hi with hi
      subst hi
      exact ⟨b, A'', c'', K'', d'', hK, l1, l2, l3, hC', hf', hN'⟩
    · rw [List.getElem?_set_ne (by omega)] at hi
      have hil := (List.getElem?_eq_some_iff.1 hi).1
      obtain ⟨b2, A2, c2, K2, d2, hK2, _, _, _, hC2, hf2, hN2⟩ := e5 i s hi
      rw [hK] at hK2
      injection hK2 with hK2
      injection hK2 with hb2 _ _
      subst hb2
      have g1 := steps_le e3 (Nat.zero_le i)
      have g2 := steps_le e3 (show i + 1 ≤ T.kids.length by omega)
      refine ⟨b, A2, c2, K2, d2, hK, l1, l2, l3, cells_off hC2 (by omega) hc, hf', hN2.keep (fun m m1 m2 => hw m (by omega) (by omega) ?_) hs⟩
      rcases Nat.lt_or_gt_of_ne hik with hlt | hgt
      · have := steps_le e3 (show i + 1 ≤ k by omega); omega
      · have := steps_le e3 (show k + 1 ≤ i by omega); omega
theorem NodeFr.pos {D : Nat} {w : World} {T : Nd} {lo hi : Nat} {A : Option Addr} {c : Nat} {K : Option Addr} {d : Nat} (h : NodeFr D w T lo hi A c K d) (p : Int) (hp : I64 p) : NodeFr D w (.mk T.kind p T.text T.neg T.mag T.kids) lo hi A c K d := by
  cases D with
  | zero => exact h.elim
  | succ D =>
    obtain ⟨⟨h1, h2, h3, h4, h5, h6, h7, h8, h9, h10⟩, h⟩ := h
    exact ⟨⟨h1, h2, h3, h4, h5, h6, hp, h8, h9, h10⟩, h⟩
/-- nothing but the blocks from lo on and ahead of hi and one cell is turned. -/
structure Trn (lo hi X o : Nat) (w w' : World) : Prop where
  os : w'.os = w.os
  tape : w'.tape = w.tape
  output : w'.output = w.output
  size : w'.heap.size = w.heap.size
  block : ∀ k, k ≠ X → (k < lo ∨ hi ≤ k) → w'.heap[k]? = w.heap[k]?
  cell : ∀ j, j ≠ o → w'.cell? ⟨X, j, none⟩ = w.cell? ⟨X, j, none⟩
  frozen : ∀ j, w'.frozen? ⟨X, j, none⟩ = w.frozen? ⟨X, j, none⟩
theorem Trn.set (lo hi X o : Nat) (w : World) (u : Value) : Trn lo hi X o w (w.setCell ⟨X, o, none⟩ u) :=
  have hb := (Below.refl X w).setCell (p := ⟨X, o, none⟩) (Nat.le_refl _) u
  ⟨hb.os, hb.tape, hb.output, World.size_setCell _ _ _, fun k h _ => Below.heap_setCell _ _ _ _ (fun e => h e), fun j hj => World.cell?_setCell_other _ _ _ _ (fun e => by injection e; omega), fun j => by rw [World.frozen?_setCell]⟩
theorem Trn.kid {lo hi X o e1 e2 b p : Nat} {w w1 w2 : World} (h : Trn lo hi X o w w1) (h2 : Trn e1 e2 b p w1 w2) (hXb : X ≠ b) (hXe : X < e1 ∨ e2 ≤ X) (b1 : lo ≤ b) (b2 : b < hi) (b3 : lo ≤ e1) (b5 : e2 ≤ hi) : Trn lo hi X o w w2 :=
  have hx := h2.block X hXb hXe
  ⟨h2.os.trans h.os, h2.tape.trans h.tape, h2.output.trans h.output, h2.size.trans h.size, fun k k1 k2 => (h2.block k (by omega) (by omega)).trans (h.block k k1 k2), fun j hj => (World.cell?_of_block hx).trans (h.cell j hj), fun j => (World.frozen?_of_block hx).trans (h.frozen j)⟩
def barK (T : Nd) (k : Nat) : Nd := .mk T.kind 0 T.text T.neg T.mag ((T.kids.take k).map bareN ++ T.kids.drop k)
theorem bar_set {f : Nd → Nd} : ∀ (l : List Nd) (k : Nat) (t : Nd), l[k]? = some t → ((l.take k).map f ++ l.drop k).set k (f t) = (l.take (k + 1)).map f ++ l.drop (k + 1)
  | [], k, t, h => by simp at h
  | a :: r, 0, t, h => by simp at h; subst h; simp
  | a :: r, k + 1, t, h => by
    have := bar_set (f := f) r k t (by simpa using h)
    simp only [List.take_succ_cons, List.drop_succ_cons, List.map_cons, List.cons_append, List.set_cons_succ]
    rw [this]
theorem bar_get {f : Nd → Nd} : ∀ (l : List Nd) (k : Nat), ((l.take k).map f ++ l.drop k)[k]? = l[k]?
  | [], k => by simp
  | a :: r, 0 => by simp
  | a :: r, k + 1 => by
    have := bar_get (f := f) r k
    simpa using this
theorem barK_next {T : Nd} {k : Nat} {t : Nd} (h : T.kids[k]? = some t) : (barK T k).setKid k (bareN t) = barK T (k + 1) := by
  show Nd.mk T.kind 0 T.text T.neg T.mag (((T.kids.take k).map bareN ++ T.kids.drop k).set k (bareN t)) = _
  rw [bar_set _ _ _ h]
  rfl
theorem barK_all (T : Nd) : barK T T.kids.length = bareN T := by rw [bareN_eq, barK]; simp
end
section
set_option linter.unusedVariables false
set_option linter.unusedSimpArgs false
open Go.RowKit
set_option maxRecDepth 1000000
theorem heap_ne (w : World) {X k : Nat} (h : k ≠ X) (i : Nat) (u : Value) : (w.setCell ⟨X, i, none⟩ u).heap[k]? = w.heap[k]? := Below.heap_setCell _ _ _ _ (fun e => h e)
theorem put6 {w : World} {b o : Nat} {c0 c1 c2 c3 c4 c5 : Value} (h0 : w.cell? ⟨b, o, none⟩ = some c0) (h1 : w.cell? ⟨b, o + 1, none⟩ = some c1) (h2 : w.cell? ⟨b, o + 2, none⟩ = some c2) (h3 : w.cell? ⟨b, o + 3, none⟩ = some c3) (h4 : w.cell? ⟨b, o + 4, none⟩ = some c4) (h5 : w.cell? ⟨b, o + 5, none⟩ = some c5) (a0 a1 a2 a3 a4 a5 : Value) :
    ((((((w.setCell ⟨b, o, none⟩ a0).setCell ⟨b, o + 1, none⟩ a1).setCell ⟨b, o + 2, none⟩ a2).setCell ⟨b, o + 3, none⟩ a3).setCell ⟨b, o + 4, none⟩ a4).setCell ⟨b, o + 5, none⟩ a5).cell? ⟨b, o, none⟩ = some a0 ∧ ((((((w.setCell ⟨b, o, none⟩ a0).setCell ⟨b, o + 1, none⟩ a1).setCell ⟨b, o + 2, none⟩ a2).setCell ⟨b, o + 3, none⟩ a3).setCell ⟨b, o + 4, none⟩ a4).setCell ⟨b, o + 5, none⟩ a5).cell? ⟨b, o + 1, none⟩ = some a1 ∧ ((((((w.setCell ⟨b, o, none⟩ a0).setCell ⟨b, o + 1, none⟩ a1).setCell ⟨b, o + 2, none⟩ a2).setCell ⟨b, o + 3, none⟩ a3).setCell ⟨b, o + 4, none⟩ a4).setCell ⟨b, o + 5, none⟩ a5).cell? ⟨b, o + 2, none⟩ = some a2 ∧ ((((((w.setCell ⟨b, o, none⟩ a0).setCell ⟨b, o + 1, none⟩ a1).setCell ⟨b, o + 2, none⟩ a2).setCell ⟨b, o + 3, none⟩ a3).setCell ⟨b, o + 4, none⟩ a4).setCell ⟨b, o + 5, none⟩ a5).cell? ⟨b, o + 3, none⟩ = some a3 ∧ ((((((w.setCell ⟨b, o, none⟩ a0).setCell ⟨b, o + 1, none⟩ a1).setCell ⟨b, o + 2, none⟩ a2).setCell ⟨b, o + 3, none⟩ a3).setCell ⟨b, o + 4, none⟩ a4).setCell ⟨b, o + 5, none⟩ a5).cell? ⟨b, o + 4, none⟩ = some a4 ∧ ((((((w.setCell ⟨b, o, none⟩ a0).setCell ⟨b, o + 1, none⟩ a1).setCell ⟨b, o + 2, none⟩ a2).setCell ⟨b, o + 3, none⟩ a3).setCell ⟨b, o + 4, none⟩ a4).setCell ⟨b, o + 5, none⟩ a5).cell? ⟨b, o + 5, none⟩ = some a5 := by
  refine ⟨?_, ?_, ?_, ?_, ?_, ?_⟩
  · (rw [World.cell?_setCell_other _ _ _ _ (fun e => by injection e; omega)])
    (rw [World.cell?_setCell_other _ _ _ _ (fun e => by injection e; omega)])
    (rw [World.cell?_setCell_other _ _ _ _ (fun e => by injection e; omega)])
    (rw [World.cell?_setCell_other _ _ _ _ (fun e => by injection e; omega)])
    (rw [World.cell?_setCell_other _ _ _ _ (fun e => by injection e; omega)])
    exact World.cell?_setCell_same' _ _ _ (by rw [h0]; rfl)
  · (rw [World.cell?_setCell_other _ _ _ _ (fun e => by injection e; omega)])
    (rw [World.cell?_setCell_other _ _ _ _ (fun e => by injection e; omega)])
    (rw [World.cell?_setCell_other _ _ _ _ (fun e => by injection e; omega)])
    (rw [World.cell?_setCell_other _ _ _ _ (fun e => by injection e; omega)])
    exact World.cell?_setCell_same' _ _ _ (by rw [World.cell?_setCell_other _ _ _ _ (fun e => by injection e; omega)]; rw [h1]; rfl)
  · (rw [World.cell?_setCell_other _ _ _ _ (fun e => by injection e; omega)])
    (rw [World.cell?_setCell_other _ _ _ _ (fun e => by injection e; omega)])
    (rw [World.cell?_setCell_other _ _ _ _ (fun e => by injection e; omega)])
    exact World.cell?_setCell_same' _ _ _ (by rw [World.cell?_setCell_other _ _ _ _ (fun e => by injection e; omega)]; rw [World.cell?_setCell_other _ _ _ _ (fun e => by injection e; omega)]; rw [h2]; rfl)
  · (rw [World.cell?_setCell_other _ _ _ _ (fun e => by injection e; omega)])
    (rw [World.cell?_setCell_other _ _ _ _ (fun e => by injection e; omega)])
    exact World.cell?_setCell_same' _ _ _ (by rw [World.cell?_setCell_other _ _ _ _ (fun e => by injection e; omega)]; rw [World.cell?_setCell_other _ _ _ _ (fun e => by injection e; omega)]; rw [World.cell?_setCell_other _ _ _ _ (fun e => by injection e; omega)]; rw [h3]; rfl)
  · (rw [World.cell?_setCell_other _ _ _ _ (fun e => by injection e; omega)])
    exact World.cell?_setCell_same' _ _ _ (by rw [World.cell?_setCell_other _ _ _ _ (fun e => by injection e; omega)]; rw [World.cell?_setCell_other _ _ _ _ (fun e => by injection e; omega)]; rw [World.cell?_setCell_other _ _ _ _ (fun e => by injection e; omega)]; rw [World.cell?_setCell_other _ _ _ _ (fun e => by injection e; omega)]; rw [h4]; rfl)
  · exact World.cell?_setCell_same' _ _ _ (by rw [World.cell?_setCell_other _ _ _ _ (fun e => by injection e; omega)]; rw [World.cell?_setCell_other _ _ _ _ (fun e => by injection e; omega)]; rw [World.cell?_setCell_other _ _ _ _ (fun e => by injection e; omega)]; rw [World.cell?_setCell_other _ _ _ _ (fun e => by injection e; omega)]; rw [World.cell?_setCell_other _ _ _ _ (fun e => by injection e; omega)]; rw [h5]; rfl)
theorem put6_off (w : World) {b o j : Nat} (h : j < o ∨ o + 6 ≤ j) (a0 a1 a2 a3 a4 a5 : Value) : ((((((w.setCell ⟨b, o, none⟩ a0).setCell ⟨b, o + 1, none⟩ a1).setCell ⟨b, o + 2, none⟩ a2).setCell ⟨b, o + 3, none⟩ a3).setCell ⟨b, o + 4, none⟩ a4).setCell ⟨b, o + 5, none⟩ a5).cell? ⟨b, j, none⟩ = w.cell? ⟨b, j, none⟩ := by
  (repeat (rw [World.cell?_setCell_other _ _ _ _ (fun e => by injection e; omega)]))
theorem put6_block (w : World) {b o k : Nat} (h : k ≠ b) (a0 a1 a2 a3 a4 a5 : Value) : ((((((w.setCell ⟨b, o, none⟩ a0).setCell ⟨b, o + 1, none⟩ a1).setCell ⟨b, o + 2, none⟩ a2).setCell ⟨b, o + 3, none⟩ a3).setCell ⟨b, o + 4, none⟩ a4).setCell ⟨b, o + 5, none⟩ a5).heap[k]? = w.heap[k]? := by
  rw [heap_ne _ h, heap_ne _ h, heap_ne _ h, heap_ne _ h, heap_ne _ h, heap_ne _ h]
theorem put6_frozen (w : World) (b o : Nat) (p : Addr) (a0 a1 a2 a3 a4 a5 : Value) : ((((((w.setCell ⟨b, o, none⟩ a0).setCell ⟨b, o + 1, none⟩ a1).setCell ⟨b, o + 2, none⟩ a2).setCell ⟨b, o + 3, none⟩ a3).setCell ⟨b, o + 4, none⟩ a4).setCell ⟨b, o + 5, none⟩ a5).frozen? p = w.frozen? p := by
  simp only [World.frozen?_setCell]
theorem put6_size (w : World) (b o : Nat) (a0 a1 a2 a3 a4 a5 : Value) : ((((((w.setCell ⟨b, o, none⟩ a0).setCell ⟨b, o + 1, none⟩ a1).setCell ⟨b, o + 2, none⟩ a2).setCell ⟨b, o + 3, none⟩ a3).setCell ⟨b, o + 4, none⟩ a4).setCell ⟨b, o + 5, none⟩ a5).heap.size = w.heap.size := by simp only [World.size_setCell]
theorem put6_below (w : World) {b o B : Nat} (h : B ≤ b) (a0 a1 a2 a3 a4 a5 : Value) : Below B w ((((((w.setCell ⟨b, o, none⟩ a0).setCell ⟨b, o + 1, none⟩ a1).setCell ⟨b, o + 2, none⟩ a2).setCell ⟨b, o + 3, none⟩ a3).setCell ⟨b, o + 4, none⟩ a4).setCell ⟨b, o + 5, none⟩ a5) :=
  ((((((Below.refl B w).setCell (p := ⟨b, o, none⟩) h _).setCell (p := ⟨b, o + 1, none⟩) h _).setCell (p := ⟨b, o + 2, none⟩) h _).setCell (p := ⟨b, o + 3, none⟩) h _).setCell (p := ⟨b, o + 4, none⟩) h _).setCell (p := ⟨b, o + 5, none⟩) h _
theorem Turned.trans {lo hi : Nat} {w w1 w2 : World} (h : Turned lo hi w w1) (h2 : Turned lo hi w1 w2) : Turned lo hi w w2 :=
  ⟨h2.os.trans h.os, h2.tape.trans h.tape, h2.output.trans h.output, Nat.le_trans h.size h2.size, fun k k1 k2 => (h2.block k (Nat.lt_of_lt_of_le k1 h.size) k2).trans (h.block k k1 k2)⟩
theorem Turned.mono {lo hi lo' hi' : Nat} {w w1 : World} (h : Turned lo hi w w1) (h1 : lo' ≤ lo) (h2 : hi ≤ hi') : Turned lo' hi' w w1 :=
  ⟨h.os, h.tape, h.output, h.size, fun k k1 k2 => h.block k k1 (by omega)⟩
theorem Turned.refl (lo hi : Nat) (w : World) : Turned lo hi w w := ⟨rfl, rfl, rfl, Nat.le_refl _, fun _ _ _ => rfl⟩
theorem Turned.put6 (w : World) {lo hi b o : Nat} (h1 : lo ≤ b) (h2 : b < hi) (a0 a1 a2 a3 a4 a5 : Value) : Turned lo hi w ((((((w.setCell ⟨b, o, none⟩ a0).setCell ⟨b, o + 1, none⟩ a1).setCell ⟨b, o + 2, none⟩ a2).setCell ⟨b, o + 3, none⟩ a3).setCell ⟨b, o + 4, none⟩ a4).setCell ⟨b, o + 5, none⟩ a5) :=
  have h := put6_below w (B := 0) (b := b) (o := o) (Nat.zero_le _) a0 a1 a2 a3 a4 a5
  ⟨h.os, h.tape, h.output, h.size, fun k _ hk => put6_block w (by omega) _ _ _ _ _ _⟩
theorem Turned.set (w : World) {lo hi b o : Nat} (h1 : lo ≤ b) (h2 : b < hi) (u : Value) : Turned lo hi w (w.setCell ⟨b, o, none⟩ u) :=
  have h := (Below.refl 0 w).setCell (p := ⟨b, o, none⟩) (Nat.zero_le _) u
  ⟨h.os, h.tape, h.output, h.size, fun k _ hk => heap_ne w (by omega) _ _⟩
theorem Turned.of_below {lo hi : Nat} {w w1 : World} (h : Below w.heap.size w w1) : Turned lo hi w w1 := ⟨h.os, h.tape, h.output, h.size, fun k k1 _ => h.5 k k1⟩
theorem frI_set {w : World} {base : Nat} {k : IntKind} {b off : Nat} {zs : List Int} (h : FrI w base k (some ⟨b, off, none⟩) zs) (i : Nat) (hi : i < zs.length) (z : Int) : FrI (w.setCell ⟨b, off + i, none⟩ (.int k z)) base k (some ⟨b, off, none⟩) (zs.set i z) := fun j hj => by
  rw [List.length_set] at hj
  obtain ⟨b', off', z', hA, hB, hz, hc, hf⟩ := h j hj
  injection hA with hA
  injection hA with e1 e2 _
  subst e1 e2
  by_cases hij : j = i
  · subst hij
    refine ⟨b, off, z, rfl, hB, by rw [List.getElem?_set_self hj], World.cell?_setCell_same' _ _ _ (by rw [hc]; rfl), by rw [World.frozen?_setCell]; exact hf⟩
  · refine ⟨b, off, z', rfl, hB, by rw [List.getElem?_set_ne (by omega)]; exact hz, ?_, by rw [World.frozen?_setCell]; exact hf⟩
    rw [World.cell?_setCell_other _ _ _ _ (fun e => by injection e; omega)]; exact hc
def Nd.setMag (T : Nd) (m : List Int) : Nd := .mk T.kind T.pos T.text T.neg m T.kids
/-- one of the words, and what stands when another is put in its place. -/
theorem NodeFr.word {D : Nat} {w : World} {T : Nd} {lo hi : Nat} {A : Option Addr} {c : Nat} {K : Option Addr} {d : Nat} (h : NodeFr (D + 1) w T lo hi A c K d) {k : Nat} (hk : k < T.mag.length) :
    ∃ b off z, A = some ⟨b, off, none⟩ ∧ lo ≤ b ∧ b < hi ∧ w.cell? ⟨b, off + k, none⟩ = some (.int .u32 z) ∧ w.frozen? ⟨b, off + k, none⟩ = false ∧
      ∀ z' : Int, 0 ≤ z' → z' < 4294967296 → NodeFr (D + 1) (w.setCell ⟨b, off + k, none⟩ (.int .u32 z')) (T.setMag (T.mag.set k z')) lo hi A c K d := by
  have hlh := h.size
  obtain ⟨⟨h1, h2, h3, h4, h5, h6, h7, h8, h9, h10⟩, E, e1, e2, e3, e4, e5⟩ := h
  obtain ⟨b, off, z, hA, hB, hz, hc, hf⟩ := h9 k hk
  have hb := e4 (by omega) _ hA
  have el := steps_le e3 (Nat.zero_le T.kids.length)
  have hb : b < E 0 := hb
  refine ⟨b, off, z, hA, hB, by omega, hc, hf, fun z' z1 z2 => ?_⟩
  subst hA
  have hl : (T.setMag (T.mag.set k z')).mag.length = T.mag.length := List.length_set
  refine ⟨⟨by rw [hl]; exact h1, h2, fun y hy => ?_, h4, h5, h6, h7, h8, frI_set h9 k hk z', by rw [World.size_setCell]; exact h10⟩, E, e1, e2, e3, fun h0 => e4 (by omega), fun i t hi => ?_⟩
  · rcases List.mem_or_eq_of_mem_set hy with hy | rfl
    · exact h3 y hy
    · exact ⟨z1, z2⟩
  · have hil := (List.getElem?_eq_some_iff.1 hi).1
    change i < T.kids.length at hil
    obtain ⟨b2, A2, c2, K2, d2, hK2, l1, l2, l3, hC2, hf2, hN2⟩ := e5 i t hi
    have hne : b ≠ b2 := l3 (by omega) _ rfl
    have g1 := steps_le e3 (Nat.zero_le i)
    have g2 := steps_le e3 (show i + 1 ≤ T.kids.length by omega)
    exact ⟨b2, A2, c2, K2, d2, hK2, l1, l2, fun h0 => l3 (by omega), cellsN_keep hC2 (heap_ne _ (fun e => hne e.symm) _ _), fun j => by rw [World.frozen?_setCell]; exact hf2 j, hN2.keep (fun m m1 m2 => heap_ne _ (by omega) _ _) (by rw [World.size_setCell]; exact Nat.le_refl _)⟩
def zeroNd : Nd := .mk 99 0 ⟨#[]⟩ false [] []
def spoK (T : Nd) (m : List Int) (k : Nat) : Nd := .mk T.kind T.pos T.text T.neg m ((T.kids.take k).map (fun _ => zeroNd) ++ T.kids.drop k)
theorem spoK_next {T : Nd} {m : List Int} {k : Nat} {t : Nd} (h : T.kids[k]? = some t) : (spoK T m k).setKid k zeroNd = spoK T m (k + 1) := by
  show Nd.mk T.kind T.pos T.text T.neg m (((T.kids.take k).map (fun _ => zeroNd) ++ T.kids.drop k).set k ((fun _ => zeroNd) t)) = _
  rw [bar_set _ _ _ h]
  rfl
theorem zero_fr {D : Nat} {w : World} {e1 e2 : Nat} (h1 : e1 ≤ e2) (h2 : e2 ≤ w.heap.size) : NodeFr (D + 1) w zeroNd e1 e2 none 0 none 0 :=
  have h99 : I64 99 := ⟨by omega, by omega⟩
  have h00 : I64 0 := ⟨by omega, by omega⟩
  ⟨⟨Nat.le_refl _, Nat.zero_le _, fun z (hz : z ∈ ([] : List Int)) => by simp at hz, Nat.le_refl _, Nat.zero_le _, h99, h00, Nat.zero_le _, fun i hi => absurd hi (Nat.not_lt_zero _), h2⟩, fun _ => e1, Nat.le_refl _, h1, fun _ => Nat.le_refl _, fun h => absurd h (Nat.not_lt_zero _), fun i t (hi : ([] : List Nd)[i]? = some t) => by simp at hi⟩
end
section
set_option linter.unusedVariables false
set_option linter.unusedSimpArgs false
open Go.RowKit
set_option maxRecDepth 1000000
theorem below_drewT {B : Nat} {w W : World} (h : Below B w W) : Below B w W.drew := ⟨h.os, by first | exact h.tape | (have := h.tape; simpa [World.drew] using this), h.output, h.size, h.block⟩
theorem kids_news {w : World} : ∀ {l : List Nd} {K : Option Addr} {i : Nat}, KidsAt w l K i → ∃ news : List Value, news.length = l.length * 6 ∧ (∀ u ∈ news, u.oneCell' = true) ∧
    (∀ n t, l[n]? = some t → ∃ A c K' d, (∀ j, j < 6 → news[n * 6 + j]? = (ndC t A c K' d)[j]?) ∧ NodeAt w t A c K' d) ∧ (0 < l.length → ∃ b off, K = some ⟨b, off, none⟩ ∧ ∀ j u, news[j]? = some u → w.cell? ⟨b, off + i * 6 + j, none⟩ = some u)
  | [], K, i, h => ⟨[], rfl, fun u hu => by simp at hu, fun n t ht => by simp at ht, fun h => absurd h (Nat.lt_irrefl _)⟩
  | t :: r, K, i, h => by
    rw [KidsAt] at h
    obtain ⟨⟨b, off, A, c, K', d, rfl, hc, hn⟩, hr⟩ := h
    obtain ⟨news, h1, h2, h3, h4⟩ := kids_news hr
    refine ⟨ndC t A c K' d ++ news, by rw [List.length_append, h1, List.length_cons]; simp [ndC]; omega, fun u hu => ?_, fun n s hs => ?_, fun _ => ⟨b, off, rfl, fun j u hj => ?_⟩⟩
    · rcases List.mem_append.1 hu with hu | hu
      · simp only [ndC, List.mem_cons, List.not_mem_nil, or_false] at hu
        rcases hu with rfl | rfl | rfl | rfl | rfl | rfl <;> rfl
      · exact h2 u hu
    · cases n with
      | zero =>
        simp at hs
        subst hs
        exact ⟨A, c, K', d, fun j hj => by rw [Nat.zero_mul, Nat.zero_add, List.getElem?_append_left (by simpa [ndC] using hj)], hn⟩
      | succ n =>
        obtain ⟨A', c', K'', d', e1, e2⟩ := h3 n s (by simpa using hs)
        refine ⟨A', c', K'', d', fun j hj => ?_, e2⟩
        rw [List.getElem?_append_right (by simp [ndC]; omega), ← e1 j hj]
        congr 1
        simp [ndC]
        omega
    · by_cases hj6 : j < 6
      · rw [List.getElem?_append_left (by simpa [ndC] using hj6)] at hj
        obtain ⟨q0, q1, q2, q3, q4, q5⟩ := hc
        rcases (by omega : j = 0 ∨ j = 1 ∨ j = 2 ∨ j = 3 ∨ j = 4 ∨ j = 5) with rfl | rfl | rfl | rfl | rfl | rfl <;> simp [ndC] at hj <;> subst hj <;> assumption
      · rw [List.getElem?_append_right (by simp [ndC]; omega)] at hj
        have hl : 0 < r.length := by
          have := (List.getElem?_eq_some_iff.1 hj).1
          rw [h1] at this
          omega
        obtain ⟨b2, off2, e, hx⟩ := h4 hl
        injection e with e
        injection e with e1 e2 _
        subst e1 e2
        have hq : (ndC t A c K' d).length = 6 := rfl
        rw [hq] at hj
        have := hx (j - 6) u hj
        rw [show off + (i + 1) * 6 + (j - 6) = off + i * 6 + j by omega] at this
        exact this
theorem put0 {w : World} {b : Nat} {c0 c1 c2 c3 c4 c5 : Value} (h0 : w.cell? ⟨b, 0, none⟩ = some c0) (h1 : w.cell? ⟨b, 1, none⟩ = some c1) (h2 : w.cell? ⟨b, 2, none⟩ = some c2) (h3 : w.cell? ⟨b, 3, none⟩ = some c3) (h4 : w.cell? ⟨b, 4, none⟩ = some c4) (h5 : w.cell? ⟨b, 5, none⟩ = some c5) (a0 a1 a2 a3 a4 a5 : Value) :
    ((((((w.setCell ⟨b, 0, none⟩ a0).setCell ⟨b, 1, none⟩ a1).setCell ⟨b, 2, none⟩ a2).setCell ⟨b, 3, none⟩ a3).setCell ⟨b, 4, none⟩ a4).setCell ⟨b, 5, none⟩ a5).cell? ⟨b, 0, none⟩ = some a0 ∧ ((((((w.setCell ⟨b, 0, none⟩ a0).setCell ⟨b, 1, none⟩ a1).setCell ⟨b, 2, none⟩ a2).setCell ⟨b, 3, none⟩ a3).setCell ⟨b, 4, none⟩ a4).setCell ⟨b, 5, none⟩ a5).cell? ⟨b, 1, none⟩ = some a1 ∧ ((((((w.setCell ⟨b, 0, none⟩ a0).setCell ⟨b, 1, none⟩ a1).setCell ⟨b, 2, none⟩ a2).setCell ⟨b, 3, none⟩ a3).setCell ⟨b, 4, none⟩ a4).setCell ⟨b, 5, none⟩ a5).cell? ⟨b, 2, none⟩ = some a2 ∧ ((((((w.setCell ⟨b, 0, none⟩ a0).setCell ⟨b, 1, none⟩ a1).setCell ⟨b, 2, none⟩ a2).setCell ⟨b, 3, none⟩ a3).setCell ⟨b, 4, none⟩ a4).setCell ⟨b, 5, none⟩ a5).cell? ⟨b, 3, none⟩ = some a3 ∧ ((((((w.setCell ⟨b, 0, none⟩ a0).setCell ⟨b, 1, none⟩ a1).setCell ⟨b, 2, none⟩ a2).setCell ⟨b, 3, none⟩ a3).setCell ⟨b, 4, none⟩ a4).setCell ⟨b, 5, none⟩ a5).cell? ⟨b, 4, none⟩ = some a4 ∧ ((((((w.setCell ⟨b, 0, none⟩ a0).setCell ⟨b, 1, none⟩ a1).setCell ⟨b, 2, none⟩ a2).setCell ⟨b, 3, none⟩ a3).setCell ⟨b, 4, none⟩ a4).setCell ⟨b, 5, none⟩ a5).cell? ⟨b, 5, none⟩ = some a5 := by
  have := put6 (o := 0) h0 h1 h2 h3 h4 h5 a0 a1 a2 a3 a4 a5
  exact this
theorem put0_block (w : World) {b k : Nat} (h : k ≠ b) (a0 a1 a2 a3 a4 a5 : Value) : ((((((w.setCell ⟨b, 0, none⟩ a0).setCell ⟨b, 1, none⟩ a1).setCell ⟨b, 2, none⟩ a2).setCell ⟨b, 3, none⟩ a3).setCell ⟨b, 4, none⟩ a4).setCell ⟨b, 5, none⟩ a5).heap[k]? = w.heap[k]? := by
  rw [heap_ne _ h, heap_ne _ h, heap_ne _ h, heap_ne _ h, heap_ne _ h, heap_ne _ h]
theorem put0_size (w : World) (b : Nat) (a0 a1 a2 a3 a4 a5 : Value) : ((((((w.setCell ⟨b, 0, none⟩ a0).setCell ⟨b, 1, none⟩ a1).setCell ⟨b, 2, none⟩ a2).setCell ⟨b, 3, none⟩ a3).setCell ⟨b, 4, none⟩ a4).setCell ⟨b, 5, none⟩ a5).heap.size = w.heap.size := by simp only [World.size_setCell]
theorem put0_frozen (w : World) (b : Nat) (p : Addr) (a0 a1 a2 a3 a4 a5 : Value) : ((((((w.setCell ⟨b, 0, none⟩ a0).setCell ⟨b, 1, none⟩ a1).setCell ⟨b, 2, none⟩ a2).setCell ⟨b, 3, none⟩ a3).setCell ⟨b, 4, none⟩ a4).setCell ⟨b, 5, none⟩ a5).frozen? p = w.frozen? p := by
  simp only [World.frozen?_setCell]
theorem put0_below {B : Nat} {w0 w : World} (hb : Below B w0 w) {b : Nat} (h : B ≤ b) (a0 a1 a2 a3 a4 a5 : Value) : Below B w0 ((((((w.setCell ⟨b, 0, none⟩ a0).setCell ⟨b, 1, none⟩ a1).setCell ⟨b, 2, none⟩ a2).setCell ⟨b, 3, none⟩ a3).setCell ⟨b, 4, none⟩ a4).setCell ⟨b, 5, none⟩ a5) :=
  (((((hb.setCell (p := ⟨b, 0, none⟩) h _).setCell (p := ⟨b, 1, none⟩) h _).setCell (p := ⟨b, 2, none⟩) h _).setCell (p := ⟨b, 3, none⟩) h _).setCell (p := ⟨b, 4, none⟩) h _).setCell (p := ⟨b, 5, none⟩) h _
theorem NodeFr.lo {D : Nat} {w : World} {T : Nd} {lo hi lo' : Nat} {A : Option Addr} {c : Nat} {K : Option Addr} {d : Nat} (h : NodeFr D w T lo hi A c K d) (hl : lo' ≤ lo) : NodeFr D w T lo' hi A c K d := by
  cases D with
  | zero => exact h.elim
  | succ D =>
    obtain ⟨⟨h1, h2, h3, h4, h5, h6, h7, h8, h9, h10⟩, E, e1, e2, e3, e4, e5⟩ := h
    refine ⟨⟨h1, h2, h3, h4, h5, h6, h7, h8, h9.mono hl, h10⟩, E, by omega, e2, e3, e4, fun i t hi => ?_⟩
    obtain ⟨b, A', c', K', d', hK, l1, l2⟩ := e5 i t hi
    exact ⟨b, A', c', K', d', hK, by omega, l2⟩
end
section
set_option linter.unusedVariables false
set_option linter.unusedSimpArgs false
open Go.RowKit
set_option maxRecDepth 1000000
theorem nd_infoC : (Tryz.prog.info? 27).map (fun i => (i.zero, i.size, i.bytes)) = some (some (.agg #[.int .i64 0, .int .i64 0, .string ⟨#[]⟩, .bool false, .slice none 0 0, .slice none 0 0]), 6, 88) := by kernel_rfl
theorem w32_infoC : (Tryz.prog.info? 61).map (fun i => (i.zero, i.size, i.bytes)) = some (some (.int .u32 0), 1, 4) := by kernel_rfl
theorem cloneW_ok (A : Option Addr) (n c : Nat) (news : List Value) (w : World) (hl : news.length = n * 1) (hn : n ≤ 4194304) (hnc : c ≤ maxLen) (hA : 0 < n → ∃ b off, A = some ⟨b, off, none⟩ ∧ (∀ j u, news[j]? = some u → w.cell? ⟨b, off + j, none⟩ = some u)) (h1 : ∀ u ∈ news, u.oneCell' = true) :
    Calls Tryz.prog 59 #[.slice A n c] w fun e w' => ∃ A' c', e = .returned (.slice A' n c') ∧ n ≤ c' ∧ c' ≤ maxLen ∧ (0 < n → w'.ownsRow w.heap.size 61 1 (.slice A' n c') n news) ∧ Below w.heap.size w w' := by
  have q22 : ∀ (w : World) (a : Option Addr) (n c n' c' : Nat), (binOp .eql 22 (.slice a n c) (.slice none n' c')).run Tryz.prog w = .ok (.bool a.isNone) w := fun w a n c n' c' => Lib.run_eql_slice_nil w _ _ a n c n' c' Tryz.underlying22
  obtain ⟨i0, hi0, hz0, hz1, hz2⟩ := info_parts w32_infoC
  by_cases h0 : n = 0
  · subst h0
    cases A with
    | none =>
      clear hA
      go_enter Tryz.func59, Tryz.ntmps59
      go_wp2
      go_ret
      exact ⟨none, 0, rfl, Nat.le_refl _, Nat.zero_le _, fun h => absurd h (Nat.lt_irrefl _), Below.refl _ _⟩
    | some a =>
      clear hA
      go_enter Tryz.func59, Tryz.ntmps59
      go_wp2
      go_ret
      exact ⟨_, _, rfl, Nat.zero_le _, by first | exact hnc | exact Nat.zero_le _, fun h => absurd h (Nat.lt_irrefl _), (Below.refl _ w).alloc (Nat.le_refl _) _⟩
  · obtain ⟨b, off, rfl, hc⟩ := hA (by omega)
    have HC := Lib.hid hc
    clear hc hA
    go_enter Tryz.func59, Tryz.ntmps59
    go_wp2_with (at_builtin; refine wpList_append_own _ rfl _ _ 22 rfl w.heap.size 61 i0 _ 1 4 Tryz.underlying22 hi0 hz0 hz1 hz2 rfl (by decide) _ _ _ rfl (World.ownsRow_made w #[] 0 (Nat.le_refl _) (Nat.zero_le _) (by simp)) ⟨b, off, none⟩ n c news rfl ?qc1 ?qc2 ?qc3 ?qc4 ?qc5 ?qc6 ?_)
    case qc1 => exact hl
    case qc2 =>
      intro j u hj
      rw [Addr.add_lit]
      exact Lib.cell?_alloc_some _ (HC.out j u hj)
    case qc3 => exact h1
    case qc4 => rw [Nat.zero_add]; unfold maxLen; omega
    case qc5 => rw [Nat.zero_add]; omega
    case qc6 => simp
    intro v' w1 hown hgrow hnil
    go_wp2
    go_ret
    obtain ⟨A', c', rfl, k1, k2⟩ := own_formN hown
    exact ⟨A', c', rfl, k1, k2, fun _ => hown, ((Below.refl _ w).alloc (Nat.le_refl _) _).grown hgrow (by simp) (by intro k hk; simp [Value.ownBlock] at hk; omega)⟩
theorem cloneN_ok (A : Option Addr) (n c : Nat) (news : List Value) (w : World) (hl : news.length = n * 6) (hn : n ≤ 4194304) (hnc : c ≤ maxLen) (hA : 0 < n → ∃ b off, A = some ⟨b, off, none⟩ ∧ (∀ j u, news[j]? = some u → w.cell? ⟨b, off + j, none⟩ = some u)) (h1 : ∀ u ∈ news, u.oneCell' = true) :
    Calls Tryz.prog 60 #[.slice A n c] w fun e w' => ∃ A' c', e = .returned (.slice A' n c') ∧ n ≤ c' ∧ c' ≤ maxLen ∧ (0 < n → w'.ownsRow w.heap.size 27 6 (.slice A' n c') n news) ∧ Below w.heap.size w w' := by
  have q22 : ∀ (w : World) (a : Option Addr) (n c n' c' : Nat), (binOp .eql 25 (.slice a n c) (.slice none n' c')).run Tryz.prog w = .ok (.bool a.isNone) w := fun w a n c n' c' => Lib.run_eql_slice_nil w _ _ a n c n' c' Tryz.underlying25
  obtain ⟨i0, hi0, hz0, hz1, hz2⟩ := info_parts nd_infoC
  by_cases h0 : n = 0
  · subst h0
    cases A with
    | none =>
      clear hA
      go_enter Tryz.func60, Tryz.ntmps60
      go_wp2
      go_ret
      exact ⟨none, 0, rfl, Nat.le_refl _, Nat.zero_le _, fun h => absurd h (Nat.lt_irrefl _), Below.refl _ _⟩
    | some a =>
      clear hA
      go_enter Tryz.func60, Tryz.ntmps60
      go_wp2
      go_ret
      exact ⟨_, _, rfl, Nat.zero_le _, by first | exact hnc | exact Nat.zero_le _, fun h => absurd h (Nat.lt_irrefl _), (Below.refl _ w).alloc (Nat.le_refl _) _⟩
  · obtain ⟨b, off, rfl, hc⟩ := hA (by omega)
    have HC := Lib.hid hc
    clear hc hA
    go_enter Tryz.func60, Tryz.ntmps60
    go_wp2_with (at_builtin; refine wpList_append_own _ rfl _ _ 25 rfl w.heap.size 27 i0 _ 6 88 Tryz.underlying25 hi0 hz0 hz1 hz2 rfl (by decide) _ _ _ rfl (World.ownsRow_made w #[] 0 (Nat.le_refl _) (Nat.zero_le _) (by simp)) ⟨b, off, none⟩ n c news rfl ?qc1 ?qc2 ?qc3 ?qc4 ?qc5 ?qc6 ?_)
    case qc1 => exact hl
    case qc2 =>
      intro j u hj
      rw [Addr.add_lit]
      exact Lib.cell?_alloc_some _ (HC.out j u hj)
    case qc3 => exact h1
    case qc4 => rw [Nat.zero_add]; unfold maxLen; omega
    case qc5 => rw [Nat.zero_add]; omega
    case qc6 => simp
    intro v' w1 hown hgrow hnil
    go_wp2
    go_ret
    obtain ⟨A', c', rfl, k1, k2⟩ := own_formN hown
    exact ⟨A', c', rfl, k1, k2, fun _ => hown, ((Below.refl _ w).alloc (Nat.le_refl _) _).grown hgrow (by simp) (by intro k hk; simp [Value.ownBlock] at hk; omega)⟩
end
end Go.Proofs.YtjefhdlncikhmaaGreatDoor
