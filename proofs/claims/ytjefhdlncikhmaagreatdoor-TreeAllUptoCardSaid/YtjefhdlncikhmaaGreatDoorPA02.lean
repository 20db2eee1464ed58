/- Joined by a program: AllC1, GoesT, LAllT. -/
import Derived.WalkKit
import Derived.Shelf.Strings.Builder1
import Derived.Shelf.Strings.Builder2
import Derived.Shelf.Strings.Trim
import Derived.Shelf.Small.Utf8
import Derived.Shelf.Small.Strs
import Derived.Shelf.Strings.BuilderF
import Derived.Shelf.Strings.BuilderK
import Derived.Shelf.Strings.Builder2Cap
import Derived.Shelf.Strings.Search1
import Derived.Shelf.Strings.Prefix
import Derived.Shelf.Unicode.Decode
import Derived.Shelf.Strings.Runes
import Derived.Shelf.Strings.AsciiSet
import Derived.Shelf.Bits.Mul64
import Derived.Shelf.Strings.Repeat
import Derived.Shelf.Unicode.DecodeSlow
import Derived.Shelf.Unicode.DecodeAny
import Derived.Shelf.Strings.BuilderCap
import Derived.Shelf.Slices.Turned
import Derived.Ground.SlgnProg
import Derived.Shelf.SlicesE.Clone
import Derived.Test.YtjefhdlncikhmaaGreatDoorProg
import Derived.OneCell
import Derived.Lib.FrozenHead2
import Derived.Lib.OthersKept
import Derived.Shelf.Strings.BuilderRune
import Derived.Lib.MapLaws
import Derived.Lib.TrimUEq
import Derived.Lib.ValidLaws
import Derived.Lib.RuneBytes
import Derived.Lib.TrimAscii
import Derived.Laws.RangeAny
import Derived.Lib.AppendStr
import Derived.Laws.BytesArg
import Derived.Laws.Cover4
import Derived.BigCall
import Derived.BigQuiet
import Derived.Deep.QuietTactic
import Derived.LoopTactic
import Derived.WalkLawsBesides
import Derived.Laws.DeepBits32
import Derived.Lib.Strings
import Derived.Laws.BitsAllLaws
import Derived.Lib.Hide
import Derived.Maps.AppendAt
import Derived.Deep.AppendLies
import Derived.RegionTactic
import Derived.OwnWalk
import Derived.WalkSpells
import Derived.Deep.RegionHeld3
import Derived.Deep.RegionLaw
import Derived.Lib.UnsafeStr
import Derived.Lib.BufferWrite
import Derived.Laws.MakeOwn
import Derived.Deep.OwnRows
import Derived.Shelf.Unicode.ValidAny
import Derived.Test.YtjefhdlncikhmaaGreatDoorRows
import Derived.Deep.RegionWith
import Derived.Deep.DeepCutAuto
import Derived.Deep.CutBlock
import Derived.RangeFuncBox
import Derived.RangeFuncNested
import Derived.RangeFuncBound
import Derived.RangeFuncCalls
import Derived.RangeFuncLeaves
import Derived.Shelf.Abstract
import Derived.Shelf.RegionOpen
import Derived.OwnWalkIn
import Derived.TacticsInMore
import Derived.LoopNIn
import Derived.LoopIn
import Derived.Laws.EntriesVeiled
import Derived.Test.YtjefhdlncikhmaaGreatDoorPB01
import Derived.Test.YtjefhdlncikhmaaGreatDoorPB03
import Derived.Test.YtjefhdlncikhmaaGreatDoorPB04
import Derived.Test.YtjefhdlncikhmaaGreatDoorPB05
import Derived.Test.YtjefhdlncikhmaaGreatDoorPB06
import Derived.Test.YtjefhdlncikhmaaGreatDoorPB07
import Derived.Test.YtjefhdlncikhmaaGreatDoorPB08
import Derived.Test.YtjefhdlncikhmaaGreatDoorPB09
import Derived.Test.YtjefhdlncikhmaaGreatDoorPB10
import Derived.Test.YtjefhdlncikhmaaGreatDoorPB11
import Derived.Test.YtjefhdlncikhmaaGreatDoorPB12
import Derived.Test.YtjefhdlncikhmaaGreatDoorPB13
import Derived.Test.YtjefhdlncikhmaaGreatDoorPB14
import Derived.Test.YtjefhdlncikhmaaGreatDoorPB15
import Derived.Test.YtjefhdlncikhmaaGreatDoorPB16
import Derived.Test.YtjefhdlncikhmaaGreatDoorPB17
import Derived.Test.YtjefhdlncikhmaaGreatDoorPB18
import Derived.Test.YtjefhdlncikhmaaGreatDoorPB19
import Derived.Test.YtjefhdlncikhmaaGreatDoorPB20
import Derived.Test.YtjefhdlncikhmaaGreatDoorPB21
import Derived.Test.YtjefhdlncikhmaaGreatDoorPB22
import Derived.Test.YtjefhdlncikhmaaGreatDoorPB23
import Derived.Test.YtjefhdlncikhmaaGreatDoorPB24
import Derived.Test.YtjefhdlncikhmaaGreatDoorPB25
import Derived.Test.YtjefhdlncikhmaaGreatDoorPB26
import Derived.Test.YtjefhdlncikhmaaGreatDoorShelf
import Derived.Test.YtjefhdlncikhmaaGreatDoorPA01
namespace Go.Proofs.YtjefhdlncikhmaaGreatDoor
section
set_option linter.unusedVariables false
set_option linter.unusedSimpArgs false
open Go.RowKit
set_option maxRecDepth 1000000
/-- the law's two rows hold the nodes of w0, each with how many it stands within. -/
def RowsA (w0 : World) (F : List (Nat × Nd)) (g gA : Nat) (W : World) : Prop := ∀ i n t, F[i]? = some (n, t) → ∃ A c K d, CellsN W g (i * 6) t A c K d ∧ NodeAt w0 t A c K d ∧ W.cell? ⟨gA, i, none⟩ = some (.int .i64 ((n : Nat) : Int))
theorem RowsA.keep {w0 : World} {F : List (Nat × Nd)} {g gA b : Nat} {W W' : World} (h : RowsA w0 F g gA W) (hk : KeepsQ (fun k => b + 3 ≤ k ∧ k ≤ b + 5) W W') (hg : g < b) (hA : gA < b) : RowsA w0 F g gA W' := fun i n t hi => by
  obtain ⟨A, c, K, d, ⟨h1, h2, h3, h4, h5, h6⟩, hn, ha⟩ := h i n t hi
  have hq : ¬ (b + 3 ≤ g ∧ g ≤ b + 5) := by omega
  exact ⟨A, c, K, d, ⟨cellQ hk hq h1, cellQ hk hq h2, cellQ hk hq h3, cellQ hk hq h4, cellQ hk hq h5, cellQ hk hq h6⟩, hn, cellQ hk (by omega) ha⟩
/-- what the callback's state is in memory. -/
def RepA (w0 : World) (F : List (Nat × Nd)) (b g gA cA cB yb : Nat) (stop : Int) (_ s : Nat) (W : World) : Prop :=
  GA b s (decide (0 < s ∧ (s : Int) = stop)) (.slice (some ⟨g, 0, none⟩) F.length cA) (.slice (some ⟨gA, 0, none⟩) F.length cB) stop W ∧ RowsA w0 F g gA W ∧ W.cell? ⟨yb, 0, none⟩ = some (.func (.func 42) #[] #[.pointer (some ⟨b + 4, 0, none⟩), .pointer (some ⟨b + 5, 0, none⟩), .pointer (some ⟨b + 3, 0, none⟩), .pointer (some ⟨b, 0, none⟩), .pointer (some ⟨b + 1, 0, none⟩), .pointer (some ⟨b + 2, 0, none⟩)])
theorem cbA (w0 : World) (F : List (Nat × Nd)) (b g gA cA cB yb : Nat) (stop : Int) (hw0 : w0.heap.size ≤ b) (hN1 : F.length ≤ 1000000) (hcA : F.length ≤ cA) (hcA2 : cA ≤ maxLen) (hcB : F.length ≤ cB) (hcB2 : cB ≤ maxLen) (hst : -9223372036854775808 ≤ stop ∧ stop ≤ 9223372036854775807) (hg1 : g < b) (hg2 : gA < b) (hyb : b + 5 < yb) :
    CbP (PA F stop) (fun k => b + 3 ≤ k ∧ k ≤ b + 5) (RepA w0 F b g gA cA cB yb stop) (stepA stop) w0 40 #[.pointer (some ⟨yb, 0, none⟩)] where
  q0 := fun k hk => by omega
  later := fun k s W W' h hb => ⟨h.1.later hb, h.2.1.keep (b := b) (KeepsQ.below hb) hg1 hg2, cell_later hb h.2.2⟩
  less := fun k s W h => h
  q1 := fun k s W h j hj => by have := (Array.getElem?_eq_some_iff.1 h.1.v).1; omega
  run := run_call _ _ Tryz.func40 (by kernel_rfl) (by kernel_rfl)
  call := fun k s W n T A c K d hP hb0 hR hN hW hn => by
    obtain ⟨hF, hns⟩ := hP
    obtain ⟨hG, hRows, hy⟩ := hR
    rw [decide_eq_false hns] at hG
    obtain ⟨A', c', K', d', hC, hNr, ha⟩ := hRows s n T hF
    have hs := (List.getElem?_eq_some_iff.1 hF).1
    refine (allB_ok b g gA F.length cA cB s n yb stop T A c K d A' c' K' d' W hG hs hN1 hcA hcA2 hcB hcB2 hst hn hC ha (hNr.later hb0) hN hg1 hg2 hW hy).mono ?_
    rintro e w' ⟨h1, h2, h3⟩
    refine ⟨h1, ⟨?_, hRows.keep h3 hg1 hg2, cellQ h3 (by omega) hy⟩, h3⟩
    have : ((s : Int) + 1 == stop) = decide (0 < s + 1 ∧ ((s + 1 : Nat) : Int) = stop) := by
      by_cases he : (s : Int) + 1 = stop
      · rw [decide_eq_true ⟨Nat.succ_pos _, by omega⟩]; simpa using he
      · rw [decide_eq_false (fun h => he (by omega))]; simpa using he
    rw [this] at h2
    exact h2
set_option maxHeartbeats 8000000 in
theorem all1_ok (w0 : World) (b g gA cA cB nb : Nat) (stop : Int) (T : Nd) (A : Option Addr) (c : Nat) (K : Option Addr) (d : Nat) (w : World) (hw0 : w0.heap.size ≤ b) (hN1 : T.count ≤ 1000000) (hcA : (flF 0 T).length ≤ cA) (hcA2 : cA ≤ maxLen) (hcB : (flF 0 T).length ≤ cB) (hcB2 : cB ≤ maxLen) (hst : -9223372036854775808 ≤ stop ∧ stop ≤ 9223372036854775807) (hg1 : g < b) (hg2 : gA < b)
    (hG : GA b 0 false (.slice (some ⟨g, 0, none⟩) (flF 0 T).length cA) (.slice (some ⟨gA, 0, none⟩) (flF 0 T).length cB) stop w) (hR : RowsA w0 (flF 0 T) g gA w) (hn0 : NodeAt w0 T A c K d) (hb0 : Below w0.heap.size w0 w) (hX : CellsN w nb 0 T A c K d) (hW : T.weight ≤ 1000000) :
    Calls Tryz.prog 39 #[.func (.func 42) #[] #[.pointer (some ⟨b + 4, 0, none⟩), .pointer (some ⟨b + 5, 0, none⟩), .pointer (some ⟨b + 3, 0, none⟩), .pointer (some ⟨b, 0, none⟩), .pointer (some ⟨b + 1, 0, none⟩), .pointer (some ⟨b + 2, 0, none⟩)], .pointer (some ⟨nb, 0, none⟩)] w fun e w' => e = .returned (.tuple #[]) ∧ (∃ s ov, GA b s ov (.slice (some ⟨g, 0, none⟩) (flF 0 T).length cA) (.slice (some ⟨gA, 0, none⟩) (flF 0 T).length cB) stop w' ∧ ((0 < s ∧ (s : Int) = stop) ∨ s = (flF 0 T).length)) ∧ KeepsQ (fun k => b + 3 ≤ k ∧ k ≤ b + 5) w w' := by
  have hlb : b + 5 < w.heap.size := (Array.getElem?_eq_some_iff.1 hG.v).1
  have hb1 := (Below.refl w.heap.size w).alloc (Nat.le_refl _) (.cells #[.func (.func 42) #[] #[.pointer (some ⟨b + 4, 0, none⟩), .pointer (some ⟨b + 5, 0, none⟩), .pointer (some ⟨b + 3, 0, none⟩), .pointer (some ⟨b, 0, none⟩), .pointer (some ⟨b + 1, 0, none⟩), .pointer (some ⟨b + 2, 0, none⟩)]] 52)
  have hy := cell_of_row _ _ 0 _ _ _ (heap_alloc_new w (.cells #[.func (.func 42) #[] #[.pointer (some ⟨b + 4, 0, none⟩), .pointer (some ⟨b + 5, 0, none⟩), .pointer (some ⟨b + 3, 0, none⟩), .pointer (some ⟨b, 0, none⟩), .pointer (some ⟨b + 1, 0, none⟩), .pointer (some ⟨b + 2, 0, none⟩)]] 52))
  obtain ⟨x0, x1, x2, x3, x4, x5⟩ := hX.box
  have lnb := World.block_lt_of_cell? _ _ x0
  have hlen : (flF 0 T).length = T.count := flF_len T 0
  have hdp : 0 + T.depth ≤ 1048576 := by have := T.depth_count; omega
  have hcb := cbA w0 (flF 0 T) b g gA cA cB w.heap.size stop hw0 (by omega) hcA hcA2 hcB hcB2 hst hg1 hg2 hlb
  obtain ⟨hok, hend⟩ := okF_fl (flF 0 T) stop T 0 0 [] (by simp) (fun h => absurd h.1 (Nat.lt_irrefl _))
  have hend2 := endF stop T 0 0
  have hw := walkP_ok hcb T A c K d 0 0 0 _ hok hn0 (hb0.trans (hb1.mono hb0.size)) ⟨hG.later hb1, hR.keep (b := b) (KeepsQ.below hb1) hg1 hg2, hy⟩ (by omega) hdp
  unfold ndV at hw
  have HW := Lib.hid hw
  have hfin : ∀ s, (walkF (stepA stop) 0 0 T).1 = s → ((0 < s ∧ (s : Int) = stop) ∨ s = (flF 0 T).length) := by
    intro s hs
    cases hc : (walkF (stepA stop) 0 0 T).2 with
    | true => exact .inr (by rw [← hs, (hend hc).1, hlen, Nat.zero_add])
    | false => have := hend2 hc; rw [hs] at this; exact .inl this
  have HF := Lib.hid hfin
  generalize walkF (stepA stop) 0 0 T = r at *
  obtain ⟨s1, bb⟩ := r
  clear hw hcb hok hend hend2 hfin hG hR hn0 hb0 hX
  go_enter Tryz.func39, Tryz.ntmps39
  go_wp2_with (go_at_call 28; refine HW.out.mono ?_; rintro e w3 ⟨rfl, hr3, hk3⟩)
  go_end0
  exact ⟨rfl, ⟨s1, _, hr3.1, HF.out s1 rfl⟩, (KeepsQ.below hb1).trans hk3⟩
end
section
set_option linter.unusedVariables false
set_option linter.unusedSimpArgs false
open Go.RowKit
set_option maxRecDepth 1000000
theorem ga_new (g gA N cA cB : Nat) (stop : Int) (w : World) : GA w.heap.size 0 false (.slice (some ⟨g, 0, none⟩) N cA) (.slice (some ⟨gA, 0, none⟩) N cB) stop ((((((w.alloc (.cells #[.slice (some ⟨g, 0, none⟩) N cA] 25)).alloc (.cells #[.slice (some ⟨gA, 0, none⟩) N cB] 42)).alloc (.cells #[.int .i64 stop] 3)).alloc (.cells #[.int .i64 ((0 : Nat) : Int)] 3)).alloc (.cells #[.bool true] 4)).alloc (.cells #[.bool false] 4)) ∧ Below w.heap.size w ((((((w.alloc (.cells #[.slice (some ⟨g, 0, none⟩) N cA] 25)).alloc (.cells #[.slice (some ⟨gA, 0, none⟩) N cB] 42)).alloc (.cells #[.int .i64 stop] 3)).alloc (.cells #[.int .i64 ((0 : Nat) : Int)] 3)).alloc (.cells #[.bool true] 4)).alloc (.cells #[.bool false] 4)) ∧ ((((((w.alloc (.cells #[.slice (some ⟨g, 0, none⟩) N cA] 25)).alloc (.cells #[.slice (some ⟨gA, 0, none⟩) N cB] 42)).alloc (.cells #[.int .i64 stop] 3)).alloc (.cells #[.int .i64 ((0 : Nat) : Int)] 3)).alloc (.cells #[.bool true] 4)).alloc (.cells #[.bool false] 4)).heap.size = w.heap.size + 6 := by
  have s1 : (w.alloc (.cells #[.slice (some ⟨g, 0, none⟩) N cA] 25)).heap.size = w.heap.size + 1 := by simp
  have s2 : ((w.alloc (.cells #[.slice (some ⟨g, 0, none⟩) N cA] 25)).alloc (.cells #[.slice (some ⟨gA, 0, none⟩) N cB] 42)).heap.size = w.heap.size + 2 := by simp
  have s3 : (((w.alloc (.cells #[.slice (some ⟨g, 0, none⟩) N cA] 25)).alloc (.cells #[.slice (some ⟨gA, 0, none⟩) N cB] 42)).alloc (.cells #[.int .i64 stop] 3)).heap.size = w.heap.size + 3 := by simp
  have s4 : ((((w.alloc (.cells #[.slice (some ⟨g, 0, none⟩) N cA] 25)).alloc (.cells #[.slice (some ⟨gA, 0, none⟩) N cB] 42)).alloc (.cells #[.int .i64 stop] 3)).alloc (.cells #[.int .i64 ((0 : Nat) : Int)] 3)).heap.size = w.heap.size + 4 := by simp
  have s5 : (((((w.alloc (.cells #[.slice (some ⟨g, 0, none⟩) N cA] 25)).alloc (.cells #[.slice (some ⟨gA, 0, none⟩) N cB] 42)).alloc (.cells #[.int .i64 stop] 3)).alloc (.cells #[.int .i64 ((0 : Nat) : Int)] 3)).alloc (.cells #[.bool true] 4)).heap.size = w.heap.size + 5 := by simp
  have s6 : ((((((w.alloc (.cells #[.slice (some ⟨g, 0, none⟩) N cA] 25)).alloc (.cells #[.slice (some ⟨gA, 0, none⟩) N cB] 42)).alloc (.cells #[.int .i64 stop] 3)).alloc (.cells #[.int .i64 ((0 : Nat) : Int)] 3)).alloc (.cells #[.bool true] 4)).alloc (.cells #[.bool false] 4)).heap.size = w.heap.size + 6 := by simp
  have y0 := heap_alloc_new w (.cells #[.slice (some ⟨g, 0, none⟩) N cA] 25)
  have y1 := heap_alloc_new (w.alloc (.cells #[.slice (some ⟨g, 0, none⟩) N cA] 25)) (.cells #[.slice (some ⟨gA, 0, none⟩) N cB] 42)
  rw [s1] at y1
  have y2 := heap_alloc_new ((w.alloc (.cells #[.slice (some ⟨g, 0, none⟩) N cA] 25)).alloc (.cells #[.slice (some ⟨gA, 0, none⟩) N cB] 42)) (.cells #[.int .i64 stop] 3)
  rw [s2] at y2
  have y3 := heap_alloc_new (((w.alloc (.cells #[.slice (some ⟨g, 0, none⟩) N cA] 25)).alloc (.cells #[.slice (some ⟨gA, 0, none⟩) N cB] 42)).alloc (.cells #[.int .i64 stop] 3)) (.cells #[.int .i64 ((0 : Nat) : Int)] 3)
  rw [s3] at y3
  have y4 := heap_alloc_new ((((w.alloc (.cells #[.slice (some ⟨g, 0, none⟩) N cA] 25)).alloc (.cells #[.slice (some ⟨gA, 0, none⟩) N cB] 42)).alloc (.cells #[.int .i64 stop] 3)).alloc (.cells #[.int .i64 ((0 : Nat) : Int)] 3)) (.cells #[.bool true] 4)
  rw [s4] at y4
  have y5 := heap_alloc_new (((((w.alloc (.cells #[.slice (some ⟨g, 0, none⟩) N cA] 25)).alloc (.cells #[.slice (some ⟨gA, 0, none⟩) N cB] 42)).alloc (.cells #[.int .i64 stop] 3)).alloc (.cells #[.int .i64 ((0 : Nat) : Int)] 3)).alloc (.cells #[.bool true] 4)) (.cells #[.bool false] 4)
  rw [s5] at y5
  refine ⟨⟨?_, ?_, ?_, ?_, ?_, ?_⟩, ?_, s6⟩
  · exact (heap_alloc_old (((((w.alloc (.cells #[.slice (some ⟨g, 0, none⟩) N cA] 25)).alloc (.cells #[.slice (some ⟨gA, 0, none⟩) N cB] 42)).alloc (.cells #[.int .i64 stop] 3)).alloc (.cells #[.int .i64 ((0 : Nat) : Int)] 3)).alloc (.cells #[.bool true] 4)) _ (by omega)).trans ((heap_alloc_old ((((w.alloc (.cells #[.slice (some ⟨g, 0, none⟩) N cA] 25)).alloc (.cells #[.slice (some ⟨gA, 0, none⟩) N cB] 42)).alloc (.cells #[.int .i64 stop] 3)).alloc (.cells #[.int .i64 ((0 : Nat) : Int)] 3)) _ (by omega)).trans ((heap_alloc_old (((w.alloc (.cells #[.slice (some ⟨g, 0, none⟩) N cA] 25)).alloc (.cells #[.slice (some ⟨gA, 0, none⟩) N cB] 42)).alloc (.cells #[.int .i64 stop] 3)) _ (by omega)).trans ((heap_alloc_old ((w.alloc (.cells #[.slice (some ⟨g, 0, none⟩) N cA] 25)).alloc (.cells #[.slice (some ⟨gA, 0, none⟩) N cB] 42)) _ (by omega)).trans ((heap_alloc_old (w.alloc (.cells #[.slice (some ⟨g, 0, none⟩) N cA] 25)) _ (by omega)).trans (y0)))))
  · exact (heap_alloc_old (((((w.alloc (.cells #[.slice (some ⟨g, 0, none⟩) N cA] 25)).alloc (.cells #[.slice (some ⟨gA, 0, none⟩) N cB] 42)).alloc (.cells #[.int .i64 stop] 3)).alloc (.cells #[.int .i64 ((0 : Nat) : Int)] 3)).alloc (.cells #[.bool true] 4)) _ (by omega)).trans ((heap_alloc_old ((((w.alloc (.cells #[.slice (some ⟨g, 0, none⟩) N cA] 25)).alloc (.cells #[.slice (some ⟨gA, 0, none⟩) N cB] 42)).alloc (.cells #[.int .i64 stop] 3)).alloc (.cells #[.int .i64 ((0 : Nat) : Int)] 3)) _ (by omega)).trans ((heap_alloc_old (((w.alloc (.cells #[.slice (some ⟨g, 0, none⟩) N cA] 25)).alloc (.cells #[.slice (some ⟨gA, 0, none⟩) N cB] 42)).alloc (.cells #[.int .i64 stop] 3)) _ (by omega)).trans ((heap_alloc_old ((w.alloc (.cells #[.slice (some ⟨g, 0, none⟩) N cA] 25)).alloc (.cells #[.slice (some ⟨gA, 0, none⟩) N cB] 42)) _ (by omega)).trans (y1))))
  · exact (heap_alloc_old (((((w.alloc (.cells #[.slice (some ⟨g, 0, none⟩) N cA] 25)).alloc (.cells #[.slice (some ⟨gA, 0, none⟩) N cB] 42)).alloc (.cells #[.int .i64 stop] 3)).alloc (.cells #[.int .i64 ((0 : Nat) : Int)] 3)).alloc (.cells #[.bool true] 4)) _ (by omega)).trans ((heap_alloc_old ((((w.alloc (.cells #[.slice (some ⟨g, 0, none⟩) N cA] 25)).alloc (.cells #[.slice (some ⟨gA, 0, none⟩) N cB] 42)).alloc (.cells #[.int .i64 stop] 3)).alloc (.cells #[.int .i64 ((0 : Nat) : Int)] 3)) _ (by omega)).trans ((heap_alloc_old (((w.alloc (.cells #[.slice (some ⟨g, 0, none⟩) N cA] 25)).alloc (.cells #[.slice (some ⟨gA, 0, none⟩) N cB] 42)).alloc (.cells #[.int .i64 stop] 3)) _ (by omega)).trans (y2)))
  · exact (heap_alloc_old (((((w.alloc (.cells #[.slice (some ⟨g, 0, none⟩) N cA] 25)).alloc (.cells #[.slice (some ⟨gA, 0, none⟩) N cB] 42)).alloc (.cells #[.int .i64 stop] 3)).alloc (.cells #[.int .i64 ((0 : Nat) : Int)] 3)).alloc (.cells #[.bool true] 4)) _ (by omega)).trans ((heap_alloc_old ((((w.alloc (.cells #[.slice (some ⟨g, 0, none⟩) N cA] 25)).alloc (.cells #[.slice (some ⟨gA, 0, none⟩) N cB] 42)).alloc (.cells #[.int .i64 stop] 3)).alloc (.cells #[.int .i64 ((0 : Nat) : Int)] 3)) _ (by omega)).trans (y3))
  · exact (heap_alloc_old (((((w.alloc (.cells #[.slice (some ⟨g, 0, none⟩) N cA] 25)).alloc (.cells #[.slice (some ⟨gA, 0, none⟩) N cB] 42)).alloc (.cells #[.int .i64 stop] 3)).alloc (.cells #[.int .i64 ((0 : Nat) : Int)] 3)).alloc (.cells #[.bool true] 4)) _ (by omega)).trans (y4)
  · exact y5
  · exact ((((((Below.refl w.heap.size w).alloc (Nat.le_refl _) _).alloc (by omega) _).alloc (by omega) _).alloc (by omega) _).alloc (by omega) _).alloc (by omega) _
set_option maxHeartbeats 8000000 in
theorem goes_ok (w0 : World) (g gA cA cB nb : Nat) (stop : Int) (T : Nd) (A : Option Addr) (c : Nat) (K : Option Addr) (d : Nat) (N : Nat) (w : World) (hNe : N = (flF 0 T).length) (hw0 : w0.heap.size ≤ w.heap.size) (hN1 : T.count ≤ 1000000) (hcA : N ≤ cA) (hcA2 : cA ≤ maxLen) (hcB : N ≤ cB) (hcB2 : cB ≤ maxLen) (hst : -9223372036854775808 ≤ stop ∧ stop ≤ 9223372036854775807)
    (hg1 : g < w.heap.size) (hg2 : gA < w.heap.size) (hR : RowsA w0 (flF 0 T) g gA w) (hn0 : NodeAt w0 T A c K d) (hb0 : Below w0.heap.size w0 w) (hX : CellsN w nb 0 T A c K d) (hW : T.weight ≤ 1000000) :
    Calls Tryz.prog 23 #[.func (.func 39) #[] #[.pointer (some ⟨nb, 0, none⟩)], .slice (some ⟨g, 0, none⟩) N cA, .slice (some ⟨gA, 0, none⟩) N cB, .int .i64 stop] w fun e w' => e = .returned (.bool true) ∧ Below w.heap.size w w' := by
  obtain ⟨hG, hB, hs6⟩ := ga_new g gA N cA cB stop w
  have hrn := run_call 39 _ Tryz.func39 (by kernel_rfl) (by kernel_rfl)
  have hN2 : N ≤ 1000000 := by rw [hNe, flF_len]; exact hN1
  have hcall := all1_ok w0 w.heap.size g gA cA cB nb stop T A c K d _ hw0 hN1 (by rw [← hNe]; exact hcA) hcA2 (by rw [← hNe]; exact hcB) hcB2 hst hg1 hg2 (by rw [← hNe]; exact hG) (hR.keep (b := w.heap.size) (KeepsQ.below hB) hg1 hg2) hn0 (hb0.trans (hB.mono hw0)) (hX.later hB) hW
  rw [← hNe] at hcall
  have HC := Lib.hid hcall
  have HE := Lib.hid hNe
  unfold maxLen at hcA2 hcB2
  clear hcall hG hR hn0 hX hNe
  go_enter Tryz.func23, Tryz.ntmps23
  go_wp2_with fail
  refine HC.out.mono ?_
  rintro e w3 ⟨rfl, ⟨s1, ov, hG3, hs3⟩, hk3⟩
  have c0 : w3.cell? ⟨w.heap.size, 0, none⟩ = some (.slice (some ⟨g, 0, none⟩) N cA) := cell_of_one hG3.l
  have c2 : w3.cell? ⟨w.heap.size + 1 + 1, 0, none⟩ = some (.int .i64 stop) := cell_of_one hG3.p
  have c3 : w3.cell? ⟨w.heap.size + 1 + 1 + 1, 0, none⟩ = some (.int .i64 s1) := cell_of_one hG3.n
  have c4 : w3.cell? ⟨w.heap.size + 1 + 1 + 1 + 1, 0, none⟩ = some (.bool true) := cell_of_one hG3.o
  have hfin : Below w.heap.size w w3 := hB.trans (hk3.low hB.size (fun k hk => by omega))
  clear HC hG3 hk3 hrn hB hs6
  by_cases he : (s1 : Int) = stop ∧ 0 < stop
  · have q1 : ((s1 : Int) == stop) = true := by simpa using he.1
    have q2 : decide (0 < stop) = true := decide_eq_true he.2
    have q3 : 0 < stop := he.2
    have HQ := Lib.hid he
    clear he hs3
    go_wp2_with fail
    go_ret
    exact ⟨rfl, hfin⟩
  · have hsN : s1 = N := by
      rcases hs3 with h | h
      · exact absurd ⟨h.2, by omega⟩ he
      · exact h
    have q4 : ((s1 : Int) == (N : Int)) = true := by simp [hsN]
    by_cases h1 : (s1 : Int) = stop
    · have q1 : ((s1 : Int) == stop) = true := by simpa using h1
      have q2 : decide (0 < stop) = false := decide_eq_false (fun h => he ⟨h1, h⟩)
      have q3 : ¬ (0 < stop) := fun h => he ⟨h1, h⟩
      clear he hs3 hsN h1
      go_wp2_with fail
      go_ret
      exact ⟨rfl, hfin⟩
    · have q1 : ((s1 : Int) == stop) = false := by simpa using h1
      clear he hs3 hsN h1
      go_wp2_with fail
      go_ret
      exact ⟨rfl, hfin⟩
end
section
set_option linter.unusedVariables false
set_option linter.unusedSimpArgs false
open Go.RowKit
set_option maxRecDepth 1000000
theorem own_someA {w : World} {base size n : Nat} {e : TypeId} {v : Value} {xs : List Value} (h : w.ownsRow base e size v n xs) (hn : 0 < n) : ∃ g C, v = .slice (some ⟨g, 0, none⟩) n C ∧ n ≤ C ∧ C ≤ maxLen ∧ base ≤ g ∧ g < w.heap.size ∧ ∀ i v, xs[i]? = some v → w.cell? ⟨g, i, none⟩ = some v := by
  rcases h.2 with ⟨hv, h0⟩ | ⟨g, cap, cur, hv, hg, hh, h1, h2, hs, ht⟩
  · omega
  · refine ⟨g, cap, hv, h1, h2, hg, (Array.getElem?_eq_some_iff.1 hh).1, fun i v hi => ?_⟩
    have := h.cells (g := g) (by rw [hv]; rfl) i v hi
    rwa [Addr.add_lit, Nat.zero_add] at this
set_option maxHeartbeats 4000000 in
theorem tAll_ok (T : Nd) (A : Option Addr) (c : Nat) (K : Option Addr) (d : Nat) (w : World) (hN : NodeAt w T A c K d) :
    Calls Tryz.prog 22 #[ndV T A c K d] w fun e w' => e = .returned (.func (.func 39) #[] #[.pointer (some ⟨w.heap.size, 0, none⟩)]) ∧ Below w.heap.size w w' ∧ CellsN w' w.heap.size 0 T A c K d := by
  have hb1 := (Below.refl w.heap.size w).alloc (Nat.le_refl _) (.cells #[.int .i64 T.kind, .int .i64 T.pos, .string T.text, .bool T.neg, .slice A T.mag.length c, .slice K T.kids.length d] 27)
  have hX := cellsN_new w T A c K d 27
  unfold ndV
  go_enter Tryz.func22, Tryz.ntmps22
  go_wp2_with fail
  go_ret
  exact ⟨rfl, hb1, hX⟩
set_option maxHeartbeats 8000000 in
theorem treeAll_any (T : Nd) (A : Option Addr) (c : Nat) (K : Option Addr) (d : Nat) (stop : Int) (w : World) (hN : NodeAt w T A c K d) (hW : T.weight ≤ 1048576) (hst : -9223372036854775808 ≤ stop ∧ stop ≤ 9223372036854775807) (hT : Lib.Utf8Tabs 0 1 w) :
    Calls Tryz.prog 5 #[ndV T A c K d, .int .i64 stop] w fun e w' => e = .returned (.bool true) ∧ Below w.heap.size w w' := by
  have hb1 := (Below.refl w.heap.size w).alloc (Nat.le_refl _) (.cells #[.int .i64 T.kind, .int .i64 T.pos, .string T.text, .bool T.neg, .slice A T.mag.length c, .slice K T.kids.length d] 27)
  have hs1 : (w.alloc (.cells #[.int .i64 T.kind, .int .i64 T.pos, .string T.text, .bool T.neg, .slice A T.mag.length c, .slice K T.kids.length d] 27)).heap.size = w.heap.size + 1 := by simp
  obtain ⟨c0, c1, c2, c3, c4, c5⟩ := (cellsN_new w T A c K d 27).box
  have hL := weight_ok T A c K d 300 _ (hN.later hb1) hW (by decide) (by decide)
  have HA := Lib.hid (fun (W : World) (hb : Below w.heap.size w W) => tAwake_ok W (Utf8Tabs_below hT hb))
  have HN := Lib.hid hN
  unfold ndV at hL
  unfold ndV
  go_enter Tryz.func5, Tryz.ntmps5
  go_wp2_with fail
  generalize w.alloc (.cells #[.int .i64 T.kind, .int .i64 T.pos, .string T.text, .bool T.neg, .slice A T.mag.length c, .slice K T.kids.length d] 27) = w1 at *
  refine hL.mono ?_
  rintro e v1 ⟨⟨r, rfl, hr⟩, hq1⟩
  have hv1 := hb1.trans (hq1.mono hb1.size)
  have hrb : 0 ≤ r ∧ r ≤ 1048576 := by have := hr.bounds (by decide); omega
  by_cases hg : 300 < r
  · have o1 : decide (r > 300) = true := decide_eq_true hg
    have o2 : decide (300 < r) = true := decide_eq_true hg
    clear hr hL hN
    go_wp2_with (go_at_call 8; refine (HA.out _ hv1).mono ?_; rintro e v2 ⟨rfl, hq2⟩; have hv2 := hv1.trans (hq2.mono hv1.size))
    go_ret
    exact ⟨rfl, hv2⟩
  · have o1 : decide (r > 300) = false := decide_eq_false hg
    have o2 : decide (300 < r) = false := decide_eq_false hg
    have hw3 : T.weight ≤ 300 := by
      rcases hr with ⟨h1, h2⟩ | ⟨h1, h2, h3⟩
      · omega
      · omega
    have hcw := T.count_weight
    have hdc := T.depth_count
    have d0 := cell_later hq1 c0
    have d1 := cell_later hq1 c1
    have d2 := cell_later hq1 c2
    have d3 := cell_later hq1 c3
    have d4 := cell_later hq1 c4
    have d5 := cell_later hq1 c5
    have hF0 : FlS w w1.heap.size [] (.slice none 0 0) (.slice none 0 0) v1 := ⟨⟨[], World.ownsRow_nil _ _ _ _, rfl, fun i n t h => by simp at h⟩, World.ownsRow_nil _ _ _ _⟩
    have hfl := flat_ok w w1.heap.size (by omega) T A c K d 0 [] (.slice none 0 0) (.slice none 0 0) v1 HN.out hv1 hq1.size hF0 (by simp; omega) (by omega)
    rw [List.nil_append] at hfl
    unfold ndV at hfl
    clear hr hL hN c0 c1 c2 c3 c4 c5 hF0
    go_wp2_with fail
    refine hfl.mono ?_
    rintro e v2 ⟨lv, av, rfl, hFl, hk2⟩
    have hq2 : Below v1.heap.size v1 v2 := hk2.low (Nat.le_refl _) (fun j hj => by simp [Value.ownBlock] at hj) (fun j hj => by simp [Value.ownBlock] at hj)
    have hv2 := hv1.trans (hq2.mono hv1.size)
    have hlen := flF_len T 0
    have hTc := T.count_eq
    obtain ⟨xs, hol, hrow⟩ := hFl.l
    obtain ⟨g, cA, rfl, hA1, hA2, hA3, hA4, hA5⟩ := own_someA hol (by omega)
    obtain ⟨gA, cB, rfl, hB1, hB2, hB3, hB4, hB5⟩ := own_someA hFl.a (by omega)
    have hR : RowsA w (flF 0 T) g gA v2 := fun i n t hi => by
      obtain ⟨A', c', K', d', e1, e2⟩ := hrow.2 i n t hi
      refine ⟨A', c', K', d', ⟨hA5 _ _ (e1 0 (by decide)), hA5 _ _ (e1 1 (by decide)), hA5 _ _ (e1 2 (by decide)), hA5 _ _ (e1 3 (by decide)), hA5 _ _ (e1 4 (by decide)), hA5 _ _ (e1 5 (by decide))⟩, e2, hB5 i _ ?_⟩
      rw [List.getElem?_map, hi]
      rfl
    have d0 := cell_later hq2 d0
    have d1 := cell_later hq2 d1
    have d2 := cell_later hq2 d2
    have d3 := cell_later hq2 d3
    have d4 := cell_later hq2 d4
    have d5 := cell_later hq2 d5
    obtain ⟨N, hNN⟩ : ∃ N, (flF 0 T).length = N := ⟨_, rfl⟩
    rw [hNN] at hA1 hB1 hlen ⊢
    have HNN := Lib.hid hNN
    have HR := Lib.hid hR
    clear hfl hFl hol hrow hA5 hB5 hR hk2 hNN
    have hNb : N ≤ 300 := by omega
    have hcb : T.count ≤ 300 := by omega
    clear hlen hTc hcw hdc
    have hAl := tAll_ok T A c K d v2 (HN.out.later hv2)
    unfold ndV at hAl
    go_wp2_with fail
    refine hAl.mono ?_
    rintro e v3 ⟨rfl, hq3, hX⟩
    have hv3 := hv2.trans (hq3.mono hv2.size)
    have hq23 := hq3.size
    have hR3 := fun (W : World) (hb : Below v3.heap.size v3 W) => HR.out.keep (b := v2.heap.size) (KeepsQ.below (hq3.trans (hb.mono hq3.size))) hA4 hB4
    have hgo := fun (st : Int) (hst : -9223372036854775808 ≤ st ∧ st ≤ 9223372036854775807) (W : World) (hb : Below v3.heap.size v3 W) => goes_ok w g gA cA cB v2.heap.size st T A c K d N W HNN.out.symm (hv3.trans (hb.mono hv3.size)).size (by omega) hA1 hA2 hB1 hB2 hst (by have := hb.size; omega) (by have := hb.size; omega) (hR3 W hb) HN.out (hv3.trans (hb.mono hv3.size)) (hX.later hb) (by omega)
    have HG := Lib.hid hgo
    clear hgo hAl hX hR3
    unfold maxLen at hA2 hB2
    have hnf : ∀ W : World, (binOp BinOp.neq 46 (Value.func (Fn.func 39) #[] #[Value.pointer (some ⟨v2.heap.size, 0, none⟩)]) Value.nilFunc).run Tryz.prog W = .ok (.bool true) W := fun W => by first | rfl | simp [binOp, go_sem, Tryz.underlying46]
    have hrl := Below.refl v3.heap.size v3
    go_wp2_with fail
    refine (HG.out stop hst v3 hrl).mono ?_
    rintro e v4 ⟨rfl, hq4⟩
    have hu4 : Below v3.heap.size v3 v4 := hq4
    go_wp2_with fail
    refine (HG.out 0 ⟨by omega, by omega⟩ v4 hu4).mono ?_
    rintro e v5 ⟨rfl, hq5⟩
    have hu5 := hu4.trans (hq5.mono hu4.size)
    have hv5 := hv3.trans (hu5.mono hv3.size)
    go_wp2_with fail
    refine (HA.out v5 hv5).mono ?_
    rintro e v6 ⟨rfl, hq6⟩
    have hv6 := hv5.trans (hq6.mono hv5.size)
    go_wp2_with fail
    go_ret
    exact ⟨rfl, hv6⟩
end
end Go.Proofs.YtjefhdlncikhmaaGreatDoor
