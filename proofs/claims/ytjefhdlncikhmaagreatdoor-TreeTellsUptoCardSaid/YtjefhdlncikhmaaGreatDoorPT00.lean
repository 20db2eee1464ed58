/- Blocks that close a goal of the walks below, each for all the places where it stands. -/
import Derived.Shelf.Strings.BuilderK
import Derived.Test.YtjefhdlncikhmaaGreatDoorProg
import Derived.Shelf.Strings.BuilderRune
import Derived.WalkKit
import Derived.WalkSpells
import Derived.WalkLawsBesides
import Derived.Lib.Hide
import Derived.Maps.AppendAt
import Derived.Deep.AppendLies
import Derived.RegionTactic
import Derived.OwnWalk
import Derived.Shelf.Strings.Builder1
import Derived.Shelf.Strings.Builder2
import Derived.Shelf.Strings.Trim
import Derived.Shelf.Small.Utf8
import Derived.Shelf.Small.Strs
import Derived.Shelf.Strings.BuilderF
import Derived.Shelf.Strings.Builder2Cap
import Derived.Shelf.Strings.Search1
import Derived.Shelf.Strings.Prefix
import Derived.Shelf.Unicode.Decode
import Derived.Shelf.Strings.Runes
import Derived.Shelf.Strings.AsciiSet
import Derived.Shelf.Bits.Mul64
import Derived.Shelf.Strings.Repeat
import Derived.Shelf.Unicode.DecodeSlow
import Derived.Shelf.Unicode.DecodeAny
import Derived.Shelf.Strings.BuilderCap
import Derived.Shelf.Slices.Turned
import Derived.Ground.SlgnProg
import Derived.Shelf.SlicesE.Clone
import Derived.Lib.MapLaws
import Derived.Lib.TrimUEq
import Derived.Lib.ValidLaws
import Derived.Lib.RuneBytes
import Derived.Lib.TrimAscii
import Derived.Laws.RangeAny
import Derived.BigCall
import Derived.BigQuiet
import Derived.Deep.QuietTactic
import Derived.LoopTactic
import Derived.Laws.DeepBits32
import Derived.Lib.Strings
import Derived.Laws.BitsAllLaws
import Derived.Laws.Cover4
import Derived.Lib.AppendStr
import Derived.Laws.BytesArg
import Derived.Deep.RegionHeld3
import Derived.Deep.RegionLaw
import Derived.Lib.UnsafeStr
import Derived.Lib.BufferWrite
import Derived.Laws.MakeOwn
import Derived.Deep.OwnRows
import Derived.Shelf.Unicode.ValidAny
import Derived.Lib.FrozenHead2
import Derived.Lib.OthersKept
import Derived.Test.YtjefhdlncikhmaaGreatDoorRows
import Derived.Deep.RegionWith
import Derived.RangeFuncBox
import Derived.RangeFuncNested
import Derived.RangeFuncBound
import Derived.RangeFuncCalls
import Derived.RangeFuncLeaves
import Derived.Shelf.Abstract
import Derived.Shelf.RegionOpen
import Derived.OwnWalkIn
import Derived.TacticsInMore
import Derived.LoopNIn
import Derived.LoopIn
import Derived.Deep.DeepCutAuto
import Derived.Deep.CutBlock
import Derived.Laws.EntriesVeiled
import Derived.OneCell
import Derived.Test.YtjefhdlncikhmaaGreatDoorChecked
import Derived.ProofKit
import Derived.Lib.LaidIn
import Derived.Lib.LaidU8T
import Derived.OpenShut
import Derived.ChangeOld
import Derived.Lib.SmallJoins
namespace Go.Proofs.YtjefhdlncikhmaaGreatDoor
set_option linter.unusedVariables false
set_option linter.unusedSimpArgs false
set_option maxRecDepth 1000000
set_option maxHeartbeats 16000000
open Go.RowKit
theorem lq1 {p : Prop} (h : p := by first | exact shapes_three (HS0.out.later (by (repeat' (first  | with_reducible exact Below.refl _ _ | (with_reducible refine Below.alloc ?_ ?_ _) | (with_reducible refine below_drew ?_))); all_goals (first  | omega | (simp; done) | (simp; omega) ))) (shTargets HRi.out (Utf8Tabs_below HT.out (by (repeat' (first  | with_reducible exact Below.refl _ _ | (with_reducible refine Below.alloc ?_ ?_ _) | (with_reducible refine below_drew ?_))); all_goals (first  | omega | (simp; done) | (simp; omega) )))) (shExpr HRi.out (Utf8Tabs_below HT.out (by (repeat' (first  | with_reducible exact Below.refl _ _ | (with_reducible refine Below.alloc ?_ ?_ _) | (with_reducible refine below_drew ?_))); all_goals (first  | omega | (simp; done) | (simp; omega) )))) _ _ (by simp) | exact ShapesAt.later (shapes_three (HS0.out.later (by (repeat' (first  | with_reducible exact Below.refl _ _ | (with_reducible refine Below.alloc ?_ ?_ _) | (with_reducible refine below_drew ?_))); all_goals (first  | omega | (simp; done) | (simp; omega) ))) (shTargets HRi.out (Utf8Tabs_below HT.out (by (repeat' (first  | with_reducible exact Below.refl _ _ | (with_reducible refine Below.alloc ?_ ?_ _) | (with_reducible refine below_drew ?_))); all_goals (first  | omega | (simp; done) | (simp; omega) )))) (shExpr HRi.out (Utf8Tabs_below HT.out (by (repeat' (first  | with_reducible exact Below.refl _ _ | (with_reducible refine Below.alloc ?_ ?_ _) | (with_reducible refine below_drew ?_))); all_goals (first  | omega | (simp; done) | (simp; omega) )))) _ _ (by simp)) (below_drew (Below.refl _ _)) | exact ShapesAt.later (shapes_three (HS0.out.later (by (repeat' (first  | with_reducible exact Below.refl _ _ | (with_reducible refine Below.alloc ?_ ?_ _) | (with_reducible refine below_drew ?_))); all_goals (first  | omega | (simp; done) | (simp; omega) ))) (shTargets HRi.out (Utf8Tabs_below HT.out (by (repeat' (first  | with_reducible exact Below.refl _ _ | (with_reducible refine Below.alloc ?_ ?_ _) | (with_reducible refine below_drew ?_))); all_goals (first  | omega | (simp; done) | (simp; omega) )))) (shExpr HRi.out (Utf8Tabs_below HT.out (by (repeat' (first  | with_reducible exact Below.refl _ _ | (with_reducible refine Below.alloc ?_ ?_ _) | (with_reducible refine below_drew ?_))); all_goals (first  | omega | (simp; done) | (simp; omega) )))) _ _ (by simp)) (below_drew (below_drew (Below.refl _ _)))) : p := h
theorem lq2 {p : Prop} (h : p := by first | exact shapes_two (hv.later (by first | exact Below.refl _ _ | exact below_drew (Below.refl _ _) | exact below_drew (below_drew (Below.refl _ _)))) (shBlock HRi.out (Utf8Tabs_below HT.out (by (repeat' (first | with_reducible exact H1 | with_reducible exact Below.refl _ _ | (with_reducible refine Below.alloc ?_ ?_ _) | (with_reducible refine below_drew ?_))); all_goals (first | exact H1.size | omega | (simp; done) | (simp; omega) | (have := H1.size; simp; omega))))) _ _ (by simp) | exact ShapesAt.later (shapes_two (hv.later (by first | exact Below.refl _ _ | exact below_drew (Below.refl _ _) | exact below_drew (below_drew (Below.refl _ _)))) (shBlock HRi.out (Utf8Tabs_below HT.out (by (repeat' (first | with_reducible exact H1 | with_reducible exact Below.refl _ _ | (with_reducible refine Below.alloc ?_ ?_ _) | (with_reducible refine below_drew ?_))); all_goals (first | exact H1.size | omega | (simp; done) | (simp; omega) | (have := H1.size; simp; omega))))) _ _ (by simp)) (below_drew (Below.refl _ _)) | exact ShapesAt.later (shapes_two (hv.later (by first | exact Below.refl _ _ | exact below_drew (Below.refl _ _) | exact below_drew (below_drew (Below.refl _ _)))) (shBlock HRi.out (Utf8Tabs_below HT.out (by (repeat' (first | with_reducible exact H1 | with_reducible exact Below.refl _ _ | (with_reducible refine Below.alloc ?_ ?_ _) | (with_reducible refine below_drew ?_))); all_goals (first | exact H1.size | omega | (simp; done) | (simp; omega) | (have := H1.size; simp; omega))))) _ _ (by simp)) (below_drew (below_drew (Below.refl _ _)))) : p := h
theorem lq3 {p : Prop} (h : p := by first | exact shapes_two (shNone D _) (shExpr HRi.out (Utf8Tabs_below HT.out (by (repeat' (first  | with_reducible exact Below.refl _ _ | (with_reducible refine Below.alloc ?_ ?_ _) | (with_reducible refine below_drew ?_))); all_goals (first  | omega | (simp; done) | (simp; omega) )))) _ _ (by simp) | exact ShapesAt.later (shapes_two (shNone D _) (shExpr HRi.out (Utf8Tabs_below HT.out (by (repeat' (first  | with_reducible exact Below.refl _ _ | (with_reducible refine Below.alloc ?_ ?_ _) | (with_reducible refine below_drew ?_))); all_goals (first  | omega | (simp; done) | (simp; omega) )))) _ _ (by simp)) (below_drew (Below.refl _ _)) | exact ShapesAt.later (shapes_two (shNone D _) (shExpr HRi.out (Utf8Tabs_below HT.out (by (repeat' (first  | with_reducible exact Below.refl _ _ | (with_reducible refine Below.alloc ?_ ?_ _) | (with_reducible refine below_drew ?_))); all_goals (first  | omega | (simp; done) | (simp; omega) )))) _ _ (by simp)) (below_drew (below_drew (Below.refl _ _)))) : p := h
theorem lq4 {p : Prop} (h : p := by (repeat' (first | with_reducible exact H1 | with_reducible exact Below.refl _ _ | (with_reducible refine Below.alloc ?_ ?_ _) | (with_reducible refine below_drew ?_))); all_goals (first | exact H1.size | omega | (simp; done) | (simp; omega) | (have := H1.size; simp; omega))) : p := h
theorem lq5 {p : Prop} (h : p := by (repeat' (first | with_reducible exact H2 | with_reducible exact Below.refl _ _ | (with_reducible refine Below.alloc ?_ ?_ _) | (with_reducible refine below_drew ?_))); all_goals (first | exact H2.size | omega | (simp; done) | (simp; omega) | (have := H2.size; simp; omega))) : p := h
theorem lq6 {p : Prop} (h : p := by have h := HLN.out; have hpl := padL_len dep; (try simp only [length_append, length_cons, length_nil, length_singleton] at h); (try simp only [length_append, length_cons, length_nil, length_singleton]); omega) : p := h
theorem lq7 {p : Prop} (h : p := by (repeat' (first  | with_reducible exact Below.refl _ _ | (with_reducible refine Below.alloc ?_ ?_ _) | (with_reducible refine below_drew ?_))); all_goals (first  | omega | (simp; done) | (simp; omega) )) : p := h
theorem lq8 {p : Prop} (h : p := by have h := HLN.out; (try simp only [length_append, length_cons, length_nil, length_singleton] at h); (try simp only [length_append, length_cons, length_nil, length_singleton]); omega) : p := h
theorem lq9 {p : Prop} (h : p := by show _ = l0 ++ T.lin dep; rw [HTX.out]; try simp only [List.append_assoc, List.append_nil, List.nil_append, List.cons_append, List.singleton_append]) : p := h
theorem lq10 {p : Prop} (h : p := by show _ = l0 ++ simpL T; rw [HTX.out]; try simp only [List.append_assoc, List.append_nil, List.nil_append, List.cons_append, List.singleton_append]) : p := h
theorem lq11 {p : Prop} (h : p := by rw [HTX.out]; try simp only [List.append_assoc, List.append_nil, List.nil_append, List.cons_append, List.singleton_append]) : p := h
theorem lq12 {p : Prop} (h : p := by (repeat' (first | with_reducible exact H0 | with_reducible exact Below.refl _ _ | (with_reducible refine below_drew ?_)))) : p := h
theorem lq13 {p : Prop} (h : p := by have h := HLN.out; simp only [length_append, length_cons, length_nil, length_singleton] at h ⊢; omega) : p := h
theorem lq14 {p : Prop} (h : p := by (repeat' (first  | with_reducible exact Below.refl _ _ | (with_reducible refine below_drew ?_)))) : p := h
theorem lq15 {p : Prop} (h : p := by simp [results, Tryz.results44, go_sem, r0, r1, z0, z1]) : p := h
theorem lq16 {p : Prop} (h : p := by simp [results, Tryz.results79, go_sem, r0, r1, z0, z1]) : p := h
theorem lq17 {p : Prop} (h : p := by have := WrT.lt hWb; rw [hsg] at this; exact this) : p := h
theorem lq18 {p : Prop} (h : p := by (try simp only [ByteArray.size_append]); omega) : p := h
theorem lq19 {p : Prop} (h : p := by rw [← hsg]; exact heap_alloc_new _ _) : p := h
theorem lq20 {p : Prop} (h : p := by rw [List.length_drop]; omega) : p := h
theorem lq21 {p : Prop} (h : p := by rw [List.length_take]; omega) : p := h
theorem lq22 {p : Prop} (h : p := by have := T.weight_eq; omega) : p := h
theorem lq23 {p : Prop} (h : p := by first | trivial | rfl) : p := h
theorem lq24 {p : Prop} (h : p := by unfold maxLen; omega) : p := h
theorem lq25 {p : Prop} (h : p := by rw [HX.out]; omega) : p := h
theorem lq26 {p : Prop} (h : p := by simp; omega) : p := h
theorem lq27 {p : Prop} (h : p := by kernel_rfl) : p := h
theorem lq28 {p : Prop} (h : p := by decide) : p := h
theorem lq29 {p : Prop} (h : p := by omega) : p := h
theorem lq30 {p : Prop} (h : p := by simp) : p := h
theorem lw0_1 {p : Prop} (h : p := by
  clear h2' h3'
  obtain ⟨hm1, hm2, hrm, hw32, hk1, hk2, ⟨hk64a, hk64b⟩, ⟨ha64a, ha64b⟩, hts, hKs, HK⟩ := hN.hd
  have hcc := bxn w T A c (some ⟨b, off, none⟩) d
  rw [hk] at hcc
  obtain ⟨hb1, c0, c1, c2, c3, c4, c5⟩ := hcc
  obtain ⟨n00, n01, n02, n03, n04, n05⟩ := hC0.later hb1
  unfold ndV
  rw [hk]
  clear hk
  clear hKs hN
  go_enter Tryz.func49, Tryz.ntmps49
  go_wp2_with (first | (go_at_call 34; refine (HBa.out _ hb1).mono ?_; rintro e w_1 ⟨he1, hq1⟩; rw [G1.out] at he1; subst he1; have hw1 := hb1.trans (hq1.mono hb1.size); obtain ⟨a100, a101, a102, a103, a104, a105⟩ := cl6 hq1 c0 c1 c2 c3 c4 c5; have hl1g0 := blt a100; obtain ⟨a110, a111, a112, a113, a114, a115⟩ := cl6 hq1 n00 n01 n02 n03 n04 n05; have hl1g1 := blt a110) | (go_at_call 94; refine (HK0x.out _ hw1).mono ?_; rintro e w_2 ⟨he2, hq2⟩; rw [G4.out] at he2; subst he2; have hw2 := hw1.trans (hq2.mono hw1.size); obtain ⟨a200, a201, a202, a203, a204, a205⟩ := cl6 hq2 a100 a101 a102 a103 a104 a105; have hl2g0 := blt a200; obtain ⟨a210, a211, a212, a213, a214, a215⟩ := cl6 hq2 a110 a111 a112 a113 a114 a115; have hl2g1 := blt a210) | (go_at_call 91; refine (HK0y.out _ hw2).mono ?_; rintro e w_3 ⟨he3, hq3⟩; rw [G5.out] at he3; subst he3; have hw3 := hw2.trans (hq3.mono hw2.size); obtain ⟨a300, a301, a302, a303, a304, a305⟩ := cl6 hq3 a200 a201 a202 a203 a204 a205; have hl3g0 := blt a300; obtain ⟨a310, a311, a312, a313, a314, a315⟩ := cl6 hq3 a210 a211 a212 a213 a214 a215; have hl3g1 := blt a310))
  go_ret
  exact ⟨by rw [HV.out]; rfl, hw3⟩) : p := h
theorem lw0_2 {p : Prop} (h : p := by
  clear h1' h2'
  obtain ⟨hm1, hm2, hrm, hw32, hk1, hk2, ⟨hk64a, hk64b⟩, ⟨ha64a, ha64b⟩, hts, hKs, HK⟩ := hN.hd
  have hcc := bxn w T A c (some ⟨b, off, none⟩) d
  rw [hk] at hcc
  obtain ⟨hb1, c0, c1, c2, c3, c4, c5⟩ := hcc
  obtain ⟨n0, n1, n2, n3, n4, n5⟩ := hC0.later hb1
  unfold ndV
  rw [hk]
  clear hk
  clear hKs hN
  go_enter Tryz.func91, Tryz.ntmps91
  go_wp2_with (first | (go_at_call 34; refine (HBa.out _ hb1).mono ?_; rintro e w_1 ⟨he1, hq1⟩; rw [G0.out] at he1; subst he1; have hw1 := hb1.trans (hq1.mono hb1.size); obtain ⟨a1_0, a1_1, a1_2, a1_3, a1_4, a1_5⟩ := cl6 hq1 c0 c1 c2 c3 c4 c5; have hl1 := blt a1_0; obtain ⟨k10, k11, k12, k13, k14, k15⟩ := cl6 hq1 n0 n1 n2 n3 n4 n5; have hm1' := blt k10) | (go_at_call 91; refine (HX.out _ hw1).mono ?_; rintro e w_2 ⟨he2, hq2⟩; rw [G3.out] at he2; subst he2; have hw2 := hw1.trans (hq2.mono hw1.size); obtain ⟨a2_0, a2_1, a2_2, a2_3, a2_4, a2_5⟩ := cl6 hq2 a1_0 a1_1 a1_2 a1_3 a1_4 a1_5; have hl2 := blt a2_0; obtain ⟨k20, k21, k22, k23, k24, k25⟩ := cl6 hq2 k10 k11 k12 k13 k14 k15; have hm2' := blt k20) | (go_at_call 156; refine (HCo.out _ hw2).mono ?_; rintro e w_3 ⟨he3, hq3⟩; rw [G4.out] at he3; subst he3; have hw3 := hw2.trans (hq3.mono hw2.size); obtain ⟨a3_0, a3_1, a3_2, a3_3, a3_4, a3_5⟩ := cl6 hq3 a2_0 a2_1 a2_2 a2_3 a2_4 a2_5; have hl3 := blt a3_0; obtain ⟨k30, k31, k32, k33, k34, k35⟩ := cl6 hq3 k20 k21 k22 k23 k24 k25; have hm3' := blt k30))
  go_ret
  exact ⟨by rw [HV.out]; rfl, hw3⟩) : p := h
theorem lw0_3 {p : Prop} (h : p := by
  have G3 := Lh hc3
  clear hc3
  have HV := Lh (show Sh.expr.ev Nd.right T = false by rw [HEV.out]; simp [G0.out, g1, g2, G3.out])
  clear h1' h2'
  obtain ⟨hm1, hm2, hrm, hw32, hk1, hk2, ⟨hk64a, hk64b⟩, ⟨ha64a, ha64b⟩, hts, hKs, HK⟩ := hN.hd
  have hcc := bxn w T A c K d
  rw [hk] at hcc
  obtain ⟨hb1, c0, c1, c2, c3, c4, c5⟩ := hcc
  unfold ndV
  rw [hk]
  clear hk
  clear hKs hN
  go_enter Tryz.func91, Tryz.ntmps91
  go_wp2_with (first | (go_at_call 34; refine (HBa.out _ hb1).mono ?_; rintro e w_1 ⟨he1, hq1⟩; rw [G0.out] at he1; subst he1; have hw1 := hb1.trans (hq1.mono hb1.size); obtain ⟨a1_0, a1_1, a1_2, a1_3, a1_4, a1_5⟩ := cl6 hq1 c0 c1 c2 c3 c4 c5; have hl1 := blt a1_0) | (go_at_call 152; refine (HEx.out _ hw1).mono ?_; rintro e w_2 ⟨he2, hq2⟩; rw [G3.out] at he2; subst he2; have hw2 := hw1.trans (hq2.mono hw1.size); obtain ⟨a2_0, a2_1, a2_2, a2_3, a2_4, a2_5⟩ := cl6 hq2 a1_0 a1_1 a1_2 a1_3 a1_4 a1_5; have hl2 := blt a2_0))
  go_ret
  exact ⟨by rw [HV.out]; rfl, hw2⟩) : p := h
theorem lw0_4 {p : Prop} (h : p := by
  have G3 := Lh hc3
  clear hc3
  have HV := Lh (show Sh.expr.ev Nd.right T = true by rw [HEV.out]; simp [G0.out, g1, g2, G3.out])
  clear h1' h2'
  obtain ⟨hm1, hm2, hrm, hw32, hk1, hk2, ⟨hk64a, hk64b⟩, ⟨ha64a, ha64b⟩, hts, hKs, HK⟩ := hN.hd
  have hcc := bxn w T A c K d
  rw [hk] at hcc
  obtain ⟨hb1, c0, c1, c2, c3, c4, c5⟩ := hcc
  unfold ndV
  rw [hk]
  clear hk
  clear hKs hN
  go_enter Tryz.func91, Tryz.ntmps91
  go_wp2_with (first | (go_at_call 34; refine (HBa.out _ hb1).mono ?_; rintro e w_1 ⟨he1, hq1⟩; rw [G0.out] at he1; subst he1; have hw1 := hb1.trans (hq1.mono hb1.size); obtain ⟨a1_0, a1_1, a1_2, a1_3, a1_4, a1_5⟩ := cl6 hq1 c0 c1 c2 c3 c4 c5; have hl1 := blt a1_0) | (go_at_call 152; refine (HEx.out _ hw1).mono ?_; rintro e w_2 ⟨he2, hq2⟩; rw [G3.out] at he2; subst he2; have hw2 := hw1.trans (hq2.mono hw1.size); obtain ⟨a2_0, a2_1, a2_2, a2_3, a2_4, a2_5⟩ := cl6 hq2 a1_0 a1_1 a1_2 a1_3 a1_4 a1_5; have hl2 := blt a2_0))
  go_ret
  exact ⟨by rw [HV.out]; rfl, hw2⟩) : p := h
theorem lw0_5 {p : Prop} (h : p := by
  have g3 : (T.kids.length == 1) = false := by simp [h3']
  have el : ((T.kids.length : Int) == 1) = false := bFo
  have elb : ((T.kids.length : Int) != 1) = true := bne_iff_ne.2 lq29
  have HV := Lh (show Sh.stmt.ev Nd.right T = false by rw [HEV0.out, rowB_len (by simpa using h3')]; simp)
  clear h2' h3'
  obtain ⟨hm1, hm2, hrm, hw32, hk1, hk2, ⟨hk64a, hk64b⟩, ⟨ha64a, ha64b⟩, hts, hKs, HK⟩ := hN.hd
  have hcc := bxn w T A c K d
  rw [hk] at hcc
  obtain ⟨hb1, c0, c1, c2, c3, c4, c5⟩ := hcc
  unfold ndV
  rw [hk]
  clear hk
  clear hKs hN
  go_enter Tryz.func49, Tryz.ntmps49
  go_wp2_with (first | (go_at_call 34; refine (HBa.out _ hb1).mono ?_; rintro e w_1 ⟨he1, hq1⟩; rw [G1.out] at he1; subst he1; have hw1 := hb1.trans (hq1.mono hb1.size); obtain ⟨a100, a101, a102, a103, a104, a105⟩ := cl6 hq1 c0 c1 c2 c3 c4 c5; have hl1g0 := blt a100))
  go_ret
  exact ⟨by rw [HV.out]; rfl, hw1⟩) : p := h
theorem lw0_6 {p : Prop} (h : p := by
  have g2 : decide (1 ≤ T.kids.length) = false := by simp [h2']
  have el : decide ((0 : Int) < (T.kids.length : Int)) = false := dFo
  have el' : decide (0 < T.kids.length) = false := dFo
  have HV := Lh (show Sh.expr.ev Nd.right T = false by rw [HEV.out]; simp [G0.out, g1, g2])
  clear h1' h2'
  obtain ⟨hm1, hm2, hrm, hw32, hk1, hk2, ⟨hk64a, hk64b⟩, ⟨ha64a, ha64b⟩, hts, hKs, HK⟩ := hN.hd
  have hcc := bxn w T A c K d
  rw [hk] at hcc
  obtain ⟨hb1, c0, c1, c2, c3, c4, c5⟩ := hcc
  unfold ndV
  rw [hk]
  clear hk
  clear hKs hN
  go_enter Tryz.func91, Tryz.ntmps91
  go_wp2_with (first | (go_at_call 34; refine (HBa.out _ hb1).mono ?_; rintro e w_1 ⟨he1, hq1⟩; rw [G0.out] at he1; subst he1; have hw1 := hb1.trans (hq1.mono hb1.size); obtain ⟨a1_0, a1_1, a1_2, a1_3, a1_4, a1_5⟩ := cl6 hq1 c0 c1 c2 c3 c4 c5; have hl1 := blt a1_0))
  go_ret
  exact ⟨by rw [HV.out]; rfl, hw1⟩) : p := h
theorem lw0_7 {p : Prop} (h : p := by
  clear h1'
  obtain ⟨hm1, hm2, hrm, hw32, hk1, hk2, ⟨hk64a, hk64b⟩, ⟨ha64a, ha64b⟩, hts, hKs, HK⟩ := hN.hd
  have hcc := bxn w T A c K d
  rw [hk] at hcc
  obtain ⟨hb1, c0, c1, c2, c3, c4, c5⟩ := hcc
  unfold ndV
  rw [hk]
  clear hk
  clear hKs hN
  go_enter Tryz.func91, Tryz.ntmps91
  go_wp2_with (first | (go_at_call 34; refine (HBa.out _ hb1).mono ?_; rintro e w_1 ⟨he1, hq1⟩; rw [G0.out] at he1; subst he1; have hw1 := hb1.trans (hq1.mono hb1.size); obtain ⟨a1_0, a1_1, a1_2, a1_3, a1_4, a1_5⟩ := cl6 hq1 c0 c1 c2 c3 c4 c5; have hl1 := blt a1_0) | (go_at_call 152; refine (HEx.out _ hw1).mono ?_; rintro e w_2 ⟨he2, hq2⟩; rw [G2.out] at he2; subst he2; have hw2 := hw1.trans (hq2.mono hw1.size); obtain ⟨a2_0, a2_1, a2_2, a2_3, a2_4, a2_5⟩ := cl6 hq2 a1_0 a1_1 a1_2 a1_3 a1_4 a1_5; have hl2 := blt a2_0))
  go_ret
  exact ⟨by rw [HV.out]; rfl, hw2⟩) : p := h
theorem lw0_8 {p : Prop} (h : p := by
  obtain ⟨hm1, hm2, hrm, hw32, hk1, hk2, ⟨hk64a, hk64b⟩, ⟨ha64a, ha64b⟩, hts, hKs, HK⟩ := hN.hd
  have hcc := bxn w T A c K d
  rw [hk] at hcc
  obtain ⟨hb1, c0, c1, c2, c3, c4, c5⟩ := hcc
  unfold ndV
  rw [hk]
  clear hk
  clear hKs hN
  go_enter Tryz.func91, Tryz.ntmps91
  go_wp2_with (first | (go_at_call 34; refine (HBa.out _ hb1).mono ?_; rintro e w_1 ⟨he1, hq1⟩; rw [G0.out] at he1; subst he1; have hw1 := hb1.trans (hq1.mono hb1.size); obtain ⟨a1_0, a1_1, a1_2, a1_3, a1_4, a1_5⟩ := cl6 hq1 c0 c1 c2 c3 c4 c5; have hl1 := blt a1_0) | (go_at_call 92; refine (HNm.out _ hw1).mono ?_; rintro e w_2 ⟨he2, hq2⟩; rw [G1.out] at he2; subst he2; have hw2 := hw1.trans (hq2.mono hw1.size); obtain ⟨a2_0, a2_1, a2_2, a2_3, a2_4, a2_5⟩ := cl6 hq2 a1_0 a1_1 a1_2 a1_3 a1_4 a1_5; have hl2 := blt a2_0))
  go_ret
  exact ⟨by rw [HV.out]; rfl, hw2⟩) : p := h
theorem lw0_9 {p : Prop} (h : p := by
  have g2 : (T.text.size == 0) = false := by simp [h2']
  have et : T.text.toList.isEmpty = false := by rw [HTE.out, g2]
  have HV := Lh (show Sh.stmt.ev Nd.right T = false by rw [HEV0.out]; simp [G1.out, g2])
  clear h2'
  obtain ⟨hm1, hm2, hrm, hw32, hk1, hk2, ⟨hk64a, hk64b⟩, ⟨ha64a, ha64b⟩, hts, hKs, HK⟩ := hN.hd
  have hcc := bxn w T A c K d
  rw [hk] at hcc
  obtain ⟨hb1, c0, c1, c2, c3, c4, c5⟩ := hcc
  unfold ndV
  rw [hk]
  clear hk
  clear hKs hN
  go_enter Tryz.func49, Tryz.ntmps49
  go_wp2_with (first | (go_at_call 34; refine (HBa.out _ hb1).mono ?_; rintro e w_1 ⟨he1, hq1⟩; rw [G1.out] at he1; subst he1; have hw1 := hb1.trans (hq1.mono hb1.size); obtain ⟨a100, a101, a102, a103, a104, a105⟩ := cl6 hq1 c0 c1 c2 c3 c4 c5; have hl1g0 := blt a100))
  go_ret
  exact ⟨by rw [HV.out]; rfl, hw1⟩) : p := h
theorem lw0_10 {p : Prop} (h : p := by
  have g1 : (T.text.size == 0) = false := by simp [h1']
  have et : T.text.toList.isEmpty = false := by rw [HTE.out, g1]
  have HV := Lh (show Sh.expr.ev Nd.right T = false by rw [HEV.out]; simp [G0.out, g1])
  clear h1'
  obtain ⟨hm1, hm2, hrm, hw32, hk1, hk2, ⟨hk64a, hk64b⟩, ⟨ha64a, ha64b⟩, hts, hKs, HK⟩ := hN.hd
  have hcc := bxn w T A c K d
  rw [hk] at hcc
  obtain ⟨hb1, c0, c1, c2, c3, c4, c5⟩ := hcc
  unfold ndV
  rw [hk]
  clear hk
  clear hKs hN
  go_enter Tryz.func91, Tryz.ntmps91
  go_wp2_with (first | (go_at_call 34; refine (HBa.out _ hb1).mono ?_; rintro e w_1 ⟨he1, hq1⟩; rw [G0.out] at he1; subst he1; have hw1 := hb1.trans (hq1.mono hb1.size); obtain ⟨a1_0, a1_1, a1_2, a1_3, a1_4, a1_5⟩ := cl6 hq1 c0 c1 c2 c3 c4 c5; have hl1 := blt a1_0))
  go_ret
  exact ⟨by rw [HV.out]; rfl, hw1⟩) : p := h
theorem lw0_11 {p : Prop} (h : p := by
  have HV := Lh (show Sh.stmt.ev Nd.right T = false by rw [HEV0.out, rowB_len (by simpa using h3')]; simp)
  clear h2' h3'
  obtain ⟨hm1, hm2, hrm, hw32, hk1, hk2, ⟨hk64a, hk64b⟩, ⟨ha64a, ha64b⟩, hts, hKs, HK⟩ := hN.hd
  have hcc := bxn w T A c K d
  rw [hk] at hcc
  obtain ⟨hb1, c0, c1, c2, c3, c4, c5⟩ := hcc
  unfold ndV
  rw [hk]
  clear hk
  clear hKs hN
  go_enter Tryz.func49, Tryz.ntmps49
  go_wp2_with (first | (go_at_call 34; refine (HBa.out _ hb1).mono ?_; rintro e w_1 ⟨he1, hq1⟩; rw [G1.out] at he1; subst he1; have hw1 := hb1.trans (hq1.mono hb1.size); obtain ⟨a100, a101, a102, a103, a104, a105⟩ := cl6 hq1 c0 c1 c2 c3 c4 c5; have hl1g0 := blt a100))
  go_ret
  exact ⟨by rw [HV.out]; rfl, hw1⟩) : p := h
theorem lw0_12 {p : Prop} (h : p := by
  have G1 := Lh hc1
  clear hc1
  have HV := Lh (show Sh.stmt.ev Nd.right T = false by rw [HEV0.out]; simp [G1.out])
  obtain ⟨hm1, hm2, hrm, hw32, hk1, hk2, ⟨hk64a, hk64b⟩, ⟨ha64a, ha64b⟩, hts, hKs, HK⟩ := hN.hd
  have hcc := bxn w T A c K d
  rw [hk] at hcc
  obtain ⟨hb1, c0, c1, c2, c3, c4, c5⟩ := hcc
  unfold ndV
  rw [hk]
  clear hk
  clear hKs hN
  go_enter Tryz.func49, Tryz.ntmps49
  go_wp2_with (first | (go_at_call 34; refine (HBa.out _ hb1).mono ?_; rintro e w_1 ⟨he1, hq1⟩; rw [G1.out] at he1; subst he1; have hw1 := hb1.trans (hq1.mono hb1.size); obtain ⟨a100, a101, a102, a103, a104, a105⟩ := cl6 hq1 c0 c1 c2 c3 c4 c5; have hl1g0 := blt a100))
  go_ret
  exact ⟨by rw [HV.out]; rfl, hw1⟩) : p := h
theorem lw0_13 {p : Prop} (h : p := by
  have G0 := Lh hc0
  clear hc0
  have HV := Lh (show Sh.expr.ev Nd.right T = false by rw [HEV.out]; simp [G0.out])
  obtain ⟨hm1, hm2, hrm, hw32, hk1, hk2, ⟨hk64a, hk64b⟩, ⟨ha64a, ha64b⟩, hts, hKs, HK⟩ := hN.hd
  have hcc := bxn w T A c K d
  rw [hk] at hcc
  obtain ⟨hb1, c0, c1, c2, c3, c4, c5⟩ := hcc
  unfold ndV
  rw [hk]
  clear hk
  clear hKs hN
  go_enter Tryz.func91, Tryz.ntmps91
  go_wp2_with (first | (go_at_call 34; refine (HBa.out _ hb1).mono ?_; rintro e w_1 ⟨he1, hq1⟩; rw [G0.out] at he1; subst he1; have hw1 := hb1.trans (hq1.mono hb1.size); obtain ⟨a1_0, a1_1, a1_2, a1_3, a1_4, a1_5⟩ := cl6 hq1 c0 c1 c2 c3 c4 c5; have hl1 := blt a1_0))
  go_ret
  exact ⟨by rw [HV.out]; rfl, hw1⟩) : p := h
theorem lw0_14 {p : Prop} (h : p := by
  have HV := Lh (show Sh.expr.ev Nd.right T = false by rw [HEV.out]; simp [G0.out, g1, g2])
  clear h1' h2'
  obtain ⟨hm1, hm2, hrm, hw32, hk1, hk2, ⟨hk64a, hk64b⟩, ⟨ha64a, ha64b⟩, hts, hKs, HK⟩ := hN.hd
  have hcc := bxn w T A c K d
  rw [hk] at hcc
  obtain ⟨hb1, c0, c1, c2, c3, c4, c5⟩ := hcc
  unfold ndV
  rw [hk]
  clear hk
  clear hKs hN
  go_enter Tryz.func91, Tryz.ntmps91
  go_wp2_with (first | (go_at_call 34; refine (HBa.out _ hb1).mono ?_; rintro e w_1 ⟨he1, hq1⟩; rw [G0.out] at he1; subst he1; have hw1 := hb1.trans (hq1.mono hb1.size); obtain ⟨a1_0, a1_1, a1_2, a1_3, a1_4, a1_5⟩ := cl6 hq1 c0 c1 c2 c3 c4 c5; have hl1 := blt a1_0))
  go_ret
  exact ⟨by rw [HV.out]; rfl, hw1⟩) : p := h
theorem lw0_15 {p : Prop} (h : p := by
  go_wp2_with (first | (go_at_call 34; refine (HBa.out _ hb1).mono ?_; rintro e w_1 ⟨he1, hq1⟩; rw [G2.out] at he1; subst he1; have hw1 := hb1.trans (hq1.mono hb1.size); obtain ⟨a1_0, a1_1, a1_2, a1_3, a1_4, a1_5⟩ := cl6 hq1 c0 c1 c2 c3 c4 c5; have hl1 := blt a1_0) | (go_at_call 152; refine (HEx.out _ hw1).mono ?_; rintro e w_2 ⟨he2, hq2⟩; rw [G4.out] at he2; subst he2; have hw2 := hw1.trans (hq2.mono hw1.size); obtain ⟨a2_0, a2_1, a2_2, a2_3, a2_4, a2_5⟩ := cl6 hq2 a1_0 a1_1 a1_2 a1_3 a1_4 a1_5; have hl2 := blt a2_0))
  go_ret
  exact ⟨by rw [HV.out]; rfl, hw2⟩) : p := h
theorem lw0_16 {p : Prop} (h : p := by
  refine hI.mono ?_
  rintro e w_2 ⟨rfl, hW_2, hk_2⟩
  have hK_2 := hK_1.trans hk_2
  have hbx := box_keep hk_2 hbx hbX
  clear hI
  have hB_2 : Below w0.heap.size w0 w_2 := hBs.trans hK_2.b
  obtain ⟨c0, c1, c2, c3, c4, c5⟩ := (cells_box hbx).box
  have hlb := blt c0
  obtain ⟨n00, n01, n02, n03, n04, n05⟩ := hC0.later hB_2
  have hlk0 := blt n00
  have hlX := WrT.lt hW_2
  go_wp2_with fail
  ((try simp only [Exit.inBlock, Exit.then]); first | refine bodyPost_end (results_none rfl _ _ _) rfl ?_ | refine bodyPost_ret (results_none rfl _ _ _) rfl ?_)
  exact ⟨rfl, hW_2.eq lq11, hK_2⟩) : p := h
theorem lw0_17 {p : Prop} (h : p := by
  go_at_call 143
  refine hI.mono ?_
  rintro e w_1 ⟨rfl, hW_1, hk_1⟩
  have hK_1 := hK0.trans hk_1
  have hbx := box_keep hk_1 hbx hbX
  clear hI
  have hB_1 : Below w0.heap.size w0 w_1 := hBs.trans hK_1.b
  obtain ⟨c0, c1, c2, c3, c4, c5⟩ := (cells_box hbx).box
  have hlb := blt c0
  have hlX := WrT.lt hW_1
  go_wp2_with fail
  ((try simp only [Exit.inBlock, Exit.then]); first | refine bodyPost_end (results_none rfl _ _ _) rfl ?_ | refine bodyPost_ret (results_none rfl _ _ _) rfl ?_)
  exact ⟨rfl, hW_1.eq lq11, hK_1⟩) : p := h
theorem lw0_18 {p : Prop} (h : p := by
  go_at_call 145
  refine hI.mono ?_
  rintro e w_1 ⟨rfl, hW_1, hk_1⟩
  have hK_1 := hK0.trans hk_1
  have hbx := box_keep hk_1 hbx hbX
  clear hI
  have hB_1 : Below w0.heap.size w0 w_1 := hBs.trans hK_1.b
  obtain ⟨c0, c1, c2, c3, c4, c5⟩ := (cells_box hbx).box
  have hlb := blt c0
  have hlX := WrT.lt hW_1
  go_wp2_with fail
  ((try simp only [Exit.inBlock, Exit.then]); first | refine bodyPost_end (results_none rfl _ _ _) rfl ?_ | refine bodyPost_ret (results_none rfl _ _ _) rfl ?_)
  exact ⟨rfl, hW_1.eq lq11, hK_1⟩) : p := h
theorem lw0_19 {p : Prop} (h : p := by
  have n2 : decide (65 ≤ s[k].toNat) = true := dTr lq25
  have n3 : decide (s[k].toNat ≤ 90) = false := dFa lq25
  have n4 : (s[k].toNat == 95) = false := by rw [HX.out]; simp; omega
  have n5 : decide (48 ≤ s[k].toNat) = true := dTr lq25
  have n6 : decide (s[k].toNat ≤ 57) = false := dFa lq25
  clear h
  have hR2 : R = false := by rw [HN.out, HQ.out _ hz, Bool.and_false, Bool.false_and]
  have HR2 := Lh hR2
  clear hz hR2
  go_wp2_with fail
  go_ret
  exact ⟨by rw [HR2.out]; rfl, hbr⟩) : p := h
theorem lw0_20 {p : Prop} (h : p := by
  have n2 : decide (65 ≤ s[k].toNat) = true := dTr lq25
  have n3 : decide (s[k].toNat ≤ 90) = false := dFa lq25
  have n4 : (s[k].toNat == 95) = false := by rw [HX.out]; simp; omega
  have n5 : decide (s[k].toNat < 48) = false := dFa lq25
  have n6 : decide (57 < s[k].toNat) = true := dTr lq25
  clear h
  have hR2 : R = false := by rw [HN.out, HQ.out _ hz, Bool.and_false, Bool.false_and]
  have HR2 := Lh hR2
  clear hz hR2
  go_wp2_with fail
  go_ret
  exact ⟨by rw [HR2.out]; rfl, hbr⟩) : p := h
theorem lw0_21 {p : Prop} (h : p := by
  rintro e w_1 ⟨rfl, hW_1, hk_1⟩
  have hK_1 := hKa.trans hk_1
  have hbx := box_keep hk_1 hbxa hbX
  have hB_1 : Below w0.heap.size w0 w_1 := hBs.trans hK_1.b
  obtain ⟨c0, c1, c2, c3, c4, c5⟩ := (cells_box hbx).box
  have hlb := blt c0
  have hlX := WrT.lt hW_1
  go_wp2_with fail
  ((try simp only [Exit.inBlock, Exit.then]); first | refine bodyPost_end (results_none rfl _ _ _) rfl ?_ | refine bodyPost_ret (results_none rfl _ _ _) rfl ?_)
  exact ⟨rfl, hW_1.eq lq11, hK_1⟩) : p := h
theorem lw0_22 {p : Prop} (h : p := by
  have o1 : decide ((k : Int) < (dep : Int)) = true := dTo
  have o2 : decide (k < dep) = true := dTr hkl
  have HV := Lh (show ba (padL k) ++ { data := #[32] } = ba (padL (k + 1)) by rw [padL, padL, List.replicate_succ', ← ba_app]; rfl)
  obtain ⟨Z, hZ⟩ : ∃ Z, ba (padL k) = Z := ⟨_, rfl⟩
  rw [hZ] at hzk HV ⊢
  clear hZ
  go_wp2_with fail
  go_roundw
  case rel => exact ⟨k + 1, by go_num, by rw [← HV.out], by omega, lq23⟩
  case measure => simp [intOf]; omega) : p := h
theorem lw0_23 {p : Prop} (h : p := by
  clear hKs hN
  go_enter Tryz.func49, Tryz.ntmps49
  go_wp2_with (first | (go_at_call 34; refine (HBa.out _ hb1).mono ?_; rintro e w_1 ⟨he1, hq1⟩; rw [G1.out] at he1; subst he1; have hw1 := hb1.trans (hq1.mono hb1.size); obtain ⟨a100, a101, a102, a103, a104, a105⟩ := cl6 hq1 c0 c1 c2 c3 c4 c5; have hl1g0 := blt a100))
  go_ret
  exact ⟨by rw [HV.out]; rfl, hw1⟩) : p := h
theorem lw0_24 {p : Prop} (h : p := by
  clear hKs hN
  go_enter Tryz.func91, Tryz.ntmps91
  go_wp2_with (first | (go_at_call 34; refine (HBa.out _ hb1).mono ?_; rintro e w_1 ⟨he1, hq1⟩; rw [G0.out] at he1; subst he1; have hw1 := hb1.trans (hq1.mono hb1.size); obtain ⟨a1_0, a1_1, a1_2, a1_3, a1_4, a1_5⟩ := cl6 hq1 c0 c1 c2 c3 c4 c5; have hl1 := blt a1_0))
  go_ret
  exact ⟨by rw [HV.out]; rfl, hw1⟩) : p := h
theorem lw0_25 {p : Prop} (h : p := by
  refine hI.mono ?_
  rintro e w_1 ⟨rfl, hb_1⟩
  clear hI
  have hB_1 := hb_1
  obtain ⟨c0, c1, c2, c3, c4, c5⟩ := cl6 hb_1 c0 c1 c2 c3 c4 c5
  obtain ⟨n00, n01, n02, n03, n04, n05⟩ := cl6 hb_1 n00 n01 n02 n03 n04 n05
  go_wp2_with fail
  go_ret
  exact ⟨by rw [HTX.out]; (try simp only [← ba_app, ba_text, HZ.out]); rfl, hb1.trans (hB_1.mono hb1.size)⟩) : p := h
theorem lw0_26 {p : Prop} (h : p := by
  rintro e w2 ⟨⟨v2, rfl, hv2⟩, hb2⟩
  have hvt := hvt.later hb2
  have hv1 := hv1.later hb2
  have hU := hU.call hb2
  obtain ⟨g2, cp2, hve, _⟩ := id hv2
  subst hve
  obtain ⟨_, _, _, _, hsz, r0, r1, z0, z1⟩ := id hU
  go_wp2
  exact bodyPost_ret (v := .agg #[.func (.func 62) #[] #[], .func (.func g2) #[] cp2]) lq15 rfl (FormR.put hU textQ_non hv2)) : p := h
theorem lw0_27 {p : Prop} (h : p := by
  rintro e w1 ⟨⟨v1, rfl, hv1⟩, hb1⟩
  have hvt := hvt.later hb1
  have hU := hU.call hb1
  obtain ⟨g1, cp1, hve, _⟩ := id hv1
  subst hve
  obtain ⟨_, _, _, _, hsz, r0, r1, z0, z1⟩ := id hU
  go_wp2
  exact bodyPost_ret (v := .agg #[.func (.func 62) #[] #[], .func (.func g1) #[] cp1]) lq15 rfl (FormR.put hU textQ_non hv1)) : p := h
theorem lw0_28 {p : Prop} (h : p := by
  go_wp2_with (first | (go_at_call 34; refine (HBa.out _ hb1).mono ?_; rintro e w_1 ⟨he1, hq1⟩; rw [G2.out] at he1; subst he1; have hw1 := hb1.trans (hq1.mono hb1.size); obtain ⟨a1_0, a1_1, a1_2, a1_3, a1_4, a1_5⟩ := cl6 hq1 c0 c1 c2 c3 c4 c5; have hl1 := blt a1_0))
  go_ret
  exact ⟨by rw [HV.out]; rfl, hw1⟩) : p := h
theorem lw0_29 {p : Prop} (h : p := by
  have n4 : (s[k].toNat == 95) = false := by rw [HX.out]; simp; omega
  have n5 : decide (48 ≤ s[k].toNat) = true := dTr lq25
  have n6 : decide (s[k].toNat ≤ 57) = false := dFa lq25
  clear h
  go_wp2_with fail
  go_roundw
  case rel => exact ⟨k + 1, by go_num, by omega, Lh hz, hbr⟩
  case measure => simp [intOf]; omega) : p := h
theorem lw0_30 {p : Prop} (h : p := by
  have n4 : (s[k].toNat == 95) = false := by rw [HX.out]; simp; omega
  have n5 : decide (s[k].toNat < 48) = false := dFa lq25
  have n6 : decide (57 < s[k].toNat) = true := dTr lq25
  clear h
  go_wp2_with fail
  go_roundw
  case rel => exact ⟨k + 1, by go_num, by omega, Lh hz, hbr⟩
  case measure => simp [intOf]; omega) : p := h
theorem lw0_31 {p : Prop} (h : p := by
  go_enter Tryz.func150, Tryz.ntmps150
  go_wp2_with (go_at_call 194; refine (HF.out _ hb1).mono ?_; rintro e w3 ⟨A3, c3, rfl, hcan, hb3⟩; obtain ⟨p0, p1⟩ := cl2 hb3 c0 c1; have hl3 := blt p0)
  go_ret
  exact ⟨by rw [HV.out]; rfl, (hb1.trans (hb3.mono hb1.size)).alloc (Nat.le_trans hb1.size hb3.size) _⟩) : p := h
theorem lw0_32 {p : Prop} (h : p := by
  go_at_call 101
  refine hI.mono ?_
  rintro e w_1 ⟨rfl, hb_1⟩
  clear hI
  have hB_1 := hb1.trans (hb_1.mono hb1.size)
  obtain ⟨c0, c1, c2, c3, c4, c5⟩ := cl6 hb_1 c0 c1 c2 c3 c4 c5
  have hlb := blt c0
  go_wp2_with fail
  go_ret
  exact ⟨by rw [HTX.out]; (try simp only [← ba_app, ba_text]); rfl, hB_1⟩) : p := h
theorem lw0_33 {p : Prop} (h : p := by
  rintro e w1 ⟨⟨v1, rfl, hv1⟩, hb1⟩
  have hU := hU.call hb1
  obtain ⟨g1, cp1, hve, _⟩ := id hv1
  subst hve
  obtain ⟨_, _, _, _, hsz, r0, r1, z0, z1⟩ := id hU
  go_wp2
  exact bodyPost_ret (v := .agg #[.func (.func 62) #[] #[], .func (.func g1) #[] cp1]) lq16 rfl (FormR.put hU textQ_non hv1)) : p := h
theorem lw0_34 {p : Prop} (h : p := by
  obtain ⟨hm1, hm2, hrm, hw32, hk1, hk2, ⟨hk64a, hk64b⟩, ⟨ha64a, ha64b⟩, hts, hKs, HK⟩ := hN.hd
  obtain ⟨hb1, c0, c1, c2, c3, c4, c5⟩ := bxn w T A c K d
  unfold ndV
  clear hKs hN
  go_enter Tryz.func94, Tryz.ntmps94
  go_wp2_with fail
  go_ret
  exact ⟨by rw [HV.out]; rfl, hb1⟩) : p := h
theorem lw0_35 {p : Prop} (h : p := by
  go_wp2_with (with_reducible refine HI.out.mono ?_; rintro e w6 ⟨rfl, hb6⟩)
  go_roundw
  case rel => exact ⟨_, _, _, r, rfl, by have := HR2.out _ rfl; simpa [hd2] using this, HDW, hbq.trans (hb6.mono hbq.size)⟩
  case measure => simp [lenS]) : p := h
theorem lw0_36 {p : Prop} (h : p := by
  have hlX := WrT.lt hW_1
  go_wp2_with fail
  ((try simp only [Exit.inBlock, Exit.then]); first | refine bodyPost_end (results_none rfl _ _ _) rfl ?_ | refine bodyPost_ret (results_none rfl _ _ _) rfl ?_)
  exact ⟨rfl, hW_1.eq lq11, hK_1⟩) : p := h
theorem lw0_37 {p : Prop} (h : p := by
  have hlX := WrT.lt hW_2
  go_wp2_with fail
  ((try simp only [Exit.inBlock, Exit.then]); first | refine bodyPost_end (results_none rfl _ _ _) rfl ?_ | refine bodyPost_ret (results_none rfl _ _ _) rfl ?_)
  exact ⟨rfl, hW_2.eq lq11, hK_2⟩) : p := h
theorem lw0_38 {p : Prop} (h : p := by
  have hlX := WrT.lt hW_1
  go_wp2_with fail
  ((try simp only [Exit.inBlock, Exit.then]); first | refine bodyPost_end (results_none rfl _ _ _) rfl ?_ | refine bodyPost_ret (results_none rfl _ _ _) rfl ?_)
  exact ⟨rfl, hW_1.eq lq10, hK_1⟩) : p := h
theorem lw0_39 {p : Prop} (h : p := by
  have hlX := WrT.lt hW_5
  go_wp2_with fail
  ((try simp only [Exit.inBlock, Exit.then]); first | refine bodyPost_end (results_none rfl _ _ _) rfl ?_ | refine bodyPost_ret (results_none rfl _ _ _) rfl ?_)
  exact ⟨rfl, hW_5.eq lq9, hK_5⟩) : p := h
theorem lw0_40 {p : Prop} (h : p := by
  clear h
  have hR2 : R = false := by rw [HN.out, HQ.out _ hz, Bool.and_false, Bool.false_and]
  have HR2 := Lh hR2
  clear hz hR2
  go_wp2_with fail
  go_ret
  exact ⟨by rw [HR2.out]; rfl, hbr⟩) : p := h
theorem lv1 {p : Prop} (h : p := by
  have HBa := Lh (fun W (hb : Below w.heap.size w W) => by
   have := rBare_ok T A c K d W (hN.later hb); unfold ndV at this; rw [hk] at this
   exact this)
  have HTE := Lh (text_empty T.text)
  have HEV0 := Lh (show Sh.stmt.ev Nd.right T = ((T.text.size == 0) && noNumB T && rowB T.kids [Sh.ev Nd.right (.or2 .none .expr)]) by
   rw [st_at hk (tx := .non) (fm := .row [(.or2 .none .expr)]) rfl lq28 lq28 lq28]
   rfl)
  cases hc1 : noNumB T with
  | true =>
   have G1 := Lh hc1; clear hc1
   by_cases h2' : T.text.size = 0
   ·have g2 : (T.text.size == 0) = true := by simp [h2']
    have et : T.text.toList.isEmpty = true := by rw [HTE.out, g2]
    by_cases h3' : T.kids.length = 1
    ·have g3 : (T.kids.length == 1) = true := by simp [h3']
     have el : ((T.kids.length : Int) == 1) = true := by rw [h3']; rfl
     have elb : ((T.kids.length : Int) != 1) = false := by rw [h3']; rfl
     obtain ⟨t0, hks⟩ := kids_1 (l := T.kids) lq29; have hg0 : T.kids[0]? = some t0 := by rw [hks]; rfl
     obtain ⟨b, off, A0, c0, K0, d0, hKe0, hC0, hN0⟩ := hN.kid hg0; have hd0 := wKM hD hW t0 (mog hg0); rw [Nat.zero_mul, Nat.add_zero] at hC0; subst hKe0
     have HK0x := Lh (fun W (hb : Below w.heap.size w W) => by
      have := rNone_ok t0 A0 c0 K0 d0 W (hN0.later hb); unfold ndV at this
      exact this)
     have HK0y := Lh (fun W (hb : Below w.heap.size w W) => by
      have := rExpr_ok D t0 A0 c0 K0 d0 W hd0.1 hd0.2 (hN0.later hb); unfold ndV at this
      exact this)
     have j0a : (0 : Int) < (T.kids.length : Int) := by omega
     have j0b : 0 < T.kids.length := by omega
     have HEVk := Lh (show Sh.stmt.ev Nd.right T = ((T.text.size == 0) && noNumB T && ((Sh.none.ev Nd.right t0 || Sh.expr.ev Nd.right t0))) by rw [HEV0.out, hks]; simp [rowB, Sh.ev, Bool.and_assoc]); clear hks hg0 hN0 hd0
     cases hc4 : Sh.none.ev Nd.right t0 with
     | true =>
      have G4 := Lh hc4; clear hc4; have HV := Lh (show Sh.stmt.ev Nd.right T = true by rw [HEVk.out]; simp [G1.out, g2, g3, G4.out]); clear h2' h3'; obtain ⟨hm1, hm2, hrm, hw32, hk1, hk2, ⟨hk64a, hk64b⟩, ⟨ha64a, ha64b⟩, hts, hKs, HK⟩ := hN.hd; have hcc := bxn w T A c (some ⟨b, off, none⟩) d; rw [hk] at hcc; obtain ⟨hb1, c0, c1, c2, c3, c4, c5⟩ := hcc; obtain ⟨n00, n01, n02, n03, n04, n05⟩ := hC0.later hb1; unfold ndV; rw [hk]; clear hk; clear hKs hN; go_enter Tryz.func49, Tryz.ntmps49
      go_wp2_with (first | (go_at_call 34; refine (HBa.out _ hb1).mono ?_; rintro e w_1 ⟨he1, hq1⟩; rw [G1.out] at he1; subst he1; have hw1 := hb1.trans (hq1.mono hb1.size); obtain ⟨a100, a101, a102, a103, a104, a105⟩ := cl6 hq1 c0 c1 c2 c3 c4 c5; have hl1g0 := blt a100; obtain ⟨a110, a111, a112, a113, a114, a115⟩ := cl6 hq1 n00 n01 n02 n03 n04 n05; have hl1g1 := blt a110) | (go_at_call 94; refine (HK0x.out _ hw1).mono ?_; rintro e w_2 ⟨he2, hq2⟩; rw [G4.out] at he2; subst he2; have hw2 := hw1.trans (hq2.mono hw1.size); obtain ⟨a200, a201, a202, a203, a204, a205⟩ := cl6 hq2 a100 a101 a102 a103 a104 a105; have hl2g0 := blt a200; obtain ⟨a210, a211, a212, a213, a214, a215⟩ := cl6 hq2 a110 a111 a112 a113 a114 a115; have hl2g1 := blt a210))
      go_ret; exact ⟨by rw [HV.out]; rfl, hw2⟩
     | false =>
      have G4 := Lh hc4; clear hc4
      cases hc5 : Sh.expr.ev Nd.right t0 with
      | true =>
       have G5 := Lh hc5; clear hc5; have HV := Lh (show Sh.stmt.ev Nd.right T = true by rw [HEVk.out]; simp [G1.out, g2, g3, G4.out, G5.out]); exact lw0_1
      | false =>
       have G5 := Lh hc5; clear hc5; have HV := Lh (show Sh.stmt.ev Nd.right T = false by rw [HEVk.out]; simp [G1.out, g2, g3, G4.out, G5.out]); exact lw0_1
    ·exact lw0_5
   ·exact lw0_9
  | false =>
   exact lw0_12) : p := h
theorem lv2 {p : Prop} (h : p := by
  have G0 := Lh hc0
  clear hc0
  by_cases h1' : T.text.size = 0
  ·have g1 : (T.text.size == 0) = true := by simp [h1']
   have et : T.text.toList.isEmpty = true := by rw [HTE.out, g1]
   by_cases h2' : 1 ≤ T.kids.length
   ·have g2 : decide (1 ≤ T.kids.length) = true := by simp [h2']
    have el : decide ((0 : Int) < (T.kids.length : Int)) = true := dTo; have el' : decide (0 < T.kids.length) = true := dTo; obtain ⟨t0, ht0⟩ : ∃ t0, T.kids[0]? = some t0 := ⟨_, gEo⟩; have htk : T.kids.take 1 = [t0] := take_one ht0; have hds := wKM hD hW t0 (mog ht0); obtain ⟨b, off, A0, c0', K0, d0', hKe, hC0, hN0⟩ := hN.kid ht0; rw [Nat.zero_mul, Nat.add_zero] at hC0; subst hKe; have i0 : (0 : Int) < (T.kids.length : Int) := by omega
    have i1 : 0 < T.kids.length := by omega
    have HX := Lh (fun W (hb : Below w.heap.size w W) => by
     have := hE t0 A0 c0' K0 d0' W hds.1 hds.2 (hN0.later hb); unfold ndV at this; rw [show Sh.expr.ev Nd.right t0 = (T.kids.take 1).all (Sh.expr.ev Nd.right) by simp [htk]] at this
     exact this)
    clear hds hN0 htk ht0
    cases hc3 : (T.kids.take 1).all (Sh.expr.ev Nd.right) with
    | true =>
     have G3 := Lh hc3; clear hc3
     cases hc4 : compL T.kids with
     | true =>
      have G4 := Lh hc4; clear hc4; have HV := Lh (show Sh.expr.ev Nd.right T = true by rw [HEV.out]; simp [G0.out, g1, g2, G3.out, G4.out]); exact lw0_2
     | false =>
      have G4 := Lh hc4; clear hc4; have HV := Lh (show Sh.expr.ev Nd.right T = false by rw [HEV.out]; simp [G0.out, g1, g2, G3.out, G4.out]); exact lw0_2
    | false =>
     have G3 := Lh hc3; clear hc3; have HV := Lh (show Sh.expr.ev Nd.right T = false by rw [HEV.out]; simp [G0.out, g1, g2, G3.out]); clear h1' h2'; obtain ⟨hm1, hm2, hrm, hw32, hk1, hk2, ⟨hk64a, hk64b⟩, ⟨ha64a, ha64b⟩, hts, hKs, HK⟩ := hN.hd; have hcc := bxn w T A c (some ⟨b, off, none⟩) d; rw [hk] at hcc; obtain ⟨hb1, c0, c1, c2, c3, c4, c5⟩ := hcc; obtain ⟨n0, n1, n2, n3, n4, n5⟩ := hC0.later hb1; unfold ndV; rw [hk]; clear hk; clear hKs hN; go_enter Tryz.func91, Tryz.ntmps91
     go_wp2_with (first | (go_at_call 34; refine (HBa.out _ hb1).mono ?_; rintro e w_1 ⟨he1, hq1⟩; rw [G0.out] at he1; subst he1; have hw1 := hb1.trans (hq1.mono hb1.size); obtain ⟨a1_0, a1_1, a1_2, a1_3, a1_4, a1_5⟩ := cl6 hq1 c0 c1 c2 c3 c4 c5; have hl1 := blt a1_0; obtain ⟨k10, k11, k12, k13, k14, k15⟩ := cl6 hq1 n0 n1 n2 n3 n4 n5; have hm1' := blt k10) | (go_at_call 91; refine (HX.out _ hw1).mono ?_; rintro e w_2 ⟨he2, hq2⟩; rw [G3.out] at he2; subst he2; have hw2 := hw1.trans (hq2.mono hw1.size); obtain ⟨a2_0, a2_1, a2_2, a2_3, a2_4, a2_5⟩ := cl6 hq2 a1_0 a1_1 a1_2 a1_3 a1_4 a1_5; have hl2 := blt a2_0; obtain ⟨k20, k21, k22, k23, k24, k25⟩ := cl6 hq2 k10 k11 k12 k13 k14 k15; have hm2' := blt k20))
     go_ret; exact ⟨by rw [HV.out]; rfl, hw2⟩
   ·exact lw0_6
  ·exact lw0_10) : p := h
theorem lv3 {p : Prop} (h : p := by
  go_loopw [7] (fun iv wr => ∃ k : Nat, iv = .int .i64 k ∧ k ≤ T.mag.length ∧ Below w2.heap.size w2 wr) (fun iv _ => T.mag.length - (intOf iv).toNat)
  case atStart => exact ⟨0, rfl, Nat.zero_le _, Below.refl _ _⟩
  case round =>
   obtain ⟨k, rfl, hk, hbr⟩ := hrel; obtain ⟨f4, f5, g4, g5⟩ := cl4 hbr e4 e5 c4 c5
   by_cases hkl : k < T.mag.length
   ·have q1 : decide ((k : Int) < (T.mag.length : Int)) = true := dTo; have q2 : decide (k < T.mag.length) = true := dTr hkl; obtain ⟨bz, oz, z, hA1, hz, hcz⟩ := HR1.out k hkl; obtain ⟨by_, oy, y, hA2, hy, hcy⟩ := HR2.out k hkl; subst hA1 hA2; rw [hz] at hy; injection hy with hy
    subst hy; have hbw := hb1.trans (hbr.mono hb1.size); obtain ⟨hcz, hcy⟩ := cl2 hbw hcz hcy; have l1 := blt hcz; have l2 := blt hcy; have l3 := blt f4; have l4 := blt g4; have q3 : (0 : Int) ≤ (k : Int) := by omega
    have q4 : (k : Int) < (T.mag.length : Int) := by omega
    clear hz; go_wp2_with fail
    go_region_with (fail)
    all_goals
     go_wp2_with fail
     go_roundw
     case rel => exact ⟨k + 1, by go_num, by omega, by first | exact hbr | exact hbr.trans (below_drew (Below.refl _ _))⟩
     case measure => simp [intOf]; omega
   ·have q1 : decide ((k : Int) < (T.mag.length : Int)) = false := dFo; have q2 : decide (k < T.mag.length) = false := dFa hkl; have hb2 := hb1.trans (hbr.mono hb1.size); clear hk hkl e4 e5 e0 e1 e2 e3 c0 c1' c2' c3 c4 c5 HR1 HR2; go_wp2_with fail; clear q1 q2 hbr f4 g4
    generalize wr = w3 at *
    go_loopw [8] (fun iv wr => ∃ k : Nat, iv = .int .i64 k ∧ k ≤ T.kids.length ∧ Below w3.heap.size w3 wr) (fun iv _ => T.kids.length - (intOf iv).toNat)
    case atStart => exact ⟨0, rfl, Nat.zero_le _, Below.refl _ _⟩
    case round =>
     obtain ⟨k, rfl, hk, hbr⟩ := hrel; obtain ⟨f5, g5⟩ := cl2 hbr f5 g5; have hbw := hb2.trans (hbr.mono hb2.size)
     by_cases hkl : k < T.kids.length
     ·have q1 : decide ((k : Int) < (T.kids.length : Int)) = true := dTo; have q2 : decide (k < T.kids.length) = true := dTr hkl; obtain ⟨s, hs⟩ : ∃ s, L[k]? = some s := ⟨_, List.getElem?_eq_getElem (by rw [HL.out]; exact hkl)⟩; obtain ⟨t, ht⟩ : ∃ t, T.kids[k]? = some t := ⟨_, List.getElem?_eq_getElem hkl⟩; obtain ⟨b1, o1, As, cs, Ks, ds, hKe1, hC1, hN1⟩ := HK1.out.kid hs; obtain ⟨b2, o2, At, ct, Kt, dt, hKe2, hC2, hN2⟩ := HK2.out.kid ht; subst hKe1 hKe2; rw [Nat.zero_add] at hC1 hC2; obtain ⟨m0, m1, m2, m3, m4, m5⟩ := hC1.later hbw; obtain ⟨n0, n1, n2, n3, n4, n5⟩ := hC2.later hbw
      have l1 := blt m0; have l2 := blt n0; have l3 := blt f5; have l4 := blt g5; have q3 : (0 : Int) ≤ (k : Int) := by omega
      have q4 : (k : Int) < (T.kids.length : Int) := by omega
      have hcall := fun (W : World) (hb : Below wr.heap.size wr W) => HI.out k s t hs ht As cs Ks ds At ct Kt dt W (hN1.later (hbw.trans (hb.mono hbw.size))) (hN2.later (hbw.trans (hb.mono hbw.size)))
      unfold ndV at hcall; have HS := Lh hcall; clear hcall hs ht hN1 hN2 hC1 hC2 HI HL HK1 HK2
      have HPK : ∀ W, Below wr.heap.size wr W → (W.cell? ⟨b1, o1 + k * 6, none⟩ = some (.int .i64 s.kind) ∧ W.cell? ⟨b1, o1 + k * 6 + 1, none⟩ = some (.int .i64 s.pos) ∧ W.cell? ⟨b1, o1 + k * 6 + 2, none⟩ = some (.string s.text) ∧ W.cell? ⟨b1, o1 + k * 6 + 3, none⟩ = some (.bool s.neg) ∧ W.cell? ⟨b1, o1 + k * 6 + 4, none⟩ = some (.slice As s.mag.length cs) ∧ W.cell? ⟨b1, o1 + k * 6 + 5, none⟩ = some (.slice Ks s.kids.length ds) ∧ W.cell? ⟨b2, o2 + k * 6, none⟩ = some (.int .i64 t.kind) ∧ W.cell? ⟨b2, o2 + k * 6 + 1, none⟩ = some (.int .i64 t.pos) ∧ W.cell? ⟨b2, o2 + k * 6 + 2, none⟩ = some (.string t.text) ∧ W.cell? ⟨b2, o2 + k * 6 + 3, none⟩ = some (.bool t.neg) ∧ W.cell? ⟨b2, o2 + k * 6 + 4, none⟩ = some (.slice At t.mag.length ct) ∧ W.cell? ⟨b2, o2 + k * 6 + 5, none⟩ = some (.slice Kt t.kids.length dt) ∧ W.cell? ⟨w.heap.size, 5, none⟩ = some (.slice (some ⟨b1, o1, none⟩) T.kids.length d1) ∧ W.cell? ⟨w.heap.size + 1, 5, none⟩ = some (.slice (some ⟨b2, o2, none⟩) T.kids.length d) ∧ b1 < W.heap.size ∧ b2 < W.heap.size ∧ w.heap.size < W.heap.size ∧ w.heap.size + 1 < W.heap.size) := fun W h => ⟨cLt h m0, cLt h m1, cLt h m2, cLt h m3, cLt h m4, cLt h m5, cLt h n0, cLt h n1, cLt h n2, cLt h n3, cLt h n4, cLt h n5, cLt h f5, cLt h g5, Nat.lt_of_lt_of_le l1 h.size, Nat.lt_of_lt_of_le l2 h.size, Nat.lt_of_lt_of_le l3 h.size, Nat.lt_of_lt_of_le l4 h.size⟩
      go_wp2_with fail
      (first | go_region_held3 (fun W => W.cell? ⟨b1, o1 + k * 6, none⟩ = some (.int .i64 s.kind) ∧ W.cell? ⟨b1, o1 + k * 6 + 1, none⟩ = some (.int .i64 s.pos) ∧ W.cell? ⟨b1, o1 + k * 6 + 2, none⟩ = some (.string s.text) ∧ W.cell? ⟨b1, o1 + k * 6 + 3, none⟩ = some (.bool s.neg) ∧ W.cell? ⟨b1, o1 + k * 6 + 4, none⟩ = some (.slice As s.mag.length cs) ∧ W.cell? ⟨b1, o1 + k * 6 + 5, none⟩ = some (.slice Ks s.kids.length ds) ∧ W.cell? ⟨b2, o2 + k * 6, none⟩ = some (.int .i64 t.kind) ∧ W.cell? ⟨b2, o2 + k * 6 + 1, none⟩ = some (.int .i64 t.pos) ∧ W.cell? ⟨b2, o2 + k * 6 + 2, none⟩ = some (.string t.text) ∧ W.cell? ⟨b2, o2 + k * 6 + 3, none⟩ = some (.bool t.neg) ∧ W.cell? ⟨b2, o2 + k * 6 + 4, none⟩ = some (.slice At t.mag.length ct) ∧ W.cell? ⟨b2, o2 + k * 6 + 5, none⟩ = some (.slice Kt t.kids.length dt) ∧ W.cell? ⟨w.heap.size, 5, none⟩ = some (.slice (some ⟨b1, o1, none⟩) T.kids.length d1) ∧ W.cell? ⟨w.heap.size + 1, 5, none⟩ = some (.slice (some ⟨b2, o2, none⟩) T.kids.length d) ∧ b1 < W.heap.size ∧ b2 < W.heap.size ∧ w.heap.size < W.heap.size ∧ w.heap.size + 1 < W.heap.size) (first | (refine HPK _ ?_; (repeat' (first | with_reducible exact H0 | with_reducible exact Below.refl _ _ | (with_reducible refine below_drew ?_))))) (first | (go_at_call 18; (with_reducible refine (HS.out _ ?hbel).mono ?_); (case hbel => (repeat' (first  | with_reducible exact Below.refl _ _ | (with_reducible refine below_drew ?_)))); rintro e w_0 ⟨rfl, hq_0⟩; have H0 := below_then (w1 := wr) hq_0 lq14)) | fail)
      all_goals
       go_wp2_with fail
       go_roundw
       case rel => exact ⟨k + 1, by go_num, by omega, by first | exact hbr.trans (H0.mono hbr.size) | exact hbr.trans ((below_drew H0).mono hbr.size)⟩
       case measure => simp [intOf]; omega
     ·have q1 : decide ((k : Int) < (T.kids.length : Int)) = false := dFo; have q2 : decide (k < T.kids.length) = false := dFa hkl; go_wp2_with fail; go_ret; exact ⟨rfl, hbw⟩) : p := h
theorem lv4 {p : Prop} (h : p := by
  have HBa := Lh (fun W (hb : Below w.heap.size w W) => by
   have := rBare_ok T A c K d W (hN.later hb); unfold ndV at this; rw [hk] at this
   exact this)
  have HTE := Lh (text_empty T.text)
  have HWi := Lh (wKM hD hW)
  have HEV0 := Lh (show Sh.stmt.ev Nd.right T = ((T.text.size == 0) && noNumB T && (decide (1 ≤ T.kids.length) && T.kids.all ((Sh.of 31).ev Nd.right))) by
   rw [st_at hk (tx := .non) (fm := .some 1 (.of 31)) rfl lq28 lq28 lq28]
   rfl)
  cases hc1 : noNumB T with
  | true =>
   have G1 := Lh hc1; clear hc1
   by_cases h2' : T.text.size = 0
   ·have g2 : (T.text.size == 0) = true := by simp [h2']
    have et : T.text.toList.isEmpty = true := by rw [HTE.out, g2]
    have HV1 := Lh (show ((T.text.size == 0) && noNumB T) = true by simp [G1.out, g2]); clear h2'; obtain ⟨hm1, hm2, hrm, hw32, hk1, hk2, ⟨hk64a, hk64b⟩, ⟨ha64a, ha64b⟩, hts, hKs, HK⟩ := hN.hd; have hcc := bxn w T A c K d; rw [hk] at hcc; obtain ⟨hb1, c0, c1, c2, c3, c4, c5⟩ := hcc; unfold ndV; rw [hk]; clear hk; clear hKs hN; go_enter Tryz.func49, Tryz.ntmps49
    go_wp2_with (first | (go_at_call 34; refine (HBa.out _ hb1).mono ?_; rintro e w_1 ⟨he1, hq1⟩; rw [G1.out] at he1; subst he1; have hw1 := hb1.trans (hq1.mono hb1.size); obtain ⟨a100, a101, a102, a103, a104, a105⟩ := cl6 hq1 c0 c1 c2 c3 c4 c5; have hl1g0 := blt a100)); have HW0 := Lh hw1
    go_loopw [5] (fun iv wr => ∃ k : Nat, iv = .int .i64 k ∧ k ≤ T.kids.length ∧ Hid ((T.kids.take k).all ((Sh.of 31).ev Nd.right) = true) ∧ Below w_1.heap.size w_1 wr) (fun iv _ => T.kids.length - (intOf iv).toNat)
    case atStart => exact ⟨0, rfl, Nat.zero_le _, Lh rfl, Below.refl _ _⟩
    case round =>
     obtain ⟨k, rfl, hk, hR, hbr⟩ := hrel; have hbw := HW0.out.trans (hbr.mono HW0.out.size); have d5 := cLt hbr a105; have hlw := blt d5
     by_cases hkl : k < T.kids.length
     ·have o1 : decide ((k : Int) < (T.kids.length : Int)) = true := dTo; have o2 : decide (k < T.kids.length) = true := dTr hkl; obtain ⟨t, ht⟩ : ∃ t, T.kids[k]? = some t := ⟨_, List.getElem?_eq_getElem hkl⟩; obtain ⟨b, off, A', c', K', d', hKe, hC, hNt⟩ := HK.out k t ht; subst hKe; obtain ⟨n0, n1, n2, n3, n4, n5⟩ := hC.later hbw; have hbn := blt n0; obtain ⟨hd1, hw1⟩ := HWi.out t (mog ht); have hI := rExpr_ok D t A' c' K' d' wr hd1 hw1 (hNt.later hbw); unfold ndV at hI; have HI := Lh hI; have HAT := Lh (all_take (p := (Sh.of 31).ev Nd.right) ht)
      have HAL := Lh (fun h => all_le (l := T.kids) (p := (Sh.of 31).ev Nd.right) (k := k + 1) h); clear hI hC hNt ht hd1 hw1
      by_cases h31 : t.kind = 31
      ·have e1 : (t.kind != 31) = false := by simp [h31]
       have HO := Lh (show (Sh.of 31).ev Nd.right t = Sh.expr.ev Nd.right t by simp [Sh.ev, h31]); clear h31
       cases hp : Sh.expr.ev Nd.right t with
       | true =>
        rw [hp] at HI; have HZ := Lh (show (T.kids.take (k + 1)).all ((Sh.of 31).ev Nd.right) = true by rw [HAT.out, hR.out, HO.out, hp]; rfl); clear hp; go_wp2_with (go_at_call 91; refine HI.out.mono ?_; rintro e w3 ⟨rfl, hb3⟩)
        go_roundw
        case rel => exact ⟨k + 1, by go_num, by omega, HZ, hbr.trans (hb3.mono hbr.size)⟩
        case measure => simp [intOf]; omega
       | false =>
        rw [hp] at HI; have HZ := Lh (show T.kids.all ((Sh.of 31).ev Nd.right) = false from HAL.out (by rw [HAT.out, HO.out, hp, Bool.and_false])); clear hp; go_wp2_with (go_at_call 91; refine HI.out.mono ?_; rintro e w3 ⟨rfl, hb3⟩); go_ret; exact ⟨by rw [HEV0.out, HZ.out, Bool.and_false, Bool.and_false]; rfl, hbw.trans (hb3.mono hbw.size)⟩
      ·have e1 : (t.kind != 31) = true := by simp [h31]
       have HZ := Lh (show T.kids.all ((Sh.of 31).ev Nd.right) = false from HAL.out (by rw [HAT.out, show (Sh.of 31).ev Nd.right t = false from ev_of_not h31, Bool.and_false])); clear h31; go_wp2_with fail; go_ret; exact ⟨by rw [HEV0.out, HZ.out, Bool.and_false, Bool.and_false]; rfl, hbw⟩
     ·have o1 : decide ((k : Int) < (T.kids.length : Int)) = false := dFo; have o2 : decide (k < T.kids.length) = false := dFa hkl; have hR2 := hR.out; rw [List.take_of_length_le lq29] at hR2; have HR2 := Lh hR2; clear hR2
      by_cases hz : 0 < T.kids.length
      ·have y1 : decide ((0 : Int) < (T.kids.length : Int)) = true := dTo; have y2 : decide (0 < T.kids.length) = true := dTr hz; have HV := Lh (show Sh.stmt.ev Nd.right T = true by rw [HEV0.out, HR2.out, HV1.out, dTo]; rfl); go_wp2_with fail; go_ret; exact ⟨by rw [HV.out]; rfl, hbw⟩
      ·have y1 : decide ((0 : Int) < (T.kids.length : Int)) = false := dFo; have y2 : decide (0 < T.kids.length) = false := dFa hz; have HV := Lh (show Sh.stmt.ev Nd.right T = false by rw [HEV0.out, dFo, Bool.false_and, Bool.and_false]); go_wp2_with fail; go_ret; exact ⟨by rw [HV.out]; rfl, hbw⟩
   ·exact lw0_9
  | false =>
   exact lw0_12) : p := h
theorem lv5 {p : Prop} (h : p := by
  have HBa := Lh (fun W (hb : Below w.heap.size w W) => by
   have := rBare_ok T A c K d W (hN.later hb); unfold ndV at this; rw [hk] at this
   exact this)
  have HTE := Lh (text_empty T.text)
  have HEx := Lh (fun W (hb : Below w.heap.size w W) => rExprs_ok D hE T.kids T.kids.length K d W rfl (hN.parts.2.2.2.2.2.2.2.2.2.later hb) (wKM hD hW) hN.parts.2.2.2.2.1 hN.parts.2.2.2.2.2.1)
  have HEV := Lh (show Sh.expr.ev Nd.right T = ((noNumB T) && ((T.text.size == 0)) && ((T.kids.length == 2)) && (T.kids.all (Sh.expr.ev Nd.right))) by
   rw [ex_at hk (tx := .non) (fm := .row [.expr, .expr]) rfl lq28 lq28 lq28 lq28]
   show (_ && _ && rowB T.kids [Sh.expr.ev Nd.right, Sh.expr.ev Nd.right]) = _
   rw [rowB_two]
   simp [Tx.ev, Bool.and_assoc, Bool.and_comm, Bool.and_left_comm])
  cases hc0 : noNumB T with
  | true =>
   have G0 := Lh hc0; clear hc0
   by_cases h1' : T.text.size = 0
   ·have g1 : (T.text.size == 0) = true := by simp [h1']
    have et : T.text.toList.isEmpty = true := by rw [HTE.out, g1]
    by_cases h2' : T.kids.length = 2
    ·have g2 : (T.kids.length == 2) = true := by simp [h2']
     have el : ((T.kids.length : Int) == 2) = true := by rw [h2']; rfl
     cases hc3 : T.kids.all (Sh.expr.ev Nd.right) with
     | true =>
      exact lw0_4
     | false =>
      exact lw0_3
    ·have g2 : (T.kids.length == 2) = false := by simp [h2']
     have el : ((T.kids.length : Int) == 2) = false := bFo; exact lw0_14
   ·exact lw0_10
  | false =>
   exact lw0_13) : p := h
theorem lv6 {p : Prop} (h : p := by
  have HBa := Lh (fun W (hb : Below w.heap.size w W) => by
   have := rBare_ok T A c K d W (hN.later hb); unfold ndV at this; rw [hk] at this
   exact this)
  have HTE := Lh (text_empty T.text)
  have HEx := Lh (fun W (hb : Below w.heap.size w W) => rExprs_ok D hE T.kids T.kids.length K d W rfl (hN.parts.2.2.2.2.2.2.2.2.2.later hb) (wKM hD hW) hN.parts.2.2.2.2.1 hN.parts.2.2.2.2.2.1)
  have HEV := Lh (show Sh.expr.ev Nd.right T = ((noNumB T) && ((T.text.size == 0)) && ((T.kids.length == 1)) && (T.kids.all (Sh.expr.ev Nd.right))) by
   rw [ex_at hk (tx := .non) (fm := .row [.expr]) rfl lq28 lq28 lq28 lq28]
   show (_ && _ && rowB T.kids [Sh.expr.ev Nd.right]) = _
   rw [rowB_one]
   simp [Tx.ev, Bool.and_assoc, Bool.and_comm, Bool.and_left_comm])
  cases hc0 : noNumB T with
  | true =>
   have G0 := Lh hc0; clear hc0
   by_cases h1' : T.text.size = 0
   ·have g1 : (T.text.size == 0) = true := by simp [h1']
    have et : T.text.toList.isEmpty = true := by rw [HTE.out, g1]
    by_cases h2' : T.kids.length = 1
    ·have g2 : (T.kids.length == 1) = true := by simp [h2']
     have el : ((T.kids.length : Int) == 1) = true := by rw [h2']; rfl
     cases hc3 : T.kids.all (Sh.expr.ev Nd.right) with
     | true =>
      exact lw0_4
     | false =>
      exact lw0_3
    ·have g2 : (T.kids.length == 1) = false := by simp [h2']
     have el : ((T.kids.length : Int) == 1) = false := bFo; exact lw0_14
   ·exact lw0_10
  | false =>
   exact lw0_13) : p := h
theorem lv7 {p : Prop} (h : p := by
  obtain ⟨i, n', d', K', l', rfl, rfl, hi, hS, hG, hbr⟩ := hrel
  by_cases hil : i < 2
  ·have u1 : decide ((i : Int) < 2) = true := dTo; have u2 : decide (i < 2) = true := dTr hil; obtain ⟨bq, oq, vq, hbq, hcq, hSq⟩ := HSH.out i _ (callP_at hil); injection hbq with hbq
   injection hbq with e1 e2
   subst e1 e2; rw [Nat.zero_add] at hcq; have hcr := cLt hbr hcq; obtain ⟨fq, cq, hvq, hrn, hfq⟩ := hSq; subst hvq; have HFQ := Lh hfq; have HGS := Lh (callG_step hil l'); have HBR := Lh hbr; clear hfq; go_wp2_with fail
   go_loopw [3] (fun lv wq => ∃ (n2 d2 : Nat) (K2 : Option Addr) (l2 : List Nd), lv = .slice K2 n2 d2 ∧ SliceAt w D K2 l2 n2 d2 ∧ Hid (l'.dropWhile (callP i) = l2.dropWhile (callP i)) ∧ Below wr.heap.size wr wq) (fun lv _ => lenS lv)
   case atStart => exact ⟨_, _, _, _, rfl, hS, Lh rfl, Below.refl _ _⟩
   case round =>
    obtain ⟨n2, d2, K2, l2, rfl, hS2, hG2, hbq⟩ := hrel; obtain ⟨hl2, hnd2, hdm2, hk2', hWi2⟩ := hS2; have hbw := hw5.trans (HBR.out.mono hw5.size); have hbw2 := hbw.trans (hbq.mono hbw.size)
    cases l2 with
    | nil =>
     have hn2 : n2 = 0 := hl2.symm; subst hn2; have HG2 := hG2; rw [List.dropWhile_nil] at hG2; go_wp2_with fail
     go_roundw
     case rel => exact ⟨i + 1, _, _, _, [], by go_num, rfl, by omega, ⟨hl2, hnd2, hdm2, hk2', hWi2⟩, Lh (by rw [hG.out, HGS.out, hG2.out]), HBR.out.trans (hbq.mono HBR.out.size)⟩
     case measure => simp [intOf]; omega
    | cons t r =>
     obtain ⟨m2, hm2'⟩ : ∃ m2, r.length = m2 := ⟨_, rfl⟩; have hn2 : n2 = m2 + 1 := by rw [← hl2, ← hm2']; rfl
     subst hn2; obtain ⟨b2, off2, A', c', K', d', hKe2, hC, hNt⟩ := hk2'.kid (i := 0) (t := t) rfl; rw [Nat.zero_add, Nat.zero_mul, Nat.add_zero] at hC; subst hKe2; obtain ⟨y0, y1, y2, y3, y4, y5⟩ := hC.later hbw2; obtain ⟨hdt, hwt⟩ := hWi2 t (List.mem_cons_self ..); have hI := HFQ.out wr (HBR.out.trans (hbq.mono HBR.out.size)) t A' c' K' d' hdt hwt (hNt.later hbw2); unfold ndV at hI; have HI := Lh hI
     have HR2 := Lh (show ∀ K3, K3 = (if d2 = 1 then some ⟨b2, off2, none⟩ else some ⟨b2, off2 + 6, none⟩) → SliceAt w D K3 r m2 (d2 - 1) from fun K3 e => ⟨hm2', by omega, by omega, e ▸ hk2'.cut 1 d2 (by rw [length_cons, hm2']; exact hnd2), fun t ht => hWi2 t (List.mem_cons_of_mem _ ht)⟩); have HN2 := Lh (show SliceAt w D (some ⟨b2, off2, none⟩) (t :: r) (m2 + 1) d2 from ⟨hl2, hnd2, hdm2, hk2', hWi2⟩); have v1 : decide ((0 : Int) < (m2 : Int) + 1) = true := dTo; have v2 : (1 : Int) ≤ (d2 : Int) := by omega
     have hDW := hG2.out; rw [List.dropWhile_cons] at hDW; clear hI hC hNt hk2' hWi2 hdt hwt hl2 hm2'; unfold maxLen at hdm2
     cases hpt : callP i t with
     | true =>
      rw [hpt] at HI hDW; rw [if_pos rfl] at hDW; have HDW := Lh hDW; clear hDW hpt hG2
      by_cases hd2 : d2 = 1
      ·exact lw0_35
      ·exact lw0_35
     | false =>
      rw [hpt] at HI hDW; have HDW := Lh (hDW.trans (if_neg lq28)); clear hDW hpt hG2; go_wp2_with (with_reducible refine HI.out.mono ?_; rintro e w6 ⟨rfl, hb6⟩)
      go_roundw
      case rel => exact ⟨i + 1, _, _, _, t :: r, by go_num, rfl, by omega, HN2.out, Lh (by rw [hG.out, HGS.out, HDW.out]), HBR.out.trans ((hbq.trans (hb6.mono hbq.size)).mono HBR.out.size)⟩
      case measure => simp [intOf]; omega
  ·have u1 : decide ((i : Int) < 2) = false := dFo; have u2 : decide (i < 2) = false := dFa hil; obtain ⟨hl2, hnd2, hdm2, hk2', hWi2⟩ := hS; have hi2 : i = 2 := by omega
   subst hi2; have hbw := hw5.trans (hbr.mono hw5.size); have HGE := Lh (show callG 0 (T.kids.drop 1) = l' from hG.out); clear hG
   cases l' with
   | nil =>
    have hn2 : n' = 0 := hl2.symm; subst hn2; go_wp2_with fail; go_ret; exact ⟨by rw [HGE.out]; rfl, hbw⟩
   | cons t r =>
    obtain ⟨m2, hm2'⟩ : ∃ m2, r.length = m2 := ⟨_, rfl⟩; have hn2 : n' = m2 + 1 := by rw [← hl2, ← hm2']; rfl
    subst hn2; have v1 : ((m2 : Int) + 1 == 0) = false := bFo; have HRW := Lh (fun W (hb : Below w.heap.size w W) A hL => row_ok D (t :: r) (m2 + 1) K' d' [(Sh.of 40).ev Nd.right] 1 A 1 W hl2 (hk2'.later hb) hWi2 rfl hL hnd2 hdm2 (Nat.le_refl _) lq24); clear hk2' hWi2 hl2 hm2'; unfold maxLen at hdm2
    go_wp2_with (first | (go_at_call 64; refine (of_ok HRi.out (Utf8Tabs_below HT.out hbw) 40).mono ?_; rintro e w7 ⟨⟨v7, rfl, hv7⟩, hb7⟩; have hw7 := hbw.trans (hb7.mono hbw.size); have HS7 := Lh (shapes_one hv7 69 w7.heap.size rfl); obtain ⟨f7, cp7, hv7e, _⟩ := hv7; subst hv7e) | (go_at_call 127; refine (HRW.out _ (hw7.alloc hw7.size _) _ HS7.out).mono ?_; rintro e w8 ⟨rfl, hb8⟩)); go_ret; exact ⟨by rw [HGE.out]; rfl, (hw7.alloc hw7.size _).trans (hb8.mono (hw7.alloc hw7.size _).size)⟩) : p := h
theorem lv8 {p : Prop} (h : p := by
  obtain ⟨hm1, hm2, hrm, hw32, hk1, hk2, ⟨hk64a, hk64b⟩, ⟨ha64a, ha64b⟩, hts, hKs, HK⟩ := hN.hd
  obtain ⟨hb1, c0, c1, c2, c3, c4, c5⟩ := bxn w T A c (some ⟨b, off, none⟩) d
  obtain ⟨n00, n01, n02, n03, n04, n05⟩ := hC0.later hb1
  have hlk0 := blt n00
  obtain ⟨n10, n11, n12, n13, n14, n15⟩ := hC1.later hb1
  have hlk1 := blt n10
  unfold ndV
  clear hKs hN hT hD hWt hrm hw32 hk hlen hts hL hdc hdcw hst hlen3 hks hg0 hN0 hd0 r0 hg1 hN1 hd1 r1 
  go_enter Tryz.func50, Tryz.ntmps50
  go_wp2_with fail
  generalize w.alloc (bx T.kind T A c (some ⟨b, off, none⟩) d) = w1 at *
  have hlb1 := blt c0
  have hs0 := fun W (hb : Below w1.heap.size w1 W) => HR0.out W (hb1.trans (hb.mono hb1.size))
  unfold ndV at hs0
  have HS0 := Lh hs0
  clear hs0
  have hs1 := fun W (hb : Below w1.heap.size w1 W) => HR1.out W (hb1.trans (hb.mono hb1.size))
  unfold ndV at hs1
  have HS1 := Lh hs1
  clear hs1
  go_loopw [5, 6] (fun sv iv wr => ∃ k : Nat, iv = .int .i64 k ∧ sv = .string (ba (padL k)) ∧ k ≤ dep ∧ w1 = wr) (fun _ iv _ => dep - (intOf iv).toNat)
  case atStart => exact ⟨0, rfl, rfl, Nat.zero_le _, rfl⟩
  case round =>
   obtain ⟨k, rfl, rfl, hkd, rfl⟩ := hrel; have hzk : (ba (padL k)).size ≤ 1000000 := by rw [ba_size, padL_len]; omega
   by_cases hkl : k < dep
   ·exact lw0_22
   ·have o1 : decide ((k : Int) < (dep : Int)) = false := dFo; have o2 : decide (k < dep) = false := dFa hkl; obtain ⟨Z, hZ⟩ : ∃ Z, ba (padL k) = Z := ⟨_, rfl⟩; have HZ := Lh (show ba (padL dep) = Z by rw [← hZ, show k = dep by omega]); rw [hZ] at hzk ⊢; clear hZ hkl hkd; go_wp2_with fail; have hqs0 : ({ data := #[32, 61, 32] } : ByteArray).size = 3 := rfl; have hqs1 : ({ data := #[10] } : ByteArray).size = 1 := rfl; have had0 := fun (W : World) => run_string_add_sum (P := Tryz.prog) (w := W) (Z) (ba t0.txt) lq18
    have had1 := fun (W : World) => run_string_add_sum (P := Tryz.prog) (w := W) (Z ++ ba t0.txt) (({ data := #[32, 61, 32] } : ByteArray)) lq18
    have had2 := fun (W : World) => run_string_add_sum (P := Tryz.prog) (w := W) (Z ++ ba t0.txt ++ ({ data := #[32, 61, 32] } : ByteArray)) (ba t1.txt) lq18
    have had3 := fun (W : World) => run_string_add_sum (P := Tryz.prog) (w := W) (Z ++ ba t0.txt ++ ({ data := #[32, 61, 32] } : ByteArray) ++ ba t1.txt) (({ data := #[10] } : ByteArray)) lq18
    clear hqs0 hqs1; have HPK := fun (W : World) (h : Below w1.heap.size w1 W) => show _ ∧ _ ∧ _ ∧ _ ∧ _ ∧ _ ∧ _ ∧ _ ∧ _ ∧ _ ∧ _ ∧ _ ∧ _ from ⟨cLt h n00, cLt h n01, cLt h n02, cLt h n03, cLt h n04, cLt h n05, cLt h n10, cLt h n11, cLt h n12, cLt h n13, cLt h n14, cLt h n15, Nat.lt_of_lt_of_le hlk0 h.size⟩
    go_region_held3 (fun W => W.cell? ⟨b, off, none⟩ = some (.int .i64 t0.kind) ∧ W.cell? ⟨b, off + 1, none⟩ = some (.int .i64 t0.pos) ∧ W.cell? ⟨b, off + 2, none⟩ = some (.string t0.text) ∧ W.cell? ⟨b, off + 3, none⟩ = some (.bool t0.neg) ∧ W.cell? ⟨b, off + 4, none⟩ = some (.slice A0 t0.mag.length c0') ∧ W.cell? ⟨b, off + 5, none⟩ = some (.slice K0 t0.kids.length d0) ∧ W.cell? ⟨b, off + 6, none⟩ = some (.int .i64 t1.kind) ∧ W.cell? ⟨b, off + 6 + 1, none⟩ = some (.int .i64 t1.pos) ∧ W.cell? ⟨b, off + 6 + 2, none⟩ = some (.string t1.text) ∧ W.cell? ⟨b, off + 6 + 3, none⟩ = some (.bool t1.neg) ∧ W.cell? ⟨b, off + 6 + 4, none⟩ = some (.slice A1 t1.mag.length c1') ∧ W.cell? ⟨b, off + 6 + 5, none⟩ = some (.slice K1 t1.kids.length d1) ∧ b < W.heap.size) (first | (refine HPK _ ?_; (repeat' (first | with_reducible exact H1 | with_reducible exact H0 | with_reducible exact Below.refl _ _ | (with_reducible refine below_drew ?_))))) (first | (go_at_call 99; (with_reducible refine (HS0.out _ ?hbel).mono ?_); (case hbel => (repeat' (first  | with_reducible exact Below.refl _ _ | (with_reducible refine below_drew ?_)))); rintro e w_0 ⟨rfl, hq_0⟩; have H0 := below_then (w1 := w1) hq_0 lq14) | (go_at_call 99; (with_reducible refine (HS1.out _ ?hbel).mono ?_); (case hbel => (repeat' (first | with_reducible exact H0 | with_reducible exact Below.refl _ _ | (with_reducible refine below_drew ?_)))); rintro e w_1 ⟨rfl, hq_1⟩; have H1 := below_then (w1 := w1) hq_1 lq12) )
    all_goals
     go_wp2; go_ret; exact ⟨by rw [HTX.out]; (try simp only [← ba_app, ba_text, HZ.out]); rfl, hb1.trans (H1.mono hb1.size)⟩) : p := h
theorem lv9 {p : Prop} (h : p := by
  have HBa := Lh (fun W (hb : Below w.heap.size w W) => by
   have := rBare_ok T A c K d W (hN.later hb); unfold ndV at this; rw [hk] at this
   exact this)
  have HTE := Lh (text_empty T.text)
  have HEx := Lh (fun W (hb : Below w.heap.size w W) => rExprs_ok D hE T.kids T.kids.length K d W rfl (hN.parts.2.2.2.2.2.2.2.2.2.later hb) (wKM hD hW) hN.parts.2.2.2.2.1 hN.parts.2.2.2.2.2.1)
  have HEV := Lh (show Sh.expr.ev Nd.right T = ((noNumB T) && ((T.text.size == 0)) && (T.kids.all (Sh.expr.ev Nd.right))) by
   rw [ex_at hk (tx := .non) (fm := .some 0 .expr) rfl lq28 lq28 lq28 lq28]
   simp [Tx.ev, Fm.ev, Bool.and_assoc, Bool.and_comm, Bool.and_left_comm])
  cases hc0 : noNumB T with
  | true =>
   have G0 := Lh hc0; clear hc0
   by_cases h1' : T.text.size = 0
   ·have g1 : (T.text.size == 0) = true := by simp [h1']
    have et : T.text.toList.isEmpty = true := by rw [HTE.out, g1]
    cases hc2 : T.kids.all (Sh.expr.ev Nd.right) with
    | true =>
     have G2 := Lh hc2; clear hc2; have HV := Lh (show Sh.expr.ev Nd.right T = true by rw [HEV.out]; simp [G0.out, g1, G2.out]); exact lw0_7
    | false =>
     have G2 := Lh hc2; clear hc2; have HV := Lh (show Sh.expr.ev Nd.right T = false by rw [HEV.out]; simp [G0.out, g1, G2.out]); exact lw0_7
   ·exact lw0_10
  | false =>
   exact lw0_13) : p := h
theorem lv10 {p : Prop} (h : p := by
  have HBa := Lh (fun W (hb : Below w.heap.size w W) => by
   have := rBare_ok T A c K d W (hN.later hb); unfold ndV at this; rw [hk] at this
   exact this)
  have HTE := Lh (text_empty T.text)
  have HEV0 := Lh (show Sh.stmt.ev Nd.right T = ((T.text.size == 0) && noNumB T && rowB T.kids []) by
   rw [st_at hk (tx := .non) (fm := .row []) rfl lq28 lq28 lq28]
   rfl)
  cases hc1 : noNumB T with
  | true =>
   have G1 := Lh hc1; clear hc1
   by_cases h2' : T.text.size = 0
   ·have g2 : (T.text.size == 0) = true := by simp [h2']
    have et : T.text.toList.isEmpty = true := by rw [HTE.out, g2]
    by_cases h3' : T.kids.length = 0
    ·have g3 : (T.kids.length == 0) = true := by simp [h3']
     have el : ((T.kids.length : Int) == 0) = true := by rw [h3']; rfl
     have elb : ((T.kids.length : Int) != 0) = false := by rw [h3']; rfl
     have HV := Lh (show Sh.stmt.ev Nd.right T = true by rw [HEV0.out, rowB_nil]; simp [G1.out, g2, g3]); clear h2' h3'; obtain ⟨hm1, hm2, hrm, hw32, hk1, hk2, ⟨hk64a, hk64b⟩, ⟨ha64a, ha64b⟩, hts, hKs, HK⟩ := hN.hd; have hcc := bxn w T A c K d; rw [hk] at hcc; obtain ⟨hb1, c0, c1, c2, c3, c4, c5⟩ := hcc; unfold ndV; rw [hk]; clear hk; exact lw0_23
    ·have g3 : (T.kids.length == 0) = false := by simp [h3']
     have el : ((T.kids.length : Int) == 0) = false := bFo; have elb : ((T.kids.length : Int) != 0) = true := bne_iff_ne.2 lq29; exact lw0_11
   ·exact lw0_9
  | false =>
   exact lw0_12) : p := h
theorem lv11 {p : Prop} (h : p := by
  clear hR
  go_loopw [3] (fun iv wr => ∃ k2 : Nat, iv = .int .i64 k2 ∧ k2 ≤ n ∧ Hid (callG 0 (l.drop 1) = callG 1 (l.drop k2)) ∧ Below w.heap.size w wr) (fun iv _ => n - (intOf iv).toNat)
  case atStart => exact ⟨k, rfl, by omega, HZ, hb4⟩
  case round =>
   obtain ⟨k, rfl, hk, hR, hbr⟩ := hrel
   by_cases hkl : k < n
   ·have o1 : decide ((k : Int) < (n : Int)) = true := dTo; have o2 : decide (k < n) = true := dTr hkl; obtain ⟨t, ht⟩ : ∃ t, l[k]? = some t := ⟨_, List.getElem?_eq_getElem (by rw [HNn.out]; exact hkl)⟩; obtain ⟨b', off', A', c', K', d', hKe, hC, hNt⟩ := HL.out.kid ht; rw [Nat.zero_add] at hC; injection hKe with hKe
    injection hKe with q1 q2
    subst q1 q2; obtain ⟨m0, m1, m2, m3, m4, m5⟩ := hC.later hbr; obtain ⟨hd1, hw1⟩ := HW.out t (mog ht); have hI := rKeyword_ok D HE.out t A' c' K' d' wr lq29 hw1 (hNt.later hbr); unfold ndV at hI; have HI := Lh hI; have HDT := Lh (fun h => drop_whileT (p := (Sh.of 52).ev Nd.right) ht h); have HDF := Lh (fun h => drop_whileF (p := (Sh.of 52).ev Nd.right) ht h); clear hI
    cases hp : (Sh.of 52).ev Nd.right t with
    | true =>
     rw [hp] at HI; have HZ := Lh (show callG 0 (l.drop 1) = callG 1 (l.drop (k + 1)) from hR.out.trans (congrArg (fun x => x) (HDT.out hp))); clear hp hC hNt ht hd1 hw1; go_wp2_with (go_at_call 196; refine HI.out.mono ?_; rintro e w4 ⟨rfl, hb4⟩)
     go_roundw
     case rel => exact ⟨k + 1, by go_num, by omega, HZ, hbr.trans (hb4.mono hbr.size)⟩
     case measure => simp [intOf]; omega
    | false =>
     rw [hp] at HI; have HZ := Lh (show callG 0 (l.drop 1) = l.drop k from hR.out.trans (HDF.out hp)); clear hp; have HV2 := Lh (show callL l = ((l.drop k).isEmpty || rowB (l.drop k) [(Sh.of 40).ev Nd.right]) by rw [HV1.out, HZ.out]); have v1 : ((k : Int) == (n : Int)) = false := by simp; omega
     have v2 : (k == n) = false := by simp; omega
     by_cases hk1 : k = n - 1
     ·obtain rfl : n = k + 1 := by omega
      have hS := fun W (hb : Below w.heap.size w W) => rSpread_ok D HE.out t A' c' K' d' W lq29 hw1 (hNt.later hb)
      unfold ndV at hS; have HS := Lh hS
      have HV3 := Lh (show callL l = (Sh.of 40).ev Nd.right t by
       obtain ⟨h1, rfl⟩ := List.getElem?_eq_some_iff.1 ht; rw [HV2.out, List.drop_eq_getElem_cons h1, List.drop_eq_nil_of_le (by have := HNn.out; omega)]
       simp [rowB])
      have i5 : (k : Int) < (k : Int) + 1 := by omega
      have i6 : k < k + 1 := by omega
      have hbm : b < wr.heap.size := blt m0; clear hS hC hNt ht hd1 hw1 hk1 v1 v2 o1 o2; have o1 : decide ((k : Int) < (k : Int) + 1) = true := dTo; have v1 : ((k : Int) == (k : Int) + 1) = false := by simp; omega
      go_wp2_with (first | (go_at_call 196; refine HI.out.mono ?_; rintro e w4 ⟨rfl, hb4⟩; obtain ⟨x0, x1, x2, x3, x4, x5⟩ := cl6 hb4 m0 m1 m2 m3 m4 m5; have hbx : b < w4.heap.size := blt x0; have hw4 := hbr.trans (hb4.mono hbr.size)) | (go_at_call 155; refine (HS.out _ hw4).mono ?_; rintro e w5 ⟨rfl, hb5⟩)); go_ret; exact ⟨by rw [HV3.out]; rfl, hw4.trans (hb5.mono hw4.size)⟩
     ·have v3 : ((k : Int) == (n : Int) - 1) = false := by simp; omega
      have HV3 := Lh (show callL l = false by
       rw [HV2.out, rowB_one]; have h1 := HNn.out; have h2 : (l.drop k).length = n - k := by rw [List.length_drop, h1]
       have h3 : ((l.drop k).length == 1) = false := by rw [h2]; simp; omega
       rw [h3, isEmpty_drop, dFo]
       rfl)
      clear hk1 hC hNt ht hd1 hw1; go_wp2_with (go_at_call 196; refine HI.out.mono ?_; rintro e w4 ⟨rfl, hb4⟩); go_ret; exact ⟨by rw [HV3.out]; rfl, hbr.trans (hb4.mono hbr.size)⟩
   ·have o1 : decide ((k : Int) < (n : Int)) = false := dFo; have o2 : decide (k < n) = false := dFa hkl; have HV3 := Lh (show callL l = true by rw [HV1.out, hR.out, callG, List.drop_eq_nil_of_le (by have := HNn.out; omega)]; rfl); obtain rfl : k = n := by omega
    clear hkl; go_wp2_with fail; go_ret; exact ⟨by rw [HV3.out]; rfl, hbr⟩) : p := h
theorem lv12 {p : Prop} (h : p := by
  by_cases hd3 : d = 3
  ·subst hd3; have hl0 : T.kids.length - 3 = 0 := by omega
   simp only [if_true, hl0, Nat.sub_self] at HEach; clear hl0; obtain ⟨hm1, hm2, hrm, hw32, hk1, hk2, ⟨hk64a, hk64b⟩, ⟨ha64a, ha64b⟩, hts, hKs, HK⟩ := hN.hd; have hb1 := (Below.refl w.heap.size w).alloc (Nat.le_refl _) (.cells #[.int .i64 T.kind, .int .i64 T.pos, .string T.text, .bool T.neg, .slice A T.mag.length c, .slice (some ⟨b, off, none⟩) T.kids.length 3] 27); obtain ⟨c0, c1, c2, c3, c4, c5⟩ := (cellsN_new w T A c (some ⟨b, off, none⟩) 3 27).box; unfold ndV; clear hKs hN; go_enter Tryz.func180, Tryz.ntmps180; go_wp2_with fail
   generalize w.alloc (.cells #[.int .i64 T.kind, .int .i64 T.pos, .string T.text, .bool T.neg, .slice A T.mag.length c, .slice (some ⟨b, off, none⟩) T.kids.length 3] 27) = w1 at *
   have HPK := fun (W : World) (h : Below w1.heap.size w1 W) => show _ ∧ _ ∧ _ from ⟨cLt h c5, cLt h hX2, Nat.lt_of_lt_of_le (blt c5) h.size⟩
   go_region_held3 (fun W => W.cell? ⟨w.heap.size, 5, none⟩ = some (.slice (some ⟨b, off, none⟩) T.kids.length 3) ∧ W.cell? ⟨X, 0, none⟩ = some (.func (.func f0) #[] cp0) ∧ w.heap.size < W.heap.size) (first | (refine HPK _ ?_; (repeat' (first | with_reducible exact H2 | with_reducible exact H1 | with_reducible exact Below.refl _ _ | (with_reducible refine Below.alloc ?_ ?_ _) | (with_reducible refine below_drew ?_))); all_goals (first | exact H2.size | exact H1.size | omega | (simp; done) | (simp; omega) | (have := H2.size; simp; omega) | (have := H1.size; simp; omega)))) (first
    | (go_at_call 127; refine (HRow.out _ lq7 [p0, Sh.targets.ev Nd.right, Sh.expr.ev Nd.right] 3 _ rfl lq1 lq24).mono ?_; rintro e w3 ⟨he3, hb3⟩; rw [HR1.out] at he3; subst he3; have H1 := below_then (w1 := w1) hb3 lq7)
    | (go_at_call 130; refine (HEach.out _ lq4 _ _ (shExpr HRi.out (Utf8Tabs_below HT.out lq4))).mono ?_; rintro e w4 ⟨he4, hb4⟩; rw [HR2.out] at he4; subst he4; have H2 := below_then (w1 := w1) hb4 lq4))
   all_goals
    go_wp2; go_ret; exact ⟨by show Ending.returned (.bool _) = _; simp [e2], hb1.trans (H2.mono hb1.size)⟩
  ·simp only [if_neg hd3] at HEach; obtain ⟨hm1, hm2, hrm, hw32, hk1, hk2, ⟨hk64a, hk64b⟩, ⟨ha64a, ha64b⟩, hts, hKs, HK⟩ := hN.hd; obtain ⟨hb1, c0, c1, c2, c3, c4, c5⟩ := bxn w T A c (some ⟨b, off, none⟩) d; unfold ndV; clear hKs hN; go_enter Tryz.func180, Tryz.ntmps180; go_wp2_with fail
   generalize w.alloc (bx T.kind T A c (some ⟨b, off, none⟩) d) = w1 at *
   have HPK := fun (W : World) (h : Below w1.heap.size w1 W) => show _ ∧ _ ∧ _ from ⟨cLt h c5, cLt h hX2, Nat.lt_of_lt_of_le (blt c5) h.size⟩
   go_region_held3 (fun W => W.cell? ⟨w.heap.size, 5, none⟩ = some (.slice (some ⟨b, off, none⟩) T.kids.length d) ∧ W.cell? ⟨X, 0, none⟩ = some (.func (.func f0) #[] cp0) ∧ w.heap.size < W.heap.size) (first | (refine HPK _ ?_; (repeat' (first | with_reducible exact H2 | with_reducible exact H1 | with_reducible exact Below.refl _ _ | (with_reducible refine Below.alloc ?_ ?_ _) | (with_reducible refine below_drew ?_))); all_goals (first | exact H2.size | exact H1.size | omega | (simp; done) | (simp; omega) | (have := H2.size; simp; omega) | (have := H1.size; simp; omega)))) (first
    | (go_at_call 127; refine (HRow.out _ lq7 [p0, Sh.targets.ev Nd.right, Sh.expr.ev Nd.right] 3 _ rfl lq1 lq24).mono ?_; rintro e w3 ⟨he3, hb3⟩; rw [HR1.out] at he3; subst he3; have H1 := below_then (w1 := w1) hb3 lq7)
    | (go_at_call 130; refine (HEach.out _ lq4 _ _ (shExpr HRi.out (Utf8Tabs_below HT.out lq4))).mono ?_; rintro e w4 ⟨he4, hb4⟩; rw [HR2.out] at he4; subst he4; have H2 := below_then (w1 := w1) hb4 lq4))
   all_goals
    go_wp2; go_ret; exact ⟨by show Ending.returned (.bool _) = _; simp [e2], hb1.trans (H2.mono hb1.size)⟩) : p := h
theorem lv13 {p : Prop} (h : p := by
  clear h2' h3'
  obtain ⟨hm1, hm2, hrm, hw32, hk1, hk2, ⟨hk64a, hk64b⟩, ⟨ha64a, ha64b⟩, hts, hKs, HK⟩ := hN.hd
  have hcc := bxn w T A c (some ⟨b, off, none⟩) d
  rw [hk] at hcc
  obtain ⟨hb1, c0, c1, c2, c3, c4, c5⟩ := hcc
  obtain ⟨n00, n01, n02, n03, n04, n05⟩ := hC0.later hb1
  obtain ⟨n10, n11, n12, n13, n14, n15⟩ := hC1.later hb1
  obtain ⟨n20, n21, n22, n23, n24, n25⟩ := hC2.later hb1
  unfold ndV
  rw [hk]
  clear hk
  clear hKs hN
  go_enter Tryz.func49, Tryz.ntmps49
  go_wp2_with (first | (go_at_call 34; with_reducible refine (HBa.out _ hb1).mono ?_; rintro e w_1 ⟨he1, hq1⟩; rw [G1.out] at he1; subst he1; have hw1 := hb1.trans (hq1.mono hb1.size); obtain ⟨a100, a101, a102, a103, a104, a105⟩ := cl6 hq1 c0 c1 c2 c3 c4 c5; have hl1g0 := blt a100; obtain ⟨a110, a111, a112, a113, a114, a115⟩ := cl6 hq1 n00 n01 n02 n03 n04 n05; have hl1g1 := blt a110; obtain ⟨a120, a121, a122, a123, a124, a125⟩ := cl6 hq1 n10 n11 n12 n13 n14 n15; have hl1g2 := blt a120; obtain ⟨a130, a131, a132, a133, a134, a135⟩ := cl6 hq1 n20 n21 n22 n23 n24 n25; have hl1g3 := blt a130) | (go_at_call 91; with_reducible refine (HK0x.out _ hw1).mono ?_; rintro e w_2 ⟨he2, hq2⟩; rw [G4.out] at he2; subst he2; have hw2 := hw1.trans (hq2.mono hw1.size); obtain ⟨a200, a201, a202, a203, a204, a205⟩ := cl6 hq2 a100 a101 a102 a103 a104 a105; have hl2g0 := blt a200; obtain ⟨a210, a211, a212, a213, a214, a215⟩ := cl6 hq2 a110 a111 a112 a113 a114 a115; have hl2g1 := blt a210; obtain ⟨a220, a221, a222, a223, a224, a225⟩ := cl6 hq2 a120 a121 a122 a123 a124 a125; have hl2g2 := blt a220; obtain ⟨a230, a231, a232, a233, a234, a235⟩ := cl6 hq2 a130 a131 a132 a133 a134 a135; have hl2g3 := blt a230) | (go_at_call 95; with_reducible refine (HK1x.out _ hw2).mono ?_; rintro e w_3 ⟨he3, hq3⟩; rw [G5.out] at he3; subst he3; have hw3 := hw2.trans (hq3.mono hw2.size); obtain ⟨a300, a301, a302, a303, a304, a305⟩ := cl6 hq3 a200 a201 a202 a203 a204 a205; have hl3g0 := blt a300; obtain ⟨a310, a311, a312, a313, a314, a315⟩ := cl6 hq3 a210 a211 a212 a213 a214 a215; have hl3g1 := blt a310; obtain ⟨a320, a321, a322, a323, a324, a325⟩ := cl6 hq3 a220 a221 a222 a223 a224 a225; have hl3g2 := blt a320; obtain ⟨a330, a331, a332, a333, a334, a335⟩ := cl6 hq3 a230 a231 a232 a233 a234 a235; have hl3g3 := blt a330) | (go_at_call 94; with_reducible refine (HK2x.out _ hw3).mono ?_; rintro e w_4 ⟨he4, hq4⟩; rw [G6.out] at he4; subst he4; have hw4 := hw3.trans (hq4.mono hw3.size); obtain ⟨a400, a401, a402, a403, a404, a405⟩ := cl6 hq4 a300 a301 a302 a303 a304 a305; have hl4g0 := blt a400; obtain ⟨a410, a411, a412, a413, a414, a415⟩ := cl6 hq4 a310 a311 a312 a313 a314 a315; have hl4g1 := blt a410; obtain ⟨a420, a421, a422, a423, a424, a425⟩ := cl6 hq4 a320 a321 a322 a323 a324 a325; have hl4g2 := blt a420; obtain ⟨a430, a431, a432, a433, a434, a435⟩ := cl6 hq4 a330 a331 a332 a333 a334 a335; have hl4g3 := blt a430) | (go_at_call 95; with_reducible refine (HK2y.out _ hw4).mono ?_; rintro e w_5 ⟨he5, hq5⟩; rw [G7.out] at he5; subst he5; have hw5 := hw4.trans (hq5.mono hw4.size); obtain ⟨a500, a501, a502, a503, a504, a505⟩ := cl6 hq5 a400 a401 a402 a403 a404 a405; have hl5g0 := blt a500; obtain ⟨a510, a511, a512, a513, a514, a515⟩ := cl6 hq5 a410 a411 a412 a413 a414 a415; have hl5g1 := blt a510; obtain ⟨a520, a521, a522, a523, a524, a525⟩ := cl6 hq5 a420 a421 a422 a423 a424 a425; have hl5g2 := blt a520; obtain ⟨a530, a531, a532, a533, a534, a535⟩ := cl6 hq5 a430 a431 a432 a433 a434 a435; have hl5g3 := blt a530))
  go_ret
  exact ⟨by rw [HV.out]; rfl, hw5⟩) : p := h
theorem lv14 {p : Prop} (h : p := by
  obtain ⟨hm1, hm2, hrm, hw32, hk1, hk2, hk64, ha64, hts', hKs⟩ := hN.parts
  have hk2' := hk2
  unfold maxLen at hm2 hk2 hts'
  obtain ⟨hk64a, hk64b⟩ := hk64
  obtain ⟨ha64a, ha64b⟩ := ha64
  have hB0 : w0.heap.size ≤ w.heap.size := hBs.size
  have hbX : X < w.heap.size := WrT.lt hW
  have hK0 : WK w0.heap.size X w (w.alloc (bx T.kind T A c (some ⟨b, off, none⟩) d)) := (WK.refl _ _ _).alloc hB0 _
  have hWb := hW.alloc (bx T.kind T A c (some ⟨b, off, none⟩) d)
  have hBb : Below w0.heap.size w0 (w.alloc (bx T.kind T A c (some ⟨b, off, none⟩) d)) := hBs.trans hK0.b
  have hbx := heap_alloc_new w (bx T.kind T A c (some ⟨b, off, none⟩) d)
  have hsg : (w.alloc (bx T.kind T A c (some ⟨b, off, none⟩) d)).heap.size = w.heap.size + 1 := by simp
  clear hKs hN hlen hT hD hWt hrm hw32 hk hts hst hlen3 hks hg0 hN0 hd0 r0 hg1 hN1 hd1 r1
  obtain ⟨c0, c1, c2, c3, c4, c5⟩ := (cells_box hbx).box
  have hlb := blt c0
  obtain ⟨n00, n01, n02, n03, n04, n05⟩ := hC0.later hBb
  have hlk0 := blt n00
  obtain ⟨n10, n11, n12, n13, n14, n15⟩ := hC1.later hBb
  have hlk1 := blt n10
  have hlX := WrT.lt hWb
  unfold ndV
  go_enter Tryz.func88, Tryz.ntmps88
  go_wp2_with fail
  have hI := HF0.out A0 c0' K0 d0 _ _ HN0.out hBb hWb lq8
  unfold ndV at hI
  go_at_call 83
  refine hI.mono ?_
  rintro e w_1 ⟨rfl, hW_1, hk_1⟩
  have hK_1 := hK0.trans hk_1
  have hbx := box_keep hk_1 hbx hbX
  clear hI
  have hB_1 : Below w0.heap.size w0 w_1 := hBs.trans hK_1.b
  obtain ⟨c0, c1, c2, c3, c4, c5⟩ := (cells_box hbx).box
  have hlb := blt c0
  obtain ⟨n00, n01, n02, n03, n04, n05⟩ := hC0.later hB_1
  have hlk0 := blt n00
  obtain ⟨n10, n11, n12, n13, n14, n15⟩ := hC1.later hB_1
  have hlk1 := blt n10
  have hlX := WrT.lt hW_1
  go_wp2_with fail
  have hWa := hW_1.alloc (.cells #[.string { data := #[32, 61, 32] }] 9)
  have hKa := hK_1.alloc (Nat.le_trans hB0 hK_1.b.size) (.cells #[.string { data := #[32, 61, 32] }] 9)
  have hbxa := (Lib.alloc_old _ (.cells #[.string { data := #[32, 61, 32] }] 9) _ hlb).trans hbx
  go_at_call 84
  refine (wSayT_ok w0.heap.size X dep _ ([32, 61, 32]) [⟨#[32, 61, 32]⟩] 1 _ _ hWa rfl (WrT.lt hW_1) (heap_alloc_new _ _) rfl lq28 lq8 (Nat.le_trans hB0 hKa.b.size)).mono ?_
  rintro e w_2 ⟨rfl, hW_2, hk_2⟩
  have hK_2 := hKa.trans hk_2
  have hbx := box_keep hk_2 hbxa hbX
  have hB_2 : Below w0.heap.size w0 w_2 := hBs.trans hK_2.b
  obtain ⟨c0, c1, c2, c3, c4, c5⟩ := (cells_box hbx).box
  have hlb := blt c0
  obtain ⟨n00, n01, n02, n03, n04, n05⟩ := hC0.later hB_2
  have hlk0 := blt n00
  obtain ⟨n10, n11, n12, n13, n14, n15⟩ := hC1.later hB_2
  have hlk1 := blt n10
  have hlX := WrT.lt hW_2
  go_wp2_with fail
  have hI := HF1.out A1 c1' K1 d1 _ _ HN1.out hB_2 hW_2 lq8
  unfold ndV at hI
  go_at_call 81
  refine hI.mono ?_
  rintro e w_3 ⟨rfl, hW_3, hk_3⟩
  have hK_3 := hK_2.trans hk_3
  have hbx := box_keep hk_3 hbx hbX
  clear hI
  have hB_3 : Below w0.heap.size w0 w_3 := hBs.trans hK_3.b
  obtain ⟨c0, c1, c2, c3, c4, c5⟩ := (cells_box hbx).box
  have hlb := blt c0
  obtain ⟨n00, n01, n02, n03, n04, n05⟩ := hC0.later hB_3
  have hlk0 := blt n00
  obtain ⟨n10, n11, n12, n13, n14, n15⟩ := hC1.later hB_3
  have hlk1 := blt n10
  have hlX := WrT.lt hW_3
  go_wp2_with fail
  ((try simp only [Exit.inBlock, Exit.then]); first | refine bodyPost_end (results_none rfl _ _ _) rfl ?_ | refine bodyPost_ret (results_none rfl _ _ _) rfl ?_)
  exact ⟨rfl, hW_3.eq lq10, hK_3⟩) : p := h
theorem lv15 {p : Prop} (h : p := by
  clear h2' h3'
  obtain ⟨hm1, hm2, hrm, hw32, hk1, hk2, ⟨hk64a, hk64b⟩, ⟨ha64a, ha64b⟩, hts, hKs, HK⟩ := hN.hd
  have hcc := bxn w T A c (some ⟨b, off, none⟩) d
  rw [hk] at hcc
  obtain ⟨hb1, c0, c1, c2, c3, c4, c5⟩ := hcc
  obtain ⟨n00, n01, n02, n03, n04, n05⟩ := hC0.later hb1
  obtain ⟨n10, n11, n12, n13, n14, n15⟩ := hC1.later hb1
  obtain ⟨n20, n21, n22, n23, n24, n25⟩ := hC2.later hb1
  unfold ndV
  rw [hk]
  clear hk
  clear hKs hN
  go_enter Tryz.func49, Tryz.ntmps49
  go_wp2_with (first | (go_at_call 34; refine (HBa.out _ hb1).mono ?_; rintro e w_1 ⟨he1, hq1⟩; rw [G1.out] at he1; subst he1; have hw1 := hb1.trans (hq1.mono hb1.size); obtain ⟨a100, a101, a102, a103, a104, a105⟩ := cl6 hq1 c0 c1 c2 c3 c4 c5; have hl1g0 := blt a100; obtain ⟨a110, a111, a112, a113, a114, a115⟩ := cl6 hq1 n00 n01 n02 n03 n04 n05; have hl1g1 := blt a110; obtain ⟨a120, a121, a122, a123, a124, a125⟩ := cl6 hq1 n10 n11 n12 n13 n14 n15; have hl1g2 := blt a120; obtain ⟨a130, a131, a132, a133, a134, a135⟩ := cl6 hq1 n20 n21 n22 n23 n24 n25; have hl1g3 := blt a130) | (go_at_call 97; refine (HK0x.out _ hw1).mono ?_; rintro e w_2 ⟨he2, hq2⟩; rw [G4.out] at he2; subst he2; have hw2 := hw1.trans (hq2.mono hw1.size); obtain ⟨a200, a201, a202, a203, a204, a205⟩ := cl6 hq2 a100 a101 a102 a103 a104 a105; have hl2g0 := blt a200; obtain ⟨a210, a211, a212, a213, a214, a215⟩ := cl6 hq2 a110 a111 a112 a113 a114 a115; have hl2g1 := blt a210; obtain ⟨a220, a221, a222, a223, a224, a225⟩ := cl6 hq2 a120 a121 a122 a123 a124 a125; have hl2g2 := blt a220; obtain ⟨a230, a231, a232, a233, a234, a235⟩ := cl6 hq2 a130 a131 a132 a133 a134 a135; have hl2g3 := blt a230) | (go_at_call 91; refine (HK1x.out _ hw2).mono ?_; rintro e w_3 ⟨he3, hq3⟩; rw [G5.out] at he3; subst he3; have hw3 := hw2.trans (hq3.mono hw2.size); obtain ⟨a300, a301, a302, a303, a304, a305⟩ := cl6 hq3 a200 a201 a202 a203 a204 a205; have hl3g0 := blt a300; obtain ⟨a310, a311, a312, a313, a314, a315⟩ := cl6 hq3 a210 a211 a212 a213 a214 a215; have hl3g1 := blt a310; obtain ⟨a320, a321, a322, a323, a324, a325⟩ := cl6 hq3 a220 a221 a222 a223 a224 a225; have hl3g2 := blt a320; obtain ⟨a330, a331, a332, a333, a334, a335⟩ := cl6 hq3 a230 a231 a232 a233 a234 a235; have hl3g3 := blt a330) | (go_at_call 95; refine (HK2x.out _ hw3).mono ?_; rintro e w_4 ⟨he4, hq4⟩; rw [G6.out] at he4; subst he4; have hw4 := hw3.trans (hq4.mono hw3.size); obtain ⟨a400, a401, a402, a403, a404, a405⟩ := cl6 hq4 a300 a301 a302 a303 a304 a305; have hl4g0 := blt a400; obtain ⟨a410, a411, a412, a413, a414, a415⟩ := cl6 hq4 a310 a311 a312 a313 a314 a315; have hl4g1 := blt a410; obtain ⟨a420, a421, a422, a423, a424, a425⟩ := cl6 hq4 a320 a321 a322 a323 a324 a325; have hl4g2 := blt a420; obtain ⟨a430, a431, a432, a433, a434, a435⟩ := cl6 hq4 a330 a331 a332 a333 a334 a335; have hl4g3 := blt a430))
  go_ret
  exact ⟨by rw [HV.out]; rfl, hw4⟩) : p := h
theorem lv16 {p : Prop} (h : p := by
  clear h3'
  obtain ⟨hm1, hm2, hrm, hw32, hk1, hk2, ⟨hk64a, hk64b⟩, ⟨ha64a, ha64b⟩, hts, hKs, HK⟩ := hN.hd
  have hcc := bxn w T A c (some ⟨b, off, none⟩) d
  rw [hk] at hcc
  obtain ⟨hb1, c0, c1, c2, c3, c4, c5⟩ := hcc
  obtain ⟨n00, n01, n02, n03, n04, n05⟩ := hC0.later hb1
  obtain ⟨n10, n11, n12, n13, n14, n15⟩ := hC1.later hb1
  unfold ndV
  rw [hk]
  clear hk
  clear hKs hN
  go_enter Tryz.func49, Tryz.ntmps49
  go_wp2_with (first | (go_at_call 34; refine (HBa.out _ hb1).mono ?_; rintro e w_1 ⟨he1, hq1⟩; rw [G1.out] at he1; subst he1; have hw1 := hb1.trans (hq1.mono hb1.size); obtain ⟨a100, a101, a102, a103, a104, a105⟩ := cl6 hq1 c0 c1 c2 c3 c4 c5; have hl1g0 := blt a100; obtain ⟨a110, a111, a112, a113, a114, a115⟩ := cl6 hq1 n00 n01 n02 n03 n04 n05; have hl1g1 := blt a110; obtain ⟨a120, a121, a122, a123, a124, a125⟩ := cl6 hq1 n10 n11 n12 n13 n14 n15; have hl1g2 := blt a120) | (go_at_call 92; refine (HNm.out _ hw1).mono ?_; rintro e w_2 ⟨he2, hq2⟩; rw [G2.out] at he2; subst he2; have hw2 := hw1.trans (hq2.mono hw1.size); obtain ⟨a200, a201, a202, a203, a204, a205⟩ := cl6 hq2 a100 a101 a102 a103 a104 a105; have hl2g0 := blt a200; obtain ⟨a210, a211, a212, a213, a214, a215⟩ := cl6 hq2 a110 a111 a112 a113 a114 a115; have hl2g1 := blt a210; obtain ⟨a220, a221, a222, a223, a224, a225⟩ := cl6 hq2 a120 a121 a122 a123 a124 a125; have hl2g2 := blt a220) | (go_at_call 94; refine (HK0x.out _ hw2).mono ?_; rintro e w_3 ⟨he3, hq3⟩; rw [G4.out] at he3; subst he3; have hw3 := hw2.trans (hq3.mono hw2.size); obtain ⟨a300, a301, a302, a303, a304, a305⟩ := cl6 hq3 a200 a201 a202 a203 a204 a205; have hl3g0 := blt a300; obtain ⟨a310, a311, a312, a313, a314, a315⟩ := cl6 hq3 a210 a211 a212 a213 a214 a215; have hl3g1 := blt a310; obtain ⟨a320, a321, a322, a323, a324, a325⟩ := cl6 hq3 a220 a221 a222 a223 a224 a225; have hl3g2 := blt a320) | (go_at_call 91; refine (HK0y.out _ hw3).mono ?_; rintro e w_4 ⟨he4, hq4⟩; rw [G6.out] at he4; subst he4; have hw4 := hw3.trans (hq4.mono hw3.size); obtain ⟨a400, a401, a402, a403, a404, a405⟩ := cl6 hq4 a300 a301 a302 a303 a304 a305; have hl4g0 := blt a400; obtain ⟨a410, a411, a412, a413, a414, a415⟩ := cl6 hq4 a310 a311 a312 a313 a314 a315; have hl4g1 := blt a410; obtain ⟨a420, a421, a422, a423, a424, a425⟩ := cl6 hq4 a320 a321 a322 a323 a324 a325; have hl4g2 := blt a420) | (go_at_call 95; refine (HK1x.out _ hw4).mono ?_; rintro e w_5 ⟨he5, hq5⟩; rw [G7.out] at he5; subst he5; have hw5 := hw4.trans (hq5.mono hw4.size); obtain ⟨a500, a501, a502, a503, a504, a505⟩ := cl6 hq5 a400 a401 a402 a403 a404 a405; have hl5g0 := blt a500; obtain ⟨a510, a511, a512, a513, a514, a515⟩ := cl6 hq5 a410 a411 a412 a413 a414 a415; have hl5g1 := blt a510; obtain ⟨a520, a521, a522, a523, a524, a525⟩ := cl6 hq5 a420 a421 a422 a423 a424 a425; have hl5g2 := blt a520))
  go_ret
  exact ⟨by rw [HV.out]; rfl, hw5⟩) : p := h
theorem lv17 {p : Prop} (h : p := by
  have hs0 := fun W (hb : Below (w.alloc (bx T.kind T A c (some ⟨b, off, none⟩) d)).heap.size (w.alloc (bx T.kind T A c (some ⟨b, off, none⟩) d)) W) => HR0.out W (hb1.trans (hb.mono hb1.size))
  unfold ndV at hs0
  have HS0 := Lh hs0
  clear hs0
  have hs1 := fun W (hb : Below (w.alloc (bx T.kind T A c (some ⟨b, off, none⟩) d)).heap.size (w.alloc (bx T.kind T A c (some ⟨b, off, none⟩) d)) W) => HR1.out W (hb1.trans (hb.mono hb1.size))
  unfold ndV at hs1
  have HS1 := Lh hs1
  clear hs1
  unfold ndV
  clear hKs hN hR hT hD hWt hk hrm hw32 hlen3 hks hg0 hN0 hd0 hm0 hg1 hN1 hd1 hm1
  go_enter Tryz.func99, Tryz.ntmps99
  go_wp2_with fail
  generalize w.alloc (bx T.kind T A c (some ⟨b, off, none⟩) d) = w1 at *
  have HPK := fun (W : World) (h : Below w1.heap.size w1 W) => show _ ∧ _ ∧ _ ∧ _ ∧ _ ∧ _ ∧ _ ∧ _ ∧ _ ∧ _ ∧ _ ∧ _ ∧ _ from ⟨cLt h n00, cLt h n01, cLt h n02, cLt h n03, cLt h n04, cLt h n05, cLt h n10, cLt h n11, cLt h n12, cLt h n13, cLt h n14, cLt h n15, Nat.lt_of_lt_of_le hlk0 h.size⟩
  go_region_held3 (fun W => W.cell? ⟨b, off, none⟩ = some (.int .i64 t0.kind) ∧ W.cell? ⟨b, off + 1, none⟩ = some (.int .i64 t0.pos) ∧ W.cell? ⟨b, off + 2, none⟩ = some (.string t0.text) ∧ W.cell? ⟨b, off + 3, none⟩ = some (.bool t0.neg) ∧ W.cell? ⟨b, off + 4, none⟩ = some (.slice A0 t0.mag.length c0') ∧ W.cell? ⟨b, off + 5, none⟩ = some (.slice K0 t0.kids.length d0) ∧ W.cell? ⟨b, off + 6, none⟩ = some (.int .i64 t1.kind) ∧ W.cell? ⟨b, off + 6 + 1, none⟩ = some (.int .i64 t1.pos) ∧ W.cell? ⟨b, off + 6 + 2, none⟩ = some (.string t1.text) ∧ W.cell? ⟨b, off + 6 + 3, none⟩ = some (.bool t1.neg) ∧ W.cell? ⟨b, off + 6 + 4, none⟩ = some (.slice A1 t1.mag.length c1') ∧ W.cell? ⟨b, off + 6 + 5, none⟩ = some (.slice K1 t1.kids.length d1) ∧ b < W.heap.size) (first | (refine HPK _ ?_; (repeat' (first | with_reducible exact H1 | with_reducible exact H0 | with_reducible exact Below.refl _ _ | (with_reducible refine below_drew ?_))))) (first | (go_at_call 99; (with_reducible refine (HS0.out _ ?hbel).mono ?_); (case hbel => (repeat' (first  | with_reducible exact Below.refl _ _ | (with_reducible refine below_drew ?_)))); rintro e w_0 ⟨rfl, hq_0⟩; have H0 := below_then (w1 := w1) hq_0 lq14) | (go_at_call 99; (with_reducible refine (HS1.out _ ?hbel).mono ?_); (case hbel => (repeat' (first | with_reducible exact H0 | with_reducible exact Below.refl _ _ | (with_reducible refine below_drew ?_)))); rintro e w_1 ⟨rfl, hq_1⟩; have H1 := below_then (w1 := w1) hq_1 lq12) )
  all_goals
   go_wp2; go_ret; exact ⟨by rw [HTX.out]; (try simp only [← ba_app, ba_text]); rfl, hb1.trans (H1.mono hb1.size)⟩) : p := h
theorem lv18 {p : Prop} (h : p := by
  obtain ⟨hm1, hm2, hrm, hw32, hk1, hk2, ⟨hk64a, hk64b⟩, ⟨ha64a, ha64b⟩, hts, hKs, HK⟩ := hN.hd
  obtain ⟨hb1, c0, c1, c2, c3, c4, c5⟩ := bxn w T A c (some ⟨b, off, none⟩) d
  unfold ndV
  clear hKs hN
  go_enter Tryz.func78, Tryz.ntmps78
  go_wp2_with fail
  generalize w.alloc (bx T.kind T A c (some ⟨b, off, none⟩) d) = w1 at *
  have hwl : w.heap.size < w1.heap.size := blt c5
  have kk0 := kk1
  have hbl : b < w1.heap.size := blt kk0
  have HPK := fun (W : World) (h : Below w1.heap.size w1 W) => show _ ∧ _ ∧ _ ∧ _ ∧ _ from ⟨cLt h c5, cLt h c2, cLt h kk0, Nat.lt_of_lt_of_le hwl h.size, Nat.lt_of_lt_of_le hbl h.size⟩
  go_region_held3 (fun W => W.cell? ⟨w.heap.size, 5, none⟩ = some (.slice (some ⟨b, off, none⟩) T.kids.length d) ∧ W.cell? ⟨w.heap.size, 2, none⟩ = some (.string T.text) ∧ W.cell? ⟨b, off, none⟩ = some (.int .i64 q.kind) ∧ w.heap.size < W.heap.size ∧ b < W.heap.size) (first | (refine HPK _ ?_; (repeat' (first | with_reducible exact H3 | with_reducible exact H2 | with_reducible exact H1 | with_reducible exact Below.refl _ _ | (with_reducible refine Below.alloc ?_ ?_ _) | (with_reducible refine below_drew ?_))); all_goals (first | exact H3.size | exact H2.size | exact H1.size | omega | (simp; done) | (simp; omega) | (have := H3.size; simp; omega) | (have := H2.size; simp; omega) | (have := H1.size; simp; omega)))) (first | (go_at_call 69; refine (or2_ok D _ _ _ .none .expr rfl lq3).mono ?_; rintro e w3 ⟨⟨v, rfl, hv⟩, hb3⟩; have hv' := hv; obtain ⟨f1, cp1, hv1, _⟩ := hv'; subst hv1; have H1 := below_then (w1 := w1) hb3 lq7; obtain ⟨a5, a2⟩ := cl2 H1 c5 c2; have hl3 : w.heap.size < w3.heap.size := Nat.lt_of_lt_of_le hwl H1.size; have ak := cLt H1 kk0; have hlb3 : b < w3.heap.size := Nat.lt_of_lt_of_le hbl H1.size) | (go_at_call 127; refine (HRow.out _ lq4 [(Sh.or2 .none .expr).ev Nd.right, Sh.block.ev Nd.right] 2 _ rfl lq2 lq24).mono ?_; rintro e w4 ⟨he4, hb4⟩; rw [HR1.out] at he4; subst he4; have H2 := below_then (w1 := w1) hb4 lq4; obtain ⟨b5, b2⟩ := cl2 H2 c5 c2; have hl4 : w.heap.size < w4.heap.size := Nat.lt_of_lt_of_le hwl H2.size; have bk := cLt H2 kk0; have hlb4 : b < w4.heap.size := Nat.lt_of_lt_of_le hbl H2.size) | (go_at_call 73; refine (HNm.out _).mono ?_; rintro e w5 ⟨he5, hb5⟩; rw [HNB.out] at he5; subst he5; have H3 := below_then (w1 := w1) hb5 lq5; obtain ⟨d5, dk⟩ := cl2 H3 c5 kk0; have hl5 : w.heap.size < w5.heap.size := Nat.lt_of_lt_of_le hwl H3.size; have hlb5 : b < w5.heap.size := Nat.lt_of_lt_of_le hbl H3.size))
  all_goals
   go_wp2; go_ret; exact ⟨rfl, hb1.trans (H3.mono hb1.size)⟩) : p := h
theorem lv19 {p : Prop} (h : p := by
  clear h3'
  obtain ⟨hm1, hm2, hrm, hw32, hk1, hk2, ⟨hk64a, hk64b⟩, ⟨ha64a, ha64b⟩, hts, hKs, HK⟩ := hN.hd
  have hcc := bxn w T A c (some ⟨b, off, none⟩) d
  rw [hk] at hcc
  obtain ⟨hb1, c0, c1, c2, c3, c4, c5⟩ := hcc
  obtain ⟨n00, n01, n02, n03, n04, n05⟩ := hC0.later hb1
  obtain ⟨n10, n11, n12, n13, n14, n15⟩ := hC1.later hb1
  unfold ndV
  rw [hk]
  clear hk
  clear hKs hN
  go_enter Tryz.func49, Tryz.ntmps49
  go_wp2_with (first | (go_at_call 34; refine (HBa.out _ hb1).mono ?_; rintro e w_1 ⟨he1, hq1⟩; rw [G1.out] at he1; subst he1; have hw1 := hb1.trans (hq1.mono hb1.size); obtain ⟨a100, a101, a102, a103, a104, a105⟩ := cl6 hq1 c0 c1 c2 c3 c4 c5; have hl1g0 := blt a100; obtain ⟨a110, a111, a112, a113, a114, a115⟩ := cl6 hq1 n00 n01 n02 n03 n04 n05; have hl1g1 := blt a110; obtain ⟨a120, a121, a122, a123, a124, a125⟩ := cl6 hq1 n10 n11 n12 n13 n14 n15; have hl1g2 := blt a120) | (go_at_call 89; refine (HOp.out _ hw1).mono ?_; rintro e w_2 ⟨he2, hq2⟩; rw [G2.out] at he2; subst he2; have hw2 := hw1.trans (hq2.mono hw1.size); obtain ⟨a200, a201, a202, a203, a204, a205⟩ := cl6 hq2 a100 a101 a102 a103 a104 a105; have hl2g0 := blt a200; obtain ⟨a210, a211, a212, a213, a214, a215⟩ := cl6 hq2 a110 a111 a112 a113 a114 a115; have hl2g1 := blt a210; obtain ⟨a220, a221, a222, a223, a224, a225⟩ := cl6 hq2 a120 a121 a122 a123 a124 a125; have hl2g2 := blt a220) | (go_at_call 90; refine (HK0x.out _ hw2).mono ?_; rintro e w_3 ⟨he3, hq3⟩; rw [G4.out] at he3; subst he3; have hw3 := hw2.trans (hq3.mono hw2.size); obtain ⟨a300, a301, a302, a303, a304, a305⟩ := cl6 hq3 a200 a201 a202 a203 a204 a205; have hl3g0 := blt a300; obtain ⟨a310, a311, a312, a313, a314, a315⟩ := cl6 hq3 a210 a211 a212 a213 a214 a215; have hl3g1 := blt a310; obtain ⟨a320, a321, a322, a323, a324, a325⟩ := cl6 hq3 a220 a221 a222 a223 a224 a225; have hl3g2 := blt a320) | (go_at_call 91; refine (HK1x.out _ hw3).mono ?_; rintro e w_4 ⟨he4, hq4⟩; rw [G5.out] at he4; subst he4; have hw4 := hw3.trans (hq4.mono hw3.size); obtain ⟨a400, a401, a402, a403, a404, a405⟩ := cl6 hq4 a300 a301 a302 a303 a304 a305; have hl4g0 := blt a400; obtain ⟨a410, a411, a412, a413, a414, a415⟩ := cl6 hq4 a310 a311 a312 a313 a314 a315; have hl4g1 := blt a410; obtain ⟨a420, a421, a422, a423, a424, a425⟩ := cl6 hq4 a320 a321 a322 a323 a324 a325; have hl4g2 := blt a420))
  go_ret
  exact ⟨by rw [HV.out]; rfl, hw4⟩) : p := h
theorem lv20 {p : Prop} (h : p := by
  clear h3'
  obtain ⟨hm1, hm2, hrm, hw32, hk1, hk2, ⟨hk64a, hk64b⟩, ⟨ha64a, ha64b⟩, hts, hKs, HK⟩ := hN.hd
  have hcc := bxn w T A c (some ⟨b, off, none⟩) d
  rw [hk] at hcc
  obtain ⟨hb1, c0, c1, c2, c3, c4, c5⟩ := hcc
  obtain ⟨n00, n01, n02, n03, n04, n05⟩ := hC0.later hb1
  obtain ⟨n10, n11, n12, n13, n14, n15⟩ := hC1.later hb1
  unfold ndV
  rw [hk]
  clear hk
  clear hKs hN
  go_enter Tryz.func49, Tryz.ntmps49
  go_wp2_with (first | (go_at_call 34; refine (HBa.out _ hb1).mono ?_; rintro e w_1 ⟨he1, hq1⟩; rw [G1.out] at he1; subst he1; have hw1 := hb1.trans (hq1.mono hb1.size); obtain ⟨a100, a101, a102, a103, a104, a105⟩ := cl6 hq1 c0 c1 c2 c3 c4 c5; have hl1g0 := blt a100; obtain ⟨a110, a111, a112, a113, a114, a115⟩ := cl6 hq1 n00 n01 n02 n03 n04 n05; have hl1g1 := blt a110; obtain ⟨a120, a121, a122, a123, a124, a125⟩ := cl6 hq1 n10 n11 n12 n13 n14 n15; have hl1g2 := blt a120) | (go_at_call 92; refine (HNm.out _ hw1).mono ?_; rintro e w_2 ⟨he2, hq2⟩; rw [G2.out] at he2; subst he2; have hw2 := hw1.trans (hq2.mono hw1.size); obtain ⟨a200, a201, a202, a203, a204, a205⟩ := cl6 hq2 a100 a101 a102 a103 a104 a105; have hl2g0 := blt a200; obtain ⟨a210, a211, a212, a213, a214, a215⟩ := cl6 hq2 a110 a111 a112 a113 a114 a115; have hl2g1 := blt a210; obtain ⟨a220, a221, a222, a223, a224, a225⟩ := cl6 hq2 a120 a121 a122 a123 a124 a125; have hl2g2 := blt a220) | (go_at_call 94; refine (HK0x.out _ hw2).mono ?_; rintro e w_3 ⟨he3, hq3⟩; rw [G4.out] at he3; subst he3; have hw3 := hw2.trans (hq3.mono hw2.size); obtain ⟨a300, a301, a302, a303, a304, a305⟩ := cl6 hq3 a200 a201 a202 a203 a204 a205; have hl3g0 := blt a300; obtain ⟨a310, a311, a312, a313, a314, a315⟩ := cl6 hq3 a210 a211 a212 a213 a214 a215; have hl3g1 := blt a310; obtain ⟨a320, a321, a322, a323, a324, a325⟩ := cl6 hq3 a220 a221 a222 a223 a224 a225; have hl3g2 := blt a320) | (go_at_call 95; refine (HK1x.out _ hw3).mono ?_; rintro e w_4 ⟨he4, hq4⟩; rw [G5.out] at he4; subst he4; have hw4 := hw3.trans (hq4.mono hw3.size); obtain ⟨a400, a401, a402, a403, a404, a405⟩ := cl6 hq4 a300 a301 a302 a303 a304 a305; have hl4g0 := blt a400; obtain ⟨a410, a411, a412, a413, a414, a415⟩ := cl6 hq4 a310 a311 a312 a313 a314 a315; have hl4g1 := blt a410; obtain ⟨a420, a421, a422, a423, a424, a425⟩ := cl6 hq4 a320 a321 a322 a323 a324 a325; have hl4g2 := blt a420))
  go_ret
  exact ⟨by rw [HV.out]; rfl, hw4⟩) : p := h
theorem lv21 {p : Prop} (h : p := by
  obtain ⟨hm1, hm2, hrm, hw32, hk1, hk2, ⟨hk64a, hk64b⟩, ⟨ha64a, ha64b⟩, hts, hKs, HK⟩ := hN.hd
  obtain ⟨hb1, c0, c1, c2, c3, c4, c5⟩ := bxn w T A c (some ⟨b, off, none⟩) d
  obtain ⟨n00, n01, n02, n03, n04, n05⟩ := hC0.later hb1
  have hlk0 := blt n00
  unfold ndV
  clear hKs hN hT hD hWt hrm hw32 hk hlen hts hL hdc hdcw hst hro hlen3 hks hg0 hN0 hd0 r0 
  go_enter Tryz.func50, Tryz.ntmps50
  go_wp2_with fail
  generalize w.alloc (bx T.kind T A c (some ⟨b, off, none⟩) d) = w1 at *
  have hlb1 := blt c0
  have hs0 := fun W (hb : Below w1.heap.size w1 W) => HR0.out W (hb1.trans (hb.mono hb1.size))
  unfold ndV at hs0
  have HS0 := Lh hs0
  clear hs0
  go_loopw [5, 6] (fun sv iv wr => ∃ k : Nat, iv = .int .i64 k ∧ sv = .string (ba (padL k)) ∧ k ≤ dep ∧ w1 = wr) (fun _ iv _ => dep - (intOf iv).toNat)
  case atStart => exact ⟨0, rfl, rfl, Nat.zero_le _, rfl⟩
  case round =>
   obtain ⟨k, rfl, rfl, hkd, rfl⟩ := hrel; have hzk : (ba (padL k)).size ≤ 1000000 := by rw [ba_size, padL_len]; omega
   by_cases hkl : k < dep
   ·exact lw0_22
   ·have o1 : decide ((k : Int) < (dep : Int)) = false := dFo; have o2 : decide (k < dep) = false := dFa hkl; obtain ⟨Z, hZ⟩ : ∃ Z, ba (padL k) = Z := ⟨_, rfl⟩; have HZ := Lh (show ba (padL dep) = Z by rw [← hZ, show k = dep by omega]); rw [hZ] at hzk ⊢; clear hZ hkl hkd; go_wp2_with fail; have hI := HS0.out _ (Below.refl _ _)
    go_at_call 100
    exact lw0_25) : p := h
theorem lv22 {p : Prop} (h : p := by
  obtain ⟨hm1, hm2, hrm, hw32, hk1, hk2, ⟨hk64a, hk64b⟩, ⟨ha64a, ha64b⟩, hts, hKs, HK⟩ := hN.hd
  obtain ⟨hb1, c0, c1, c2, c3, c4, c5⟩ := bxn w T A c (some ⟨b, off, none⟩) d
  obtain ⟨n00, n01, n02, n03, n04, n05⟩ := hC0.later hb1
  have hlk0 := blt n00
  unfold ndV
  clear hKs hN hT hD hWt hrm hw32 hk hlen hts hL hdc hdcw hst hro hlen3 hks hg0 hN0 hd0 r0 
  go_enter Tryz.func50, Tryz.ntmps50
  go_wp2_with fail
  generalize w.alloc (bx T.kind T A c (some ⟨b, off, none⟩) d) = w1 at *
  have hlb1 := blt c0
  have hs0 := fun W (hb : Below w1.heap.size w1 W) => HR0.out W (hb1.trans (hb.mono hb1.size))
  unfold ndV at hs0
  have HS0 := Lh hs0
  clear hs0
  go_loopw [5, 6] (fun sv iv wr => ∃ k : Nat, iv = .int .i64 k ∧ sv = .string (ba (padL k)) ∧ k ≤ dep ∧ w1 = wr) (fun _ iv _ => dep - (intOf iv).toNat)
  case atStart => exact ⟨0, rfl, rfl, Nat.zero_le _, rfl⟩
  case round =>
   obtain ⟨k, rfl, rfl, hkd, rfl⟩ := hrel; have hzk : (ba (padL k)).size ≤ 1000000 := by rw [ba_size, padL_len]; omega
   by_cases hkl : k < dep
   ·exact lw0_22
   ·have o1 : decide ((k : Int) < (dep : Int)) = false := dFo; have o2 : decide (k < dep) = false := dFa hkl; obtain ⟨Z, hZ⟩ : ∃ Z, ba (padL k) = Z := ⟨_, rfl⟩; have HZ := Lh (show ba (padL dep) = Z by rw [← hZ, show k = dep by omega]); rw [hZ] at hzk ⊢; clear hZ hkl hkd; go_wp2_with fail; have hI := HS0.out _ (Below.refl _ _)
    go_at_call 99
    exact lw0_25) : p := h
theorem lv23 {p : Prop} (h : p := by
  obtain ⟨hm1, hm2, hrm, hw32, hk1, hk2, ⟨hk64a, hk64b⟩, ⟨ha64a, ha64b⟩, hts, hKs, HK⟩ := hN.hd
  obtain ⟨hb1, c0, c1, c2, c3, c4, c5⟩ := bxn w T A c K d
  unfold ndV
  clear hKs hN hT hD hWt hrm hw32 hk hlen hts hL hdc hdcw   hgl
  go_enter Tryz.func50, Tryz.ntmps50
  go_wp2_with fail
  generalize w.alloc (bx T.kind T A c K d) = w1 at *
  have hlb1 := blt c0
  go_loopw [5, 6] (fun sv iv wr => ∃ k : Nat, iv = .int .i64 k ∧ sv = .string (ba (padL k)) ∧ k ≤ dep ∧ w1 = wr) (fun _ iv _ => dep - (intOf iv).toNat)
  case atStart => exact ⟨0, rfl, rfl, Nat.zero_le _, rfl⟩
  case round =>
   obtain ⟨k, rfl, rfl, hkd, rfl⟩ := hrel; have hzk : (ba (padL k)).size ≤ 1000000 := by rw [ba_size, padL_len]; omega
   by_cases hkl : k < dep
   ·exact lw0_22
   ·have o1 : decide ((k : Int) < (dep : Int)) = false := dFo; have o2 : decide (k < dep) = false := dFa hkl; obtain ⟨Z, hZ⟩ : ∃ Z, ba (padL k) = Z := ⟨_, rfl⟩; have HZ := Lh (show ba (padL dep) = Z by rw [← hZ, show k = dep by omega]); rw [hZ] at hzk ⊢; clear hZ hkl hkd; go_wp2_with fail; have hI := rRow_ok D (rText_ok D) com T.kids T.kids.length _ d _ rfl (HKA.out.later hb1) HTE.out HWI.out HWL.out lq28 hk1 hk2'
    go_at_call 101
    refine hI.mono ?_
    rintro e w_1 ⟨rfl, hb_1⟩; clear hI; have hB_1 := hb_1; obtain ⟨c0, c1, c2, c3, c4, c5⟩ := cl6 hb_1 c0 c1 c2 c3 c4 c5; go_wp2_with fail; go_ret; exact ⟨by rw [HTX.out]; (try simp only [← ba_app, ba_text, HZ.out]); rfl, hb1.trans (hB_1.mono hb1.size)⟩) : p := h
theorem lv24 {p : Prop} (h : p := by
  clear h2' h3'
  obtain ⟨hm1, hm2, hrm, hw32, hk1, hk2, ⟨hk64a, hk64b⟩, ⟨ha64a, ha64b⟩, hts, hKs, HK⟩ := hN.hd
  have hcc := bxn w T A c (some ⟨b, off, none⟩) d
  rw [hk] at hcc
  obtain ⟨hb1, c0, c1, c2, c3, c4, c5⟩ := hcc
  obtain ⟨n00, n01, n02, n03, n04, n05⟩ := hC0.later hb1
  obtain ⟨n10, n11, n12, n13, n14, n15⟩ := hC1.later hb1
  unfold ndV
  rw [hk]
  clear hk
  clear hKs hN
  go_enter Tryz.func49, Tryz.ntmps49
  go_wp2_with (first | (go_at_call 34; refine (HBa.out _ hb1).mono ?_; rintro e w_1 ⟨he1, hq1⟩; rw [G1.out] at he1; subst he1; have hw1 := hb1.trans (hq1.mono hb1.size); obtain ⟨a100, a101, a102, a103, a104, a105⟩ := cl6 hq1 c0 c1 c2 c3 c4 c5; have hl1g0 := blt a100; obtain ⟨a110, a111, a112, a113, a114, a115⟩ := cl6 hq1 n00 n01 n02 n03 n04 n05; have hl1g1 := blt a110; obtain ⟨a120, a121, a122, a123, a124, a125⟩ := cl6 hq1 n10 n11 n12 n13 n14 n15; have hl1g2 := blt a120) | (go_at_call 90; refine (HK0x.out _ hw1).mono ?_; rintro e w_2 ⟨he2, hq2⟩; rw [G4.out] at he2; subst he2; have hw2 := hw1.trans (hq2.mono hw1.size); obtain ⟨a200, a201, a202, a203, a204, a205⟩ := cl6 hq2 a100 a101 a102 a103 a104 a105; have hl2g0 := blt a200; obtain ⟨a210, a211, a212, a213, a214, a215⟩ := cl6 hq2 a110 a111 a112 a113 a114 a115; have hl2g1 := blt a210; obtain ⟨a220, a221, a222, a223, a224, a225⟩ := cl6 hq2 a120 a121 a122 a123 a124 a125; have hl2g2 := blt a220) | (go_at_call 91; refine (HK1x.out _ hw2).mono ?_; rintro e w_3 ⟨he3, hq3⟩; rw [G5.out] at he3; subst he3; have hw3 := hw2.trans (hq3.mono hw2.size); obtain ⟨a300, a301, a302, a303, a304, a305⟩ := cl6 hq3 a200 a201 a202 a203 a204 a205; have hl3g0 := blt a300; obtain ⟨a310, a311, a312, a313, a314, a315⟩ := cl6 hq3 a210 a211 a212 a213 a214 a215; have hl3g1 := blt a310; obtain ⟨a320, a321, a322, a323, a324, a325⟩ := cl6 hq3 a220 a221 a222 a223 a224 a225; have hl3g2 := blt a320))
  go_ret
  exact ⟨by rw [HV.out]; rfl, hw3⟩) : p := h
theorem lv25 {p : Prop} (h : p := by
  clear h2' h3'
  obtain ⟨hm1, hm2, hrm, hw32, hk1, hk2, ⟨hk64a, hk64b⟩, ⟨ha64a, ha64b⟩, hts, hKs, HK⟩ := hN.hd
  have hcc := bxn w T A c (some ⟨b, off, none⟩) d
  rw [hk] at hcc
  obtain ⟨hb1, c0, c1, c2, c3, c4, c5⟩ := hcc
  obtain ⟨n00, n01, n02, n03, n04, n05⟩ := hC0.later hb1
  obtain ⟨n10, n11, n12, n13, n14, n15⟩ := hC1.later hb1
  unfold ndV
  rw [hk]
  clear hk
  clear hKs hN
  go_enter Tryz.func49, Tryz.ntmps49
  go_wp2_with (first | (go_at_call 34; refine (HBa.out _ hb1).mono ?_; rintro e w_1 ⟨he1, hq1⟩; rw [G1.out] at he1; subst he1; have hw1 := hb1.trans (hq1.mono hb1.size); obtain ⟨a100, a101, a102, a103, a104, a105⟩ := cl6 hq1 c0 c1 c2 c3 c4 c5; have hl1g0 := blt a100; obtain ⟨a110, a111, a112, a113, a114, a115⟩ := cl6 hq1 n00 n01 n02 n03 n04 n05; have hl1g1 := blt a110; obtain ⟨a120, a121, a122, a123, a124, a125⟩ := cl6 hq1 n10 n11 n12 n13 n14 n15; have hl1g2 := blt a120) | (go_at_call 96; refine (HK0x.out _ hw1).mono ?_; rintro e w_2 ⟨he2, hq2⟩; rw [G4.out] at he2; subst he2; have hw2 := hw1.trans (hq2.mono hw1.size); obtain ⟨a200, a201, a202, a203, a204, a205⟩ := cl6 hq2 a100 a101 a102 a103 a104 a105; have hl2g0 := blt a200; obtain ⟨a210, a211, a212, a213, a214, a215⟩ := cl6 hq2 a110 a111 a112 a113 a114 a115; have hl2g1 := blt a210; obtain ⟨a220, a221, a222, a223, a224, a225⟩ := cl6 hq2 a120 a121 a122 a123 a124 a125; have hl2g2 := blt a220) | (go_at_call 91; refine (HK1x.out _ hw2).mono ?_; rintro e w_3 ⟨he3, hq3⟩; rw [G5.out] at he3; subst he3; have hw3 := hw2.trans (hq3.mono hw2.size); obtain ⟨a300, a301, a302, a303, a304, a305⟩ := cl6 hq3 a200 a201 a202 a203 a204 a205; have hl3g0 := blt a300; obtain ⟨a310, a311, a312, a313, a314, a315⟩ := cl6 hq3 a210 a211 a212 a213 a214 a215; have hl3g1 := blt a310; obtain ⟨a320, a321, a322, a323, a324, a325⟩ := cl6 hq3 a220 a221 a222 a223 a224 a225; have hl3g2 := blt a320))
  go_ret
  exact ⟨by rw [HV.out]; rfl, hw3⟩) : p := h
theorem lv26 {p : Prop} (h : p := by
  clear h2' h3'
  obtain ⟨hm1, hm2, hrm, hw32, hk1, hk2, ⟨hk64a, hk64b⟩, ⟨ha64a, ha64b⟩, hts, hKs, HK⟩ := hN.hd
  have hcc := bxn w T A c (some ⟨b, off, none⟩) d
  rw [hk] at hcc
  obtain ⟨hb1, c0, c1, c2, c3, c4, c5⟩ := hcc
  obtain ⟨n00, n01, n02, n03, n04, n05⟩ := hC0.later hb1
  obtain ⟨n10, n11, n12, n13, n14, n15⟩ := hC1.later hb1
  unfold ndV
  rw [hk]
  clear hk
  clear hKs hN
  go_enter Tryz.func49, Tryz.ntmps49
  go_wp2_with (first | (go_at_call 34; refine (HBa.out _ hb1).mono ?_; rintro e w_1 ⟨he1, hq1⟩; rw [G1.out] at he1; subst he1; have hw1 := hb1.trans (hq1.mono hb1.size); obtain ⟨a100, a101, a102, a103, a104, a105⟩ := cl6 hq1 c0 c1 c2 c3 c4 c5; have hl1g0 := blt a100; obtain ⟨a110, a111, a112, a113, a114, a115⟩ := cl6 hq1 n00 n01 n02 n03 n04 n05; have hl1g1 := blt a110; obtain ⟨a120, a121, a122, a123, a124, a125⟩ := cl6 hq1 n10 n11 n12 n13 n14 n15; have hl1g2 := blt a120) | (go_at_call 91; refine (HK0x.out _ hw1).mono ?_; rintro e w_2 ⟨he2, hq2⟩; rw [G4.out] at he2; subst he2; have hw2 := hw1.trans (hq2.mono hw1.size); obtain ⟨a200, a201, a202, a203, a204, a205⟩ := cl6 hq2 a100 a101 a102 a103 a104 a105; have hl2g0 := blt a200; obtain ⟨a210, a211, a212, a213, a214, a215⟩ := cl6 hq2 a110 a111 a112 a113 a114 a115; have hl2g1 := blt a210; obtain ⟨a220, a221, a222, a223, a224, a225⟩ := cl6 hq2 a120 a121 a122 a123 a124 a125; have hl2g2 := blt a220) | (go_at_call 95; refine (HK1x.out _ hw2).mono ?_; rintro e w_3 ⟨he3, hq3⟩; rw [G5.out] at he3; subst he3; have hw3 := hw2.trans (hq3.mono hw2.size); obtain ⟨a300, a301, a302, a303, a304, a305⟩ := cl6 hq3 a200 a201 a202 a203 a204 a205; have hl3g0 := blt a300; obtain ⟨a310, a311, a312, a313, a314, a315⟩ := cl6 hq3 a210 a211 a212 a213 a214 a215; have hl3g1 := blt a310; obtain ⟨a320, a321, a322, a323, a324, a325⟩ := cl6 hq3 a220 a221 a222 a223 a224 a225; have hl3g2 := blt a320))
  go_ret
  exact ⟨by rw [HV.out]; rfl, hw3⟩) : p := h
theorem lv27 {p : Prop} (h : p := by
  go_enter Tryz.func27, Tryz.ntmps27
  go_wp2_with (first | (go_at_call 44; refine (HS.out _ hb1).mono ?_; rintro e w3 ⟨Q, f1, x1, f2, x2, rfl, hq, htq, hsq, hb3⟩; obtain ⟨p0, p1, p2, p3, p4, p5⟩ := cl6 hb3 c0 c1 c2 c3 c4 c5; have hl3 := blt p0; have hb4 := (Below.refl w3.heap.size w3).alloc (Nat.le_refl _) (.cells #[.func (.func f1) #[] x1, .func (.func f2) #[] x2] 71); have htq4 := htq.later hb4; have hsq4 := hsq.later hb4; obtain ⟨F0, F1⟩ := form_box w3 (.func (.func f1) #[] x1) (.func (.func f2) #[] x2) 71; obtain ⟨q0, q1, q2, q3, q4, q5⟩ := cl6 hb4 p0 p1 p2 p3 p4 p5; have hw3 := hb1.trans (hb3.mono hb1.size); have hw4 := hw3.trans (hb4.mono hw3.size); obtain ⟨f1', x1', e1, hr1, ht1⟩ := htq4; injection e1 with e1 e2 e3; injection e1 with e1; subst e1 e3; have HT1 := ht1 _ (KeepsQ.below (Below.refl _ _)) T.text HL.out; rw [HTx.out] at HT1; have HT1 := Lh HT1; obtain ⟨f2', x2', e1, hr2, hs2⟩ := hsq4; injection e1 with e1 e2 e3; injection e1 with e1; subst e1 e3; have HS2 := Lh hs2; clear ht1 hs2 htq hsq) | (with_reducible refine HT1.out.mono ?_; rintro e w5 ⟨rfl, hb5⟩; obtain ⟨G0, G1⟩ := cl2 hb5 F0 F1; have hgl := blt G0; obtain ⟨r0, r1, r2, r3, r4, r5⟩ := cl6 hb5 q0 q1 q2 q3 q4 q5; have hl5 := blt r0; have hw5 := hw4.trans (hb5.mono hw4.size)) | (go_at_call 45; refine (HNu.out _ hw5).mono ?_; rintro e w6 ⟨he6, hb6⟩; rw [HNB.out] at he6; subst he6; have J1 := cLt hb6 G1; have hjl := blt J1; obtain ⟨s0, s1, s2, s3, s4, s5⟩ := cl6 hb6 r0 r1 r2 r3 r4 r5; have hl6 := blt s0; have hw6 := hw5.trans (hb6.mono hw5.size); have hI := HS2.out w6 (KeepsQ.below (hb5.trans (hb6.mono hb5.size))) T A c K d HD.out HW.out (HN.out.later hw6); rw [HKx.out] at hI; unfold ndV at hI; have HI := Lh hI; clear hI) | (with_reducible refine HI.out.mono ?_; rintro e w7 ⟨rfl, hb7⟩))
  go_ret
  exact ⟨rfl, hw6.trans (hb7.mono hw6.size)⟩) : p := h
theorem lv28 {p : Prop} (h : p := by
  go_enter Tryz.func27, Tryz.ntmps27
  go_wp2_with (first | (go_at_call 44; refine (HS.out _ hb1).mono ?_; rintro e w3 ⟨Q, f1, x1, f2, x2, rfl, hq, htq, hsq, hb3⟩; obtain ⟨p0, p1, p2, p3, p4, p5⟩ := cl6 hb3 c0 c1 c2 c3 c4 c5; have hl3 := blt p0; have hb4 := (Below.refl w3.heap.size w3).alloc (Nat.le_refl _) (.cells #[.func (.func f1) #[] x1, .func (.func f2) #[] x2] 71); have htq4 := htq.later hb4; have hsq4 := hsq.later hb4; obtain ⟨F0, F1⟩ := form_box w3 (.func (.func f1) #[] x1) (.func (.func f2) #[] x2) 71; obtain ⟨q0, q1, q2, q3, q4, q5⟩ := cl6 hb4 p0 p1 p2 p3 p4 p5; have hw3 := hb1.trans (hb3.mono hb1.size); have hw4 := hw3.trans (hb4.mono hw3.size); obtain ⟨f1', x1', e1, hr1, ht1⟩ := htq4; injection e1 with e1 e2 e3; injection e1 with e1; subst e1 e3; have HT1 := ht1 _ (KeepsQ.below (Below.refl _ _)) T.text HL.out; rw [HTx.out] at HT1; have HT1 := Lh HT1; obtain ⟨f2', x2', e1, hr2, hs2⟩ := hsq4; injection e1 with e1 e2 e3; injection e1 with e1; subst e1 e3; have HS2 := Lh hs2; clear ht1 hs2 htq hsq) | (with_reducible refine HT1.out.mono ?_; rintro e w5 ⟨rfl, hb5⟩; obtain ⟨G0, G1⟩ := cl2 hb5 F0 F1; have hgl := blt G0; obtain ⟨r0, r1, r2, r3, r4, r5⟩ := cl6 hb5 q0 q1 q2 q3 q4 q5; have hl5 := blt r0; have hw5 := hw4.trans (hb5.mono hw4.size)) | (go_at_call 46; refine (HNo.out _ hw5).mono ?_; rintro e w6 ⟨he6, hb6⟩; rw [HNB.out] at he6; subst he6; have J1 := cLt hb6 G1; have hjl := blt J1; obtain ⟨s0, s1, s2, s3, s4, s5⟩ := cl6 hb6 r0 r1 r2 r3 r4 r5; have hl6 := blt s0; have hw6 := hw5.trans (hb6.mono hw5.size); have hI := HS2.out w6 (KeepsQ.below (hb5.trans (hb6.mono hb5.size))) T A c K d HD.out HW.out (HN.out.later hw6); rw [HKx.out] at hI; unfold ndV at hI; have HI := Lh hI; clear hI) | (with_reducible refine HI.out.mono ?_; rintro e w7 ⟨rfl, hb7⟩))
  go_ret
  exact ⟨rfl, hw6.trans (hb7.mono hw6.size)⟩) : p := h
theorem lv29 {p : Prop} (h : p := by
  have hs0 := fun W (hb : Below (w.alloc (bx T.kind T A c (some ⟨b, off, none⟩) d)).heap.size (w.alloc (bx T.kind T A c (some ⟨b, off, none⟩) d)) W) => HR0.out W (hb1.trans (hb.mono hb1.size))
  unfold ndV at hs0
  have HS0 := Lh hs0
  clear hs0
  unfold ndV
  clear hKs hN hR hT hD hWt hk hrm hw32 hlen3 hks hg0 hN0 hd0 hm0 hq hq0
  go_enter Tryz.func99, Tryz.ntmps99
  go_wp2_with fail
  generalize w.alloc (bx T.kind T A c (some ⟨b, off, none⟩) d) = w1 at *
  have HPK := fun (W : World) (h : Below w1.heap.size w1 W) => show _ ∧ _ ∧ _ ∧ _ ∧ _ ∧ _ ∧ _ ∧ _ ∧ _ from ⟨cLt h n00, cLt h n01, cLt h n02, cLt h n03, cLt h n04, cLt h n05, cLt h c2, Nat.lt_of_lt_of_le hlk0 h.size, Nat.lt_of_lt_of_le hlb1 h.size⟩
  go_region_held3 (fun W => W.cell? ⟨b, off, none⟩ = some (.int .i64 t0.kind) ∧ W.cell? ⟨b, off + 1, none⟩ = some (.int .i64 t0.pos) ∧ W.cell? ⟨b, off + 2, none⟩ = some (.string t0.text) ∧ W.cell? ⟨b, off + 3, none⟩ = some (.bool t0.neg) ∧ W.cell? ⟨b, off + 4, none⟩ = some (.slice A0 t0.mag.length c0') ∧ W.cell? ⟨b, off + 5, none⟩ = some (.slice K0 t0.kids.length d0) ∧ W.cell? ⟨w.heap.size, 2, none⟩ = some (.string T.text) ∧ b < W.heap.size ∧ w.heap.size < W.heap.size) (first | (refine HPK _ ?_; (repeat' (first | with_reducible exact H0 | with_reducible exact Below.refl _ _ | (with_reducible refine below_drew ?_))))) (first | (go_at_call 99; (with_reducible refine (HS0.out _ ?hbel).mono ?_); (case hbel => (repeat' (first  | with_reducible exact Below.refl _ _ | (with_reducible refine below_drew ?_)))); rintro e w_0 ⟨rfl, hq_0⟩; have H0 := below_then (w1 := w1) hq_0 lq14) )
  all_goals
   go_wp2; go_ret; exact ⟨by rw [HTX.out]; (try simp only [← ba_app, ba_text]); rfl, hb1.trans (H0.mono hb1.size)⟩) : p := h
theorem lv30 {p : Prop} (h : p := by
  obtain ⟨hm1, hm2, hrm, hw32, hk1, hk2, hk64, ha64, hts', hKs⟩ := hN.parts
  have hk2' := hk2
  unfold maxLen at hm2 hk2 hts'
  obtain ⟨hk64a, hk64b⟩ := hk64
  obtain ⟨ha64a, ha64b⟩ := ha64
  have hB0 : w0.heap.size ≤ w.heap.size := hBs.size
  have hbX : X < w.heap.size := WrT.lt hW
  have hK0 : WK w0.heap.size X w (w.alloc (bx T.kind T A c K d)) := (WK.refl _ _ _).alloc hB0 _
  have hWb := hW.alloc (bx T.kind T A c K d)
  have hBb : Below w0.heap.size w0 (w.alloc (bx T.kind T A c K d)) := hBs.trans hK0.b
  have hbx := heap_alloc_new w (bx T.kind T A c K d)
  have hsg : (w.alloc (bx T.kind T A c K d)).heap.size = w.heap.size + 1 := by simp
  have HKA := Lh hKs
  have hcx := cmp_ex hT lq29
  have HC3 := Lh hcx.1
  have HEX := Lh hcx.2
  have HTE := Lh (te_kids hT.te)
  have HWI := Lh (wKM hD hWt)
  have HE := Lh hE
  have HTg := Lh hTg
  clear hcx
  clear hKs hN hlen hE hTg hT hD hWt hrm hw32 hk hts 
  obtain ⟨c0, c1, c2, c3, c4, c5⟩ := (cells_box hbx).box
  have hlb := blt c0
  have hlX := WrT.lt hWb
  unfold ndV
  go_enter Tryz.func81, Tryz.ntmps81
  go_wp2_with fail
  have hI := wComp_ok D ⟨#[123]⟩ ⟨#[125]⟩ T.kids T.kids.length K d w0 X dep _ _ rfl HC3.out HKA.out HTg.out HE.out HTE.out HEX.out HWI.out hk1 hk2' hBb hWb _ rfl lq8
  go_at_call 144
  refine hI.mono ?_
  rintro e w_1 ⟨rfl, hW_1, hk_1⟩
  have hK_1 := hK0.trans hk_1
  have hbx := box_keep hk_1 hbx hbX
  clear hI
  have hB_1 : Below w0.heap.size w0 w_1 := hBs.trans hK_1.b
  obtain ⟨c0, c1, c2, c3, c4, c5⟩ := (cells_box hbx).box
  have hlb := blt c0
  exact lw0_36) : p := h
theorem lv31 {p : Prop} (h : p := by
  obtain ⟨hm1, hm2, hrm, hw32, hk1, hk2, hk64, ha64, hts', hKs⟩ := hN.parts
  have hk2' := hk2
  unfold maxLen at hm2 hk2 hts'
  obtain ⟨hk64a, hk64b⟩ := hk64
  obtain ⟨ha64a, ha64b⟩ := ha64
  have hB0 : w0.heap.size ≤ w.heap.size := hBs.size
  have hbX : X < w.heap.size := WrT.lt hW
  have hK0 : WK w0.heap.size X w (w.alloc (bx T.kind T A c K d)) := (WK.refl _ _ _).alloc hB0 _
  have hWb := hW.alloc (bx T.kind T A c K d)
  have hBb : Below w0.heap.size w0 (w.alloc (bx T.kind T A c K d)) := hBs.trans hK0.b
  have hbx := heap_alloc_new w (bx T.kind T A c K d)
  have hsg : (w.alloc (bx T.kind T A c K d)).heap.size = w.heap.size + 1 := by simp
  clear hKs hN hlen hE hTg hT hD hWt hrm hw32 hk hts 
  obtain ⟨c0, c1, c2, c3, c4, c5⟩ := (cells_box hbx).box
  have hlb := blt c0
  have hlX := WrT.lt hWb
  unfold ndV
  go_enter Tryz.func81, Tryz.ntmps81
  go_wp2_with fail
  have hWa := hWb.alloc (.cells #[.string (T.text)] 9)
  have hKa := hK0.alloc (Nat.le_trans hB0 hK0.b.size) (.cells #[.string (T.text)] 9)
  have hbxa := (Lib.alloc_old _ (.cells #[.string (T.text)] 9) _ hlb).trans hbx
  go_at_call 84
  refine (wSayT_ok w0.heap.size X dep _ (tx T) [T.text] 1 (w.heap.size + 1) _ hWa rfl lq17 lq19 (by simp [tx]) lq28 lq8 (Nat.le_trans hB0 hKa.b.size)).mono ?_
  exact lw0_21) : p := h
theorem lv32 {p : Prop} (h : p := by
  obtain ⟨hm1, hm2, hrm, hw32, hk1, hk2, hk64, ha64, hts', hKs⟩ := hN.parts
  have hk2' := hk2
  unfold maxLen at hm2 hk2 hts'
  obtain ⟨hk64a, hk64b⟩ := hk64
  obtain ⟨ha64a, ha64b⟩ := ha64
  have hB0 : w0.heap.size ≤ w.heap.size := hBs.size
  have hbX : X < w.heap.size := WrT.lt hW
  have hK0 : WK w0.heap.size X w (w.alloc (bx T.kind T A c K d)) := (WK.refl _ _ _).alloc hB0 _
  have hWb := hW.alloc (bx T.kind T A c K d)
  have hBb : Below w0.heap.size w0 (w.alloc (bx T.kind T A c K d)) := hBs.trans hK0.b
  have hbx := heap_alloc_new w (bx T.kind T A c K d)
  have hsg : (w.alloc (bx T.kind T A c K d)).heap.size = w.heap.size + 1 := by simp
  have HFA := Lh (fun (t : Nd) (ht : t ∈ T.kids) => hE t (ex_kids hT lq29 lq29 lq29 t ht) (wKM hD hWt t ht).1 (wKM hD hWt t ht).2)
  have HKA := Lh hKs
  clear hKs hN hlen hE hTg hT hD hWt hrm hw32 hk hts 
  obtain ⟨c0, c1, c2, c3, c4, c5⟩ := (cells_box hbx).box
  have hlb := blt c0
  have hlX := WrT.lt hWb
  unfold ndV
  go_enter Tryz.func81, Tryz.ntmps81
  go_wp2_with fail
  have hI := wBetween_ok ⟨#[123]⟩ ⟨#[125]⟩ T.kids T.kids.length K d w0 X dep _ _ rfl HKA.out HFA.out hk1 hk2' hBb hWb lq8
  exact lw0_17) : p := h
theorem lv33 {p : Prop} (h : p := by
  obtain ⟨hm1, hm2, hrm, hw32, hk1, hk2, ⟨hk64a, hk64b⟩, ⟨ha64a, ha64b⟩, hts, hKs, HK⟩ := hN.hd
  obtain ⟨hb1, c0, c1, c2, c3, c4, c5⟩ := bxn w T A c K d
  unfold ndV
  clear hKs hN hT hD hWt hrm hw32 hk hlen hts hL hdc hdcw hlen3  
  go_enter Tryz.func50, Tryz.ntmps50
  go_wp2_with fail
  generalize w.alloc (bx T.kind T A c K d) = w1 at *
  have hlb1 := blt c0
  go_loopw [5, 6] (fun sv iv wr => ∃ k : Nat, iv = .int .i64 k ∧ sv = .string (ba (padL k)) ∧ k ≤ dep ∧ w1 = wr) (fun _ iv _ => dep - (intOf iv).toNat)
  case atStart => exact ⟨0, rfl, rfl, Nat.zero_le _, rfl⟩
  case round =>
   obtain ⟨k, rfl, rfl, hkd, rfl⟩ := hrel; have hzk : (ba (padL k)).size ≤ 1000000 := by rw [ba_size, padL_len]; omega
   by_cases hkl : k < dep
   ·exact lw0_22
   ·have o1 : decide ((k : Int) < (dep : Int)) = false := dFo; have o2 : decide (k < dep) = false := dFa hkl; obtain ⟨Z, hZ⟩ : ∃ Z, ba (padL k) = Z := ⟨_, rfl⟩; have HZ := Lh (show ba (padL dep) = Z by rw [← hZ, show k = dep by omega]); rw [hZ] at hzk ⊢; clear hZ hkl hkd; go_wp2_with fail; go_ret; exact ⟨by rw [HTX.out]; (try simp only [← ba_app, ba_text, HZ.out]); rfl, hb1⟩) : p := h
theorem lv34 {p : Prop} (h : p := by
  go_wp2_with fail
  have hWa := hWb.alloc (.cells #[.string (T.text), .string { data := #[61] }] 9)
  have hKa := hK0.alloc (Nat.le_trans hB0 hK0.b.size) (.cells #[.string (T.text), .string { data := #[61] }] 9)
  have hbxa := (Lib.alloc_old _ (.cells #[.string (T.text), .string { data := #[61] }] 9) _ hlb).trans hbx
  go_at_call 84
  refine (wSayT_ok w0.heap.size X dep _ (tx T ++ [61]) [T.text, ⟨#[61]⟩] 2 (w.heap.size + 1) _ hWa rfl lq17 lq19 (by simp [tx]) lq28 lq8 (Nat.le_trans hB0 hKa.b.size)).mono ?_
  rintro e w_1 ⟨rfl, hW_1, hk_1⟩
  have hK_1 := hKa.trans hk_1
  have hbx := box_keep hk_1 hbxa hbX
  have hB_1 : Below w0.heap.size w0 w_1 := hBs.trans hK_1.b
  obtain ⟨c0, c1, c2, c3, c4, c5⟩ := (cells_box hbx).box
  have hlb := blt c0
  obtain ⟨n00, n01, n02, n03, n04, n05⟩ := hC0.later hB_1
  have hlk0 := blt n00
  have hlX := WrT.lt hW_1
  go_wp2_with fail
  have hI := HF0.out A0 c0' K0 d0 _ _ HN0.out hB_1 hW_1 lq8
  unfold ndV at hI
  go_at_call 81
  exact lw0_16) : p := h
theorem lv35 {p : Prop} (h : p := by
  have HPK := fun (W : World) (h : Below w1.heap.size w1 W) => show _ ∧ _ ∧ _ ∧ _ ∧ _ ∧ _ ∧ _ ∧ _ ∧ _ ∧ _ from ⟨cLt h n00, cLt h n01, cLt h n02, cLt h n03, cLt h n04, cLt h n05, cLt h c2, cLt h c5, Nat.lt_of_lt_of_le hlk0 h.size, Nat.lt_of_lt_of_le hlb1 h.size⟩
  go_region_held3 (fun W => W.cell? ⟨b, off, none⟩ = some (.int .i64 t0.kind) ∧ W.cell? ⟨b, off + 1, none⟩ = some (.int .i64 t0.pos) ∧ W.cell? ⟨b, off + 2, none⟩ = some (.string t0.text) ∧ W.cell? ⟨b, off + 3, none⟩ = some (.bool t0.neg) ∧ W.cell? ⟨b, off + 4, none⟩ = some (.slice A0 t0.mag.length c0') ∧ W.cell? ⟨b, off + 5, none⟩ = some (.slice K0 t0.kids.length d0) ∧ W.cell? ⟨wr.heap.size, 2, none⟩ = some (.string t.text) ∧ W.cell? ⟨wr.heap.size, 5, none⟩ = some (.slice (some ⟨b, off, none⟩) t.kids.length d') ∧ b < W.heap.size ∧ wr.heap.size < W.heap.size) (first | (refine HPK _ ?_; (repeat' (first | with_reducible exact H0 | with_reducible exact Below.refl _ _ | (with_reducible refine below_drew ?_))))) (first | (go_at_call 99; (with_reducible refine (HS0.out _ ?hbel).mono ?_); (case hbel => (repeat' (first  | with_reducible exact Below.refl _ _ | (with_reducible refine below_drew ?_)))); rintro e w_0 ⟨rfl, hq_0⟩; have H0 := below_then (w1 := w1) hq_0 lq14) )
  all_goals
   go_wp2
   go_roundw
   case rel => exact ⟨k + 1, by go_num, by rw [← HV.out], by omega, hbr.trans ((hb1.trans (H0.mono hb1.size)).mono hbr.size)⟩
   case measure => simp [intOf]; omega) : p := h
theorem lv36 {p : Prop} (h : p := by
  clear h1' h2'
  obtain ⟨hm1, hm2, hrm, hw32, hk1, hk2, ⟨hk64a, hk64b⟩, ⟨ha64a, ha64b⟩, hts, hKs, HK⟩ := hN.hd
  have hcc := bxn w T A c (some ⟨b, off, none⟩) d
  rw [hk] at hcc
  obtain ⟨hb1, c0, c1, c2, c3, c4, c5⟩ := hcc
  obtain ⟨n0, n1, n2, n3, n4, n5⟩ := hC0.later hb1
  unfold ndV
  rw [hk]
  clear hk
  clear hKs hN
  go_enter Tryz.func91, Tryz.ntmps91
  go_wp2_with (first | (go_at_call 34; refine (HBa.out _ hb1).mono ?_; rintro e w_1 ⟨he1, hq1⟩; rw [G0.out] at he1; subst he1; have hw1 := hb1.trans (hq1.mono hb1.size); obtain ⟨a1_0, a1_1, a1_2, a1_3, a1_4, a1_5⟩ := cl6 hq1 c0 c1 c2 c3 c4 c5; have hl1 := blt a1_0; obtain ⟨k10, k11, k12, k13, k14, k15⟩ := cl6 hq1 n0 n1 n2 n3 n4 n5; have hm1' := blt k10) | (go_at_call 154; refine (HX.out _ hw1).mono ?_; rintro e w_2 ⟨he2, hq2⟩; rw [G3.out] at he2; subst he2; have hw2 := hw1.trans (hq2.mono hw1.size); obtain ⟨a2_0, a2_1, a2_2, a2_3, a2_4, a2_5⟩ := cl6 hq2 a1_0 a1_1 a1_2 a1_3 a1_4 a1_5; have hl2 := blt a2_0; obtain ⟨k20, k21, k22, k23, k24, k25⟩ := cl6 hq2 k10 k11 k12 k13 k14 k15; have hm2' := blt k20) | (go_at_call 156; refine (HCo.out _ hw2).mono ?_; rintro e w_3 ⟨he3, hq3⟩; rw [G4.out] at he3; subst he3; have hw3 := hw2.trans (hq3.mono hw2.size); obtain ⟨a3_0, a3_1, a3_2, a3_3, a3_4, a3_5⟩ := cl6 hq3 a2_0 a2_1 a2_2 a2_3 a2_4 a2_5; have hl3 := blt a3_0; obtain ⟨k30, k31, k32, k33, k34, k35⟩ := cl6 hq3 k20 k21 k22 k23 k24 k25; have hm3' := blt k30))
  go_ret
  exact ⟨by rw [HV.out]; rfl, hw3⟩) : p := h
theorem lv37 {p : Prop} (h : p := by
  have HPK := fun (W : World) (h : Below w1.heap.size w1 W) => show _ ∧ _ ∧ _ ∧ _ ∧ _ ∧ _ ∧ _ from ⟨cLt h n00, cLt h n01, cLt h n02, cLt h n03, cLt h n04, cLt h n05, Nat.lt_of_lt_of_le hlk0 h.size⟩
  go_region_held3 (fun W => W.cell? ⟨b, off, none⟩ = some (.int .i64 t0.kind) ∧ W.cell? ⟨b, off + 1, none⟩ = some (.int .i64 t0.pos) ∧ W.cell? ⟨b, off + 2, none⟩ = some (.string t0.text) ∧ W.cell? ⟨b, off + 3, none⟩ = some (.bool t0.neg) ∧ W.cell? ⟨b, off + 4, none⟩ = some (.slice A0 t0.mag.length c0') ∧ W.cell? ⟨b, off + 5, none⟩ = some (.slice K0 t0.kids.length d0) ∧ b < W.heap.size) (first | (refine HPK _ ?_; (repeat' (first | with_reducible exact H1 | with_reducible exact H0 | with_reducible exact Below.refl _ _ | (with_reducible refine below_drew ?_))))) (first | (go_at_call 99; (with_reducible refine (HS0.out _ ?hbel).mono ?_); (case hbel => (repeat' (first  | with_reducible exact Below.refl _ _ | (with_reducible refine below_drew ?_)))); rintro e w_0 ⟨rfl, hq_0⟩; have H0 := below_then (w1 := w1) hq_0 lq14) | (go_at_call 101; (with_reducible refine (HSR.out _ ?hbel).mono ?_); (case hbel => (repeat' (first | with_reducible exact H0 | with_reducible exact Below.refl _ _ | (with_reducible refine below_drew ?_)))); rintro e w_1 ⟨rfl, hq_1⟩; have H1 := below_then (w1 := w1) hq_1 lq12) )
  all_goals
   go_wp2; go_ret; exact ⟨by rw [HTX.out]; (try simp only [← ba_app, ba_text]); rw [HY.out]; rfl, hb1.trans (H1.mono hb1.size)⟩) : p := h
theorem lv38 {p : Prop} (h : p := by
  clear h1' h2' h3' h5'
  obtain ⟨hm1, hm2, hrm, hw32, hk1, hk2, ⟨hk64a, hk64b⟩, ⟨ha64a, ha64b⟩, hts, hKs, HK⟩ := hN.hd
  obtain ⟨hb1, c0, c1, c2, c3, c4, c5⟩ := bxn w T A c (some ⟨b, off, none⟩) d
  obtain ⟨n0, n1, n2, n3, n4, n5⟩ := hC0.later hb1
  unfold ndV
  clear hKs hN
  go_enter Tryz.func14, Tryz.ntmps14
  go_wp2_with (first | (go_at_call 33; refine (HDe.out _ hb1).mono ?_; rintro e w_1 ⟨rfl, hq1⟩; have hw1 := hb1.trans (hq1.mono hb1.size); obtain ⟨a100, a101, a102, a103, a104, a105⟩ := cl6 hq1 c0 c1 c2 c3 c4 c5; have hl1g0 := blt a100; obtain ⟨a110, a111, a112, a113, a114, a115⟩ := cl6 hq1 n0 n1 n2 n3 n4 n5; have hl1g1 := blt a110) | (go_at_call 34; refine (HBa.out _ hw1).mono ?_; rintro e w_2 ⟨he2, hq2⟩; rw [G4.out] at he2; subst he2; have hw2 := hw1.trans (hq2.mono hw1.size); obtain ⟨a200, a201, a202, a203, a204, a205⟩ := cl6 hq2 a100 a101 a102 a103 a104 a105; have hl2g0 := blt a200; obtain ⟨a210, a211, a212, a213, a214, a215⟩ := cl6 hq2 a110 a111 a112 a113 a114 a115; have hl2g1 := blt a210) | (go_at_call 35; refine (HLi.out _ hw2).mono ?_; rintro e w_3 ⟨he3, hq3⟩; rw [G6.out] at he3; subst he3; have hw3 := hw2.trans (hq3.mono hw2.size); obtain ⟨a300, a301, a302, a303, a304, a305⟩ := cl6 hq3 a200 a201 a202 a203 a204 a205; have hl3g0 := blt a300; obtain ⟨a310, a311, a312, a313, a314, a315⟩ := cl6 hq3 a210 a211 a212 a213 a214 a215; have hl3g1 := blt a310))
  go_ret
  exact ⟨by rw [HV.out]; rfl, hw3⟩) : p := h
theorem lv39 {p : Prop} (h : p := by
  have hoK := nodeAt_okN T hN
  have hzT := ba_len hoK hWt
  clear hoK hts
  obtain ⟨hm1, hm2, hrm, hw32, hk1, hk2, ⟨hk64a, hk64b⟩, ⟨ha64a, ha64b⟩, hts, hKs, HK⟩ := hN.hd
  obtain ⟨hb1, c0, c1, c2, c3, c4, c5⟩ := bxn w T A c (some ⟨b, off, none⟩) d
  obtain ⟨n00, n01, n02, n03, n04, n05⟩ := hC0.later hb1
  have hlk0 := blt n00
  unfold ndV
  clear hKs hN hR hT hD hWt hk hrm hw32 hcx hlen3 hg0 hN0 hd0 hm0
  go_enter Tryz.func99, Tryz.ntmps99
  go_wp2_with fail
  have hI := HR0.out _ hb1
  unfold ndV at hI
  go_at_call 99
  refine hI.mono ?_
  rintro e w_1 ⟨rfl, hb_1⟩
  clear hI
  have hB_1 := hb1.trans (hb_1.mono hb1.size)
  obtain ⟨c0, c1, c2, c3, c4, c5⟩ := cl6 hb_1 c0 c1 c2 c3 c4 c5
  have hlb := blt c0
  obtain ⟨n00, n01, n02, n03, n04, n05⟩ := hC0.later hB_1
  have hlk0 := blt n00
  go_wp2_with fail
  have hI := rBehind_ok D HR.out T.kids T.kids.length _ d _ rfl HL3.out (HKA.out.later hB_1) HTE.out HWI.out HWL.out hk1 hk2'
  go_at_call 160
  refine hI.mono ?_
  rintro e w_2 ⟨rfl, hb_2⟩
  clear hI
  have hB_2 := hB_1.trans (hb_2.mono hB_1.size)
  obtain ⟨c0, c1, c2, c3, c4, c5⟩ := cl6 hb_2 c0 c1 c2 c3 c4 c5
  have hlb := blt c0
  obtain ⟨n00, n01, n02, n03, n04, n05⟩ := hC0.later hB_2
  have hlk0 := blt n00
  go_wp2_with fail
  go_ret
  exact ⟨by rw [HTX.out]; (try simp only [← ba_app, ba_text]); rfl, hB_2⟩) : p := h
theorem lv40 {p : Prop} (h : p := by
  clear h1'
  obtain ⟨hm1, hm2, hrm, hw32, hk1, hk2, ⟨hk64a, hk64b⟩, ⟨ha64a, ha64b⟩, hts, hKs, HK⟩ := hN.hd
  have hcc := bxn w T A c K d
  rw [hk] at hcc
  obtain ⟨hb1, c0, c1, c2, c3, c4, c5⟩ := hcc
  unfold ndV
  rw [hk]
  clear hk
  clear hKs hN
  go_enter Tryz.func91, Tryz.ntmps91
  go_wp2_with (first | (go_at_call 34; refine (HBa.out _ hb1).mono ?_; rintro e w_1 ⟨he1, hq1⟩; rw [G0.out] at he1; subst he1; have hw1 := hb1.trans (hq1.mono hb1.size); obtain ⟨a1_0, a1_1, a1_2, a1_3, a1_4, a1_5⟩ := cl6 hq1 c0 c1 c2 c3 c4 c5; have hl1 := blt a1_0) | (go_at_call 149; refine (HIn.out _ hw1 _ _ rfl).mono ?_; rintro e w_2 ⟨he2, hq2⟩; rw [G2.out] at he2; subst he2; have hw2 := (hw1.alloc hw1.size _).trans (hq2.mono (hw1.alloc hw1.size _).size); have a2_0 := cLt hq2 (cLt ((Below.refl _ _).alloc (Nat.le_refl _) _) a1_0); have a2_1 := cLt hq2 (cLt ((Below.refl _ _).alloc (Nat.le_refl _) _) a1_1); have a2_2 := cLt hq2 (cLt ((Below.refl _ _).alloc (Nat.le_refl _) _) a1_2); have a2_3 := cLt hq2 (cLt ((Below.refl _ _).alloc (Nat.le_refl _) _) a1_3); have a2_4 := cLt hq2 (cLt ((Below.refl _ _).alloc (Nat.le_refl _) _) a1_4); have a2_5 := cLt hq2 (cLt ((Below.refl _ _).alloc (Nat.le_refl _) _) a1_5); have hl2 := blt a2_0))
  go_ret
  exact ⟨by rw [HV.out]; rfl, hw2⟩) : p := h
theorem lv41 {p : Prop} (h : p := by
  have hB_4 : Below w0.heap.size w0 w_4 := hBs.trans hK_4.b
  obtain ⟨c0, c1, c2, c3, c4, c5⟩ := (cells_box hbx).box
  have hlb := blt c0
  obtain ⟨n00, n01, n02, n03, n04, n05⟩ := hC0.later hB_4
  have hlk0 := blt n00
  obtain ⟨n10, n11, n12, n13, n14, n15⟩ := hC1.later hB_4
  have hlk1 := blt n10
  obtain ⟨n20, n21, n22, n23, n24, n25⟩ := hC2.later hB_4
  have hlk2 := blt n20
  have hlX := WrT.lt hW_4
  go_wp2_with fail
  have hI := HF2.out A2 c2' K2 d2 _ _ HN2.out hB_4 hW_4 lq8
  unfold ndV at hI
  go_at_call 82
  refine hI.mono ?_
  rintro e w_5 ⟨rfl, hW_5, hk_5⟩
  have hK_5 := hK_4.trans hk_5
  have hbx := box_keep hk_5 hbx hbX
  clear hI
  have hB_5 : Below w0.heap.size w0 w_5 := hBs.trans hK_5.b
  obtain ⟨c0, c1, c2, c3, c4, c5⟩ := (cells_box hbx).box
  have hlb := blt c0
  obtain ⟨n00, n01, n02, n03, n04, n05⟩ := hC0.later hB_5
  have hlk0 := blt n00
  obtain ⟨n10, n11, n12, n13, n14, n15⟩ := hC1.later hB_5
  have hlk1 := blt n10
  obtain ⟨n20, n21, n22, n23, n24, n25⟩ := hC2.later hB_5
  have hlk2 := blt n20
  exact lw0_39) : p := h
theorem lv42 {p : Prop} (h : p := by
  rintro e w_1 ⟨rfl, hW_1, hk_1⟩
  have hK_1 := hKa.trans hk_1
  have hbx := box_keep hk_1 hbxa hbX
  have hB_1 : Below w0.heap.size w0 w_1 := hBs.trans hK_1.b
  obtain ⟨c0, c1, c2, c3, c4, c5⟩ := (cells_box hbx).box
  have hlb := blt c0
  obtain ⟨n00, n01, n02, n03, n04, n05⟩ := hC0.later hB_1
  have hlk0 := blt n00
  obtain ⟨n10, n11, n12, n13, n14, n15⟩ := hC1.later hB_1
  have hlk1 := blt n10
  have hlX := WrT.lt hW_1
  go_wp2_with fail
  have hI := HF1.out A1 c1' K1 d1 _ _ HN1.out hB_1 hW_1 lq8
  unfold ndV at hI
  go_at_call 82
  refine hI.mono ?_
  rintro e w_2 ⟨rfl, hW_2, hk_2⟩
  have hK_2 := hK_1.trans hk_2
  have hbx := box_keep hk_2 hbx hbX
  clear hI
  have hB_2 : Below w0.heap.size w0 w_2 := hBs.trans hK_2.b
  obtain ⟨c0, c1, c2, c3, c4, c5⟩ := (cells_box hbx).box
  have hlb := blt c0
  obtain ⟨n00, n01, n02, n03, n04, n05⟩ := hC0.later hB_2
  have hlk0 := blt n00
  obtain ⟨n10, n11, n12, n13, n14, n15⟩ := hC1.later hB_2
  have hlk1 := blt n10
  have hlX := WrT.lt hW_2
  go_wp2_with fail
  ((try simp only [Exit.inBlock, Exit.then]); first | refine bodyPost_end (results_none rfl _ _ _) rfl ?_ | refine bodyPost_ret (results_none rfl _ _ _) rfl ?_)
  exact ⟨rfl, hW_2.eq lq9, hK_2⟩) : p := h
theorem lv43 {p : Prop} (h : p := by
  rintro e w_4 ⟨rfl, hW_4, hk_4⟩
  have hK_4 := hKa.trans hk_4
  have hbx := box_keep hk_4 hbxa hbX
  have hB_4 : Below w0.heap.size w0 w_4 := hBs.trans hK_4.b
  obtain ⟨c0, c1, c2, c3, c4, c5⟩ := (cells_box hbx).box
  have hlb := blt c0
  obtain ⟨n00, n01, n02, n03, n04, n05⟩ := hC0.later hB_4
  have hlk0 := blt n00
  obtain ⟨n10, n11, n12, n13, n14, n15⟩ := hC1.later hB_4
  have hlk1 := blt n10
  have hlX := WrT.lt hW_4
  go_wp2_with fail
  have hI := HF1.out A1 c1' K1 d1 _ _ HN1.out hB_4 hW_4 lq8
  unfold ndV at hI
  go_at_call 82
  refine hI.mono ?_
  rintro e w_5 ⟨rfl, hW_5, hk_5⟩
  have hK_5 := hK_4.trans hk_5
  have hbx := box_keep hk_5 hbx hbX
  clear hI
  have hB_5 : Below w0.heap.size w0 w_5 := hBs.trans hK_5.b
  obtain ⟨c0, c1, c2, c3, c4, c5⟩ := (cells_box hbx).box
  have hlb := blt c0
  obtain ⟨n00, n01, n02, n03, n04, n05⟩ := hC0.later hB_5
  have hlk0 := blt n00
  obtain ⟨n10, n11, n12, n13, n14, n15⟩ := hC1.later hB_5
  have hlk1 := blt n10
  exact lw0_39) : p := h
theorem lv44 {p : Prop} (h : p := by
  clear h2' h3'
  obtain ⟨hm1, hm2, hrm, hw32, hk1, hk2, ⟨hk64a, hk64b⟩, ⟨ha64a, ha64b⟩, hts, hKs, HK⟩ := hN.hd
  have hcc := bxn w T A c (some ⟨b, off, none⟩) d
  rw [hk] at hcc
  obtain ⟨hb1, c0, c1, c2, c3, c4, c5⟩ := hcc
  obtain ⟨n00, n01, n02, n03, n04, n05⟩ := hC0.later hb1
  unfold ndV
  rw [hk]
  clear hk
  clear hKs hN
  go_enter Tryz.func49, Tryz.ntmps49
  go_wp2_with (first | (go_at_call 34; refine (HBa.out _ hb1).mono ?_; rintro e w_1 ⟨he1, hq1⟩; rw [G1.out] at he1; subst he1; have hw1 := hb1.trans (hq1.mono hb1.size); obtain ⟨a100, a101, a102, a103, a104, a105⟩ := cl6 hq1 c0 c1 c2 c3 c4 c5; have hl1g0 := blt a100; obtain ⟨a110, a111, a112, a113, a114, a115⟩ := cl6 hq1 n00 n01 n02 n03 n04 n05; have hl1g1 := blt a110) | (go_at_call 91; refine (HK0x.out _ hw1).mono ?_; rintro e w_2 ⟨he2, hq2⟩; rw [G4.out] at he2; subst he2; have hw2 := hw1.trans (hq2.mono hw1.size); obtain ⟨a200, a201, a202, a203, a204, a205⟩ := cl6 hq2 a100 a101 a102 a103 a104 a105; have hl2g0 := blt a200; obtain ⟨a210, a211, a212, a213, a214, a215⟩ := cl6 hq2 a110 a111 a112 a113 a114 a115; have hl2g1 := blt a210))
  go_ret
  exact ⟨by rw [HV.out]; rfl, hw2⟩) : p := h
theorem lv45 {p : Prop} (h : p := by
  clear h2' h3'
  obtain ⟨hm1, hm2, hrm, hw32, hk1, hk2, ⟨hk64a, hk64b⟩, ⟨ha64a, ha64b⟩, hts, hKs, HK⟩ := hN.hd
  have hcc := bxn w T A c (some ⟨b, off, none⟩) d
  rw [hk] at hcc
  obtain ⟨hb1, c0, c1, c2, c3, c4, c5⟩ := hcc
  obtain ⟨n00, n01, n02, n03, n04, n05⟩ := hC0.later hb1
  unfold ndV
  rw [hk]
  clear hk
  clear hKs hN
  go_enter Tryz.func49, Tryz.ntmps49
  go_wp2_with (first | (go_at_call 34; refine (HBa.out _ hb1).mono ?_; rintro e w_1 ⟨he1, hq1⟩; rw [G1.out] at he1; subst he1; have hw1 := hb1.trans (hq1.mono hb1.size); obtain ⟨a100, a101, a102, a103, a104, a105⟩ := cl6 hq1 c0 c1 c2 c3 c4 c5; have hl1g0 := blt a100; obtain ⟨a110, a111, a112, a113, a114, a115⟩ := cl6 hq1 n00 n01 n02 n03 n04 n05; have hl1g1 := blt a110) | (go_at_call 90; refine (HK0x.out _ hw1).mono ?_; rintro e w_2 ⟨he2, hq2⟩; rw [G4.out] at he2; subst he2; have hw2 := hw1.trans (hq2.mono hw1.size); obtain ⟨a200, a201, a202, a203, a204, a205⟩ := cl6 hq2 a100 a101 a102 a103 a104 a105; have hl2g0 := blt a200; obtain ⟨a210, a211, a212, a213, a214, a215⟩ := cl6 hq2 a110 a111 a112 a113 a114 a115; have hl2g1 := blt a210))
  go_ret
  exact ⟨by rw [HV.out]; rfl, hw2⟩) : p := h
theorem lv46 {p : Prop} (h : p := by
  have hz : preB (s.data.toList.take (k + 1)) = false := by rw [HT1.out]; simp; omega
  have f0 : decide (97 ≤ (s[k].toNat : Int)) = false := dFa lq25
  have f1 : decide ((s[k].toNat : Int) ≤ 122) = true := dTr lq25
  have f2 : decide (65 ≤ (s[k].toNat : Int)) = false := dFa lq25
  have f3 : decide ((s[k].toNat : Int) ≤ 90) = true := dTr lq25
  have f4 : ((s[k].toNat : Int) == 95) = false := by rw [HX.out]; simp; omega
  have f5 : decide (48 ≤ (s[k].toNat : Int)) = false := dFa lq25
  have f6 : decide ((s[k].toNat : Int) ≤ 57) = true := dTr lq25
  have n0 : decide (97 ≤ s[k].toNat) = false := dFa lq25
  have n1 : decide (s[k].toNat ≤ 122) = true := dTr lq25
  have n2 : decide (65 ≤ s[k].toNat) = false := dFa lq25
  have n3 : decide (s[k].toNat ≤ 90) = true := dTr lq25
  have n4 : (s[k].toNat == 95) = false := by rw [HX.out]; simp; omega
  have n5 : decide (48 ≤ s[k].toNat) = false := dFa lq25
  have n6 : decide (s[k].toNat ≤ 57) = true := dTr lq25
  exact lw0_40) : p := h
theorem lv47 {p : Prop} (h : p := by
  have hz : preB (s.data.toList.take (k + 1)) = false := by rw [HT1.out]; simp; omega
  have f0 : decide (97 ≤ (s[k].toNat : Int)) = false := dFa lq25
  have f1 : decide ((s[k].toNat : Int) ≤ 122) = true := dTr lq25
  have f2 : decide (65 ≤ (s[k].toNat : Int)) = false := dFa lq25
  have f3 : decide ((s[k].toNat : Int) ≤ 90) = true := dTr lq25
  have f4 : ((s[k].toNat : Int) == 95) = false := by rw [HX.out]; simp; omega
  have f5 : decide (48 ≤ (s[k].toNat : Int)) = true := dTr lq25
  have f6 : decide ((s[k].toNat : Int) ≤ 57) = false := dFa lq25
  have n0 : decide (97 ≤ s[k].toNat) = false := dFa lq25
  have n1 : decide (s[k].toNat ≤ 122) = true := dTr lq25
  have n2 : decide (65 ≤ s[k].toNat) = false := dFa lq25
  have n3 : decide (s[k].toNat ≤ 90) = true := dTr lq25
  have n4 : (s[k].toNat == 95) = false := by rw [HX.out]; simp; omega
  have n5 : decide (48 ≤ s[k].toNat) = true := dTr lq25
  have n6 : decide (s[k].toNat ≤ 57) = false := dFa lq25
  exact lw0_40) : p := h
theorem lv48 {p : Prop} (h : p := by
  have hz : preB (s.data.toList.take (k + 1)) = false := by rw [HT1.out]; simp; omega
  have f0 : decide (97 ≤ (s[k].toNat : Int)) = false := dFa lq25
  have f1 : decide ((s[k].toNat : Int) ≤ 122) = true := dTr lq25
  have f2 : decide (65 ≤ (s[k].toNat : Int)) = true := dTr lq25
  have f3 : decide ((s[k].toNat : Int) ≤ 90) = false := dFa lq25
  have f4 : ((s[k].toNat : Int) == 95) = false := by rw [HX.out]; simp; omega
  have f5 : decide (48 ≤ (s[k].toNat : Int)) = true := dTr lq25
  have f6 : decide ((s[k].toNat : Int) ≤ 57) = false := dFa lq25
  have n0 : decide (97 ≤ s[k].toNat) = false := dFa lq25
  have n1 : decide (s[k].toNat ≤ 122) = true := dTr lq25
  exact lw0_19) : p := h
theorem lv49 {p : Prop} (h : p := by
  have hz : preB (s.data.toList.take (k + 1)) = false := by rw [HT1.out]; simp; omega
  have f0 : decide (97 ≤ (s[k].toNat : Int)) = true := dTr lq25
  have f1 : decide ((s[k].toNat : Int) ≤ 122) = false := dFa lq25
  have f2 : decide (65 ≤ (s[k].toNat : Int)) = true := dTr lq25
  have f3 : decide ((s[k].toNat : Int) ≤ 90) = false := dFa lq25
  have f4 : ((s[k].toNat : Int) == 95) = false := by rw [HX.out]; simp; omega
  have f5 : decide (48 ≤ (s[k].toNat : Int)) = true := dTr lq25
  have f6 : decide ((s[k].toNat : Int) ≤ 57) = false := dFa lq25
  have n0 : decide (97 ≤ s[k].toNat) = true := dTr lq25
  have n1 : decide (s[k].toNat ≤ 122) = false := dFa lq25
  exact lw0_19) : p := h
theorem lv50 {p : Prop} (h : p := by
  have hz : preB (s.data.toList.take (k + 1)) = false := by rw [HT1.out]; simp; omega
  have f0 : decide (97 ≤ (s[k].toNat : Int)) = false := dFa lq25
  have f1 : decide ((s[k].toNat : Int) ≤ 122) = true := dTr lq25
  have f2 : decide (65 ≤ (s[k].toNat : Int)) = false := dFa lq25
  have f3 : decide ((s[k].toNat : Int) ≤ 90) = true := dTr lq25
  have f4 : ((s[k].toNat : Int) == 95) = false := by rw [HX.out]; simp; omega
  have f5 : decide ((s[k].toNat : Int) < 48) = true := dTr lq25
  have f6 : decide (57 < (s[k].toNat : Int)) = false := dFa lq25
  have n0 : decide (97 ≤ s[k].toNat) = false := dFa lq25
  have n1 : decide (s[k].toNat ≤ 122) = true := dTr lq25
  have n2 : decide (65 ≤ s[k].toNat) = false := dFa lq25
  have n3 : decide (s[k].toNat ≤ 90) = true := dTr lq25
  have n4 : (s[k].toNat == 95) = false := by rw [HX.out]; simp; omega
  have n5 : decide (s[k].toNat < 48) = true := dTr lq25
  have n6 : decide (57 < s[k].toNat) = false := dFa lq25
  exact lw0_40) : p := h
theorem lv51 {p : Prop} (h : p := by
  have hz : preB (s.data.toList.take (k + 1)) = false := by rw [HT1.out]; simp; omega
  have f0 : decide (97 ≤ (s[k].toNat : Int)) = false := dFa lq25
  have f1 : decide ((s[k].toNat : Int) ≤ 122) = true := dTr lq25
  have f2 : decide (65 ≤ (s[k].toNat : Int)) = false := dFa lq25
  have f3 : decide ((s[k].toNat : Int) ≤ 90) = true := dTr lq25
  have f4 : ((s[k].toNat : Int) == 95) = false := by rw [HX.out]; simp; omega
  have f5 : decide ((s[k].toNat : Int) < 48) = false := dFa lq25
  have f6 : decide (57 < (s[k].toNat : Int)) = true := dTr lq25
  have n0 : decide (97 ≤ s[k].toNat) = false := dFa lq25
  have n1 : decide (s[k].toNat ≤ 122) = true := dTr lq25
  have n2 : decide (65 ≤ s[k].toNat) = false := dFa lq25
  have n3 : decide (s[k].toNat ≤ 90) = true := dTr lq25
  have n4 : (s[k].toNat == 95) = false := by rw [HX.out]; simp; omega
  have n5 : decide (s[k].toNat < 48) = false := dFa lq25
  have n6 : decide (57 < s[k].toNat) = true := dTr lq25
  exact lw0_40) : p := h
theorem lv52 {p : Prop} (h : p := by
  have hz : preB (s.data.toList.take (k + 1)) = false := by rw [HT1.out]; simp; omega
  have f0 : decide (97 ≤ (s[k].toNat : Int)) = false := dFa lq25
  have f1 : decide ((s[k].toNat : Int) ≤ 122) = true := dTr lq25
  have f2 : decide (65 ≤ (s[k].toNat : Int)) = true := dTr lq25
  have f3 : decide ((s[k].toNat : Int) ≤ 90) = false := dFa lq25
  have f4 : ((s[k].toNat : Int) == 95) = false := by rw [HX.out]; simp; omega
  have f5 : decide ((s[k].toNat : Int) < 48) = false := dFa lq25
  have f6 : decide (57 < (s[k].toNat : Int)) = true := dTr lq25
  have n0 : decide (97 ≤ s[k].toNat) = false := dFa lq25
  have n1 : decide (s[k].toNat ≤ 122) = true := dTr lq25
  exact lw0_20) : p := h
theorem lv53 {p : Prop} (h : p := by
  have hz : preB (s.data.toList.take (k + 1)) = false := by rw [HT1.out]; simp; omega
  have f0 : decide (97 ≤ (s[k].toNat : Int)) = true := dTr lq25
  have f1 : decide ((s[k].toNat : Int) ≤ 122) = false := dFa lq25
  have f2 : decide (65 ≤ (s[k].toNat : Int)) = true := dTr lq25
  have f3 : decide ((s[k].toNat : Int) ≤ 90) = false := dFa lq25
  have f4 : ((s[k].toNat : Int) == 95) = false := by rw [HX.out]; simp; omega
  have f5 : decide ((s[k].toNat : Int) < 48) = false := dFa lq25
  have f6 : decide (57 < (s[k].toNat : Int)) = true := dTr lq25
  have n0 : decide (97 ≤ s[k].toNat) = true := dTr lq25
  have n1 : decide (s[k].toNat ≤ 122) = false := dFa lq25
  exact lw0_20) : p := h
theorem lv54 {p : Prop} (h : p := by
  clear h2'
  obtain ⟨hm1, hm2, hrm, hw32, hk1, hk2, ⟨hk64a, hk64b⟩, ⟨ha64a, ha64b⟩, hts, hKs, HK⟩ := hN.hd
  have hcc := bxn w T A c K d
  rw [hk] at hcc
  obtain ⟨hb1, c0, c1, c2, c3, c4, c5⟩ := hcc
  unfold ndV
  rw [hk]
  clear hk
  clear hKs hN
  go_enter Tryz.func91, Tryz.ntmps91
  go_wp2_with (first | (go_at_call 34; refine (HBa.out _ hb1).mono ?_; rintro e w_1 ⟨he1, hq1⟩; rw [G0.out] at he1; subst he1; have hw1 := hb1.trans (hq1.mono hb1.size); obtain ⟨a1_0, a1_1, a1_2, a1_3, a1_4, a1_5⟩ := cl6 hq1 c0 c1 c2 c3 c4 c5; have hl1 := blt a1_0) | (go_at_call 153; refine (HCm.out _ hw1).mono ?_; rintro e w_2 ⟨he2, hq2⟩; rw [G1.out] at he2; subst he2; have hw2 := hw1.trans (hq2.mono hw1.size); obtain ⟨a2_0, a2_1, a2_2, a2_3, a2_4, a2_5⟩ := cl6 hq2 a1_0 a1_1 a1_2 a1_3 a1_4 a1_5; have hl2 := blt a2_0) | (go_at_call 152; refine (HEx.out _ hw2).mono ?_; rintro e w_3 ⟨he3, hq3⟩; rw [G3.out] at he3; subst he3; have hw3 := hw2.trans (hq3.mono hw2.size); obtain ⟨a3_0, a3_1, a3_2, a3_3, a3_4, a3_5⟩ := cl6 hq3 a2_0 a2_1 a2_2 a2_3 a2_4 a2_5; have hl3 := blt a3_0))
  go_ret
  exact ⟨by rw [HV.out]; rfl, hw3⟩) : p := h
theorem lv55 {p : Prop} (h : p := by
  clear h2'
  obtain ⟨hm1, hm2, hrm, hw32, hk1, hk2, ⟨hk64a, hk64b⟩, ⟨ha64a, ha64b⟩, hts, hKs, HK⟩ := hN.hd
  have hcc := bxn w T A c K d
  rw [hk] at hcc
  obtain ⟨hb1, c0, c1, c2, c3, c4, c5⟩ := hcc
  unfold ndV
  rw [hk]
  clear hk
  clear hKs hN
  go_enter Tryz.func91, Tryz.ntmps91
  go_wp2_with (first | (go_at_call 34; refine (HBa.out _ hb1).mono ?_; rintro e w_1 ⟨he1, hq1⟩; rw [G0.out] at he1; subst he1; have hw1 := hb1.trans (hq1.mono hb1.size); obtain ⟨a1_0, a1_1, a1_2, a1_3, a1_4, a1_5⟩ := cl6 hq1 c0 c1 c2 c3 c4 c5; have hl1 := blt a1_0) | (go_at_call 92; refine (HNm.out _ hw1).mono ?_; rintro e w_2 ⟨he2, hq2⟩; rw [G1.out] at he2; subst he2; have hw2 := hw1.trans (hq2.mono hw1.size); obtain ⟨a2_0, a2_1, a2_2, a2_3, a2_4, a2_5⟩ := cl6 hq2 a1_0 a1_1 a1_2 a1_3 a1_4 a1_5; have hl2 := blt a2_0) | (go_at_call 152; refine (HEx.out _ hw2).mono ?_; rintro e w_3 ⟨he3, hq3⟩; rw [G3.out] at he3; subst he3; have hw3 := hw2.trans (hq3.mono hw2.size); obtain ⟨a3_0, a3_1, a3_2, a3_3, a3_4, a3_5⟩ := cl6 hq3 a2_0 a2_1 a2_2 a2_3 a2_4 a2_5; have hl3 := blt a3_0))
  go_ret
  exact ⟨by rw [HV.out]; rfl, hw3⟩) : p := h
theorem lv56 {p : Prop} (h : p := by
  clear h2'
  obtain ⟨hm1, hm2, hrm, hw32, hk1, hk2, ⟨hk64a, hk64b⟩, ⟨ha64a, ha64b⟩, hts, hKs, HK⟩ := hN.hd
  have hcc := bxn w T A c K d
  rw [hk] at hcc
  obtain ⟨hb1, c0, c1, c2, c3, c4, c5⟩ := hcc
  unfold ndV
  rw [hk]
  clear hk
  clear hKs hN
  go_enter Tryz.func91, Tryz.ntmps91
  go_wp2_with (first | (go_at_call 34; refine (HBa.out _ hb1).mono ?_; rintro e w_1 ⟨he1, hq1⟩; rw [G0.out] at he1; subst he1; have hw1 := hb1.trans (hq1.mono hb1.size); obtain ⟨a1_0, a1_1, a1_2, a1_3, a1_4, a1_5⟩ := cl6 hq1 c0 c1 c2 c3 c4 c5; have hl1 := blt a1_0) | (go_at_call 89; refine (HOp.out _ hw1).mono ?_; rintro e w_2 ⟨he2, hq2⟩; rw [G1.out] at he2; subst he2; have hw2 := hw1.trans (hq2.mono hw1.size); obtain ⟨a2_0, a2_1, a2_2, a2_3, a2_4, a2_5⟩ := cl6 hq2 a1_0 a1_1 a1_2 a1_3 a1_4 a1_5; have hl2 := blt a2_0) | (go_at_call 152; refine (HEx.out _ hw2).mono ?_; rintro e w_3 ⟨he3, hq3⟩; rw [G3.out] at he3; subst he3; have hw3 := hw2.trans (hq3.mono hw2.size); obtain ⟨a3_0, a3_1, a3_2, a3_3, a3_4, a3_5⟩ := cl6 hq3 a2_0 a2_1 a2_2 a2_3 a2_4 a2_5; have hl3 := blt a3_0))
  go_ret
  exact ⟨by rw [HV.out]; rfl, hw3⟩) : p := h
theorem lv57 {p : Prop} (h : p := by
  obtain ⟨hm1, hm2, hrm, hw32, hk1, hk2, ⟨hk64a, hk64b⟩, ⟨ha64a, ha64b⟩, hts, hKs, HK⟩ := hN.hd
  have hcc := bxn w T A c K d
  rw [hk] at hcc
  obtain ⟨hb1, c0, c1, c2, c3, c4, c5⟩ := hcc
  unfold ndV
  rw [hk]
  clear hk
  clear hKs hN
  go_enter Tryz.func49, Tryz.ntmps49
  go_wp2_with (first | (go_at_call 34; refine (HBa.out _ hb1).mono ?_; rintro e w_1 ⟨he1, hq1⟩; rw [G1.out] at he1; subst he1; have hw1 := hb1.trans (hq1.mono hb1.size); obtain ⟨a100, a101, a102, a103, a104, a105⟩ := cl6 hq1 c0 c1 c2 c3 c4 c5; have hl1g0 := blt a100) | (go_at_call 92; refine (HNm.out _ hw1).mono ?_; rintro e w_2 ⟨he2, hq2⟩; rw [G2.out] at he2; subst he2; have hw2 := hw1.trans (hq2.mono hw1.size); obtain ⟨a200, a201, a202, a203, a204, a205⟩ := cl6 hq2 a100 a101 a102 a103 a104 a105; have hl2g0 := blt a200) | (go_at_call 93; refine (HDf.out _ hw2).mono ?_; rintro e w_3 ⟨he3, hq3⟩; rw [G3.out] at he3; subst he3; have hw3 := hw2.trans (hq3.mono hw2.size); obtain ⟨a300, a301, a302, a303, a304, a305⟩ := cl6 hq3 a200 a201 a202 a203 a204 a205; have hl3g0 := blt a300))
  go_ret
  exact ⟨by rw [HV.out]; rfl, hw3⟩) : p := h
theorem lv58 {p : Prop} (h : p := by
  clear h0' h3'
  obtain ⟨hm1, hm2, hrm, hw32, hk1, hk2, ⟨hk64a, hk64b⟩, ⟨ha64a, ha64b⟩, hts, hKs, HK⟩ := hN.hd
  obtain ⟨hb1, c0, c1, c2, c3, c4, c5⟩ := bxn w T A c K d
  unfold ndV
  clear hKs hN
  go_enter Tryz.func196, Tryz.ntmps196
  go_wp2_with (first | (go_at_call 92; refine (HNm.out _ hb1).mono ?_; rintro e w_1 ⟨he1, hq1⟩; rw [G1.out] at he1; subst he1; have hw1 := hb1.trans (hq1.mono hb1.size); obtain ⟨a1_0, a1_1, a1_2, a1_3, a1_4, a1_5⟩ := cl6 hq1 c0 c1 c2 c3 c4 c5; have hl1 := blt a1_0) | (go_at_call 34; refine (HBa.out _ hw1).mono ?_; rintro e w_2 ⟨he2, hq2⟩; rw [G2.out] at he2; subst he2; have hw2 := hw1.trans (hq2.mono hw1.size); obtain ⟨a2_0, a2_1, a2_2, a2_3, a2_4, a2_5⟩ := cl6 hq2 a1_0 a1_1 a1_2 a1_3 a1_4 a1_5; have hl2 := blt a2_0) | (go_at_call 152; refine (HEx.out _ hw2).mono ?_; rintro e w_3 ⟨he3, hq3⟩; rw [G4.out] at he3; subst he3; have hw3 := hw2.trans (hq3.mono hw2.size); obtain ⟨a3_0, a3_1, a3_2, a3_3, a3_4, a3_5⟩ := cl6 hq3 a2_0 a2_1 a2_2 a2_3 a2_4 a2_5; have hl3 := blt a3_0))
  go_ret
  exact ⟨by rw [HV.out]; rfl, hw3⟩) : p := h
theorem lv59 {p : Prop} (h : p := by
  have hz : preB (s.data.toList.take (k + 1)) = true := by rw [HT1.out]; simp; omega
  have f0 : decide (97 ≤ (s[k].toNat : Int)) = false := dFa lq25
  have f1 : decide ((s[k].toNat : Int) ≤ 122) = true := dTr lq25
  have f2 : decide (65 ≤ (s[k].toNat : Int)) = true := dTr lq25
  have f3 : decide ((s[k].toNat : Int) ≤ 90) = true := dTr lq25
  have f4 : ((s[k].toNat : Int) == 95) = false := by rw [HX.out]; simp; omega
  have f5 : decide (48 ≤ (s[k].toNat : Int)) = true := dTr lq25
  have f6 : decide ((s[k].toNat : Int) ≤ 57) = false := dFa lq25
  have n0 : decide (97 ≤ s[k].toNat) = false := dFa lq25
  have n1 : decide (s[k].toNat ≤ 122) = true := dTr lq25
  have n2 : decide (65 ≤ s[k].toNat) = true := dTr lq25
  have n3 : decide (s[k].toNat ≤ 90) = true := dTr lq25
  exact lw0_29) : p := h
theorem lv60 {p : Prop} (h : p := by
  have hz : preB (s.data.toList.take (k + 1)) = true := by rw [HT1.out]; simp; omega
  have f0 : decide (97 ≤ (s[k].toNat : Int)) = true := dTr lq25
  have f1 : decide ((s[k].toNat : Int) ≤ 122) = true := dTr lq25
  have f2 : decide (65 ≤ (s[k].toNat : Int)) = true := dTr lq25
  have f3 : decide ((s[k].toNat : Int) ≤ 90) = false := dFa lq25
  have f4 : ((s[k].toNat : Int) == 95) = false := by rw [HX.out]; simp; omega
  have f5 : decide (48 ≤ (s[k].toNat : Int)) = true := dTr lq25
  have f6 : decide ((s[k].toNat : Int) ≤ 57) = false := dFa lq25
  have n0 : decide (97 ≤ s[k].toNat) = true := dTr lq25
  have n1 : decide (s[k].toNat ≤ 122) = true := dTr lq25
  have n2 : decide (65 ≤ s[k].toNat) = true := dTr lq25
  have n3 : decide (s[k].toNat ≤ 90) = false := dFa lq25
  exact lw0_29) : p := h
theorem lv61 {p : Prop} (h : p := by
  have hz : preB (s.data.toList.take (k + 1)) = true := by rw [HT1.out]; simp; omega
  have f0 : decide (97 ≤ (s[k].toNat : Int)) = false := dFa lq25
  have f1 : decide ((s[k].toNat : Int) ≤ 122) = true := dTr lq25
  have f2 : decide (65 ≤ (s[k].toNat : Int)) = true := dTr lq25
  have f3 : decide ((s[k].toNat : Int) ≤ 90) = true := dTr lq25
  have f4 : ((s[k].toNat : Int) == 95) = false := by rw [HX.out]; simp; omega
  have f5 : decide ((s[k].toNat : Int) < 48) = false := dFa lq25
  have f6 : decide (57 < (s[k].toNat : Int)) = true := dTr lq25
  have n0 : decide (97 ≤ s[k].toNat) = false := dFa lq25
  have n1 : decide (s[k].toNat ≤ 122) = true := dTr lq25
  have n2 : decide (65 ≤ s[k].toNat) = true := dTr lq25
  have n3 : decide (s[k].toNat ≤ 90) = true := dTr lq25
  exact lw0_30) : p := h
theorem lv62 {p : Prop} (h : p := by
  have hz : preB (s.data.toList.take (k + 1)) = true := by rw [HT1.out]; simp; omega
  have f0 : decide (97 ≤ (s[k].toNat : Int)) = true := dTr lq25
  have f1 : decide ((s[k].toNat : Int) ≤ 122) = true := dTr lq25
  have f2 : decide (65 ≤ (s[k].toNat : Int)) = true := dTr lq25
  have f3 : decide ((s[k].toNat : Int) ≤ 90) = false := dFa lq25
  have f4 : ((s[k].toNat : Int) == 95) = false := by rw [HX.out]; simp; omega
  have f5 : decide ((s[k].toNat : Int) < 48) = false := dFa lq25
  have f6 : decide (57 < (s[k].toNat : Int)) = true := dTr lq25
  have n0 : decide (97 ≤ s[k].toNat) = true := dTr lq25
  have n1 : decide (s[k].toNat ≤ 122) = true := dTr lq25
  have n2 : decide (65 ≤ s[k].toNat) = true := dTr lq25
  have n3 : decide (s[k].toNat ≤ 90) = false := dFa lq25
  exact lw0_30) : p := h
theorem lv63 {p : Prop} (h : p := by
  have hz : preB (s.data.toList.take (k + 1)) = true := by rw [HT1.out]; simp; omega
  have f0 : decide (97 ≤ (s[k].toNat : Int)) = false := dFa lq25
  have f1 : decide ((s[k].toNat : Int) ≤ 122) = true := dTr lq25
  have f2 : decide (65 ≤ (s[k].toNat : Int)) = true := dTr lq25
  have f3 : decide ((s[k].toNat : Int) ≤ 90) = false := dFa lq25
  have f4 : ((s[k].toNat : Int) == 95) = true := by rw [HX.out, h]; rfl
  have f5 : decide (48 ≤ (s[k].toNat : Int)) = true := dTr lq25
  have f6 : decide ((s[k].toNat : Int) ≤ 57) = false := dFa lq25
  have n0 : decide (97 ≤ s[k].toNat) = false := dFa lq25
  have n1 : decide (s[k].toNat ≤ 122) = true := dTr lq25
  have n2 : decide (65 ≤ s[k].toNat) = true := dTr lq25
  have n3 : decide (s[k].toNat ≤ 90) = false := dFa lq25
  have n4 : (s[k].toNat == 95) = true := by rw [HX.out, h]; rfl
  have n5 : decide (48 ≤ s[k].toNat) = true := dTr lq25
  have n6 : decide (s[k].toNat ≤ 57) = false := dFa lq25
  clear h
  go_wp2_with fail
  go_roundw
  case rel => exact ⟨k + 1, by go_num, by omega, Lh hz, hbr⟩
  case measure => simp [intOf]; omega) : p := h
theorem lv64 {p : Prop} (h : p := by
  have hz : preB (s.data.toList.take (k + 1)) = true := by rw [HT1.out]; simp; omega
  have f0 : decide (97 ≤ (s[k].toNat : Int)) = false := dFa lq25
  have f1 : decide ((s[k].toNat : Int) ≤ 122) = true := dTr lq25
  have f2 : decide (65 ≤ (s[k].toNat : Int)) = true := dTr lq25
  have f3 : decide ((s[k].toNat : Int) ≤ 90) = false := dFa lq25
  have f4 : ((s[k].toNat : Int) == 95) = true := by rw [HX.out, h]; rfl
  have f5 : decide ((s[k].toNat : Int) < 48) = false := dFa lq25
  have f6 : decide (57 < (s[k].toNat : Int)) = true := dTr lq25
  have n0 : decide (97 ≤ s[k].toNat) = false := dFa lq25
  have n1 : decide (s[k].toNat ≤ 122) = true := dTr lq25
  have n2 : decide (65 ≤ s[k].toNat) = true := dTr lq25
  have n3 : decide (s[k].toNat ≤ 90) = false := dFa lq25
  have n4 : (s[k].toNat == 95) = true := by rw [HX.out, h]; rfl
  have n5 : decide (s[k].toNat < 48) = false := dFa lq25
  have n6 : decide (57 < s[k].toNat) = true := dTr lq25
  clear h
  go_wp2_with fail
  go_roundw
  case rel => exact ⟨k + 1, by go_num, by omega, Lh hz, hbr⟩
  case measure => simp [intOf]; omega) : p := h
theorem lv65 {p : Prop} (h : p := by
  go_wp2_with fail
  have hWa := hW_1.alloc (.cells #[.string { data := #[46] }, .string (T.text)] 9)
  have hKa := hK_1.alloc (Nat.le_trans hB0 hK_1.b.size) (.cells #[.string { data := #[46] }, .string (T.text)] 9)
  have hbxa := (Lib.alloc_old _ (.cells #[.string { data := #[46] }, .string (T.text)] 9) _ hlb).trans hbx
  go_at_call 84
  refine (wSayT_ok w0.heap.size X dep _ ([46] ++ tx T) [⟨#[46]⟩, T.text] 2 _ _ hWa rfl (WrT.lt hW_1) (heap_alloc_new _ _) (by simp [tx]) lq28 lq8 (Nat.le_trans hB0 hKa.b.size)).mono ?_
  rintro e w_2 ⟨rfl, hW_2, hk_2⟩
  have hK_2 := hKa.trans hk_2
  have hbx := box_keep hk_2 hbxa hbX
  have hB_2 : Below w0.heap.size w0 w_2 := hBs.trans hK_2.b
  obtain ⟨c0, c1, c2, c3, c4, c5⟩ := (cells_box hbx).box
  have hlb := blt c0
  obtain ⟨n00, n01, n02, n03, n04, n05⟩ := hC0.later hB_2
  have hlk0 := blt n00
  exact lw0_37) : p := h
theorem lv66 {p : Prop} (h : p := by
  have hU := Up.start h0 hp0 hp1
  go_enter Tryz.func44, Tryz.ntmps44
  go_wp2_with fail
  go_at_call 61
  refine (textQ_ok (w := w) (Q := (fun k => k = w.heap.size ∨ k = P)) (fun k hk => by have := hU.p1; omega) signsL 8 _ _ rfl lq28 lq28 rfl).mono ?_
  rintro e w0t ⟨⟨vt, rfl, hvt⟩, hbt⟩
  have hU := (hU.alloc _).call hbt
  obtain ⟨gt, cpt, hve, _⟩ := id hvt
  subst hve
  go_wp2_with fail
  go_at_call 64
  refine (ofQ_ok (D := D) hRi hU.q (hU.tabs hT) 31).mono ?_
  rintro e w1 ⟨⟨v1, rfl, hv1⟩, hb1⟩
  have hvt := hvt.later hb1
  have hU := hU.call hb1
  obtain ⟨g1, cp1, hve, _⟩ := id hv1
  subst hve
  go_wp2_with fail
  go_at_call 65
  refine (someQ_ok (D := D) hU.q _ _ 1 hv1 lq28).mono ?_
  exact lw0_26) : p := h
theorem lv67 {p : Prop} (h : p := by
  have o1 : decide ((k : Int) < (n : Int) - 3) = false := dFo
  have o1' : decide ((k : Int) < ((n - 3 : Nat) : Int)) = false := dFo
  have o2 : decide (k < n - 3) = false := dFa hkl
  have hR2 := hR.out
  rw [List.take_of_length_le (by rw [List.length_drop, List.length_map]; have := HNn.out; omega)] at hR2
  have hbw : Below w0.heap.size w0 wr := hBs.trans hbr.out.b
  have hXw : X < wr.heap.size := hR2.lt
  have hWa := hR2.alloc (.cells #[.string sh] 9)
  have hKa := (WK.refl w0.heap.size X wr).alloc hbw.size (.cells #[.string sh] 9)
  have HS := Lh (wSayT_ok w0.heap.size X dep _ sh.data.toList [sh] 1 _ _ hWa rfl hXw (heap_alloc_new _ _) lq30 lq28 (by have h := HLN.out; simp only [length_append, length_cons, length_nil] at h ⊢; omega) (Nat.le_trans hbw.size hKa.b.size))
  have HKA := Lh hKa
  clear hR2 hWa hKa
  go_wp2_with fail
  go_at_call 84
  refine HS.out.mono ?_
  rintro e w2 ⟨rfl, hw2, hk2⟩
  go_wp2_with fail
  go_end0
  exact ⟨rfl, hw2.eq (by rw [HTX.out]; simp only [List.append_assoc]), hbr.out.trans (HKA.out.trans hk2)⟩) : p := h
theorem lv68 {p : Prop} (h : p := by
  exact lw0_3) : p := h
theorem lv69 {p : Prop} (h : p := by
  exact lw0_4) : p := h
theorem lv70 {p : Prop} (h : p := by
  have G2 := Lh hc2
  clear hc2
  have HV := Lh (show Sh.stmt.ev Nd.right T = false by rw [HEV0.out]; simp [G1.out, G2.out])
  obtain ⟨hm1, hm2, hrm, hw32, hk1, hk2, ⟨hk64a, hk64b⟩, ⟨ha64a, ha64b⟩, hts, hKs, HK⟩ := hN.hd
  have hcc := bxn w T A c K d
  rw [hk] at hcc
  obtain ⟨hb1, c0, c1, c2, c3, c4, c5⟩ := hcc
  unfold ndV
  rw [hk]
  clear hk
  clear hKs hN
  go_enter Tryz.func49, Tryz.ntmps49
  go_wp2_with (first | (go_at_call 34; refine (HBa.out _ hb1).mono ?_; rintro e w_1 ⟨he1, hq1⟩; rw [G1.out] at he1; subst he1; have hw1 := hb1.trans (hq1.mono hb1.size); obtain ⟨a100, a101, a102, a103, a104, a105⟩ := cl6 hq1 c0 c1 c2 c3 c4 c5; have hl1g0 := blt a100) | (go_at_call 92; refine (HNm.out _ hw1).mono ?_; rintro e w_2 ⟨he2, hq2⟩; rw [G2.out] at he2; subst he2; have hw2 := hw1.trans (hq2.mono hw1.size); obtain ⟨a200, a201, a202, a203, a204, a205⟩ := cl6 hq2 a100 a101 a102 a103 a104 a105; have hl2g0 := blt a200))
  go_ret
  exact ⟨by rw [HV.out]; rfl, hw2⟩) : p := h
theorem lv71 {p : Prop} (h : p := by
  have G1 := Lh hc1
  clear hc1
  have HV := Lh (show Sh.expr.ev Nd.right T = false by rw [HEV.out]; simp [G0.out, G1.out])
  exact lw0_8) : p := h
theorem lv72 {p : Prop} (h : p := by
  have HV := Lh (show Sh.expr.ev Nd.right T = false by rw [HEV.out]; simp [G0.out, G1.out, g2])
  clear h2'
  exact lw0_8) : p := h
theorem lv73 {p : Prop} (h : p := by
  rintro e w_1 ⟨rfl, hW_1, hk_1⟩
  have hK_1 := hKa.trans hk_1
  have hbx := box_keep hk_1 hbxa hbX
  have hB_1 : Below w0.heap.size w0 w_1 := hBs.trans hK_1.b
  obtain ⟨c0, c1, c2, c3, c4, c5⟩ := (cells_box hbx).box
  have hlb := blt c0
  have hlX := WrT.lt hW_1
  go_wp2_with fail
  have hI := wList_ok 81 run_expr w0 X dep Nd.txt _ T.kids T.kids.length K d _ rfl HKA.out HFA.out hk1 hk2' hB_1 hW_1 lq8
  go_at_call 85
  refine hI.mono ?_
  rintro e w_2 ⟨rfl, hW_2, hk_2⟩
  have hK_2 := hK_1.trans hk_2
  have hbx := box_keep hk_2 hbx hbX
  clear hI
  have hB_2 : Below w0.heap.size w0 w_2 := hBs.trans hK_2.b
  obtain ⟨c0, c1, c2, c3, c4, c5⟩ := (cells_box hbx).box
  have hlb := blt c0
  have hlX := WrT.lt hW_2
  go_wp2_with fail
  ((try simp only [Exit.inBlock, Exit.then]); first | refine bodyPost_end (results_none rfl _ _ _) rfl ?_ | refine bodyPost_ret (results_none rfl _ _ _) rfl ?_)
  exact ⟨rfl, hW_2.eq lq10, hK_2⟩) : p := h
theorem lv74 {p : Prop} (h : p := by
  have hoK := nodeAt_okN T hN
  have hzT := ba_len hoK hWt
  clear hoK hts
  obtain ⟨hm1, hm2, hrm, hw32, hk1, hk2, ⟨hk64a, hk64b⟩, ⟨ha64a, ha64b⟩, hts, hKs, HK⟩ := hN.hd
  obtain ⟨hb1, c0, c1, c2, c3, c4, c5⟩ := bxn w T A c (some ⟨b, off, none⟩) d
  obtain ⟨n00, n01, n02, n03, n04, n05⟩ := hC0.later hb1
  have hlk0 := blt n00
  unfold ndV
  clear hKs hN hR hT hD hWt hk hrm hw32 hlen3 hks hg0 hN0 hd0 hm0
  go_enter Tryz.func99, Tryz.ntmps99
  go_wp2_with fail
  have hI := HR0.out _ hb1
  unfold ndV at hI
  go_at_call 99
  refine hI.mono ?_
  rintro e w_1 ⟨rfl, hb_1⟩
  clear hI
  have hB_1 := hb1.trans (hb_1.mono hb1.size)
  obtain ⟨c0, c1, c2, c3, c4, c5⟩ := cl6 hb_1 c0 c1 c2 c3 c4 c5
  have hlb := blt c0
  obtain ⟨n00, n01, n02, n03, n04, n05⟩ := hC0.later hB_1
  have hlk0 := blt n00
  go_wp2_with fail
  go_ret
  exact ⟨by rw [HTX.out]; (try simp only [← ba_app, ba_text]); rfl, hB_1⟩) : p := h
theorem lv75 {p : Prop} (h : p := by
  exact lw0_5) : p := h
theorem lv76 {p : Prop} (h : p := by
  have g3 : (T.kids.length == 2) = false := by simp [h3']
  have el : ((T.kids.length : Int) == 2) = false := bFo
  have elb : ((T.kids.length : Int) != 2) = true := bne_iff_ne.2 lq29
  exact lw0_11) : p := h
theorem lv77 {p : Prop} (h : p := by
  exact lw0_6) : p := h
theorem lv78 {p : Prop} (h : p := by
  have HL2 := Lh hl2
  clear hl2
  clear hKs hN hlen hE hTg hT hD hWt hrm hw32 hk hts 
  obtain ⟨c0, c1, c2, c3, c4, c5⟩ := (cells_box hbx).box
  have hlb := blt c0
  have hlX := WrT.lt hWb
  unfold ndV
  go_enter Tryz.func81, Tryz.ntmps81
  go_wp2_with fail
  have hI := wTwo_ok T.text T.kids T.kids.length K d w0 X dep _ _ rfl HL2.out HKA.out HFA.out hk1 hk2' hBb hWb _ rfl lq8
  exact lw0_18) : p := h
theorem lv79 {p : Prop} (h : p := by
  clear h2'
  obtain ⟨hm1, hm2, hrm, hw32, hk1, hk2, ⟨hk64a, hk64b⟩, ⟨ha64a, ha64b⟩, hts, hKs, HK⟩ := hN.hd
  have hcc := bxn w T A c K d
  rw [hk] at hcc
  obtain ⟨hb1, c0, c1, c2, c3, c4, c5⟩ := hcc
  unfold ndV
  rw [hk]
  clear hk
  clear hKs hN
  go_enter Tryz.func49, Tryz.ntmps49
  go_wp2_with (first | (go_at_call 34; refine (HBa.out _ hb1).mono ?_; rintro e w_1 ⟨he1, hq1⟩; rw [G1.out] at he1; subst he1; have hw1 := hb1.trans (hq1.mono hb1.size); obtain ⟨a100, a101, a102, a103, a104, a105⟩ := cl6 hq1 c0 c1 c2 c3 c4 c5; have hl1g0 := blt a100) | (go_at_call 98; refine (HTr.out _ hw1).mono ?_; rintro e w_2 ⟨he2, hq2⟩; rw [G3.out] at he2; subst he2; have hw2 := hw1.trans (hq2.mono hw1.size); obtain ⟨a200, a201, a202, a203, a204, a205⟩ := cl6 hq2 a100 a101 a102 a103 a104 a105; have hl2g0 := blt a200))
  go_ret
  exact ⟨by rw [HV.out]; rfl, hw2⟩) : p := h
theorem lv80 {p : Prop} (h : p := by
  have hoK := nodeAt_okN T hN
  have hzT := ba_len hoK hWt
  clear hoK hts
  obtain ⟨hm1, hm2, hrm, hw32, hk1, hk2, ⟨hk64a, hk64b⟩, ⟨ha64a, ha64b⟩, hts, hKs, HK⟩ := hN.hd
  obtain ⟨hb1, c0, c1, c2, c3, c4, c5⟩ := bxn w T A c K d
  unfold ndV
  clear hKs hN hR hT hD hWt hk hrm hw32 hks hlen3 hbig
  go_enter Tryz.func99, Tryz.ntmps99
  go_wp2_with fail
  have hI := rRow_ok D HR.out ([32] ++ tx T ++ [32]) T.kids T.kids.length _ d _ rfl (HKA.out.later hb1) HTE.out HWI.out HWL.out (by (have ht : (tx T).length = T.text.size := (by simp [tx])); (simp only [length_append, length_cons, length_nil]); omega) hk1 hk2'
  rw [HSP.out, HY.out] at hI
  go_at_call 101
  refine hI.mono ?_
  rintro e w_1 ⟨rfl, hb_1⟩
  clear hI
  have hB_1 := hb1.trans (hb_1.mono hb1.size)
  go_wp2_with fail
  go_ret
  exact ⟨by rw [HTX.out]; (try simp only [← ba_app, ba_text]); rw [HY.out]; rfl, hB_1⟩) : p := h
theorem lv81 {p : Prop} (h : p := by
  clear h2'
  obtain ⟨hm1, hm2, hrm, hw32, hk1, hk2, ⟨hk64a, hk64b⟩, ⟨ha64a, ha64b⟩, hts, hKs, HK⟩ := hN.hd
  have hcc := bxn w T A c K d
  rw [hk] at hcc
  obtain ⟨hb1, c0, c1, c2, c3, c4, c5⟩ := hcc
  unfold ndV
  rw [hk]
  clear hk
  clear hKs hN
  go_enter Tryz.func91, Tryz.ntmps91
  go_wp2_with (first | (go_at_call 34; refine (HBa.out _ hb1).mono ?_; rintro e w_1 ⟨he1, hq1⟩; rw [G0.out] at he1; subst he1; have hw1 := hb1.trans (hq1.mono hb1.size); obtain ⟨a1_0, a1_1, a1_2, a1_3, a1_4, a1_5⟩ := cl6 hq1 c0 c1 c2 c3 c4 c5; have hl1 := blt a1_0) | (go_at_call 151; refine (HGd.out _ hw1).mono ?_; rintro e w_2 ⟨he2, hq2⟩; rw [G1.out] at he2; subst he2; have hw2 := hw1.trans (hq2.mono hw1.size); obtain ⟨a2_0, a2_1, a2_2, a2_3, a2_4, a2_5⟩ := cl6 hq2 a1_0 a1_1 a1_2 a1_3 a1_4 a1_5; have hl2 := blt a2_0))
  go_ret
  exact ⟨by rw [HV.out]; rfl, hw2⟩) : p := h
theorem lv82 {p : Prop} (h : p := by
  clear h1'
  obtain ⟨hm1, hm2, hrm, hw32, hk1, hk2, ⟨hk64a, hk64b⟩, ⟨ha64a, ha64b⟩, hts, hKs, HK⟩ := hN.hd
  have hcc := bxn w T A c K d
  rw [hk] at hcc
  obtain ⟨hb1, c0, c1, c2, c3, c4, c5⟩ := hcc
  unfold ndV
  rw [hk]
  clear hk
  clear hKs hN
  go_enter Tryz.func91, Tryz.ntmps91
  go_wp2_with (first | (go_at_call 34; refine (HBa.out _ hb1).mono ?_; rintro e w_1 ⟨he1, hq1⟩; rw [G0.out] at he1; subst he1; have hw1 := hb1.trans (hq1.mono hb1.size); obtain ⟨a1_0, a1_1, a1_2, a1_3, a1_4, a1_5⟩ := cl6 hq1 c0 c1 c2 c3 c4 c5; have hl1 := blt a1_0) | (go_at_call 157; refine (HCl.out _ hw1).mono ?_; rintro e w_2 ⟨he2, hq2⟩; rw [G2.out] at he2; subst he2; have hw2 := hw1.trans (hq2.mono hw1.size); obtain ⟨a2_0, a2_1, a2_2, a2_3, a2_4, a2_5⟩ := cl6 hq2 a1_0 a1_1 a1_2 a1_3 a1_4 a1_5; have hl2 := blt a2_0))
  go_ret
  exact ⟨by rw [HV.out]; rfl, hw2⟩) : p := h
theorem lv83 {p : Prop} (h : p := by
  obtain ⟨hm1, hm2, hrm, hw32, hk1, hk2, ⟨hk64a, hk64b⟩, ⟨ha64a, ha64b⟩, hts, hKs, HK⟩ := hN.hd
  have hcc := bxn w T A c K d
  rw [hk] at hcc
  obtain ⟨hb1, c0, c1, c2, c3, c4, c5⟩ := hcc
  unfold ndV
  rw [hk]
  clear hk
  clear hKs hN
  go_enter Tryz.func49, Tryz.ntmps49
  go_wp2_with (first | (go_at_call 34; refine (HBa.out _ hb1).mono ?_; rintro e w_1 ⟨he1, hq1⟩; rw [G1.out] at he1; subst he1; have hw1 := hb1.trans (hq1.mono hb1.size); obtain ⟨a100, a101, a102, a103, a104, a105⟩ := cl6 hq1 c0 c1 c2 c3 c4 c5; have hl1g0 := blt a100) | (go_at_call 89; refine (HOp.out _ hw1).mono ?_; rintro e w_2 ⟨he2, hq2⟩; rw [G2.out] at he2; subst he2; have hw2 := hw1.trans (hq2.mono hw1.size); obtain ⟨a200, a201, a202, a203, a204, a205⟩ := cl6 hq2 a100 a101 a102 a103 a104 a105; have hl2g0 := blt a200))
  go_ret
  exact ⟨by rw [HV.out]; rfl, hw2⟩) : p := h
theorem lv84 {p : Prop} (h : p := by
  obtain ⟨hm1, hm2, hrm, hw32, hk1, hk2, ⟨hk64a, hk64b⟩, ⟨ha64a, ha64b⟩, hts, hKs, HK⟩ := hN.hd
  have hcc := bxn w T A c K d
  rw [hk] at hcc
  obtain ⟨hb1, c0, c1, c2, c3, c4, c5⟩ := hcc
  unfold ndV
  rw [hk]
  clear hk
  clear hKs hN
  go_enter Tryz.func91, Tryz.ntmps91
  go_wp2_with (first | (go_at_call 34; refine (HBa.out _ hb1).mono ?_; rintro e w_1 ⟨he1, hq1⟩; rw [G0.out] at he1; subst he1; have hw1 := hb1.trans (hq1.mono hb1.size); obtain ⟨a1_0, a1_1, a1_2, a1_3, a1_4, a1_5⟩ := cl6 hq1 c0 c1 c2 c3 c4 c5; have hl1 := blt a1_0) | (go_at_call 153; refine (HCm.out _ hw1).mono ?_; rintro e w_2 ⟨he2, hq2⟩; rw [G1.out] at he2; subst he2; have hw2 := hw1.trans (hq2.mono hw1.size); obtain ⟨a2_0, a2_1, a2_2, a2_3, a2_4, a2_5⟩ := cl6 hq2 a1_0 a1_1 a1_2 a1_3 a1_4 a1_5; have hl2 := blt a2_0))
  go_ret
  exact ⟨by rw [HV.out]; rfl, hw2⟩) : p := h
theorem lv85 {p : Prop} (h : p := by
  obtain ⟨hm1, hm2, hrm, hw32, hk1, hk2, ⟨hk64a, hk64b⟩, ⟨ha64a, ha64b⟩, hts, hKs, HK⟩ := hN.hd
  have hcc := bxn w T A c K d
  rw [hk] at hcc
  obtain ⟨hb1, c0, c1, c2, c3, c4, c5⟩ := hcc
  unfold ndV
  rw [hk]
  clear hk
  clear hKs hN
  go_enter Tryz.func91, Tryz.ntmps91
  go_wp2_with (first | (go_at_call 34; refine (HBa.out _ hb1).mono ?_; rintro e w_1 ⟨he1, hq1⟩; rw [G0.out] at he1; subst he1; have hw1 := hb1.trans (hq1.mono hb1.size); obtain ⟨a1_0, a1_1, a1_2, a1_3, a1_4, a1_5⟩ := cl6 hq1 c0 c1 c2 c3 c4 c5; have hl1 := blt a1_0) | (go_at_call 89; refine (HOp.out _ hw1).mono ?_; rintro e w_2 ⟨he2, hq2⟩; rw [G1.out] at he2; subst he2; have hw2 := hw1.trans (hq2.mono hw1.size); obtain ⟨a2_0, a2_1, a2_2, a2_3, a2_4, a2_5⟩ := cl6 hq2 a1_0 a1_1 a1_2 a1_3 a1_4 a1_5; have hl2 := blt a2_0))
  go_ret
  exact ⟨by rw [HV.out]; rfl, hw2⟩) : p := h
theorem lv86 {p : Prop} (h : p := by
  clear h0' h1' h3'
  obtain ⟨hm1, hm2, hrm, hw32, hk1, hk2, ⟨hk64a, hk64b⟩, ⟨ha64a, ha64b⟩, hts, hKs, HK⟩ := hN.hd
  obtain ⟨hb1, c0, c1, c2, c3, c4, c5⟩ := bxn w T A c K d
  unfold ndV
  clear hKs hN
  go_enter Tryz.func154, Tryz.ntmps154
  exact lw0_15) : p := h
theorem lv87 {p : Prop} (h : p := by
  clear h0' h1' h3'
  obtain ⟨hm1, hm2, hrm, hw32, hk1, hk2, ⟨hk64a, hk64b⟩, ⟨ha64a, ha64b⟩, hts, hKs, HK⟩ := hN.hd
  obtain ⟨hb1, c0, c1, c2, c3, c4, c5⟩ := bxn w T A c K d
  unfold ndV
  clear hKs hN
  go_enter Tryz.func155, Tryz.ntmps155
  exact lw0_15) : p := h
theorem lv88 {p : Prop} (h : p := by
  obtain ⟨hm1, hm2, hrm, hw32, hk1, hk2, ⟨hk64a, hk64b⟩, ⟨ha64a, ha64b⟩, hts, hKs, HK⟩ := hN.hd
  obtain ⟨hb1, c0, c1, c2, c3, c4, c5⟩ := bxn w T A c K d
  unfold ndV
  clear hKs hN
  go_enter Tryz.func196, Tryz.ntmps196
  go_wp2_with (first | (go_at_call 92; refine (HNm.out _ hb1).mono ?_; rintro e w_1 ⟨he1, hq1⟩; rw [G1.out] at he1; subst he1; have hw1 := hb1.trans (hq1.mono hb1.size); obtain ⟨a1_0, a1_1, a1_2, a1_3, a1_4, a1_5⟩ := cl6 hq1 c0 c1 c2 c3 c4 c5; have hl1 := blt a1_0) | (go_at_call 34; refine (HBa.out _ hw1).mono ?_; rintro e w_2 ⟨he2, hq2⟩; rw [G2.out] at he2; subst he2; have hw2 := hw1.trans (hq2.mono hw1.size); obtain ⟨a2_0, a2_1, a2_2, a2_3, a2_4, a2_5⟩ := cl6 hq2 a1_0 a1_1 a1_2 a1_3 a1_4 a1_5; have hl2 := blt a2_0))
  go_ret
  exact ⟨by rw [HV.out]; rfl, hw2⟩) : p := h
theorem lv89 {p : Prop} (h : p := by
  exact lw0_9) : p := h
theorem lv90 {p : Prop} (h : p := by
  have hU := Up.start h0 hp0 hp1
  go_enter Tryz.func44, Tryz.ntmps44
  go_wp2_with fail
  go_at_call 61
  refine (textQ_ok (w := w) (Q := (fun k => k = w.heap.size ∨ k = P)) (fun k hk => by have := hU.p1; omega) signsL 8 _ _ rfl lq28 lq28 rfl).mono ?_
  rintro e w0t ⟨⟨vt, rfl, hvt⟩, hbt⟩
  have hU := (hU.alloc _).call hbt
  obtain ⟨gt, cpt, hve, _⟩ := id hvt
  subst hve
  go_wp2_with fail
  go_at_call 63
  refine (kidsQ_ok (D := D) hU.q [] 0 _ rfl (shapesQ_nil D _ none) lq24).mono ?_
  exact lw0_27) : p := h
theorem lv91 {p : Prop} (h : p := by
  exact lw0_10) : p := h
theorem lv92 {p : Prop} (h : p := by
  obtain ⟨hm1, hm2, hrm, hw32, hk1, hk2, ⟨hk64a, hk64b⟩, ⟨ha64a, ha64b⟩, hts, hKs, HK⟩ := hN.hd
  obtain ⟨hb1, c0, c1, c2, c3, c4, c5⟩ := bxn w T A c K d
  unfold ndV
  clear hKs hN
  go_enter Tryz.func14, Tryz.ntmps14
  go_wp2_with (first | (go_at_call 33; refine (HDe.out _ hb1).mono ?_; rintro e w_1 ⟨rfl, hq1⟩; have hw1 := hb1.trans (hq1.mono hb1.size); obtain ⟨a100, a101, a102, a103, a104, a105⟩ := cl6 hq1 c0 c1 c2 c3 c4 c5; have hl1g0 := blt a100) | (go_at_call 34; refine (HBa.out _ hw1).mono ?_; rintro e w_2 ⟨he2, hq2⟩; rw [G4.out] at he2; subst he2; have hw2 := hw1.trans (hq2.mono hw1.size); obtain ⟨a200, a201, a202, a203, a204, a205⟩ := cl6 hq2 a100 a101 a102 a103 a104 a105; have hl2g0 := blt a200))
  go_ret
  exact ⟨by rw [HV.out]; rfl, hw2⟩) : p := h
theorem lv93 {p : Prop} (h : p := by
  clear hC hCq hCb hNt hNq hNb ht htd hk22 hrt hkq hmq hbb hdt hWIt hdq hdb hokt hzl hlb htz
  go_wp2_with fail
  go_at_call 100
  refine hIq.mono ?_
  rintro e w_5 ⟨rfl, hb_5⟩
  clear hIq
  obtain ⟨m0, p0, s0, m1, p1, s1⟩ := cl6 hb_5 m0 p0 s0 m1 p1 s1
  obtain ⟨m2, p2, s2, m3, p3, s3⟩ := cl6 hb_5 m2 p2 s2 m3 p3 s3
  obtain ⟨m4, p4, s4, m5, p5, s5⟩ := cl6 hb_5 m4 p4 s4 m5 p5 s5
  have hbm := blt m0
  have hbp := blt p0
  have hbs := blt s0
  go_wp2_with fail
  have hI := HIb.out _ hb_5
  unfold ndV at hI
  go_at_call 36
  refine hI.mono ?_
  rintro e w_6 ⟨rfl, hb_6⟩
  clear hI
  go_wp2_with fail
  go_roundw
  case rel => exact ⟨k + 1, by go_num, by rw [← HV.out], by omega, hbr.trans ((hb_5.trans (hb_6.mono hb_5.size)).mono hbr.size)⟩
  case measure => simp [intOf]; omega) : p := h
theorem lv94 {p : Prop} (h : p := by
  have hoK := nodeAt_okN T hN
  have hzT := ba_len hoK hWt
  clear hoK hts
  obtain ⟨hm1, hm2, hrm, hw32, hk1, hk2, ⟨hk64a, hk64b⟩, ⟨ha64a, ha64b⟩, hts, hKs, HK⟩ := hN.hd
  obtain ⟨hb1, c0, c1, c2, c3, c4, c5⟩ := bxn w T A c K d
  unfold ndV
  clear hKs hN hR hT hD hWt hk hrm hw32 
  go_enter Tryz.func99, Tryz.ntmps99
  go_wp2_with fail
  have hI := rRow_ok D HR.out com T.kids T.kids.length _ d _ rfl (HKA.out.later hb1) HTE.out HWI.out HWL.out lq28 hk1 hk2'
  exact lw0_32) : p := h
theorem lv95 {p : Prop} (h : p := by
  have hvt := hvt.later ((Below.refl _ _).alloc (Nat.le_refl _) (.cells #[.func (.func g1) #[] cp1] 69))
  have hv1 := hv1.later ((Below.refl _ _).alloc (Nat.le_refl _) (.cells #[.func (.func g1) #[] cp1] 69))
  have hU := hU.alloc (.cells #[.func (.func g1) #[] cp1] 69)
  go_at_call 63
  refine (kidsQ_ok (D := D) hU.q [Sh.ev Nd.right (.or2 .none .expr)] 1 _ rfl hS lq24).mono ?_
  exact lw0_26) : p := h
theorem lv96 {p : Prop} (h : p := by
  exact lw0_12) : p := h
theorem lv97 {p : Prop} (h : p := by
  exact lw0_13) : p := h
theorem lv98 {p : Prop} (h : p := by
  have HRR := Lh hr
  clear hd h1 hr
  obtain ⟨hm1, hm2, hrm, hw32, hk1, hk2, ⟨hk64a, hk64b⟩, ⟨ha64a, ha64b⟩, hts, hKs, HK⟩ := hN.hd
  obtain ⟨hb1, c0, c1, c2, c3, c4, c5⟩ := bxn w T A c K d
  unfold ndV
  clear hKs hN
  go_enter Tryz.func10, Tryz.ntmps10
  go_wp2_with (first | (go_at_call 11; refine (HDe.out _ hb1).mono ?_; rintro e w3 ⟨rfl, hb3⟩; have hw3 := hb1.trans (hb3.mono hb1.size); obtain ⟨p0, p1, p2, p3, p4, p5⟩ := cl6 hb3 c0 c1 c2 c3 c4 c5; have hl3 := blt p0) | (go_at_call 27; refine (HRi.out _ hw3).mono ?_; rintro e w4 ⟨he4, hb4⟩; rw [HRR.out] at he4; subst he4))
  go_ret
  exact ⟨by rw [HC.out]; rfl, hw3.trans (hb4.mono hw3.size)⟩) : p := h
theorem lv99 {p : Prop} (h : p := by
  have hvt := hvt.later ((Below.refl _ _).alloc (Nat.le_refl _) (.cells #[.func (.func 67) #[] #[], .func (.func 67) #[] #[]] 69))
  have hU := hU.alloc (.cells #[.func (.func 67) #[] #[], .func (.func 67) #[] #[]] 69)
  go_at_call 63
  refine (kidsQ_ok (D := D) hU.q [Sh.ev Nd.right .expr, Sh.ev Nd.right .expr] 2 _ rfl hS lq24).mono ?_
  rintro e w1 ⟨⟨v1, rfl, hv1⟩, hb1⟩
  have hvt := hvt.later hb1
  have hU := hU.call hb1
  obtain ⟨g1, cp1, hve, _⟩ := id hv1
  subst hve
  obtain ⟨_, _, _, _, hsz, r0, r1, z0, z1⟩ := id hU
  go_wp2
  exact bodyPost_ret (v := .agg #[.func (.func gt) #[] cpt, .func (.func g1) #[] cp1]) lq16 rfl (FormR.put hU hvt hv1)) : p := h
theorem lv100 {p : Prop} (h : p := by
  subst hn
  rcases h.2 with ⟨hv, h0⟩ | ⟨g, cap, cur, hv, _, hg, hnc, hcm, hcs, ht⟩
  ·injection hv with hA _ _
   subst hA; have : l = [] := List.length_eq_zero_iff.1 h0; subst this; rw [run_convert_bytes_string w _ _ 5 none _ _ Tryz.underlying40 Tryz.underlying5 Tryz.underlying9]
   rfl
  ·injection hv with hA _ hc
   subst hA
   refine run_convert_bytes_back w _ _ 5 _ _ l Tryz.underlying40 Tryz.underlying5 Tryz.underlying9 ?_
   intro j hj; have h1 : (Lib.byteCells l)[j]? = some (.int .u8 (l[j].toNat : Int)) := by simp [Lib.byteCells, List.getElem?_eq_getElem hj]
   have h2 := World.ownsRow.cells h (g := g) rfl j _ h1; exact h2) : p := h
theorem lv101 {p : Prop} (h : p := by
  have HV := Lh (show Sh.stmt.ev Nd.right T = false by exact HEV.out)
  clear h2'
  obtain ⟨hm1, hm2, hrm, hw32, hk1, hk2, ⟨hk64a, hk64b⟩, ⟨ha64a, ha64b⟩, hts, hKs, HK⟩ := hN.hd
  obtain ⟨hb1, c0, c1, c2, c3, c4, c5⟩ := bxn w T A c K d
  unfold ndV
  exact lw0_23) : p := h
theorem lv102 {p : Prop} (h : p := by
  have HV := Lh (show Sh.expr.ev Nd.right T = false by rw [HEV.out])
  clear h1'
  obtain ⟨hm1, hm2, hrm, hw32, hk1, hk2, ⟨hk64a, hk64b⟩, ⟨ha64a, ha64b⟩, hts, hKs, HK⟩ := hN.hd
  obtain ⟨hb1, c0, c1, c2, c3, c4, c5⟩ := bxn w T A c K d
  unfold ndV
  exact lw0_24) : p := h
theorem lv103 {p : Prop} (h : p := by
  unfold ndV at hI
  go_at_call 148
  refine hI.mono ?_
  rintro e w_1 ⟨rfl, hW_1, hk_1⟩
  have hK_1 := hK0.trans hk_1
  have hbx := box_keep hk_1 hbx hbX
  clear hI
  have hB_1 : Below w0.heap.size w0 w_1 := hBs.trans hK_1.b
  obtain ⟨c0, c1, c2, c3, c4, c5⟩ := (cells_box hbx).box
  have hlb := blt c0
  obtain ⟨n00, n01, n02, n03, n04, n05⟩ := hC0.later hB_1
  have hlk0 := blt n00
  exact lw0_38) : p := h
theorem lv104 {p : Prop} (h : p := by
  obtain ⟨hm1, hm2, hrm, hw32, hk1, hk2, ⟨hk64a, hk64b⟩, ⟨ha64a, ha64b⟩, hts, hKs, HK⟩ := hN.hd
  have hcc := bxn w T A c K d
  rw [hk] at hcc
  obtain ⟨hb1, c0, c1, c2, c3, c4, c5⟩ := hcc
  unfold ndV
  rw [hk]
  clear hk
  clear hKs hN
  go_enter Tryz.func49, Tryz.ntmps49
  go_wp2_with (first | (go_at_call 34; with_reducible refine (HBa.out _ hb1).mono ?_; rintro e w_1 ⟨he1, hq1⟩; rw [G1.out] at he1; subst he1; have hw1 := hb1.trans (hq1.mono hb1.size); obtain ⟨a100, a101, a102, a103, a104, a105⟩ := cl6 hq1 c0 c1 c2 c3 c4 c5; have hl1g0 := blt a100))
  go_ret
  exact ⟨by rw [HV.out]; rfl, hw1⟩) : p := h
theorem lv105 {p : Prop} (h : p := by
  obtain ⟨hm1, hm2, hrm, hw32, hk1, hk2, ⟨hk64a, hk64b⟩, ⟨ha64a, ha64b⟩, hts, hKs, HK⟩ := hN.hd
  obtain ⟨hb1, c0, c1, c2, c3, c4, c5⟩ := bxn w T A c K d
  unfold ndV
  clear hKs hN
  go_enter Tryz.func10, Tryz.ntmps10
  go_wp2_with (first | (go_at_call 11; refine (HDe.out _ hb1).mono ?_; rintro e w3 ⟨rfl, hb3⟩; have hw3 := hb1.trans (hb3.mono hb1.size); obtain ⟨p0, p1, p2, p3, p4, p5⟩ := cl6 hb3 c0 c1 c2 c3 c4 c5; have hl3 := blt p0) | (go_at_call 27; refine (HRi.out _ hw3).mono ?_; rintro e w4 ⟨he4, hb4⟩; rw [HRR.out] at he4; subst he4))
  go_ret
  exact ⟨by rw [HC.out]; rfl, hw3⟩) : p := h
theorem lv106 {p : Prop} (h : p := by
  clear h0' h1'
  obtain ⟨hm1, hm2, hrm, hw32, hk1, hk2, ⟨hk64a, hk64b⟩, ⟨ha64a, ha64b⟩, hts, hKs, HK⟩ := hN.hd
  have hcc := bxn w T A c K d
  rw [hk] at hcc
  obtain ⟨hb1, c0, c1, c2, c3, c4, c5⟩ := hcc
  unfold ndV
  rw [hk]
  clear hk
  clear hKs hN
  go_enter Tryz.func91, Tryz.ntmps91
  go_wp2_with (first | (go_at_call 150; refine (HNu.out _ hb1).mono ?_; rintro e w_1 ⟨he1, hq1⟩; rw [G2.out] at he1; subst he1; have hw1 := hb1.trans (hq1.mono hb1.size); obtain ⟨a1_0, a1_1, a1_2, a1_3, a1_4, a1_5⟩ := cl6 hq1 c0 c1 c2 c3 c4 c5; have hl1 := blt a1_0))
  go_ret
  exact ⟨by rw [HV.out]; rfl, hw1⟩) : p := h
theorem lv107 {p : Prop} (h : p := by
  go_at_call 143
  exact lw0_16) : p := h
theorem lv108 {p : Prop} (h : p := by
  obtain ⟨hm1, hm2, hrm, hw32, hk1, hk2, ⟨hk64a, hk64b⟩, ⟨ha64a, ha64b⟩, hts, hKs, HK⟩ := hN.hd
  have hcc := bxn w T A c K d
  rw [hk] at hcc
  obtain ⟨hb1, c0, c1, c2, c3, c4, c5⟩ := hcc
  unfold ndV
  rw [hk]
  clear hk
  exact lw0_24) : p := h
theorem lv109 {p : Prop} (h : p := by
  go_wp2_with (first | (go_at_call 92; refine (HNm.out _ hbq).mono ?_; rintro e w_1 ⟨he1, hq1⟩; rw [G2.out] at he1; subst he1; have hw1 := hbq.trans (hq1.mono hbq.size); obtain ⟨a100, a101, a102, a103, a104, a105⟩ := cl6 hq1 z0 z1 z2 z3 z4 z5; have hl1g0 := blt a100) | (go_at_call 34; refine (HBa.out _ hw1).mono ?_; rintro e w_2 ⟨he2, hq2⟩; rw [G3.out] at he2; subst he2; have hw2 := hw1.trans (hq2.mono hw1.size); obtain ⟨a200, a201, a202, a203, a204, a205⟩ := cl6 hq2 a100 a101 a102 a103 a104 a105; have hl2g0 := blt a200))
  go_ret
  exact ⟨by rw [HF.out]; rfl, hw2⟩) : p := h
theorem lv110 {p : Prop} (h : p := by
  clear h1'
  obtain ⟨hm1, hm2, hrm, hw32, hk1, hk2, ⟨hk64a, hk64b⟩, ⟨ha64a, ha64b⟩, hts, hKs, HK⟩ := hN.hd
  obtain ⟨hb1, c0, c1, c2, c3, c4, c5⟩ := bxn w T A c K d
  unfold ndV
  clear hKs hN
  go_enter Tryz.func95, Tryz.ntmps95
  go_wp2_with (first | (go_at_call 35; refine (HLi.out _ hb1).mono ?_; rintro e w_1 ⟨he1, hq1⟩; rw [G2.out] at he1; subst he1; have hw1 := hb1.trans (hq1.mono hb1.size); obtain ⟨a100, a101, a102, a103, a104, a105⟩ := cl6 hq1 c0 c1 c2 c3 c4 c5; have hl1g0 := blt a100))
  go_ret
  exact ⟨by rw [HV.out]; rfl, hw1⟩) : p := h
theorem lv111 {p : Prop} (h : p := by
  obtain ⟨hm1, hm2, hrm, hw32, hk1, hk2, ⟨hk64a, hk64b⟩, ⟨ha64a, ha64b⟩, hts, hKs, HK⟩ := hN.hd
  obtain ⟨hb1, c0, c1, c2, c3, c4, c5⟩ := bxn w T A c K d
  unfold ndV
  clear hKs hN
  go_enter Tryz.func154, Tryz.ntmps154
  exact lw0_28) : p := h
theorem lv112 {p : Prop} (h : p := by
  obtain ⟨hm1, hm2, hrm, hw32, hk1, hk2, ⟨hk64a, hk64b⟩, ⟨ha64a, ha64b⟩, hts, hKs, HK⟩ := hN.hd
  obtain ⟨hb1, c0, c1, c2, c3, c4, c5⟩ := bxn w T A c K d
  unfold ndV
  clear hKs hN
  go_enter Tryz.func155, Tryz.ntmps155
  exact lw0_28) : p := h
theorem lv113 {p : Prop} (h : p := by
  obtain ⟨hm1, hm2, hrm, hw32, hk1, hk2, ⟨hk64a, hk64b⟩, ⟨ha64a, ha64b⟩, hts, hKs, HK⟩ := hN.hd
  obtain ⟨hb1, c0, c1, c2, c3, c4, c5⟩ := bxn w T A c K d
  unfold ndV
  clear hKs hN
  go_enter Tryz.func96, Tryz.ntmps96
  exact lw0_28) : p := h
theorem lv114 {p : Prop} (h : p := by
  obtain ⟨hm1, hm2, hrm, hw32, hk1, hk2, ⟨hk64a, hk64b⟩, ⟨ha64a, ha64b⟩, hts, hKs, HK⟩ := hN.hd
  obtain ⟨hb1, c0, c1, c2, c3, c4, c5⟩ := bxn w T A c K d
  unfold ndV
  clear hKs hN
  go_enter Tryz.func14, Tryz.ntmps14
  go_wp2_with (first | (go_at_call 33; refine (HDe.out _ hb1).mono ?_; rintro e w_1 ⟨rfl, hq1⟩; have hw1 := hb1.trans (hq1.mono hb1.size); obtain ⟨a100, a101, a102, a103, a104, a105⟩ := cl6 hq1 c0 c1 c2 c3 c4 c5; have hl1g0 := blt a100))
  go_ret
  exact ⟨by rw [HV.out]; rfl, hw1⟩) : p := h
theorem lv115 {p : Prop} (h : p := by
  exact lw0_17) : p := h
theorem lv116 {p : Prop} (h : p := by
  exact lw0_18) : p := h
theorem lv117 {p : Prop} (h : p := by
  have hU := hU.alloc (.cells #[.func (.func 67) #[] #[], .func (.func 67) #[] #[]] 69)
  go_at_call 63
  refine (kidsQ_ok (D := D) hU.q [Sh.ev Nd.right .expr, Sh.ev Nd.right .expr] 2 _ rfl hS lq24).mono ?_
  exact lw0_33) : p := h
theorem lv118 {p : Prop} (h : p := by
  have hU := Up.start h0 hp0 hp1
  go_enter Tryz.func79, Tryz.ntmps79
  go_wp2_with fail
  go_at_call 138
  refine (compQ_ok (D := D) hRi hU.q _ .expr (hU.tabs hT) (qExpr hRi (hU.tabs hT))).mono ?_
  exact lw0_33) : p := h
theorem lv119 {p : Prop} (h : p := by
  have hU := Up.start h0 hp0 hp1
  go_enter Tryz.func79, Tryz.ntmps79
  go_wp2_with fail
  go_at_call 65
  refine (someQ_ok (D := D) hU.q _ _ 0 (qExpr hRi (hU.tabs hT)) lq28).mono ?_
  exact lw0_33) : p := h
theorem lv120 {p : Prop} (h : p := by
  exact lw0_21) : p := h
theorem lv121 {p : Prop} (h : p := by
  rintro e w_2 ⟨rfl, hW_2, hk_2⟩
  have hK_2 := hKa.trans hk_2
  have hbx := box_keep hk_2 hbxa hbX
  have hB_2 : Below w0.heap.size w0 w_2 := hBs.trans hK_2.b
  obtain ⟨c0, c1, c2, c3, c4, c5⟩ := (cells_box hbx).box
  have hlb := blt c0
  exact lw0_37) : p := h
theorem lv122 {p : Prop} (h : p := by
  rintro e w_1 ⟨rfl, hW_1, hk_1⟩
  have hK_1 := hKa.trans hk_1
  have hbx := box_keep hk_1 hbxa hbX
  have hB_1 : Below w0.heap.size w0 w_1 := hBs.trans hK_1.b
  obtain ⟨c0, c1, c2, c3, c4, c5⟩ := (cells_box hbx).box
  have hlb := blt c0
  exact lw0_38) : p := h
theorem lv123 {p : Prop} (h : p := by
  clear hk0
  obtain ⟨hm1, hm2, hrm, hw32, hk1, hk2, ⟨hk64a, hk64b⟩, ⟨ha64a, ha64b⟩, hts, hKs, HK⟩ := hN.hd
  obtain ⟨hb1, c0, c1, c2, c3, c4, c5⟩ := bxn w T A c K d
  unfold ndV
  clear hKs hN
  go_enter Tryz.func70, Tryz.ntmps70
  go_wp2_with (go_at_call 46; refine (HNN.out _).mono ?_; rintro e w3 ⟨rfl, hb3⟩; have d5 := cLt hb3 c5)
  go_ret
  exact ⟨by show Ending.returned (.bool _) = _; simp [Sh.ev, e1, e2, e2', hnn, e3'], hb1.trans (hb3.mono hb1.size)⟩) : p := h
theorem lv124 {p : Prop} (h : p := by
  exact lw0_22) : p := h
theorem lv125 {p : Prop} (h : p := by
  have hU := hU.alloc (.cells #[.func (.func 67) #[] #[]] 69)
  go_at_call 63
  refine (kidsQ_ok (D := D) hU.q [Sh.ev Nd.right .expr] 1 _ rfl hS lq24).mono ?_
  rintro e w1 ⟨⟨v1, rfl, hv1⟩, hb1⟩
  have hU := hU.call hb1
  obtain ⟨g1, cp1, hve, _⟩ := id hv1
  subst hve
  obtain ⟨_, _, _, _, hsz, r0, r1, z0, z1⟩ := id hU
  go_wp2
  exact bodyPost_ret (v := .agg #[.func (.func 73) #[] #[], .func (.func g1) #[] cp1]) lq16 rfl (FormR.put hU textQ_name hv1)) : p := h
theorem lv126 {p : Prop} (h : p := by
  have hU := hU.alloc (.cells #[.func (.func 67) #[] #[]] 69)
  go_at_call 63
  refine (kidsQ_ok (D := D) hU.q [Sh.ev Nd.right .expr] 1 _ rfl hS lq24).mono ?_
  exact lw0_33) : p := h
theorem lv127 {p : Prop} (h : p := by
  have hcv := conv_own wr W5.heap.size B3 N cB3 (([] : List UInt8) ++ decB P) (by rw [length_append, ← HF.out]; simp; omega) (by
   rw [List.drop_zero, List.map_append, bi_cells _ HD2.out, HF.out] at hown3; rw [bytes_app]
   exact hown3)
  have hTx' : (⟨(([] : List UInt8) ++ decB P).toArray⟩ : ByteArray) = T := hTx
  rw [hTx'] at hcv
  clear hTx hTx'
  go_wp2
  go_ret
  exact ⟨rfl, hB4.trans ((hbw.trans (hbw3.mono lq29)).mono lq29)⟩) : p := h
theorem lv128 {p : Prop} (h : p := by
  have hcv := conv_own wr W5.heap.size B3 N cB3 ([(45 : UInt8)] ++ decB P) (by rw [length_append, ← HF.out]; simp; omega) (by
   rw [List.drop_zero, List.map_append, bi_cells _ HD2.out, HF.out] at hown3; rw [bytes_app]
   exact hown3)
  have hTx' : (⟨([(45 : UInt8)] ++ decB P).toArray⟩ : ByteArray) = T := hTx
  rw [hTx'] at hcv
  clear hTx hTx'
  go_wp2
  go_ret
  exact ⟨rfl, hB4.trans ((hbw.trans (hbw3.mono lq29)).mono lq29)⟩) : p := h
theorem lv129 {p : Prop} (h : p := by
  have hoK := nodeAt_okN T hN
  have hzT := ba_len hoK hWt
  clear hoK hts
  obtain ⟨hm1, hm2, hrm, hw32, hk1, hk2, ⟨hk64a, hk64b⟩, ⟨ha64a, ha64b⟩, hts, hKs, HK⟩ := hN.hd
  obtain ⟨hb1, c0, c1, c2, c3, c4, c5⟩ := bxn w T A c K d
  unfold ndV
  clear hKs hN hR hT hD hWt hk hrm hw32 
  go_enter Tryz.func99, Tryz.ntmps99
  go_wp2_with fail
  go_ret
  exact ⟨by rw [HTX.out]; (try simp only [← ba_app, ba_text]); rfl, hb1⟩) : p := h
theorem lv130 {p : Prop} (h : p := by
  clear h'
  obtain ⟨hm1, hm2, hrm, hw32, hk1, hk2, ⟨hk64a, hk64b⟩, ⟨ha64a, ha64b⟩, hts, hKs, HK⟩ := hN.hd
  obtain ⟨hb1, c0, c1, c2, c3, c4, c5⟩ := bxn w T A c K d
  unfold ndV
  clear hKs hN
  go_enter Tryz.func90, Tryz.ntmps90
  go_wp2_with (go_at_call 91; refine (HE.out _ hb1).mono ?_; rintro e w3 ⟨rfl, hb3⟩)
  go_ret
  exact ⟨by rw [HEV.out, HV.out]; rfl, hb1.trans (hb3.mono hb1.size)⟩) : p := h
theorem lv131 {p : Prop} (h : p := by
  go_wp2_with (go_at_call 27; refine HI.out.mono ?_; rintro e w4 ⟨rfl, hb4⟩; obtain ⟨y5, yk⟩ := cl2 hb4 z5 kc2; have hlb3 : b2 < w4.heap.size := blt yk; have x5 := cLt hb4 (cLt hbt d5))
  go_roundw
  case rel => exact ⟨k + 1, by go_num, by omega, Lh (hR.out.trans HPD.out), hbr.trans ((hbt.mono hbr.size).trans (hb4.mono (Nat.le_trans hbr.size hbt.size)))⟩
  case measure => simp [intOf]; omega) : p := h
theorem lv132 {p : Prop} (h : p := by
  exact lw0_23) : p := h
theorem lv133 {p : Prop} (h : p := by
  clear hm0
  obtain ⟨hm1, hm2, hrm, hw32, hk1, hk2, ⟨hk64a, hk64b⟩, ⟨ha64a, ha64b⟩, hts, hKs, HK⟩ := hN.hd
  obtain ⟨hb1, c0, c1, c2, c3, c4, c5⟩ := bxn w T A c K d
  rw [hng] at hb1 c3
  unfold ndV
  rw [hng]
  clear hKs hN
  go_enter Tryz.func46, Tryz.ntmps46
  go_wp2_with fail
  go_ret
  exact ⟨by show Ending.returned (.bool _) = _; simp [noNumB, hng, e2], hb1⟩) : p := h
theorem lv134 {p : Prop} (h : p := by
  exact lw0_26) : p := h
theorem lv135 {p : Prop} (h : p := by
  clear he3
  obtain ⟨hm1, hm2, hrm, hw32, hk1, hk2, ⟨hk64a, hk64b⟩, ⟨ha64a, ha64b⟩, hts, hKs, HK⟩ := hN.hd
  obtain ⟨hb1, c0, c1, c2, c3, c4, c5⟩ := bxn w T A c K d
  unfold ndV
  clear hKs hN
  go_enter Tryz.func131, Tryz.ntmps131
  go_wp2_with fail
  go_ret
  exact ⟨by show Ending.returned (.bool _) = _; simp [isTargetK, e1, e2, e3], hb1⟩) : p := h
theorem lv136 {p : Prop} (h : p := by
  obtain ⟨hm1, hm2, hrm, hw32, hk1, hk2, ⟨hk64a, hk64b⟩, ⟨ha64a, ha64b⟩, hts, hKs, HK⟩ := hN.hd
  have hcc := bxn w T A c K d
  rw [hk] at hcc
  obtain ⟨hb1, c0, c1, c2, c3, c4, c5⟩ := hcc
  unfold ndV
  rw [hk]
  clear hk
  clear hKs hN
  go_enter Tryz.func91, Tryz.ntmps91
  go_wp2_with fail
  go_ret
  exact ⟨by rw [HV.out]; rfl, hb1⟩) : p := h
theorem lv137 {p : Prop} (h : p := by
  rw [e4] at HV
  exact lw0_31) : p := h
theorem lv138 {p : Prop} (h : p := by
  exact lw0_27) : p := h
theorem lv139 {p : Prop} (h : p := by
  go_wp2_with (first | (go_at_call 34; refine (HBa.out _ hbq).mono ?_; rintro e w_1 ⟨he1, hq1⟩; rw [G2.out] at he1; subst he1; have hw1 := hbq.trans (hq1.mono hbq.size); obtain ⟨a100, a101, a102, a103, a104, a105⟩ := cl6 hq1 z0 z1 z2 z3 z4 z5; have hl1g0 := blt a100))
  go_ret
  exact ⟨by rw [HF.out]; rfl, hw1⟩) : p := h
theorem lv140 {p : Prop} (h : p := by
  exact lw0_31) : p := h
theorem lv141 {p : Prop} (h : p := by
  clear hk ht hl hm
  exact lw0_34) : p := h
theorem lv142 {p : Prop} (h : p := by
  exact lw0_32) : p := h
theorem lv143 {p : Prop} (h : p := by
  simp only [hexCells, List.range_succ_eq_map, List.range_zero, List.map_cons, List.map_nil]
  clear hcv
  go_wp2
  go_roundw
  case rel => exact ⟨1, by rw [HN.out]; simp, by rfl, by omega, by rw [hexAt m hml, ← HM.out, ← HQ.out]; simp [hexCells, numCell, List.range_succ]⟩
  case measure => simp [intOf]) : p := h
theorem lv144 {p : Prop} (h : p := by
  simp only [hexCells, List.range_succ_eq_map, List.range_zero, List.map_cons, List.map_nil]
  clear hcv
  go_wp2
  go_roundw
  case rel => exact ⟨2, by rw [HN.out]; simp, by rfl, by omega, by rw [hexAt m hml, ← HM.out, ← HQ.out]; simp [hexCells, numCell, List.range_succ]⟩
  case measure => simp [intOf]) : p := h
theorem lv145 {p : Prop} (h : p := by
  exact lw0_33) : p := h
theorem lv146 {p : Prop} (h : p := by
  clear h0
  obtain ⟨hm1, hm2, hrm, hw32, hk1, hk2, ⟨hk64a, hk64b⟩, ⟨ha64a, ha64b⟩, hts, hKs, HK⟩ := hN.hd
  obtain ⟨hb1, c0, c1, c2, c3, c4, c5⟩ := bxn w T A c K d
  unfold ndV
  clear hKs hN
  go_enter Tryz.func34, Tryz.ntmps34
  go_wp2_with fail
  go_ret
  exact ⟨by rw [HNB.out]; rfl, hb1⟩) : p := h
theorem lv147 {p : Prop} (h : p := by
  have o1 : decide ((k : Int) < (T.kids.length : Int)) = false := dFo
  have o2 : decide (k < T.kids.length) = false := dFa hkl
  have hR2 := hR.out
  rw [List.take_of_length_le lq29] at hR2
  have HR2 := Lh hR2
  clear hR2
  go_wp2_with fail
  go_ret
  exact ⟨by rw [HEV.out, HV1.out, HR2.out]; rfl, hbw⟩) : p := h
theorem lv148 {p : Prop} (h : p := by
  obtain ⟨hm1, hm2, hrm, hw32, hk1, hk2, ⟨hk64a, hk64b⟩, ⟨ha64a, ha64b⟩, hts, hKs, HK⟩ := hN.hd
  obtain ⟨hb1, c0, c1, c2, c3, c4, c5⟩ := bxn w T A c K d
  unfold ndV
  clear hKs hN
  go_enter Tryz.func154, Tryz.ntmps154
  go_wp2_with fail
  go_ret
  exact ⟨by rw [HV.out]; rfl, hb1⟩) : p := h
theorem lv149 {p : Prop} (h : p := by
  obtain ⟨hm1, hm2, hrm, hw32, hk1, hk2, ⟨hk64a, hk64b⟩, ⟨ha64a, ha64b⟩, hts, hKs, HK⟩ := hN.hd
  obtain ⟨hb1, c0, c1, c2, c3, c4, c5⟩ := bxn w T A c K d
  unfold ndV
  clear hKs hN
  go_enter Tryz.func155, Tryz.ntmps155
  go_wp2_with fail
  go_ret
  exact ⟨by rw [HV.out]; rfl, hb1⟩) : p := h
theorem lv150 {p : Prop} (h : p := by
  refine hI.mono ?_
  rintro e w_1 ⟨rfl, hb_1⟩
  clear hI
  have hB_1 := hb1.trans (hb_1.mono hb1.size)
  obtain ⟨c0, c1, c2, c3, c4, c5⟩ := cl6 hb_1 c0 c1 c2 c3 c4 c5
  have hlb := blt c0
  go_wp2_with fail
  go_ret
  exact ⟨by rw [HTX.out]; (try simp only [← ba_app, ba_text]); rfl, hB_1⟩) : p := h
theorem lv151 {p : Prop} (h : p := by
  exact lw0_34) : p := h
theorem lv152 {p : Prop} (h : p := by
  obtain ⟨hm1, hm2, hrm, hw32, hk1, hk2, ⟨hk64a, hk64b⟩, ⟨ha64a, ha64b⟩, hts, hKs, HK⟩ := hN.hd
  obtain ⟨hb1, c0, c1, c2, c3, c4, c5⟩ := bxn w T A c K d
  unfold ndV
  clear hKs hN
  go_enter Tryz.func96, Tryz.ntmps96
  go_wp2_with fail
  go_ret
  exact ⟨by rw [HV.out]; rfl, hb1⟩) : p := h
theorem lv153 {p : Prop} (h : p := by
  obtain ⟨hm1, hm2, hrm, hw32, hk1, hk2, ⟨hk64a, hk64b⟩, ⟨ha64a, ha64b⟩, hts, hKs, HK⟩ := hN.hd
  obtain ⟨hb1, c0, c1, c2, c3, c4, c5⟩ := bxn w T A c K d
  unfold ndV
  clear hKs hN
  go_enter Tryz.func35, Tryz.ntmps35
  go_wp2_with fail
  go_ret
  exact ⟨by rw [HV.out]; rfl, hb1⟩) : p := h
theorem lv154 {p : Prop} (h : p := by
  have HEM := Lh hem
  clear hem hkn
  go_wp2_with (go_at_call 27; refine HI.out.mono ?_; rintro e w3 ⟨rfl, hb3⟩; have p5 := cLt hb3 m5)
  go_ret
  exact ⟨by rw [hR.out, HPD.out, HEM.out]; first | rfl | (show Ending.returned (.bool _) = _; rw [q1]), hbq.trans (hb3.mono hbq.size)⟩) : p := h
theorem lv155 {p : Prop} (h : p := by
  clear h0
  go_wp2_with fail
  go_at_call 99
  refine HI.out.mono ?_
  rintro e w3 ⟨rfl, hb3⟩
  go_wp2_with fail
  go_roundw
  case rel => exact ⟨k + 1, by go_num, by rw [← HV.out], by omega, hbr.trans (hb3.mono hbr.size)⟩
  case measure => simp [intOf]; omega) : p := h
theorem lv156 {p : Prop} (h : p := by
  rw [hks] at h
  simp only [rowB, Bool.and_true] at h
  rcases Bool.or_eq_true _ _ ▸ (show (Sh.none.ev Nd.right q || Sh.expr.ev Nd.right q) = true from h) with h | h
  ·exact .inr ⟨q, rfl, .inl (kind_none h)⟩
  ·exact .inr ⟨q, rfl, .inr (ev_ex h)⟩) : p := h
theorem lv157 {p : Prop} (h : p := by
  rw [← show _ = (Tx.non.ev T.text && noNumB T && rowB T.kids [Sh.ev Nd.right .expr, Sh.ev Nd.right .block, Sh.ev Nd.right (.or2 .none .block)]) from st_at hk (tx := .non) (fm := .row [.expr, .block, (.or2 .none .block)]) rfl lq28 lq28 lq28]
  exact hT) : p := h
theorem lv158 {p : Prop} (h : p := by
  exact lw0_36) : p := h
theorem lv159 {p : Prop} (h : p := by
  have hlX := WrT.lt hW_3
  go_wp2_with fail
  ((try simp only [Exit.inBlock, Exit.then]); first | refine bodyPost_end (results_none rfl _ _ _) rfl ?_ | refine bodyPost_ret (results_none rfl _ _ _) rfl ?_)
  exact ⟨rfl, hW_3.eq lq11, hK_3⟩) : p := h
theorem lv160 {p : Prop} (h : p := by
  have hlX := WrT.lt hW_3
  go_wp2_with fail
  ((try simp only [Exit.inBlock, Exit.then]); first | refine bodyPost_end (results_none rfl _ _ _) rfl ?_ | refine bodyPost_ret (results_none rfl _ _ _) rfl ?_)
  exact ⟨rfl, hW_3.eq lq9, hK_3⟩) : p := h
theorem lv161 {p : Prop} (h : p := by
  have hlX := WrT.lt hW_4
  go_wp2_with fail
  ((try simp only [Exit.inBlock, Exit.then]); first | refine bodyPost_end (results_none rfl _ _ _) rfl ?_ | refine bodyPost_ret (results_none rfl _ _ _) rfl ?_)
  exact ⟨rfl, hW_4.eq lq9, hK_4⟩) : p := h
theorem lv162 {p : Prop} (h : p := by
  rw [← show _ = (Tx.non.ev T.text && noNumB T && rowB T.kids [Sh.ev Nd.right .targets, Sh.ev Nd.right .expr, Sh.ev Nd.right .block]) from st_at hk (tx := .non) (fm := .row [.targets, .expr, .block]) rfl lq28 lq28 lq28]
  exact hT) : p := h
theorem lv163 {p : Prop} (h : p := by
  rw [e1]
  go_enter Tryz.func29, Tryz.ntmps29
  go_wp2
  go_ret
  exact ⟨rfl, hp, (keepsQ_set (Q := fun b => b = X) (X := X) (KeepsQ.below (Below.refl _ _)) rfl _).trans (KeepsQ.below ((Below.refl _ _).alloc (Nat.le_refl _) _))⟩) : p := h
theorem lv164 {p : Prop} (h : p := by
  rw [← show _ = (Tx.name.ev T.text && noNumB T && rowB T.kids [Sh.ev Nd.right (.or2 .none .expr), Sh.ev Nd.right .block]) from st_at hk (tx := .name) (fm := .row [(.or2 .none .expr), .block]) rfl lq28 lq28 lq28]
  exact hT) : p := h
theorem lv165 {p : Prop} (h : p := by
  rw [← show _ = ((Tx.words signsL).ev T.text && noNumB T && rowB T.kids [Sh.ev Nd.right .target, Sh.ev Nd.right .expr]) from st_at hk (tx := (.words signsL)) (fm := .row [.target, .expr]) rfl lq28 lq28 lq28]
  exact hT) : p := h
theorem lv166 {p : Prop} (h : p := by
  simp only [numCells]
  clear hcv
  go_wp2
  go_roundw
  case rel => exact ⟨1, by rw [HN.out]; simp, rfl, by omega, by rw [hexAt m hml, ← HM.out, ← HQ.out]; simp [numCells, numCell]⟩
  case measure => simp [intOf]) : p := h
theorem lv167 {p : Prop} (h : p := by
  simp only [numCells]
  clear hcv
  go_wp2
  go_roundw
  case rel => exact ⟨2, by rw [HN.out]; simp, rfl, by omega, by rw [hexAt m hml, ← HM.out, ← HQ.out]; simp [numCells, numCell]⟩
  case measure => simp [intOf]) : p := h
theorem lv168 {p : Prop} (h : p := by
  rw [← show _ = (Tx.non.ev T.text && noNumB T && rowB T.kids [Sh.ev Nd.right (.of 23), Sh.ev Nd.right .expr]) from st_at hk (tx := .non) (fm := .row [(.of 23), .expr]) rfl lq28 lq28 lq28]
  exact hT) : p := h
theorem lv169 {p : Prop} (h : p := by
  rw [← show _ = (Tx.non.ev T.text && noNumB T && rowB T.kids [Sh.ev Nd.right .target, Sh.ev Nd.right .expr]) from st_at hk (tx := .non) (fm := .row [.target, .expr]) rfl lq28 lq28 lq28]
  exact hT) : p := h
theorem lv170 {p : Prop} (h : p := by
  have h := st_right hT
  rw [right_at hk (tx := .non) (fm := .some 1 (.of 31)) rfl lq28] at h
  simp only [Fm.ev, Bool.and_eq_true] at h
  exact fun t ht => ev_of' (List.all_eq_true.1 h.2.2 t ht) lq28) : p := h
theorem lv171 {p : Prop} (h : p := by
  rw [← show _ = (Tx.non.ev T.text && noNumB T && rowB T.kids [Sh.ev Nd.right .expr, Sh.ev Nd.right .block]) from st_at hk (tx := .non) (fm := .row [.expr, .block]) rfl lq28 lq28 lq28]
  exact hT) : p := h
theorem lv172 {p : Prop} (h : p := by
  go_wp2_with (go_at_call 28; refine HI.out.mono ?_; rintro e w3 ⟨rfl, ⟨x0, x1, _, _⟩, hk3⟩)
  go_ret
  exact ⟨by simp, hb2.trans (hk3.low (by simp <;> omega) (fun b hb => by omega))⟩) : p := h
theorem lv173 {p : Prop} (h : p := by
  rw [← show _ = (Tx.non.ev T.text && noNumB T && rowB T.kids [Sh.ev Nd.right (.or2 .none .expr)]) from st_at hk (tx := .non) (fm := .row [(.or2 .none .expr)]) rfl lq28 lq28 lq28]
  exact hT) : p := h
theorem lv174 {p : Prop} (h : p := by
  clear hst
  have hlk0 := blt n00
  go_wp2_with fail
  go_roundw
  case rel => exact ⟨k + 1, by go_num, by rw [← HV.out], by omega, hbr.alloc hbr.size _⟩
  case measure => simp [intOf]; omega) : p := h
theorem lv175 {p : Prop} (h : p := by
  exact lw0_40) : p := h
theorem lv176 {p : Prop} (h : p := by
  have h1 := lin_len t0 (nodeAt_okN t0 hN0) 0
  have h2 : (400 + 4 * (0 + t0.depth)) * t0.depth * t0.weight ≤ 1600 * 300 * 1000000 := Nat.mul_le_mul (Nat.mul_le_mul lq29 lq29) lq29
  omega) : p := h
theorem lv177 {p : Prop} (h : p := by
  intro j u h
  match j with
  | 0 =>
   simp only [List.getElem?_cons_zero, Option.some.injEq] at h; subst h; rw [Addr.add_lit, World.cell?_alloc_at _ _ _ _ rfl]; rfl
  | j + 1 => simp at h) : p := h
theorem lv178 {p : Prop} (h : p := by
  have h1 := txt_len T (nodeAt_okN T hN)
  rw [ba_size]
  have h2 : (behindL (T.kids.map Nd.txt)).length ≤ T.txt.length := by
   rw [txt_eq]; simp [txtOf, hk]; omega
  omega) : p := h
theorem lv179 {p : Prop} (h : p := by
  rw [← show _ = (Tx.non.ev T.text && noNumB T && rowB T.kids []) from st_at hk (tx := .non) (fm := .row []) rfl lq28 lq28 lq28]
  exact hT) : p := h
theorem lv180 {p : Prop} (h : p := by
  go_roundw
  case rel => exact ⟨k + 1, by go_num, by omega, HZ, hbr.trans (hb3.mono hbr.size)⟩
  case measure => simp [intOf]; omega) : p := h
theorem lv181 {p : Prop} (h : p := by
  rw [txt_eq, show T.kids.map Nd.txt = t0.txt :: (T.kids.drop 1).map Nd.txt by rw [← List.map_cons, ← htk]]
  simp [txtOf, hk, gl]) : p := h
theorem lv182 {p : Prop} (h : p := by
  go_roundw
  case rel => exact REL v3 w3 hown3 ((hbw).grown hg3 (hbw).size (own_base hown))
  case measure => simp [intOf]; omega) : p := h
theorem lv183 {p : Prop} (h : p := by
  clear hXl hn2 hn4
  go_enter Tryz.func192, Tryz.ntmps192
  go_wp2
  go_ret
  exact ⟨by rw [← HX.out]; rfl, Below.refl _ _⟩) : p := h
theorem lv184 {p : Prop} (h : p := by
  go_wp2_with fail
  go_ret
  exact ⟨by show Ending.returned (.bool _) = _; simp [Sh.ev, isTargetK, e1], hb1⟩) : p := h
theorem lv185 {p : Prop} (h : p := by
  rw [(own_later hown hbw3).cellAt j lq29, List.getElem?_map, bi_get ds _ hj, hd]; rfl) : p := h
theorem lv186 {p : Prop} (h : p := by
  subst hk; simpa [Bool.or_eq_false_iff, and_assoc] using h) : p := h
end Go.Proofs.YtjefhdlncikhmaaGreatDoor
