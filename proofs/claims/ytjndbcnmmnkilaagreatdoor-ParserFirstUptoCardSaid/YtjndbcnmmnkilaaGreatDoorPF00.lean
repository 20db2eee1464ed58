/- Blocks that close a goal of the walks below, each for all the places where it stands. -/
import Derived.WalkKit
import Derived.WalkSpells
import Derived.WalkLawsBesides
import Derived.Lib.Hide
import Derived.Maps.AppendAt
import Derived.Deep.AppendLies
import Derived.RegionTactic
import Derived.OwnWalk
import Derived.Shelf.Unicode.DecodeSlow
import Derived.Deep.RegionHeld3
import Derived.Deep.LoopGhost
import Derived.Test.YtjndbcnmmnkilaaGreatDoorChecked
import Derived.LoopTactic
import Derived.Deep.Cut
import Derived.Deep.RegionWith
import Derived.OrdersHeld
import Derived.Deep.RegionHeld
import Derived.Defers
import Derived.Recover
import Derived.Deep.CutRange
import Derived.IntWalk
import Derived.OneCell
import Derived.Lib.MapLaws
import Derived.Lib.TrimUEq
import Derived.Lib.ValidLaws
import Derived.Lib.RuneBytes
import Derived.Lib.TrimAscii
import Derived.Laws.RangeAny
import Derived.Shelf.Strings.Builder1
import Derived.Shelf.Strings.Builder2
import Derived.Shelf.Strings.Trim
import Derived.Shelf.Small.Utf8
import Derived.Shelf.Small.Strs
import Derived.Shelf.Small.Wraps
import Derived.Shelf.Strings.BuilderF
import Derived.Shelf.Strings.BuilderK
import Derived.Shelf.Strings.BuilderRune
import Derived.Shelf.Utf8.AppendRune
import Derived.Shelf.Utf8.AppendRunePlain
import Derived.Shelf.Strings.Builder2Cap
import Derived.Shelf.LaysM
import Derived.Shelf.Strconv.Clone
import Derived.Shelf.Strings.Search1
import Derived.Shelf.Strings.Prefix
import Derived.Shelf.Unicode.Decode
import Derived.Shelf.Strings.Runes
import Derived.Shelf.Strings.AsciiSet
import Derived.Shelf.Bits.Mul64
import Derived.Shelf.Strings.Repeat
import Derived.Shelf.Unicode.DecodeAny
import Derived.Shelf.Strings.BuilderCap
import Derived.Shelf.Slices.Turned
import Derived.Ground.SlgnProg
import Derived.Shelf.SlicesE.Clone
import Derived.Test.YtjndbcnmmnkilaaGreatDoorProg
import Derived.Lib.UnsafeStr
import Derived.Lib.BufferWrite
import Derived.Laws.MakeOwn
import Derived.Deep.RegionLaw
import Derived.BigQuiet
import Derived.Deep.QuietTactic
import Derived.Laws.DeepBits32
import Derived.Lib.Strings
import Derived.Laws.BitsAllLaws
import Derived.BigCall
import Derived.Lib.AppendStr
import Derived.Laws.BytesArg
import Derived.Laws.Cover4
import Derived.Lib.Bytealg
import Derived.StillTailTactics
import Derived.ScopeJumps
import Derived.WalkMore
import Derived.Shelf.Unicode.ValidAny
import Derived.Deep.OwnRows
import Derived.Test.YtjndbcnmmnkilaaGreatDoorRows
import Derived.Lib.OthersKept
import Derived.Lib.FrozenHead2
import Derived.RangeFuncBox
import Derived.RangeFuncNested
import Derived.RangeFuncBound
import Derived.RangeFuncCalls
import Derived.RangeFuncLeaves
import Derived.Shelf.Abstract
import Derived.Shelf.RegionOpen
import Derived.OwnWalkIn
import Derived.TacticsInMore
import Derived.LoopNIn
import Derived.LoopIn
import Derived.Deep.DeepCutAuto
import Derived.Deep.CutBlock
import Derived.Laws.EntriesVeiled
import Derived.Lib.SmallJoins
import Derived.ProofKit
import Derived.Lib.LaidIn
import Derived.Lib.LaidU8T
import Derived.OpenShut
import Derived.ChangeOld
namespace Go.Proofs.YtjndbcnmmnkilaaGreatDoor
set_option linter.unusedVariables false
set_option linter.unusedSimpArgs false
set_option maxRecDepth 1000000
set_option maxHeartbeats 16000000
open Go.RowKit
theorem lq1 {p : Prop} (h : p := by intro hh; first | rfl | (simp (disch := omega) only [hT.hd, hT.isS, hT.isW, hT.isN, hT.begins, List.tail_drop]) | (refine Bool.eq_iff_iff.2 ?_; simp (disch := omega) only [hT.hd, hT.isS, hT.isW, hT.isN, hT.begins, List.tail_drop])) : p := h
theorem lq2 {p : Prop} (h : p := by have h := HLN.out; (try simp only [length_append, length_cons, length_nil, length_singleton] at h); (try simp only [length_append, length_cons, length_nil, length_singleton]); omega) : p := h
theorem lq3 {p : Prop} (h : p := by simp [results, Tryz.results287, go_sem, r0, r1, r2, r3, r4, r5, ndV]) : p := h
theorem lq4 {p : Prop} (h : p := by simp [results, Tryz.results108, go_sem, r0, r1, r2, r3, r4, r5, ndV]) : p := h
theorem lq5 {p : Prop} (h : p := by simp [results, Tryz.results243, go_sem, r0, r1, r2, r3, r4, r5, ndV]) : p := h
theorem lq6 {p : Prop} (h : p := by simp [results, Tryz.results188, go_sem, r0, r1, r2, r3, r4, r5, ndV]) : p := h
theorem lq7 {p : Prop} (h : p := by simp [results, Tryz.results288, go_sem, r0, r1, r2, r3, r4, r5, ndV]) : p := h
theorem lq8 {p : Prop} (h : p := by simp [results, Tryz.results56, go_sem, r0, r1, r2, r3, r4, r5, ndV]) : p := h
theorem lq9 {p : Prop} (h : p := by first | omega | (simp only [List.length_tail] at *; omega)) : p := h
theorem lq10 {p : Prop} (h : p := by first | (simp; done) | (simp; omega)) : p := h
theorem lq11 {p : Prop} (h : p := by show w.heap.size + 1 < _; omega) : p := h
theorem lq12 {p : Prop} (h : p := by have := hq.size; omega) : p := h
theorem lq13 {p : Prop} (h : p := by unfold maxLen; omega) : p := h
theorem lq14 {p : Prop} (h : p := by rw [HX.out]; omega) : p := h
theorem lq15 {p : Prop} (h : p := by kernel_rfl) : p := h
theorem lq16 {p : Prop} (h : p := by decide) : p := h
theorem lq17 {p : Prop} (h : p := by omega) : p := h
theorem lq18 {p : Prop} (h : p := by simp) : p := h
theorem lw0_1 {p : Prop} (h : p := by
  have n2 : decide (65 ≤ s[k].toNat) = true := dTr lq14
  have n3 : decide (s[k].toNat ≤ 90) = false := dFa lq14
  have n4 : (s[k].toNat == 95) = false := by rw [HX.out]; simp; omega
  have n5 : decide (s[k].toNat < 48) = false := dFa lq14
  have n6 : decide (57 < s[k].toNat) = true := dTr lq14
  clear h
  have hR2 : R = false := by rw [HN.out, HQ.out _ hz, Bool.and_false, Bool.false_and]
  have HR2 := Lh hR2
  clear hz hR2
  go_wp2_with fail
  go_ret
  exact ⟨by rw [HR2.out]; rfl, hbr⟩) : p := h
theorem lw0_2 {p : Prop} (h : p := by
  have n4 : (s[k].toNat == 95) = false := by rw [HX.out]; simp; omega
  have n5 : decide (s[k].toNat < 48) = false := dFa lq14
  have n6 : decide (57 < s[k].toNat) = true := dTr lq14
  clear h
  go_wp2_with fail
  go_roundw
  case rel => exact ⟨k + 1, by go_num, by omega, Lh hz, hbr⟩
  case measure => simp [intOf]; omega) : p := h
theorem lw0_3 {p : Prop} (h : p := by
  clear h
  have hR2 : R = false := by rw [HN.out, HQ.out _ hz, Bool.and_false, Bool.false_and]
  have HR2 := Lh hR2
  clear hz hR2
  go_wp2_with fail
  go_ret
  exact ⟨by rw [HR2.out]; rfl, hbr⟩) : p := h
theorem lw0_4 {p : Prop} (h : p := by
  exact ret6 HE.out.1 HE.out.2.1 HE.out.2.2 lq17 lq17 hXl (Old.nn X _) hR.symm) : p := h
theorem lv1 {p : Prop} (h : p := by
  clear hPa hbp hsub q0 q1 q3 f1 f3 hX hbX
  have fin : ∀ bE : Bool, bE = (match s.data.toList.drop q with | [] => true | c :: _ => c == 10) → _ := fun bE hE => lxEnds_ok hL lq17 hq bE hE
  by_cases h10 : ∀ h : q < s.size, s[q] = 10
  ·have hE := fin true (by
    by_cases hlt : q < s.size
    ·rw [drop_cons s q hlt, h10 hlt]; rfl
    ·rw [List.drop_eq_nil_of_le (by simp; omega)])
   clear fin; go_wp2_with fail
   go_at_call 86
   refine hE.mono ?_
   rintro e w2 ⟨rfl, hb2⟩
   replace hL := hL.later hb2
   replace hB := hB.trans (hb2.mono hz)
   replace hz := Nat.le_trans hz hb2.size
   go_wp2
   go_step3
   refine ⟨⟨rfl, rfl, rfl, q, n, st, toks, ⟨hL, hB, hz, ⟨hq, hO.ho, hO.hb, by omega, hO.hd⟩⟩, hR2, h10⟩, ?_⟩
   rw [mu_eq (k := 1) hL.cells.2.1 rfl]
   omega
  ·have hlt : q < s.size := Classical.byContradiction fun h => h10 (fun h2 => absurd h2 h)
   have h10' : s[q] ≠ 10 := fun h => h10 (fun _ => h)
   clear h10; obtain ⟨h32, h35⟩ := g4 hlt h10'; have hE := fin false (by rw [drop_cons s q hlt]; simpa using h10'); have hIn : ∀ W, LxS W base X s q 0 st toks → base ≤ W.heap.size → Calls Tryz.prog 87 #[.pointer (some ⟨X, 0, none⟩), .int .i64 n] W (IndR W base X s q 0 (beginL n q st toks)) := fun W h1 h2 => lxIndent_ok h1 h2 lq17 lq17 lq17 lq17 hO.hb
   rw [head_lex hlt h10' h32 h35] at hR2; clear fin h32 h35 g4
   cases hr : beginL n q st toks with
   | inl y =>
    obtain ⟨y1, y2, y3⟩ := begin_in hr hO.hb hO.hd; rw [hr] at hIn hR2; have hR3 := Lh hR2; clear hr hR2; go_wp2_with fail
    go_at_call 86
    refine hE.mono ?_
    rintro e w2 ⟨rfl, hb2⟩
    replace hL := hL.later hb2
    replace hB := hB.trans (hb2.mono hz)
    replace hz := Nat.le_trans hz hb2.size
    go_wp2_with fail
    go_at_call 87
    refine (hIn _ hL hz).mono ?_
    rintro e w3 ⟨rfl, hL3, hb3⟩; go_wp2
    go_step3
    go_step
    go_step
    refine fallL (all_2 hs hT hQ _ hc0 N _ w3 ?_ ?_) rfl
    ·exact ⟨rfl, rfl, rfl, q, 0, n, y.1, y.2, ⟨hL3, hB.trans hb3, Nat.le_trans hz hb3.size, ⟨hq, hO.ho, y1, by omega, y3⟩⟩, hR3.out⟩
    ·rw [mu_eq (k := 2) hL3.cells.2.1 rfl]; omega
   | inr c =>
    rw [hr] at hIn hR2; have hR3 := Lh hR2; clear hr hR2; go_wp2_with fail
    go_at_call 86
    refine hE.mono ?_
    rintro e w2 ⟨rfl, hb2⟩
    replace hL := hL.later hb2
    replace hB := hB.trans (hb2.mono hz)
    replace hz := Nat.le_trans hz hb2.size
    go_wp2_with fail
    go_at_call 87
    refine (hIn _ hL hz).mono ?_
    rintro e w3 ⟨rfl, hb3⟩; exact hQ.p _ _ _ rfl (by rw [← hR3.out]; exact ⟨rfl, hB.trans hb3⟩)) : p := h
theorem lv2 {p : Prop} (h : p := by
  go_enter Tryz.func42, Tryz.ntmps42
  go_wp2_with (first | (go_at_call 78; refine (HS.out _ hb1).mono ?_; rintro e w3 ⟨Q, f1, x1, f2, x2, rfl, hq, htq, hsq, hb3⟩; obtain ⟨p0, p1, p2, p3, p4, p5⟩ := cl6 hb3 c0 c1 c2 c3 c4 c5; have hl3 := blt p0; have hb4 := (Below.refl w3.heap.size w3).alloc (Nat.le_refl _) (.cells #[.func (.func f1) #[] x1, .func (.func f2) #[] x2] 103); have htq4 := htq.later hb4; have hsq4 := hsq.later hb4; obtain ⟨F0, F1⟩ := form_box w3 (.func (.func f1) #[] x1) (.func (.func f2) #[] x2) 103; obtain ⟨q0, q1, q2, q3, q4, q5⟩ := cl6 hb4 p0 p1 p2 p3 p4 p5; have hw3 := hb1.trans (hb3.mono hb1.size); have hw4 := hw3.trans (hb4.mono hw3.size); obtain ⟨f1', x1', e1, hr1, ht1⟩ := htq4; injection e1 with e1 e2 e3; injection e1 with e1; subst e1 e3; have HT1 := ht1 _ (KeepsQ.below (Below.refl _ _)) T.text HL.out; rw [HTx.out] at HT1; have HT1 := Lh HT1; obtain ⟨f2', x2', e1, hr2, hs2⟩ := hsq4; injection e1 with e1 e2 e3; injection e1 with e1; subst e1 e3; have HS2 := Lh hs2; clear ht1 hs2 htq hsq) | (with_reducible refine HT1.out.mono ?_; rintro e w5 ⟨rfl, hb5⟩; obtain ⟨G0, G1⟩ := cl2 hb5 F0 F1; have hgl := blt G0; obtain ⟨r0, r1, r2, r3, r4, r5⟩ := cl6 hb5 q0 q1 q2 q3 q4 q5; have hl5 := blt r0; have hw5 := hw4.trans (hb5.mono hw4.size)) | (go_at_call 79; refine (HNu.out _ hw5).mono ?_; rintro e w6 ⟨he6, hb6⟩; rw [HNB.out] at he6; subst he6; have J1 := cLt hb6 G1; have hjl := blt J1; obtain ⟨s0, s1, s2, s3, s4, s5⟩ := cl6 hb6 r0 r1 r2 r3 r4 r5; have hl6 := blt s0; have hw6 := hw5.trans (hb6.mono hw5.size); have hI := HS2.out w6 (KeepsQ.below (hb5.trans (hb6.mono hb5.size))) T A c K d HD.out HW.out (HN.out.later hw6); rw [HKx.out] at hI; unfold ndV at hI; have HI := Lh hI; clear hI) | (with_reducible refine HI.out.mono ?_; rintro e w7 ⟨rfl, hb7⟩))
  go_ret
  exact ⟨rfl, hw6.trans (hb7.mono hw6.size)⟩) : p := h
theorem lv3 {p : Prop} (h : p := by
  go_enter Tryz.func42, Tryz.ntmps42
  go_wp2_with (first | (go_at_call 78; refine (HS.out _ hb1).mono ?_; rintro e w3 ⟨Q, f1, x1, f2, x2, rfl, hq, htq, hsq, hb3⟩; obtain ⟨p0, p1, p2, p3, p4, p5⟩ := cl6 hb3 c0 c1 c2 c3 c4 c5; have hl3 := blt p0; have hb4 := (Below.refl w3.heap.size w3).alloc (Nat.le_refl _) (.cells #[.func (.func f1) #[] x1, .func (.func f2) #[] x2] 103); have htq4 := htq.later hb4; have hsq4 := hsq.later hb4; obtain ⟨F0, F1⟩ := form_box w3 (.func (.func f1) #[] x1) (.func (.func f2) #[] x2) 103; obtain ⟨q0, q1, q2, q3, q4, q5⟩ := cl6 hb4 p0 p1 p2 p3 p4 p5; have hw3 := hb1.trans (hb3.mono hb1.size); have hw4 := hw3.trans (hb4.mono hw3.size); obtain ⟨f1', x1', e1, hr1, ht1⟩ := htq4; injection e1 with e1 e2 e3; injection e1 with e1; subst e1 e3; have HT1 := ht1 _ (KeepsQ.below (Below.refl _ _)) T.text HL.out; rw [HTx.out] at HT1; have HT1 := Lh HT1; obtain ⟨f2', x2', e1, hr2, hs2⟩ := hsq4; injection e1 with e1 e2 e3; injection e1 with e1; subst e1 e3; have HS2 := Lh hs2; clear ht1 hs2 htq hsq) | (with_reducible refine HT1.out.mono ?_; rintro e w5 ⟨rfl, hb5⟩; obtain ⟨G0, G1⟩ := cl2 hb5 F0 F1; have hgl := blt G0; obtain ⟨r0, r1, r2, r3, r4, r5⟩ := cl6 hb5 q0 q1 q2 q3 q4 q5; have hl5 := blt r0; have hw5 := hw4.trans (hb5.mono hw4.size)) | (go_at_call 80; refine (HNo.out _ hw5).mono ?_; rintro e w6 ⟨he6, hb6⟩; rw [HNB.out] at he6; subst he6; have J1 := cLt hb6 G1; have hjl := blt J1; obtain ⟨s0, s1, s2, s3, s4, s5⟩ := cl6 hb6 r0 r1 r2 r3 r4 r5; have hl6 := blt s0; have hw6 := hw5.trans (hb6.mono hw5.size); have hI := HS2.out w6 (KeepsQ.below (hb5.trans (hb6.mono hb5.size))) T A c K d HD.out HW.out (HN.out.later hw6); rw [HKx.out] at hI; unfold ndV at hI; have HI := Lh hI; clear hI) | (with_reducible refine HI.out.mono ?_; rintro e w7 ⟨rfl, hb7⟩))
  go_ret
  exact ⟨rfl, hw6.trans (hb7.mono hw6.size)⟩) : p := h
theorem lv4 {p : Prop} (h : p := by
  go_loopw [47] (fun v wr => ∃ k : Nat, v = .int .i64 k ∧ k ≤ r.length ∧ LxS wr base X s p o (d :: r) (T0 ++ List.replicate k ⟨8, [], s.size⟩) ∧ Below base w2 wr ∧ base ≤ wr.heap.size) (fun v _ => r.length - (intOf v).toNat)
  case atStart => exact ⟨0, rfl, Nat.zero_le _, by rw [List.replicate_zero, List.append_nil]; exact hL2, Below.refl _ _, hz2⟩
  case round =>
   obtain ⟨k, rfl, hk, hLk, hbk, hzk⟩ := hrel; clear hL2; obtain ⟨q0, q1, q3, f1, f3, hXk, hbXk⟩ := hLk.cells; have hTk : (T0 ++ List.replicate k (⟨8, [], s.size⟩ : Tk)).length ≤ 1000000 := by rw [length_append, List.length_replicate]; omega
   by_cases hlt : k < r.length
   ·go_wp2_with (go_at_call 89; refine (lxPut_ok 8 ⟨#[]⟩ s.size hLk hzk lq16 hTk).mono ?_; rintro e w3 ⟨rfl, hL3, hb3⟩)
    go_roundw
    case rel => exact ⟨k + 1, by go_num, by omega, by rw [List.replicate_succ', ← List.append_assoc]; exact hL3, hbk.trans hb3, Nat.le_trans hzk hb3.size⟩
    case measure => simp [intOf]; omega
   ·have hke : k = r.length := by omega
    subst hke; go_wp2_with (go_at_call 89; refine (lxPut_ok 9 ⟨#[]⟩ s.size hLk hzk lq16 hTk).mono ?_; rintro e w3 ⟨rfl, hL3, hb3⟩)
    go_end0
    exact ⟨rfl, hL3, hb2.trans (hbk.trans hb3)⟩) : p := h
theorem lv5 {p : Prop} (h : p := by
  have hz : preB (s.data.toList.take (k + 1)) = false := by rw [HT1.out]; simp; omega
  have f0 : decide (97 ≤ (s[k].toNat : Int)) = false := dFa lq14
  have f1 : decide ((s[k].toNat : Int) ≤ 122) = true := dTr lq14
  have f2 : decide (65 ≤ (s[k].toNat : Int)) = false := dFa lq14
  have f3 : decide ((s[k].toNat : Int) ≤ 90) = true := dTr lq14
  have f4 : ((s[k].toNat : Int) == 95) = false := by rw [HX.out]; simp; omega
  have f5 : decide ((s[k].toNat : Int) < 48) = true := dTr lq14
  have f6 : decide (57 < (s[k].toNat : Int)) = false := dFa lq14
  have n0 : decide (97 ≤ s[k].toNat) = false := dFa lq14
  have n1 : decide (s[k].toNat ≤ 122) = true := dTr lq14
  have n2 : decide (65 ≤ s[k].toNat) = false := dFa lq14
  have n3 : decide (s[k].toNat ≤ 90) = true := dTr lq14
  have n4 : (s[k].toNat == 95) = false := by rw [HX.out]; simp; omega
  have n5 : decide (s[k].toNat < 48) = true := dTr lq14
  have n6 : decide (57 < s[k].toNat) = false := dFa lq14
  exact lw0_3) : p := h
theorem lv6 {p : Prop} (h : p := by
  have hz : preB (s.data.toList.take (k + 1)) = false := by rw [HT1.out]; simp; omega
  have f0 : decide (97 ≤ (s[k].toNat : Int)) = false := dFa lq14
  have f1 : decide ((s[k].toNat : Int) ≤ 122) = true := dTr lq14
  have f2 : decide (65 ≤ (s[k].toNat : Int)) = false := dFa lq14
  have f3 : decide ((s[k].toNat : Int) ≤ 90) = true := dTr lq14
  have f4 : ((s[k].toNat : Int) == 95) = false := by rw [HX.out]; simp; omega
  have f5 : decide ((s[k].toNat : Int) < 48) = false := dFa lq14
  have f6 : decide (57 < (s[k].toNat : Int)) = true := dTr lq14
  have n0 : decide (97 ≤ s[k].toNat) = false := dFa lq14
  have n1 : decide (s[k].toNat ≤ 122) = true := dTr lq14
  have n2 : decide (65 ≤ s[k].toNat) = false := dFa lq14
  have n3 : decide (s[k].toNat ≤ 90) = true := dTr lq14
  have n4 : (s[k].toNat == 95) = false := by rw [HX.out]; simp; omega
  have n5 : decide (s[k].toNat < 48) = false := dFa lq14
  have n6 : decide (57 < s[k].toNat) = true := dTr lq14
  exact lw0_3) : p := h
theorem lv7 {p : Prop} (h : p := by
  have hz : preB (s.data.toList.take (k + 1)) = false := by rw [HT1.out]; simp; omega
  have f0 : decide (97 ≤ (s[k].toNat : Int)) = false := dFa lq14
  have f1 : decide ((s[k].toNat : Int) ≤ 122) = true := dTr lq14
  have f2 : decide (65 ≤ (s[k].toNat : Int)) = true := dTr lq14
  have f3 : decide ((s[k].toNat : Int) ≤ 90) = false := dFa lq14
  have f4 : ((s[k].toNat : Int) == 95) = false := by rw [HX.out]; simp; omega
  have f5 : decide ((s[k].toNat : Int) < 48) = false := dFa lq14
  have f6 : decide (57 < (s[k].toNat : Int)) = true := dTr lq14
  have n0 : decide (97 ≤ s[k].toNat) = false := dFa lq14
  have n1 : decide (s[k].toNat ≤ 122) = true := dTr lq14
  exact lw0_1) : p := h
theorem lv8 {p : Prop} (h : p := by
  have hz : preB (s.data.toList.take (k + 1)) = false := by rw [HT1.out]; simp; omega
  have f0 : decide (97 ≤ (s[k].toNat : Int)) = true := dTr lq14
  have f1 : decide ((s[k].toNat : Int) ≤ 122) = false := dFa lq14
  have f2 : decide (65 ≤ (s[k].toNat : Int)) = true := dTr lq14
  have f3 : decide ((s[k].toNat : Int) ≤ 90) = false := dFa lq14
  have f4 : ((s[k].toNat : Int) == 95) = false := by rw [HX.out]; simp; omega
  have f5 : decide ((s[k].toNat : Int) < 48) = false := dFa lq14
  have f6 : decide (57 < (s[k].toNat : Int)) = true := dTr lq14
  have n0 : decide (97 ≤ s[k].toNat) = true := dTr lq14
  have n1 : decide (s[k].toNat ≤ 122) = false := dFa lq14
  exact lw0_1) : p := h
theorem lv9 {p : Prop} (h : p := by
  have hz : preB (s.data.toList.take (k + 1)) = true := by rw [HT1.out]; simp; omega
  have f0 : decide (97 ≤ (s[k].toNat : Int)) = false := dFa lq14
  have f1 : decide ((s[k].toNat : Int) ≤ 122) = true := dTr lq14
  have f2 : decide (65 ≤ (s[k].toNat : Int)) = true := dTr lq14
  have f3 : decide ((s[k].toNat : Int) ≤ 90) = true := dTr lq14
  have f4 : ((s[k].toNat : Int) == 95) = false := by rw [HX.out]; simp; omega
  have f5 : decide ((s[k].toNat : Int) < 48) = false := dFa lq14
  have f6 : decide (57 < (s[k].toNat : Int)) = true := dTr lq14
  have n0 : decide (97 ≤ s[k].toNat) = false := dFa lq14
  have n1 : decide (s[k].toNat ≤ 122) = true := dTr lq14
  have n2 : decide (65 ≤ s[k].toNat) = true := dTr lq14
  have n3 : decide (s[k].toNat ≤ 90) = true := dTr lq14
  exact lw0_2) : p := h
theorem lv10 {p : Prop} (h : p := by
  have hz : preB (s.data.toList.take (k + 1)) = true := by rw [HT1.out]; simp; omega
  have f0 : decide (97 ≤ (s[k].toNat : Int)) = true := dTr lq14
  have f1 : decide ((s[k].toNat : Int) ≤ 122) = true := dTr lq14
  have f2 : decide (65 ≤ (s[k].toNat : Int)) = true := dTr lq14
  have f3 : decide ((s[k].toNat : Int) ≤ 90) = false := dFa lq14
  have f4 : ((s[k].toNat : Int) == 95) = false := by rw [HX.out]; simp; omega
  have f5 : decide ((s[k].toNat : Int) < 48) = false := dFa lq14
  have f6 : decide (57 < (s[k].toNat : Int)) = true := dTr lq14
  have n0 : decide (97 ≤ s[k].toNat) = true := dTr lq14
  have n1 : decide (s[k].toNat ≤ 122) = true := dTr lq14
  have n2 : decide (65 ≤ s[k].toNat) = true := dTr lq14
  have n3 : decide (s[k].toNat ≤ 90) = false := dFa lq14
  exact lw0_2) : p := h
theorem lv11 {p : Prop} (h : p := by
  have hz : preB (s.data.toList.take (k + 1)) = true := by rw [HT1.out]; simp; omega
  have f0 : decide (97 ≤ (s[k].toNat : Int)) = false := dFa lq14
  have f1 : decide ((s[k].toNat : Int) ≤ 122) = true := dTr lq14
  have f2 : decide (65 ≤ (s[k].toNat : Int)) = true := dTr lq14
  have f3 : decide ((s[k].toNat : Int) ≤ 90) = false := dFa lq14
  have f4 : ((s[k].toNat : Int) == 95) = true := by rw [HX.out, h]; rfl
  have f5 : decide ((s[k].toNat : Int) < 48) = false := dFa lq14
  have f6 : decide (57 < (s[k].toNat : Int)) = true := dTr lq14
  have n0 : decide (97 ≤ s[k].toNat) = false := dFa lq14
  have n1 : decide (s[k].toNat ≤ 122) = true := dTr lq14
  have n2 : decide (65 ≤ s[k].toNat) = true := dTr lq14
  have n3 : decide (s[k].toNat ≤ 90) = false := dFa lq14
  have n4 : (s[k].toNat == 95) = true := by rw [HX.out, h]; rfl
  have n5 : decide (s[k].toNat < 48) = false := dFa lq14
  have n6 : decide (57 < s[k].toNat) = true := dTr lq14
  clear h
  go_wp2_with fail
  go_roundw
  case rel => exact ⟨k + 1, by go_num, by omega, Lh hz, hbr⟩
  case measure => simp [intOf]; omega) : p := h
theorem lv12 {p : Prop} (h : p := by
  rw [hb] at hE hR
  subst hE
  simp only [Bool.false_eq_true, if_false] at hR
  clear hany hb
  obtain ⟨hk11, hs11, hz11⟩ := kd hk10 hq
  have hP11 := hP10.later hq
  have hxR_11 := kb hq hxR_10
  have hxn_11 := kb hq hxn_10
  have hF2_11 := hF2_10.later hq (Old.nn X _)
  have HE := Lh (show _ ∧ _ ∧ _ from ⟨hk11, hP11, hF2_11⟩)
  obtain ⟨k0, k1, k2, k3, k4, k5⟩ := bx_cells hxR_11
  have z := Lib.frozen_of_heap hxR_11
  obtain ⟨mn0, mn1, mn2, mn3, mn4, mn5⟩ := bx_cells hxn_11
  obtain ⟨r0, r1, r2, r3, r4, r5⟩ := bp hxR_11 (.int .i64 T2.kind) (.int .i64 T2.pos) (.string T2.text) (.bool T2.neg) (.slice A2 T2.mag.length c2) (.slice K2 T2.kids.length d2)
  clear hxR_11 hxn_11 hF2_11 hk11 hP11
  go_wp2_with fail
  refine bodyPost_ret (v := ndV T2 A2 c2 K2 d2) (by simp [results, Tryz.results241, go_sem, r0, r1, r2, r3, r4, r5, ndV]) rfl ?_
  exact lw0_4) : p := h
theorem lv13 {p : Prop} (h : p := by
  have HRR := Lh hr
  clear hd h1 hr
  obtain ⟨hm1, hm2, hrm, hw32, hk1, hk2, ⟨hk64a, hk64b⟩, ⟨ha64a, ha64b⟩, hts, hKs, HK⟩ := hN.hd
  have hb1 := (Below.refl w.heap.size w).alloc (Nat.le_refl _) (.cells #[.int .i64 T.kind, .int .i64 T.pos, .string T.text, .bool T.neg, .slice A T.mag.length c, .slice K T.kids.length d] 29)
  obtain ⟨c0, c1, c2, c3, c4, c5⟩ := (cellsN_new w T A c K d 29).box
  unfold ndV
  clear hKs hN
  go_enter Tryz.func22, Tryz.ntmps22
  go_wp2_with (first | (go_at_call 41; refine (HDe.out _ hb1).mono ?_; rintro e w3 ⟨rfl, hb3⟩; have hw3 := hb1.trans (hb3.mono hb1.size); obtain ⟨p0, p1, p2, p3, p4, p5⟩ := cl6 hb3 c0 c1 c2 c3 c4 c5; have hl3 := blt p0) | (go_at_call 42; refine (HRi.out _ hw3).mono ?_; rintro e w4 ⟨he4, hb4⟩; rw [HRR.out] at he4; subst he4))
  go_ret
  exact ⟨by rw [HC.out]; rfl, hw3.trans (hb4.mono hw3.size)⟩) : p := h
theorem lv14 {p : Prop} (h : p := by
  have hP14 := hP13.later hb14
  have hR0_14 := hR0_13.later hb14 (hO.mono lq17)
  go_wp2_with (at_builtin; refine wp_append_row rfl _ _ rfl hR0_14 rfl hA w13.heap.size rfl hbq lq17 lq17 lq17 (hO.mono lq17) ?_; intro g15 cap15 w15 hRn hq hgl hgr)
  have hk15 := hk14.trans ((Kp.of_below hq X).mono lq17)
  have hs15 := hq.size
  have hz15 := hk15.size
  have hP15 := hP14.blocks (fun k hk => hq.5 k lq17)
  have hR0_15 := hRn
  clear hRn hA hbq hgr hR0_14 hP14
  have HE := Lh (show _ ∧ _ ∧ _ from ⟨hP15, hR0_15, hk15⟩)
  clear hP15 hR0_15 hk15 hse14
  go_wp2_with fail
  go_roundg gk
  case measure => omega
  case rel => exact ⟨ks ++ [T1], l1, some ⟨g15, 0, none⟩, cap15, by simp, Lh ⟨HE.out.1, HE.out.2.1, HE.out.2.2, hR, by have := tlSf ‹isS e _ l0 = true›; simp only [length_append, length_cons, length_nil]; omega, by omega⟩⟩) : p := h
theorem lv15 {p : Prop} (h : p := by
  obtain ⟨hm1, hm2, hrm, hw32, hk1, hk2, ⟨hk64a, hk64b⟩, ⟨ha64a, ha64b⟩, hts, hKs, HK⟩ := hN.hd
  have hb1 := (Below.refl w.heap.size w).alloc (Nat.le_refl _) (.cells #[.int .i64 T.kind, .int .i64 T.pos, .string T.text, .bool T.neg, .slice A T.mag.length c, .slice K T.kids.length d] 29)
  obtain ⟨c0, c1, c2, c3, c4, c5⟩ := (cellsN_new w T A c K d 29).box
  unfold ndV
  clear hKs hN
  go_enter Tryz.func22, Tryz.ntmps22
  go_wp2_with (first | (go_at_call 41; refine (HDe.out _ hb1).mono ?_; rintro e w3 ⟨rfl, hb3⟩; have hw3 := hb1.trans (hb3.mono hb1.size); obtain ⟨p0, p1, p2, p3, p4, p5⟩ := cl6 hb3 c0 c1 c2 c3 c4 c5; have hl3 := blt p0) | (go_at_call 42; refine (HRi.out _ hw3).mono ?_; rintro e w4 ⟨he4, hb4⟩; rw [HRR.out] at he4; subst he4))
  go_ret
  exact ⟨by rw [HC.out]; rfl, hw3⟩) : p := h
theorem lv16 {p : Prop} (h : p := by
  intro E w2 hE
  rcases hE with ⟨cc, aa, hv, rfl, hq⟩ | ⟨ks, r, A, c, hv, rfl, hP2, hR2, hq⟩
  ·have HV := Lh hv; clear hv; have hk2 := hk1.trans (hq.kp (X := X) (B' := w.heap.size) hb1.size (fun k h => by rcases h with h | h | h <;> omega)); go_wp2_with fail; exact ⟨rfl, .inl ⟨cc, aa, HV.out, rfl, hk2⟩⟩
  ·have HV := Lh hv; clear hv; have hk2 := hk1.trans (hq.kp (X := X) (B' := w.heap.size) hb1.size (fun k h => by rcases h with h | h | h <;> omega)); have hR3 : RowS Nn w.heap.size X w2 A c ks := hR2.into (fun _ h => h.elim) lq17 lq17; have HE := Lh (show _ ∧ _ ∧ _ from ⟨hP2, hR3, hk2⟩); clear hP2 hR2 hR3 hk2 hq hb1 hB hP1; go_wp2_with fail; go_ret; exact .inr ⟨ks, r, A, c, HV.out, rfl, HE.out.1, HE.out.2.1, HE.out.2.2⟩) : p := h
theorem lv17 {p : Prop} (h : p := by
  refine anyZ_end lq15 ?_ _
  have HE := Lh (show _ ∧ _ ∧ _ ∧ _ from ⟨hk17, hP17, (⟨hxp_17, hxa_17, hxb_17⟩ : Bx3 X b (true, false) _), hFz_17⟩)
  obtain ⟨r0, r1, r2, r3, r4, r5⟩ := bp hxR_17 (.int .i64 52) (.int .i64 ((hd e l).pos)) (.string (hd e l).text) (.bool false) (.slice none 0 0) (.slice (some ⟨w15.heap.size, 0, none⟩) 1 1)
  clear q0 q1 q2 hxp_17 hxa_17 hxb_17 hxR_17 hxt_17 hF1_17 hFz_17 hk17 hP17
  go_wp2_with fail
  refine bodyPost_ret (v := .agg #[.int .i64 52, .int .i64 ((hd e l).pos), .string (hd e l).text, .bool false, .slice none 0 0, .slice (some ⟨w15.heap.size, 0, none⟩) 1 1]) lq7 rfl ?_
  exact ret6Q HE.out.1 HE.out.2.1 HE.out.2.2.1 HE.out.2.2.2 lq17 lq17 hXl hbl hR.symm) : p := h
theorem lv18 {p : Prop} (h : p := by
  refine anyZ_end lq15 ?_ _
  have HE := Lh (show _ ∧ _ ∧ _ from ⟨hk9, hP9, hFz_9⟩)
  obtain ⟨r0, r1, r2, r3, r4, r5⟩ := bp hxR_9 (.int .i64 4) (.int .i64 at_) (.string ⟨#[]⟩) (.bool false) (.slice none 0 0) (.slice (some ⟨w7.heap.size, 0, none⟩) 2 2)
  clear hxR_9 hxn_9 hF1_9 hF2_9 hFz_9 hk9 hP9
  go_wp2_with fail
  refine bodyPost_ret (v := .agg #[.int .i64 4, .int .i64 at_, .string ⟨#[]⟩, .bool false, .slice none 0 0, .slice (some ⟨w7.heap.size, 0, none⟩) 2 2]) lq6 rfl ?_
  exact lw0_4) : p := h
theorem lv19 {p : Prop} (h : p := by
  clear hm0
  obtain ⟨hm1, hm2, hrm, hw32, hk1, hk2, ⟨hk64a, hk64b⟩, ⟨ha64a, ha64b⟩, hts, hKs, HK⟩ := hN.hd
  have hb1 := (Below.refl w.heap.size w).alloc (Nat.le_refl _) (.cells #[.int .i64 T.kind, .int .i64 T.pos, .string T.text, .bool T.neg, .slice A T.mag.length c, .slice K T.kids.length d] 29)
  obtain ⟨c0, c1, c2, c3, c4, c5⟩ := (cellsN_new w T A c K d 29).box
  rw [hng] at hb1 c3
  unfold ndV
  rw [hng]
  clear hKs hN
  go_enter Tryz.func80, Tryz.ntmps80
  go_wp2_with fail
  go_ret
  exact ⟨by show Ending.returned (.bool _) = _; simp [noNumB, hng, e2], hb1⟩) : p := h
theorem lv20 {p : Prop} (h : p := by
  refine leaves_cons (f := 29) (args := #[.pointer (some ⟨w.heap.size, 0, none⟩), .pointer (some ⟨w.heap.size + 1, 0, none⟩)]) lq18 (by simp [go_sem]) ?_
  refine (catchP_stop w.heap.size (w.heap.size + 1) 107 a [] w6 hn6 hf6 lq17).mono ?_
  rintro E u' w'' ⟨rfl, rfl, k0, k1, hk⟩
  obtain ⟨r0, r1, r2, r3, r4, r5⟩ := bx_cells k0
  obtain ⟨g0, g1⟩ := bx_two2 k1
  simp [Leaves, settle, results, Tryz.results14, go_sem, r0, r1, r2, r3, r4, r5, g0, g1]
  exact .inl ⟨107, a, hR.symm, rfl, hbw6.trans (hk _ (Nat.le_refl _) (Nat.le_succ _))⟩) : p := h
theorem lv21 {p : Prop} (h : p := by
  refine leaves_cons (f := 29) (args := #[.pointer (some ⟨w.heap.size, 0, none⟩), .pointer (some ⟨w.heap.size + 1, 0, none⟩)]) lq18 (by simp [go_sem]) ?_
  refine (catchP_stop w.heap.size (w.heap.size + 1) cc aa [] w4 hn4 hf4 lq17).mono ?_
  rintro E u' w'' ⟨rfl, rfl, k0, k1, hk⟩
  obtain ⟨r0, r1, r2, r3, r4, r5⟩ := bx_cells k0
  obtain ⟨g0, g1⟩ := bx_two2 k1
  simp [Leaves, settle, results, Tryz.results14, go_sem, r0, r1, r2, r3, r4, r5, g0, g1]
  exact .inl ⟨cc, aa, hR.symm, rfl, hbw.trans (hk _ (Nat.le_refl _) (Nat.le_succ _))⟩) : p := h
theorem lv22 {p : Prop} (h : p := by
  clear he3
  obtain ⟨hm1, hm2, hrm, hw32, hk1, hk2, ⟨hk64a, hk64b⟩, ⟨ha64a, ha64b⟩, hts, hKs, HK⟩ := hN.hd
  have hb1 := (Below.refl w.heap.size w).alloc (Nat.le_refl _) (.cells #[.int .i64 T.kind, .int .i64 T.pos, .string T.text, .bool T.neg, .slice A T.mag.length c, .slice K T.kids.length d] 29)
  obtain ⟨c0, c1, c2, c3, c4, c5⟩ := (cellsN_new w T A c K d 29).box
  unfold ndV
  clear hKs hN
  go_enter Tryz.func213, Tryz.ntmps213
  go_wp2_with fail
  go_ret
  exact ⟨by show Ending.returned (.bool _) = _; simp [isTargetK, e1, e2, e3], hb1⟩) : p := h
theorem lv23 {p : Prop} (h : p := by
  have hr : ((decide (97 ≤ k) && decide (k ≤ 122)) || (decide (65 ≤ k) && decide (k ≤ 90)) || k == 95) = false := by simp; omega
  rw [hr]
  clear hr
  have e1 : decide (97 ≤ (k : Int)) = false := dFo
  have e3 : decide (65 ≤ (k : Int)) = true := dTo
  have e4 : decide ((k : Int) ≤ 90) = false := dFo
  have e5 : ((k : Int) == 95) = false := by simp; omega
  clear h
  go_enter Tryz.func167, Tryz.ntmps167
  go_wp2
  go_ret
  exact ⟨rfl, rfl⟩) : p := h
theorem lv24 {p : Prop} (h : p := by
  refine ⟨?_, ?_, ?_⟩
  ·rw [heap_alloc_old _ _ lq10, heap_alloc_old _ _ lq10]; exact heap_alloc_new _ _
  ·rw [heap_alloc_old _ _ lq10]; have := heap_alloc_new (w.alloc (.cells #[.pointer (some ⟨X, 0, none⟩)] 56)) (.cells #[.bool false] 4)
   simpa using this
  ·have := heap_alloc_new ((w.alloc (.cells #[.pointer (some ⟨X, 0, none⟩)] 56)).alloc (.cells #[.bool false] 4)) (.cells #[.bool false] 4)
   simpa using this) : p := h
theorem lv25 {p : Prop} (h : p := by
  rintro e w1 ⟨⟨v1, rfl, hv1⟩, hb1⟩
  have hvt := hvt.later hb1
  have hU := hU.call hb1
  obtain ⟨g1, cp1, hve, _⟩ := id hv1
  subst hve
  obtain ⟨_, _, _, _, hsz, r0, r1, z0, z1⟩ := id hU
  go_wp2
  exact bodyPost_ret (v := .agg #[.func (.func 137) #[] #[], .func (.func g1) #[] cp1]) (by simp [results, Tryz.results78, go_sem, r0, r1, z0, z1]) rfl (FormR.put hU textQ_non hv1)) : p := h
theorem lv26 {p : Prop} (h : p := by
  refine leaves_cons (f := 29) (args := #[.pointer (some ⟨w.heap.size, 0, none⟩), .pointer (some ⟨w.heap.size + 1, 0, none⟩)]) lq18 (by simp [go_sem]) ?_
  refine (catchP_idle _ _ _).mono ?_
  rintro E u' w'' ⟨rfl, rfl, rfl⟩
  simp [Leaves, settle, results, Tryz.results14, go_sem, r0, r1, r2, r3, r4, r5, g0, g1]
  exact .inr ⟨T, l1, A1, c1, K1, d1, hR.symm, rfl, kF, kB⟩) : p := h
theorem lv27 {p : Prop} (h : p := by
  go_wp2_with (go_at_call 89; refine (lxPut_ok 5 _ p hL3 (by rw [World.size_setCell]; exact hz1) lq16 hn).mono ?_; rintro e w2 ⟨rfl, hL2, hb2⟩; clear q0 q1 q3 f1 f3; obtain ⟨q0, q1, q3, f1, f3, hX, hbX⟩ := hL2.cells)
  go_end0
  exact ⟨rfl, hL2.setPos _ _ lq17, Below.setCell (p := ⟨X, 1, none⟩) ((Below.setCell (p := ⟨X, 3, none⟩) hbr hbX _).trans hb2) hbX _⟩) : p := h
theorem lv28 {p : Prop} (h : p := by
  simp only [hv, yF, if_false, yO, yA] at hR
  obtain ⟨hk11, hs11, hz11⟩ := kc hk10 hq
  have hR0_11 := hR0_10.kp hq (hO.mono lq17) lq17
  have HE := Lh (show _ ∧ _ ∧ _ from ⟨hP11, hR0_11, hk11⟩)
  clear hP11 hR0_11 hk11
  go_wp2_with fail
  go_ret
  exact .inr ⟨ks, _, A0, c0, hR.symm, rfl, HE.out.1, HE.out.2.1, HE.out.2.2⟩) : p := h
theorem lv29 {p : Prop} (h : p := by
  go_wp2_with fail
  refine bodyPost_ret (v := .agg #[.int .i64 11, .int .i64 at_, .string ⟨#[]⟩, .bool false, .slice none 0 0, .slice (some ⟨w7.heap.size, 0, none⟩) 1 1]) lq4 rfl ?_
  exact lw0_4) : p := h
theorem lv30 {p : Prop} (h : p := by
  go_wp2_with fail
  refine bodyPost_ret (v := .agg #[.int .i64 12, .int .i64 at_, .string ⟨#[]⟩, .bool false, .slice none 0 0, .slice (some ⟨w8.heap.size, 0, none⟩) 1 1]) lq4 rfl ?_
  exact lw0_4) : p := h
theorem lv31 {p : Prop} (h : p := by
  rw [o1]
  clear h1
  go_enter Tryz.func240, Tryz.ntmps240
  go_wp2_with fail
  go_at_call 217
  refine (HW.out _).mono ?_
  rintro E w2 ⟨rfl, hb2⟩
  obtain ⟨k0, k1⟩ := cl2 hb2 k0 k1
  go_wp2_with fail
  go_ret
  exact ⟨by simp [bytes_beq], hb1.trans (hb2.mono hb1.size)⟩) : p := h
theorem lv32 {p : Prop} (h : p := by
  obtain ⟨hk12, hs12, hz12⟩ := kc hk11 hq
  have hxR_12 := kx hq hxR_11
  have hxn_12 := kx hq hxn_11
  have hxf_12 := kx hq hxf_11
  have hF1_12 := hF1_11.kp hq (Old.nn X _) lq17
  have hF2_12 := hF2_11.kp hq (Old.nn X _) lq17
  exact absurd (hvf.symm.trans hv) lq16) : p := h
theorem lv33 {p : Prop} (h : p := by
  go_wp2_with (go_at_call 279; refine hdc.mono ?_; rintro e W1 ⟨rfl, hb1⟩)
  go_quiet (fail)
  have hb2 := below_drewN hb1 nq
  clear hb1
  have hI1 := isB_later hI hb2
  have hs1 := Nat.le_trans hsz hb2.size
  go_wp2
  go_ret3
  exact ⟨rfl, hbw.trans (hb2.mono hsz)⟩) : p := h
theorem lv34 {p : Prop} (h : p := by
  have o1 : decide ((k : Int) < (m : Int)) = false := dFo
  have o2 : decide (k < m) = false := dFa hkl
  have hR2 := hR.out
  rw [List.take_of_length_le (by have := HM.out; omega)] at hR2
  go_wp2_with fail
  go_ret
  exact ⟨⟨-1, rfl, .inr ⟨rfl, hR2⟩⟩, hbr⟩) : p := h
theorem lv35 {p : Prop} (h : p := by
  rw [g1] at hvr
  go_enter Tryz.func280, Tryz.ntmps280
  go_wp2_with (first | (go_at_call 311; refine (hu _).mono ?_; rintro e w' ⟨rfl, rfl⟩) | (go_at_call 312; refine (hvr _).mono ?_; rintro e w' ⟨rfl, rfl⟩))
  go_ret2
  exact ⟨rfl, rfl⟩) : p := h
theorem lv36 {p : Prop} (h : p := by
  rw [e1]
  go_enter Tryz.func77, Tryz.ntmps77
  go_wp2
  go_ret
  exact ⟨rfl, hp, (keepsQ_set (Q := fun b => b = X) (X := X) (KeepsQ.below (Below.refl _ _)) rfl _).trans (KeepsQ.below ((Below.refl _ _).alloc (Nat.le_refl _) _))⟩) : p := h
theorem lv37 {p : Prop} (h : p := by
  rintro E w3 ⟨rfl, hb3⟩
  go_wp2_with fail
  go_roundw
  case rel => exact ⟨k + 1, by go_num, by omega, Lh (HT1.out.trans (by rw [hR.out]; rfl)), hbr.trans (hb3.mono hbr.size)⟩
  case measure => simp [intOf]; omega) : p := h
theorem lv38 {p : Prop} (h : p := by
  rw [← hW2]
  have := heap_alloc_new (w.alloc (.cells #[.int .i64 0, .int .i64 0, .string ⟨#[]⟩, .bool false, .slice none 0 0, .slice none 0 0] 29)) (.cells #[.int .i64 0, .int .i64 0] 31)
  simpa using this) : p := h
theorem lv39 {p : Prop} (h : p := by
  rw [List.getElem?_append_left hil] at hi
  obtain ⟨A', c', K', d', k1, k2⟩ := ho i s hi
  refine ⟨A', c', K', d', fun j hj => ?_, hmv k2⟩
  rw [List.getElem?_append_left (by rw [hl]; omega)]
  exact k1 j hj) : p := h
theorem lv40 {p : Prop} (h : p := by
  go_enter Tryz.func186, Tryz.ntmps186
  go_wp2_with fail
  go_at_call 55
  refine HA.out.mono ?_
  rintro E w2 ⟨rfl, hb2⟩
  go_wp2_with fail
  go_ret
  exact ⟨.inl ⟨rfl, rfl⟩, HP.out _ hb2, Kp.of_below hb2 X⟩) : p := h
theorem lv41 {p : Prop} (h : p := by
  go_wp2_with fail
  go_at_call 182
  refine (HW.out _ hP4).mono ?_
  rintro E w5 ⟨rfl, hb5⟩
  go_wp2_with fail
  exact ⟨rfl, .inr ⟨by rw [HV.out, HT.out], by rw [HT.out], hk4.below (Nat.le_refl _) hb5⟩⟩) : p := h
theorem lv42 {p : Prop} (h : p := by
  intro w hSw
  (try dsimp only at hSw)
  obtain ⟨hS0, hS1⟩ := hSw
  obtain ⟨s00, s01, s02, s03, s04, s05⟩ := bx_cells hS0
  obtain ⟨s10, s11, s12, s13, s14, s15⟩ := bx_cells hS1
  clear hS0 hS1
  go_simp) : p := h
theorem lv43 {p : Prop} (h : p := by
  refine k g cap w' (RowS.snoc ⟨xs, h1, h2, h3⟩ hn h3 h1.1 hown h2 hx hP hg hat) ⟨hg.os, hg.tape, hg.output, hg.size, fun q hq => hg.block q lq17 (fun e => ?_)⟩ hgl hg
  have := hlt q e.symm
  omega) : p := h
theorem lv44 {p : Prop} (h : p := by
  intro w hSw
  (try dsimp only at hSw)
  obtain ⟨hS0, hS1⟩ := hSw
  obtain ⟨s00, s01, s02⟩ := bx_three hS0
  obtain ⟨s10, s11, s12, s13, s14, s15⟩ := bx_cells hS1
  clear hS0 hS1
  go_simp) : p := h
theorem lv45 {p : Prop} (h : p := by
  intro w hSw
  (try dsimp only at hSw)
  obtain ⟨hS0, hS1⟩ := hSw
  obtain ⟨s00, s01, s02, s03, s04, s05⟩ := bx_cells hS0
  obtain ⟨s10, s11, s12⟩ := bx_three hS1
  clear hS0 hS1
  go_simp) : p := h
theorem lv46 {p : Prop} (h : p := by
  clear hcut hBad hE hSg hN hY hG hV hT hx
  go_wp2
  exact bodyPost_ret (v := .tuple #[.agg #[.bool false, .slice none 0 0], .int .i64 4]) (by simp [results, Tryz.results284, go_sem]) rfl hb) : p := h
theorem lv47 {p : Prop} (h : p := by
  clear hcut hBad hE hSg hN hY hG hV hall
  go_wp2
  exact bodyPost_ret (v := .tuple #[.agg #[.bool false, .slice none 0 0], .int .i64 4]) (by simp [results, Tryz.results284, go_sem]) rfl hb) : p := h
theorem lv48 {p : Prop} (h : p := by
  have h1' : ¬ fn.name = "runtime.NumGoroutine" := by simpa using h1
  have h2' : ¬ fn.body = none := by intro e; rw [e] at h2; exact absurd h2 lq16
  unfold callFunc
  simp [h, h1', h2']) : p := h
theorem lv49 {p : Prop} (h : p := by
  intro w hSw
  (try dsimp only at hSw)
  obtain ⟨hS0, hS1⟩ := hSw
  obtain ⟨s00, s01, s02⟩ := bx_three hS0
  have s10 := cell_of_one hS1
  clear hS0 hS1
  clear q0 q1 q2
  go_simp) : p := h
theorem lv50 {p : Prop} (h : p := by
  go_wp2_with fail
  go_at_call 9
  refine (HA.out _ hb3).mono ?_
  rintro E w4 ⟨rfl, hq⟩
  go_wp2_with fail
  go_ret
  exact ⟨rfl, hb3.trans (hq.mono hb3.size)⟩) : p := h
theorem lv51 {p : Prop} (h : p := by
  go_wp2_with fail
  refine bodyPost_ret (v := ndV T1 A1 c1 K1 d1) lq4 rfl ?_
  exact lw0_4) : p := h
theorem lv52 {p : Prop} (h : p := by
  go_wp2_with fail
  refine bodyPost_ret (v := ndV T1 A1 c1 K1 d1) lq5 rfl ?_
  exact lw0_4) : p := h
theorem lv53 {p : Prop} (h : p := by
  go_wp2_with fail
  refine bodyPost_ret (v := ndV T1 A1 c1 K1 d1) lq8 rfl ?_
  exact lw0_4) : p := h
theorem lv54 {p : Prop} (h : p := by
  simp only [needS, hv, Bool.false_eq_true, if_false, Rs.bind_bad] at hR
  go_wp2_with fail
  exact ⟨rfl, retBad (hk8.call (Nat.le_refl _) hq) hR.symm⟩) : p := h
theorem lv55 {p : Prop} (h : p := by
  go_enter Tryz.func280, Tryz.ntmps280
  go_wp2_with (go_at_call 311; refine (hx _).mono ?_; rintro e w' ⟨rfl, rfl⟩)
  go_ret2
  exact ⟨rfl, rfl⟩) : p := h
theorem lv56 {p : Prop} (h : p := by
  intro w hSw
  (try dsimp only at hSw)
  have hS0 := hSw
  obtain ⟨s00, s01, s02, s03, s04, s05⟩ := bx_cells hS0
  clear hS0 hSw
  go_simp) : p := h
theorem lv57 {p : Prop} (h : p := by
  intro w hSw
  (try dsimp only at hSw)
  have hS0 := hSw
  obtain ⟨s00, s01, s02⟩ := bx_three hS0
  clear hS0 hSw
  clear q0 q1 q2
  go_simp) : p := h
theorem lv58 {p : Prop} (h : p := by
  rw [Addr.add_lit, Nat.zero_add]
  refine cell_of_row _ _ j _ _ _ hb |>.trans ?_
  rw [← Array.getElem?_toList]
  exact hj) : p := h
theorem lv59 {p : Prop} (h : p := by
  intro w hSw
  (try dsimp only at hSw)
  obtain ⟨s00, s01, s02⟩ := bx_three hSw
  clear hSw
  go_simp) : p := h
theorem lv60 {p : Prop} (h : p := by
  rw [hv] at hR
  go_wp2_with fail
  exact ⟨rfl, retBad (hk3.call (Nat.le_refl _) hq) hR.symm⟩) : p := h
theorem lv61 {p : Prop} (h : p := by
  rw [hv] at hR
  go_wp2_with fail
  exact ⟨rfl, retBad (hk1.call (Nat.le_refl _) hq) hR.symm⟩) : p := h
theorem lv62 {p : Prop} (h : p := by
  rw [hv] at hR
  go_wp2_with fail
  exact ⟨rfl, retBad (hk4.call (Nat.le_refl _) hq) hR.symm⟩) : p := h
theorem lv63 {p : Prop} (h : p := by
  rw [hv] at hR
  go_wp2_with fail
  exact ⟨rfl, retBad (hk5.call (Nat.le_refl _) hq) hR.symm⟩) : p := h
theorem lv64 {p : Prop} (h : p := by
  rw [hv] at hR
  go_wp2_with fail
  exact ⟨rfl, retBad (hk7.call (Nat.le_refl _) hq) hR.symm⟩) : p := h
theorem lv65 {p : Prop} (h : p := by
  rw [hv] at hR
  go_wp2_with fail
  exact ⟨rfl, retBad (hk6.call (Nat.le_refl _) hq) hR.symm⟩) : p := h
theorem lv66 {p : Prop} (h : p := by
  rw [hv] at hR
  go_wp2_with fail
  exact ⟨rfl, retBad (hk8.call (Nat.le_refl _) hq) hR.symm⟩) : p := h
theorem lv67 {p : Prop} (h : p := by
  rw [hv] at hR
  go_wp2_with fail
  exact ⟨rfl, retBad (hk9.call (Nat.le_refl _) hq) hR.symm⟩) : p := h
theorem lv68 {p : Prop} (h : p := by
  rw [hv] at hR
  exact ⟨rfl, retBad (hk7.call (Nat.le_refl _) (kp_undrew hq)) hR.symm⟩) : p := h
theorem lv69 {p : Prop} (h : p := by
  rw [hv] at hR
  exact ⟨rfl, retBad (hk6.call (Nat.le_refl _) (kp_undrew hq)) hR.symm⟩) : p := h
theorem lv70 {p : Prop} (h : p := by
  subst hv
  go_wp2_with fail
  exact ⟨rfl, retBad (hk2.call (Nat.le_refl _) hq) rfl⟩) : p := h
theorem lv71 {p : Prop} (h : p := by
  exact ret6Q HE.out.1 HE.out.2.1 HE.out.2.2.1 HE.out.2.2.2 lq17 lq17 hXl hbl hR.symm) : p := h
theorem lv72 {p : Prop} (h : p := by
  go_enter Tryz.func213, Tryz.ntmps213
  go_wp2_with fail
  go_ret
  exact ⟨rfl, hb1⟩) : p := h
theorem lv73 {p : Prop} (h : p := by
  clear h
  go_enter Tryz.func167, Tryz.ntmps167
  go_wp2
  go_ret
  exact ⟨rfl, rfl⟩) : p := h
theorem lv74 {p : Prop} (h : p := by
  exact lw0_4) : p := h
theorem lv75 {p : Prop} (h : p := by
  exact ret6 HE.out.1 HE.out.2.1 HE.out.2.2 lq17 lq17 hXl (Old.nn X _) HV.out) : p := h
theorem lv76 {p : Prop} (h : p := by
  go_enter Tryz.func280, Tryz.ntmps280
  go_wp2
  go_ret2
  exact ⟨rfl, rfl⟩) : p := h
theorem lv77 {p : Prop} (h : p := by
  intro w hSw
  obtain ⟨u0, u1⟩ := hSw
  clear s0 s1
  go_simp) : p := h
theorem lv78 {p : Prop} (h : p := by
  subst hk; simpa [Bool.or_eq_false_iff, and_assoc] using h) : p := h
end Go.Proofs.YtjndbcnmmnkilaaGreatDoor
