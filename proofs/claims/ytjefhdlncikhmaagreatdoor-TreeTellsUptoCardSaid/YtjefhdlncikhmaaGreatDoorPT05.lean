/- Joined by a program: Shp3, Shp4, Shp5. -/
import Derived.Test.YtjefhdlncikhmaaGreatDoorPT04
namespace Go.Proofs.YtjefhdlncikhmaaGreatDoor
set_option linter.unusedVariables false
set_option linter.unusedSimpArgs false
set_option maxRecDepth 1000000
set_option maxHeartbeats 16000000
section
open Go.RowKit
open List (length_append length_cons length_nil length_singleton)
def RightOk (D : Nat) : Prop := ∀ (T : Nd) (A : Option Addr) (c : Nat) (K : Option Addr) (d : Nat) (W : World), T.depth ≤ D → T.weight ≤ 1048576 → NodeAt W T A c K d → Lib.Utf8Tabs 0 1 W →
 Calls Tryz.prog 27 #[ndV T A c K d] W fun e w' => e = .returned (.bool T.right) ∧ Below W.heap.size W w'
section
variable (D : Nat) (hRi : RightOk D) (T : Nd) (A : Option Addr) (c : Nat) (K : Option Addr) (d : Nat) (w : World) (hD : T.depth ≤ D) (hW : T.weight ≤ 1048576) (hN : NodeAt w T A c K d) (hT : Lib.Utf8Tabs 0 1 w)
include D hRi T A c K d w hD hW hN hT
theorem tExpr_ok :
  Calls Tryz.prog 67 #[ndV T A c K d] w fun e w' => e = .returned (.bool (Sh.expr.ev Nd.right T)) ∧ Below w.heap.size w w' := by
 have hN2 := fun o => hN.later ((Below.refl w.heap.size w).alloc (Nat.le_refl _) o)
 have HRi := Lh (fun o => hRi T A c K d (w.alloc o) hD hW (hN2 o) (Utf8Tabs_below hT ((Below.refl w.heap.size w).alloc (Nat.le_refl _) o)))
 clear hN2 hT hD
 by_cases he1 : T.kind = 39
 ·have e1 : (T.kind == 39) = true := by simpa using he1
  clear he1; obtain ⟨hm1, hm2, hrm, hw32, hk1, hk2, ⟨hk64a, hk64b⟩, ⟨ha64a, ha64b⟩, hts, hKs, HK⟩ := hN.hd; obtain ⟨hb1, c0, c1, c2, c3, c4, c5⟩ := bxn w T A c K d; unfold ndV; clear hKs hN; go_enter Tryz.func67, Tryz.ntmps67; exact lv184
 ·have e1 : (T.kind == 39) = false := by simpa using he1
  clear he1
  by_cases he2 : T.kind = 40
  ·have e2 : (T.kind == 40) = true := by simpa using he2
   clear he2; obtain ⟨hm1, hm2, hrm, hw32, hk1, hk2, ⟨hk64a, hk64b⟩, ⟨ha64a, ha64b⟩, hts, hKs, HK⟩ := hN.hd; obtain ⟨hb1, c0, c1, c2, c3, c4, c5⟩ := bxn w T A c K d; unfold ndV; clear hKs hN; go_enter Tryz.func67, Tryz.ntmps67; go_wp2_with fail; go_ret; exact ⟨by show Ending.returned (.bool _) = _; simp [Sh.ev, isTargetK, e1, e2], hb1⟩
  ·have e2 : (T.kind == 40) = false := by simpa using he2
   clear he2
   by_cases he3 : T.kind = 52
   ·have e3 : (T.kind == 52) = true := by simpa using he3
    clear he3; obtain ⟨hm1, hm2, hrm, hw32, hk1, hk2, ⟨hk64a, hk64b⟩, ⟨ha64a, ha64b⟩, hts, hKs, HK⟩ := hN.hd; obtain ⟨hb1, c0, c1, c2, c3, c4, c5⟩ := bxn w T A c K d; unfold ndV; clear hKs hN; go_enter Tryz.func67, Tryz.ntmps67; go_wp2_with fail; go_ret; exact ⟨by show Ending.returned (.bool _) = _; simp [Sh.ev, isTargetK, e1, e2, e3], hb1⟩
   ·have e3 : (T.kind == 52) = false := by simpa using he3
    clear he3
    by_cases he4 : 31 ≤ T.kind
    ·have e4 : decide (31 ≤ T.kind) = true := dTo; clear he4; obtain ⟨hm1, hm2, hrm, hw32, hk1, hk2, ⟨hk64a, hk64b⟩, ⟨ha64a, ha64b⟩, hts, hKs, HK⟩ := hN.hd; obtain ⟨hb1, c0, c1, c2, c3, c4, c5⟩ := bxn w T A c K d; unfold ndV; clear hKs hN; go_enter Tryz.func67, Tryz.ntmps67; go_wp2_with (go_at_call 27; refine (HRi.out _).mono ?_; rintro e w3 ⟨rfl, hb3⟩); go_ret; exact ⟨by show Ending.returned (.bool _) = _; simp [Sh.ev, isTargetK, e1, e2, e3, e4], hb1.trans (hb3.mono hb1.size)⟩
    ·have e4 : decide (31 ≤ T.kind) = false := dFo; clear he4; obtain ⟨hm1, hm2, hrm, hw32, hk1, hk2, ⟨hk64a, hk64b⟩, ⟨ha64a, ha64b⟩, hts, hKs, HK⟩ := hN.hd; obtain ⟨hb1, c0, c1, c2, c3, c4, c5⟩ := bxn w T A c K d; unfold ndV; clear hKs hN; go_enter Tryz.func67, Tryz.ntmps67; go_wp2_with fail; go_ret; exact ⟨by show Ending.returned (.bool _) = _; simp [Sh.ev, isTargetK, e1, e2, e3, e4], hb1⟩
theorem tStmt_ok :
  Calls Tryz.prog 66 #[ndV T A c K d] w fun e w' => e = .returned (.bool (Sh.stmt.ev Nd.right T)) ∧ Below w.heap.size w w' := by
 have hN2 := fun o => hN.later ((Below.refl w.heap.size w).alloc (Nat.le_refl _) o)
 have HRi := Lh (fun o => hRi T A c K d (w.alloc o) hD hW (hN2 o) (Utf8Tabs_below hT ((Below.refl w.heap.size w).alloc (Nat.le_refl _) o)))
 clear hN2 hT hD
 by_cases he1 : 3 ≤ T.kind
 ·have e1 : decide (3 ≤ T.kind) = true := dTo; clear he1
  by_cases he2 : T.kind ≤ 21
  ·have e2 : decide (T.kind ≤ 21) = true := dTo; clear he2
   by_cases he3 : T.kind = 19
   ·have e3 : (T.kind == 19) = true := by simpa using he3
    have e3' : (T.kind != 19) = false := by simp [he3]
    clear he3; obtain ⟨hm1, hm2, hrm, hw32, hk1, hk2, ⟨hk64a, hk64b⟩, ⟨ha64a, ha64b⟩, hts, hKs, HK⟩ := hN.hd; obtain ⟨hb1, c0, c1, c2, c3, c4, c5⟩ := bxn w T A c K d; unfold ndV; clear hKs hN; go_enter Tryz.func66, Tryz.ntmps66; go_wp2_with fail; go_ret; exact ⟨by show Ending.returned (.bool _) = _; simp [Sh.ev, isTargetK, e1, e2, e3, e3'], hb1⟩
   ·have e3 : (T.kind == 19) = false := by simpa using he3
    have e3' : (T.kind != 19) = true := by simp [he3]
    clear he3; obtain ⟨hm1, hm2, hrm, hw32, hk1, hk2, ⟨hk64a, hk64b⟩, ⟨ha64a, ha64b⟩, hts, hKs, HK⟩ := hN.hd; obtain ⟨hb1, c0, c1, c2, c3, c4, c5⟩ := bxn w T A c K d; unfold ndV; clear hKs hN; go_enter Tryz.func66, Tryz.ntmps66; go_wp2_with (go_at_call 27; refine (HRi.out _).mono ?_; rintro e w3 ⟨rfl, hb3⟩); go_ret; exact ⟨by show Ending.returned (.bool _) = _; simp [Sh.ev, isTargetK, e1, e2, e3, e3'], hb1.trans (hb3.mono hb1.size)⟩
  ·have e2 : decide (T.kind ≤ 21) = false := dFo; clear he2; obtain ⟨hm1, hm2, hrm, hw32, hk1, hk2, ⟨hk64a, hk64b⟩, ⟨ha64a, ha64b⟩, hts, hKs, HK⟩ := hN.hd; obtain ⟨hb1, c0, c1, c2, c3, c4, c5⟩ := bxn w T A c K d; unfold ndV; clear hKs hN; go_enter Tryz.func66, Tryz.ntmps66; go_wp2_with fail; go_ret; exact ⟨by show Ending.returned (.bool _) = _; simp [Sh.ev, isTargetK, e1, e2], hb1⟩
 ·have e1 : decide (3 ≤ T.kind) = false := dFo; clear he1; obtain ⟨hm1, hm2, hrm, hw32, hk1, hk2, ⟨hk64a, hk64b⟩, ⟨ha64a, ha64b⟩, hts, hKs, HK⟩ := hN.hd; obtain ⟨hb1, c0, c1, c2, c3, c4, c5⟩ := bxn w T A c K d; unfold ndV; clear hKs hN; go_enter Tryz.func66, Tryz.ntmps66; exact lv184
theorem tBlock_ok :
  Calls Tryz.prog 71 #[ndV T A c K d] w fun e w' => e = .returned (.bool (Sh.block.ev Nd.right T)) ∧ Below w.heap.size w w' := by
 have hN2 := fun o => hN.later ((Below.refl w.heap.size w).alloc (Nat.le_refl _) o)
 have HRi := Lh (fun o => hRi T A c K d (w.alloc o) hD hW (hN2 o) (Utf8Tabs_below hT ((Below.refl w.heap.size w).alloc (Nat.le_refl _) o)))
 clear hN2 hT hD
 by_cases he1 : T.kind = 2
 ·have e1 : (T.kind == 2) = true := by simpa using he1
  clear he1
  by_cases he2 : 0 < T.kids.length
  ·have e2 : decide (0 < (T.kids.length : Int)) = true := dTo; have e2' : decide (0 < T.kids.length) = true := dTo; clear he2; obtain ⟨hm1, hm2, hrm, hw32, hk1, hk2, ⟨hk64a, hk64b⟩, ⟨ha64a, ha64b⟩, hts, hKs, HK⟩ := hN.hd; obtain ⟨hb1, c0, c1, c2, c3, c4, c5⟩ := bxn w T A c K d; unfold ndV; clear hKs hN; go_enter Tryz.func71, Tryz.ntmps71; go_wp2_with (go_at_call 27; refine (HRi.out _).mono ?_; rintro e w3 ⟨rfl, hb3⟩); go_ret; exact ⟨by show Ending.returned (.bool _) = _; simp [Sh.ev, isTargetK, e1, e2, e2'], hb1.trans (hb3.mono hb1.size)⟩
  ·have e2 : decide (0 < (T.kids.length : Int)) = false := dFo; have e2' : decide (0 < T.kids.length) = false := dFo; clear he2; obtain ⟨hm1, hm2, hrm, hw32, hk1, hk2, ⟨hk64a, hk64b⟩, ⟨ha64a, ha64b⟩, hts, hKs, HK⟩ := hN.hd; obtain ⟨hb1, c0, c1, c2, c3, c4, c5⟩ := bxn w T A c K d; unfold ndV; clear hKs hN; go_enter Tryz.func71, Tryz.ntmps71; go_wp2_with fail; go_ret; exact ⟨by show Ending.returned (.bool _) = _; simp [Sh.ev, isTargetK, e1, e2, e2'], hb1⟩
 ·have e1 : (T.kind == 2) = false := by simpa using he1
  clear he1; obtain ⟨hm1, hm2, hrm, hw32, hk1, hk2, ⟨hk64a, hk64b⟩, ⟨ha64a, ha64b⟩, hts, hKs, HK⟩ := hN.hd; obtain ⟨hb1, c0, c1, c2, c3, c4, c5⟩ := bxn w T A c K d; unfold ndV; clear hKs hN; go_enter Tryz.func71, Tryz.ntmps71; exact lv184
end
theorem tTarget0_ok (T : Nd) (A : Option Addr) (c : Nat) (K : Option Addr) (d : Nat) (w : World) (hN : NodeAt w T A c K d) :
  Calls Tryz.prog 131 #[ndV T A c K d] w fun e w' => e = .returned (.bool (isTargetK T.kind)) ∧ Below w.heap.size w w' := by
 by_cases he1 : T.kind = 31
 ·have e1 : (T.kind == 31) = true := by simpa using he1
  clear he1; obtain ⟨hm1, hm2, hrm, hw32, hk1, hk2, ⟨hk64a, hk64b⟩, ⟨ha64a, ha64b⟩, hts, hKs, HK⟩ := hN.hd; obtain ⟨hb1, c0, c1, c2, c3, c4, c5⟩ := bxn w T A c K d; unfold ndV; clear hKs hN; go_enter Tryz.func131, Tryz.ntmps131; go_wp2_with fail; go_ret; exact ⟨by show Ending.returned (.bool _) = _; simp [isTargetK, e1], hb1⟩
 ·have e1 : (T.kind == 31) = false := by simpa using he1
  clear he1
  by_cases he2 : T.kind = 53
  ·have e2 : (T.kind == 53) = true := by simpa using he2
   clear he2; obtain ⟨hm1, hm2, hrm, hw32, hk1, hk2, ⟨hk64a, hk64b⟩, ⟨ha64a, ha64b⟩, hts, hKs, HK⟩ := hN.hd; obtain ⟨hb1, c0, c1, c2, c3, c4, c5⟩ := bxn w T A c K d; unfold ndV; clear hKs hN; go_enter Tryz.func131, Tryz.ntmps131; go_wp2_with fail; go_ret; exact ⟨by show Ending.returned (.bool _) = _; simp [isTargetK, e1, e2], hb1⟩
  ·have e2 : (T.kind == 53) = false := by simpa using he2
   clear he2
   by_cases he3 : T.kind = 54
   ·have e3 : (T.kind == 54) = true := by simpa using he3
    exact lv135
   ·have e3 : (T.kind == 54) = false := by simpa using he3
    exact lv135
section
variable (D : Nat) (hRi : RightOk D) (T : Nd) (A : Option Addr) (c : Nat) (K : Option Addr) (d : Nat) (w : World) (hD : T.depth ≤ D) (hW : T.weight ≤ 1048576) (hN : NodeAt w T A c K d) (hT : Lib.Utf8Tabs 0 1 w)
include D hRi T A c K d w hD hW hN hT
theorem tTarget_ok :
  Calls Tryz.prog 68 #[ndV T A c K d] w fun e w' => e = .returned (.bool (Sh.target.ev Nd.right T)) ∧ Below w.heap.size w w' := by
 have HT0 := Lh (fun o => tTarget0_ok T A c K d (w.alloc o) (hN.later ((Below.refl w.heap.size w).alloc (Nat.le_refl _) o)))
 have HRi := Lh (fun W hW2 => hRi T A c K d W hD hW (hN.later hW2) (Utf8Tabs_below hT hW2))
 clear hT hD
 show Calls _ _ _ _ fun e w' => e = .returned (.bool (isTargetK T.kind && T.right)) ∧ _
 generalize isTargetK T.kind = x at *
 generalize T.right = y at *
 cases x
 ·obtain ⟨hm1, hm2, hrm, hw32, hk1, hk2, ⟨hk64a, hk64b⟩, ⟨ha64a, ha64b⟩, hts, hKs, HK⟩ := hN.hd; obtain ⟨hb1, c0, c1, c2, c3, c4, c5⟩ := bxn w T A c K d; unfold ndV; clear hKs hN; go_enter Tryz.func68, Tryz.ntmps68; go_wp2_with (first | (go_at_call 131; refine (HT0.out _).mono ?_; rintro e w3 ⟨rfl, hb3⟩; obtain ⟨d0, d1, d2, d3, d4, d5⟩ := cl6 hb3 c0 c1 c2 c3 c4 c5; have hb4 := hb1.trans (hb3.mono hb1.size))); go_ret; exact ⟨rfl, hb4⟩
 ·obtain ⟨hm1, hm2, hrm, hw32, hk1, hk2, ⟨hk64a, hk64b⟩, ⟨ha64a, ha64b⟩, hts, hKs, HK⟩ := hN.hd; obtain ⟨hb1, c0, c1, c2, c3, c4, c5⟩ := bxn w T A c K d; unfold ndV; clear hKs hN; go_enter Tryz.func68, Tryz.ntmps68; go_wp2_with (first | (go_at_call 131; refine (HT0.out _).mono ?_; rintro e w3 ⟨rfl, hb3⟩; obtain ⟨d0, d1, d2, d3, d4, d5⟩ := cl6 hb3 c0 c1 c2 c3 c4 c5; have hb4 := hb1.trans (hb3.mono hb1.size)) | (go_at_call 27; refine (HRi.out _ hb4).mono ?_; rintro e w5 ⟨rfl, hb5⟩)); go_ret; exact ⟨rfl, hb4.trans (hb5.mono hb4.size)⟩
theorem tTargets_ok :
  Calls Tryz.prog 72 #[ndV T A c K d] w fun e w' => e = .returned (.bool (Sh.targets.ev Nd.right T)) ∧ Below w.heap.size w w' := by
 have HT0 := Lh (fun o => tTarget_ok D hRi T A c K d (w.alloc o) hD hW (hN.later ((Below.refl w.heap.size w).alloc (Nat.le_refl _) o)) (Utf8Tabs_below hT ((Below.refl w.heap.size w).alloc (Nat.le_refl _) o)))
 have HRi := Lh (fun W hW2 => hRi T A c K d W hD hW (hN.later hW2) (Utf8Tabs_below hT hW2))
 clear hT hD
 show Calls _ _ _ _ fun e w' => e = .returned (.bool (Sh.target.ev Nd.right T || (T.kind == 23 && T.right))) ∧ _
 generalize Sh.target.ev Nd.right T = x at *
 generalize T.right = y at *
 cases x
 ·by_cases h23 : T.kind = 23
  ·have e1 : (T.kind == 23) = true := by simpa using h23
   clear h23; obtain ⟨hm1, hm2, hrm, hw32, hk1, hk2, ⟨hk64a, hk64b⟩, ⟨ha64a, ha64b⟩, hts, hKs, HK⟩ := hN.hd; obtain ⟨hb1, c0, c1, c2, c3, c4, c5⟩ := bxn w T A c K d; unfold ndV; clear hKs hN; go_enter Tryz.func72, Tryz.ntmps72; go_wp2_with (first | (go_at_call 68; refine (HT0.out _).mono ?_; rintro e w3 ⟨rfl, hb3⟩; obtain ⟨d0, d1, d2, d3, d4, d5⟩ := cl6 hb3 c0 c1 c2 c3 c4 c5; have hb4 := hb1.trans (hb3.mono hb1.size)) | (go_at_call 27; refine (HRi.out _ hb4).mono ?_; rintro e w5 ⟨rfl, hb5⟩)); go_ret; exact ⟨by show Ending.returned (.bool _) = _; simp [e1], hb4.trans (hb5.mono hb4.size)⟩
  ·have e1 : (T.kind == 23) = false := by simpa using h23
   clear h23; obtain ⟨hm1, hm2, hrm, hw32, hk1, hk2, ⟨hk64a, hk64b⟩, ⟨ha64a, ha64b⟩, hts, hKs, HK⟩ := hN.hd; obtain ⟨hb1, c0, c1, c2, c3, c4, c5⟩ := bxn w T A c K d; unfold ndV; clear hKs hN; go_enter Tryz.func72, Tryz.ntmps72; go_wp2_with (first | (go_at_call 68; refine (HT0.out _).mono ?_; rintro e w3 ⟨rfl, hb3⟩; obtain ⟨d0, d1, d2, d3, d4, d5⟩ := cl6 hb3 c0 c1 c2 c3 c4 c5; have hb4 := hb1.trans (hb3.mono hb1.size))); go_ret; exact ⟨by show Ending.returned (.bool _) = _; simp [e1], hb4⟩
 ·obtain ⟨hm1, hm2, hrm, hw32, hk1, hk2, ⟨hk64a, hk64b⟩, ⟨ha64a, ha64b⟩, hts, hKs, HK⟩ := hN.hd; obtain ⟨hb1, c0, c1, c2, c3, c4, c5⟩ := bxn w T A c K d; unfold ndV; clear hKs hN; go_enter Tryz.func72, Tryz.ntmps72; go_wp2_with (first | (go_at_call 68; refine (HT0.out _).mono ?_; rintro e w3 ⟨rfl, hb3⟩; obtain ⟨d0, d1, d2, d3, d4, d5⟩ := cl6 hb3 c0 c1 c2 c3 c4 c5; have hb4 := hb1.trans (hb3.mono hb1.size))); go_ret; exact ⟨rfl, hb4⟩
end
theorem tOf1_ok (k : Int) (X : Nat) (D : Nat) (hRi : RightOk D) (T : Nd) (A : Option Addr) (c : Nat) (K : Option Addr) (d : Nat) (w : World) (hD : T.depth ≤ D) (hW : T.weight ≤ 1048576) (hN : NodeAt w T A c K d) (hT : Lib.Utf8Tabs 0 1 w) (hX : w.cell? ⟨X, 0, none⟩ = some (.int .i64 k)) :
  Calls Tryz.prog 128 #[ndV T A c K d, .pointer (some ⟨X, 0, none⟩)] w fun e w' => e = .returned (.bool ((Sh.of k).ev Nd.right T)) ∧ Below w.heap.size w w' := by
 have hN2 := fun o => hN.later ((Below.refl w.heap.size w).alloc (Nat.le_refl _) o)
 have HRi := Lh (fun o => hRi T A c K d (w.alloc o) hD hW (hN2 o) (Utf8Tabs_below hT ((Below.refl w.heap.size w).alloc (Nat.le_refl _) o)))
 clear hN2 hT hD
 have hX2 := fun o => cLt ((Below.refl w.heap.size w).alloc (Nat.le_refl _) o) hX
 have hXl := World.block_lt_of_cell? w _ hX
 by_cases he1 : T.kind = k
 ·have e1 : (T.kind == k) = true := by simpa using he1
  clear he1; obtain ⟨hm1, hm2, hrm, hw32, hk1, hk2, ⟨hk64a, hk64b⟩, ⟨ha64a, ha64b⟩, hts, hKs, HK⟩ := hN.hd; obtain ⟨hb1, c0, c1, c2, c3, c4, c5⟩ := bxn w T A c K d; have c6 := hX2 (bx T.kind T A c K d); clear hX hX2; unfold ndV; clear hKs hN; go_enter Tryz.func128, Tryz.ntmps128; go_wp2_with (go_at_call 27; refine (HRi.out _).mono ?_; rintro e w3 ⟨rfl, hb3⟩); go_ret; exact ⟨by show Ending.returned (.bool _) = _; simp [Sh.ev, e1], hb1.trans (hb3.mono hb1.size)⟩
 ·have e1 : (T.kind == k) = false := by simpa using he1
  clear he1; obtain ⟨hm1, hm2, hrm, hw32, hk1, hk2, ⟨hk64a, hk64b⟩, ⟨ha64a, ha64b⟩, hts, hKs, HK⟩ := hN.hd; obtain ⟨hb1, c0, c1, c2, c3, c4, c5⟩ := bxn w T A c K d; have c6 := hX2 (bx T.kind T A c K d); clear hX hX2; unfold ndV; clear hKs hN; go_enter Tryz.func128, Tryz.ntmps128; go_wp2_with fail; go_ret; exact ⟨by show Ending.returned (.bool _) = _; simp [Sh.ev, e1], hb1⟩
theorem beq0F {n : Nat} (h : ¬ n = 0) : ((n : Int) == 0) = false := by simp [h]
theorem text_empty (s : ByteArray) : s.toList.isEmpty = (s.size == 0) := by
 have hl : s.data.toList.length = s.size := by simp
 rw [Lib.toList_data, ← hl]
 cases s.data.toList <;> rfl
section
variable (T : Nd) (A : Option Addr) (c : Nat) (K : Option Addr) (d : Nat) (w : World) (hN : NodeAt w T A c K d)
include T A c K d w hN
theorem tNoNum_ok :
  Calls Tryz.prog 46 #[ndV T A c K d] w fun e w' => e = .returned (.bool (noNumB T)) ∧ Below w.heap.size w w' := by
 cases hng : T.neg with
 | true =>
  obtain ⟨hm1, hm2, hrm, hw32, hk1, hk2, ⟨hk64a, hk64b⟩, ⟨ha64a, ha64b⟩, hts, hKs, HK⟩ := hN.hd; obtain ⟨hb1, c0, c1, c2, c3, c4, c5⟩ := bxn w T A c K d; rw [hng] at hb1 c3; unfold ndV; rw [hng]; clear hKs hN; go_enter Tryz.func46, Tryz.ntmps46; go_wp2_with fail; go_ret; exact ⟨by show Ending.returned (.bool _) = _; simp [noNumB, hng], hb1⟩
 | false =>
  by_cases hm0 : T.mag.length = 0
  ·have e1 : ((T.mag.length : Int) == 0) = true := by rw [hm0]; rfl
   have e2 : (T.mag.length == 0) = true := by rw [hm0]; rfl
   exact lv133
  ·have e1 : ((T.mag.length : Int) == 0) = false := beq0F hm0; have e2 : (T.mag.length == 0) = false := by simpa using hm0
   exact lv133
theorem tNone_ok :
  Calls Tryz.prog 70 #[ndV T A c K d] w fun e w' => e = .returned (.bool (Sh.none.ev Nd.right T)) ∧ Below w.heap.size w w' := by
 have HNN := Lh (fun o => tNoNum_ok T A c K d (w.alloc o) (hN.later ((Below.refl w.heap.size w).alloc (Nat.le_refl _) o)))
 by_cases he1 : T.kind = 0
 ·have e1 : (T.kind == 0) = true := by simpa using he1
  clear he1
  by_cases he2 : T.text.size = 0
  ·have e2 : (T.text.size == 0) = true := by simpa using he2
   have e2' : T.text.toList.isEmpty = true := by rw [text_empty, e2]
   clear he2
   generalize hnn : noNumB T = nn at HNN
   cases nn
   ·obtain ⟨hm1, hm2, hrm, hw32, hk1, hk2, ⟨hk64a, hk64b⟩, ⟨ha64a, ha64b⟩, hts, hKs, HK⟩ := hN.hd; obtain ⟨hb1, c0, c1, c2, c3, c4, c5⟩ := bxn w T A c K d; unfold ndV; clear hKs hN; go_enter Tryz.func70, Tryz.ntmps70; go_wp2_with (go_at_call 46; refine (HNN.out _).mono ?_; rintro e w3 ⟨rfl, hb3⟩; have d5 := cLt hb3 c5); go_ret; exact ⟨by show Ending.returned (.bool _) = _; simp [Sh.ev, e1, e2, e2', hnn], hb1.trans (hb3.mono hb1.size)⟩
   ·by_cases hk0 : T.kids.length = 0
    ·have e3 : ((T.kids.length : Int) == 0) = true := by rw [hk0]; rfl
     have e3' : (T.kids.length == 0) = true := by rw [hk0]; rfl
     exact lv123
    ·have e3 : ((T.kids.length : Int) == 0) = false := beq0F hk0; have e3' : (T.kids.length == 0) = false := by simpa using hk0
     exact lv123
  ·have e2 : (T.text.size == 0) = false := by simpa using he2
   have e2' : T.text.toList.isEmpty = false := by rw [text_empty, e2]
   clear he2; obtain ⟨hm1, hm2, hrm, hw32, hk1, hk2, ⟨hk64a, hk64b⟩, ⟨ha64a, ha64b⟩, hts, hKs, HK⟩ := hN.hd; obtain ⟨hb1, c0, c1, c2, c3, c4, c5⟩ := bxn w T A c K d; unfold ndV; clear hKs hN; go_enter Tryz.func70, Tryz.ntmps70; go_wp2_with fail; go_ret; exact ⟨by show Ending.returned (.bool _) = _; simp [Sh.ev, e1, e2, e2'], hb1⟩
 ·have e1 : (T.kind == 0) = false := by simpa using he1
  clear he1; obtain ⟨hm1, hm2, hrm, hw32, hk1, hk2, ⟨hk64a, hk64b⟩, ⟨ha64a, ha64b⟩, hts, hKs, HK⟩ := hN.hd; obtain ⟨hb1, c0, c1, c2, c3, c4, c5⟩ := bxn w T A c K d; unfold ndV; clear hKs hN; go_enter Tryz.func70, Tryz.ntmps70; go_wp2_with fail; go_ret; exact ⟨by show Ending.returned (.bool _) = _; simp [Sh.ev, e1], hb1⟩
end

theorem orOne_ok (D : Nat) (v : Value) (p : Nd → Bool) (X : Nat) (T : Nd) (A : Option Addr) (c : Nat) (K : Option Addr) (d : Nat) (w : World) (hS : ShapeOk D w v p) (hD : T.depth ≤ D) (hW : T.weight ≤ 1048576) (hN : NodeAt w T A c K d) (hC : CellsN w X 0 T A c K d) :
  Calls Tryz.prog 134 #[v, .pointer (some ⟨X, 0, none⟩)] w fun e w' => e = .returned (.bool (p T)) ∧ Below w.heap.size w w' := by
 obtain ⟨f, caps, hv, hrn, hf⟩ := hS
 subst hv
 obtain ⟨c0, c1, c2, c3, c4, c5⟩ := hC.box
 have hI := hf w (Below.refl _ _) T A c K d hD hW hN
 have hlt := World.block_lt_of_cell? w _ c0
 unfold ndV at hI
 have HI := Lh hI
 clear hI hf hN hC
 go_enter Tryz.func134, Tryz.ntmps134
 go_wp2_with (with_reducible refine HI.out.mono ?_; rintro e w3 ⟨rfl, hb3⟩)
 go_ret
 exact ⟨rfl, hb3⟩
def anyB (T : Nd) (L : List (Nd → Bool)) : Bool := L.any fun p => p T
theorem any_take {T : Nd} {L : List (Nd → Bool)} {k : Nat} {p : Nd → Bool} (h : L[k]? = some p) : anyB T (L.take (k + 1)) = (anyB T (L.take k) || p T) := by
 unfold anyB
 rw [List.take_succ_eq_append_getElem (List.getElem?_eq_some_iff.1 h).1, List.any_append]
 simp [(List.getElem?_eq_some_iff.1 h).2]
theorem any_le {T : Nd} {L : List (Nd → Bool)} {k : Nat} (h : anyB T (L.take k) = true) : anyB T L = true := by
 unfold anyB at h ⊢
 rw [List.any_eq_true] at h ⊢
 obtain ⟨p, hp, h⟩ := h
 exact ⟨p, List.mem_of_mem_take hp, h⟩
section
variable (D : Nat) (L : List (Nd → Bool)) (m c' : Nat) (A' : Option Addr) (X : Nat) (T : Nd) (A : Option Addr) (c : Nat) (K : Option Addr) (d : Nat) (w : World) (hm : L.length = m) (hL : ShapesAt D w A' L) (hmc : m ≤ c') (hc : c' ≤ maxLen) (hD : T.depth ≤ D) (hW : T.weight ≤ 1048576) (hN : NodeAt w T A c K d) (hC : CellsN w X 0 T A c K d)
include D L m c' A' X T A c K d w hm hL hmc hc hD hW hN hC
theorem idxShape_ok :
  Calls Tryz.prog 178 #[.slice A' m c', .func (.func 134) #[] #[.pointer (some ⟨X, 0, none⟩)]] w fun e w' => (∃ r : Int, e = .returned (.int .i64 r) ∧ ((0 ≤ r ∧ anyB T L = true) ∨ (r = -1 ∧ anyB T L = false))) ∧ Below w.heap.size w w' := by
 unfold maxLen at hc
 have HL := Lh hL
 have HM := Lh hm
 have HN := Lh (fun W (hb : Below w.heap.size w W) v p (hS : ShapeOk D W v p) => orOne_ok D v p X T A c K d W hS hD hW (hN.later hb) (hC.later hb))
 clear hL hm hN hC
 go_enter Tryz.func178, Tryz.ntmps178
 go_wp2_with fail
 go_loopw [8] (fun iv wr => ∃ k : Nat, iv = .int .i64 k ∧ k ≤ m ∧ Hid (anyB T (L.take k) = false) ∧ Below w.heap.size w wr) (fun iv _ => m - (intOf iv).toNat)
 case atStart => exact ⟨0, rfl, Nat.zero_le _, Lh rfl, Below.refl _ _⟩
 case round =>
  obtain ⟨k, rfl, hk, hR, hbr⟩ := hrel
  by_cases hkl : k < m
  ·have o1 : decide ((k : Int) < (m : Int)) = true := dTo; have o2 : decide (k < m) = true := dTr hkl; obtain ⟨p, hp⟩ : ∃ p, L[k]? = some p := ⟨_, List.getElem?_eq_getElem (by rw [HM.out]; exact hkl)⟩; obtain ⟨b2, off2, v, hA, hv, hS⟩ := HL.out k p hp; subst hA; have hv2 := cLt hbr hv; have hT1 := any_take (T := T) hp; have hI := HN.out wr hbr v p (hS.later hbr); obtain ⟨f, caps, hvf, _, _⟩ := hS; subst hvf; have HI := Lh hI; have HT1 := Lh hT1; clear hI hT1 hp hv
   cases hpt : p T with
   | true =>
    rw [hpt] at HI HT1; go_wp2_with (go_at_call 134; refine HI.out.mono ?_; rintro e w3 ⟨rfl, hb3⟩); go_ret; exact ⟨⟨k, rfl, .inl ⟨by omega, any_le (HT1.out.trans lq30)⟩⟩, hbr.trans (hb3.mono hbr.size)⟩
   | false =>
    rw [hpt] at HI HT1; go_wp2_with (go_at_call 134; refine HI.out.mono ?_; rintro e w3 ⟨rfl, hb3⟩)
    go_roundw
    case rel => exact ⟨k + 1, by go_num, by omega, Lh (HT1.out.trans (by rw [hR.out]; rfl)), hbr.trans (hb3.mono hbr.size)⟩
    case measure => simp [intOf]; omega
  ·have o1 : decide ((k : Int) < (m : Int)) = false := dFo; have o2 : decide (k < m) = false := dFa hkl; have hR2 := hR.out; rw [List.take_of_length_le (by have := HM.out; omega)] at hR2; go_wp2_with fail; go_ret; exact ⟨⟨-1, rfl, .inr ⟨rfl, hR2⟩⟩, hbr⟩
theorem hasShape_ok :
  Calls Tryz.prog 133 #[.slice A' m c', .func (.func 134) #[] #[.pointer (some ⟨X, 0, none⟩)]] w fun e w' => e = .returned (.bool (anyB T L)) ∧ Below w.heap.size w w' := by
 have HI := Lh (idxShape_ok D L m c' A' X T A c K d w hm hL hmc hc hD hW hN hC)
 clear hL hm hN hC
 go_enter Tryz.func133, Tryz.ntmps133
 go_wp2_with (go_at_call 178; refine HI.out.mono ?_; rintro e w3 ⟨⟨r, rfl, hr⟩, hb3⟩)
 go_ret
 refine ⟨?_, hb3⟩
 show Ending.returned (.bool (decide (0 ≤ r))) = _
 rcases hr with ⟨h1, h2⟩ | ⟨h1, h2⟩
 ·rw [h2, dTr h1]
 ·rw [h2, h1]; rfl
end
theorem or1_ok (D : Nat) (L : List (Nd → Bool)) (m c' X : Nat) (A' : Option Addr) (w : World) (hm : L.length = m) (hL : ShapesAt D w A' L) (hmc : m ≤ c') (hc : c' ≤ maxLen) (hX : w.cell? ⟨X, 0, none⟩ = some (.slice A' m c')) (T : Nd) (A : Option Addr) (c : Nat) (K : Option Addr) (d : Nat) (hD : T.depth ≤ D) (hW : T.weight ≤ 1048576) (hN : NodeAt w T A c K d) :
  Calls Tryz.prog 132 #[ndV T A c K d, .pointer (some ⟨X, 0, none⟩)] w fun e w' => e = .returned (.bool (anyB T L)) ∧ Below w.heap.size w w' := by
 have hX2 := fun o => cLt ((Below.refl w.heap.size w).alloc (Nat.le_refl _) o) hX
 have hXl := World.block_lt_of_cell? w _ hX
 have HR := Lh (fun W X hb hC => hasShape_ok D L m c' A' X T A c K d W hm (hL.later hb) hmc hc hD hW (hN.later hb) hC)
 have hC1 := cellsN_new w T A c K d 27
 have HR := Lh (HR.out _ _ ((Below.refl w.heap.size w).alloc (Nat.le_refl _) _) hC1)
 clear hL hC1
 obtain ⟨hm1, hm2, hrm, hw32, hk1, hk2, ⟨hk64a, hk64b⟩, ⟨ha64a, ha64b⟩, hts, hKs, HK⟩ := hN.hd
 obtain ⟨hb1, c0, c1, c2, c3, c4, c5⟩ := bxn w T A c K d
 have c6 := hX2 (bx T.kind T A c K d)
 clear hX hX2
 unfold ndV
 clear hKs hN
 go_enter Tryz.func132, Tryz.ntmps132
 go_wp2_with (go_at_call 133; refine HR.out.mono ?_; rintro e w3 ⟨rfl, hb3⟩)
 go_ret
 exact ⟨rfl, hb1.trans (hb3.mono hb1.size)⟩
theorem or_ok (D : Nat) (L : List (Nd → Bool)) (m c : Nat) (A : Option Addr) (w : World) (hm : L.length = m) (hL : ShapesAt D w A L) (hmc : m ≤ c) (hc : c ≤ maxLen) :
  Calls Tryz.prog 69 #[.slice A m c] w fun e w' => (∃ v, e = .returned v ∧ ShapeOk D w' v fun T => anyB T L) ∧ Below w.heap.size w w' := by
 have hb1 := (Below.refl w.heap.size w).alloc (Nat.le_refl _) (.cells #[.slice A m c] 113)
 have HS : ShapeOk D (w.alloc (.cells #[.slice A m c] 113)) (.func (.func 132) #[] #[.pointer (some ⟨w.heap.size, 0, none⟩)]) fun T => anyB T L :=
  ⟨_, _, rfl, run_call _ _ Tryz.func132 lq27 lq27, fun W hW T A2 c2 K d hD hWt hN => or1_ok D L m c w.heap.size A W hm ((hL.later hb1).later hW) hmc hc (cLt hW (box_one w _ _)) T A2 c2 K d hD hWt hN⟩
 go_enter Tryz.func69, Tryz.ntmps69
 go_wp2
 go_ret
 exact ⟨⟨_, rfl, HS⟩, hb1⟩
end
end Go.Proofs.YtjefhdlncikhmaaGreatDoor
