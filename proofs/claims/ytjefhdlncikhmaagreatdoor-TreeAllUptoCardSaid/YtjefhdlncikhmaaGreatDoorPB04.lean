/- Joined by a program: Shp3, Shp4, Shp5, Shp6, Lx2. -/
import Derived.WalkKit
import Derived.Deep.RegionHeld3
import Derived.Deep.RegionLaw
import Derived.BigQuiet
import Derived.Deep.QuietTactic
import Derived.Deep.AppendLies
import Derived.Lib.UnsafeStr
import Derived.Lib.BufferWrite
import Derived.Laws.MakeOwn
import Derived.Test.YtjefhdlncikhmaaGreatDoorPB01
import Derived.Test.YtjefhdlncikhmaaGreatDoorShelf
import Derived.Test.YtjefhdlncikhmaaGreatDoorPB03
namespace Go.Proofs.YtjefhdlncikhmaaGreatDoor
section
set_option linter.unusedVariables false
set_option linter.unusedSimpArgs false
open Go.RowKit
set_option maxRecDepth 1000000
def RightOk (D : Nat) : Prop := ∀ (T : Nd) (A : Option Addr) (c : Nat) (K : Option Addr) (d : Nat) (W : World), T.depth ≤ D → T.weight ≤ 1048576 → NodeAt W T A c K d → Lib.Utf8Tabs 0 1 W →
  Calls Tryz.prog 27 #[ndV T A c K d] W fun e w' => e = .returned (.bool T.right) ∧ Below W.heap.size W w'
set_option maxHeartbeats 4000000 in
theorem tExpr_ok (D : Nat) (hRi : RightOk D) (T : Nd) (A : Option Addr) (c : Nat) (K : Option Addr) (d : Nat) (w : World) (hD : T.depth ≤ D) (hW : T.weight ≤ 1048576) (hN : NodeAt w T A c K d) (hT : Lib.Utf8Tabs 0 1 w) :
    Calls Tryz.prog 67 #[ndV T A c K d] w fun e w' => e = .returned (.bool (Sh.expr.ev Nd.right T)) ∧ Below w.heap.size w w' := by
  have hN2 := fun o => hN.later ((Below.refl w.heap.size w).alloc (Nat.le_refl _) o)
  have HRi := Lib.hid (fun o => hRi T A c K d (w.alloc o) hD hW (hN2 o) (Utf8Tabs_below hT ((Below.refl w.heap.size w).alloc (Nat.le_refl _) o)))
  clear hN2 hT hD
  by_cases he1 : T.kind = 39
  · have e1 : (T.kind == 39) = true := by simpa using he1
    clear he1
    obtain ⟨hm1, hm2, hrm, hw32, hk1, hk2, hk64, ha64, hts, hKs⟩ := hN.parts
    unfold maxLen at hm2 hk2 hts
    obtain ⟨hk64a, hk64b⟩ := hk64
    obtain ⟨ha64a, ha64b⟩ := ha64
    have HK := Lib.hid (fun (i : Nat) (t : Nd) (hi : T.kids[i]? = some t) => hN.kid hi)
    have hb1 := (Below.refl w.heap.size w).alloc (Nat.le_refl _) (.cells #[.int .i64 T.kind, .int .i64 T.pos, .string T.text, .bool T.neg, .slice A T.mag.length c, .slice K T.kids.length d] 27)
    obtain ⟨c0, c1, c2, c3, c4, c5⟩ := (cellsN_new w T A c K d 27).box
    unfold ndV
    clear hKs hN
    go_enter Tryz.func67, Tryz.ntmps67
    go_wp2_with fail
    go_ret
    exact ⟨by show Ending.returned (.bool _) = _; simp [Sh.ev, isTargetK, e1], hb1⟩
  · have e1 : (T.kind == 39) = false := by simpa using he1
    clear he1
    by_cases he2 : T.kind = 40
    · have e2 : (T.kind == 40) = true := by simpa using he2
      clear he2
      obtain ⟨hm1, hm2, hrm, hw32, hk1, hk2, hk64, ha64, hts, hKs⟩ := hN.parts
      unfold maxLen at hm2 hk2 hts
      obtain ⟨hk64a, hk64b⟩ := hk64
      obtain ⟨ha64a, ha64b⟩ := ha64
      have HK := Lib.hid (fun (i : Nat) (t : Nd) (hi : T.kids[i]? = some t) => hN.kid hi)
      have hb1 := (Below.refl w.heap.size w).alloc (Nat.le_refl _) (.cells #[.int .i64 T.kind, .int .i64 T.pos, .string T.text, .bool T.neg, .slice A T.mag.length c, .slice K T.kids.length d] 27)
      obtain ⟨c0, c1, c2, c3, c4, c5⟩ := (cellsN_new w T A c K d 27).box
      unfold ndV
      clear hKs hN
      go_enter Tryz.func67, Tryz.ntmps67
      go_wp2_with fail
      go_ret
      exact ⟨by show Ending.returned (.bool _) = _; simp [Sh.ev, isTargetK, e1, e2], hb1⟩
    · have e2 : (T.kind == 40) = false := by simpa using he2
      clear he2
      by_cases he3 : T.kind = 52
      · have e3 : (T.kind == 52) = true := by simpa using he3
        clear he3
        obtain ⟨hm1, hm2, hrm, hw32, hk1, hk2, hk64, ha64, hts, hKs⟩ := hN.parts
        unfold maxLen at hm2 hk2 hts
        obtain ⟨hk64a, hk64b⟩ := hk64
        obtain ⟨ha64a, ha64b⟩ := ha64
        have HK := Lib.hid (fun (i : Nat) (t : Nd) (hi : T.kids[i]? = some t) => hN.kid hi)
        have hb1 := (Below.refl w.heap.size w).alloc (Nat.le_refl _) (.cells #[.int .i64 T.kind, .int .i64 T.pos, .string T.text, .bool T.neg, .slice A T.mag.length c, .slice K T.kids.length d] 27)
        obtain ⟨c0, c1, c2, c3, c4, c5⟩ := (cellsN_new w T A c K d 27).box
        unfold ndV
        clear hKs hN
        go_enter Tryz.func67, Tryz.ntmps67
        go_wp2_with fail
        go_ret
        exact ⟨by show Ending.returned (.bool _) = _; simp [Sh.ev, isTargetK, e1, e2, e3], hb1⟩
      · have e3 : (T.kind == 52) = false := by simpa using he3
        clear he3
        by_cases he4 : 31 ≤ T.kind
        · have e4 : decide (31 ≤ T.kind) = true := decide_eq_true (by omega)
          clear he4
          obtain ⟨hm1, hm2, hrm, hw32, hk1, hk2, hk64, ha64, hts, hKs⟩ := hN.parts
          unfold maxLen at hm2 hk2 hts
          obtain ⟨hk64a, hk64b⟩ := hk64
          obtain ⟨ha64a, ha64b⟩ := ha64
          have HK := Lib.hid (fun (i : Nat) (t : Nd) (hi : T.kids[i]? = some t) => hN.kid hi)
          have hb1 := (Below.refl w.heap.size w).alloc (Nat.le_refl _) (.cells #[.int .i64 T.kind, .int .i64 T.pos, .string T.text, .bool T.neg, .slice A T.mag.length c, .slice K T.kids.length d] 27)
          obtain ⟨c0, c1, c2, c3, c4, c5⟩ := (cellsN_new w T A c K d 27).box
          unfold ndV
          clear hKs hN
          go_enter Tryz.func67, Tryz.ntmps67
          go_wp2_with (go_at_call 27; refine (HRi.out _).mono ?_; rintro e w3 ⟨rfl, hb3⟩)
          go_ret
          exact ⟨by show Ending.returned (.bool _) = _; simp [Sh.ev, isTargetK, e1, e2, e3, e4], hb1.trans (hb3.mono hb1.size)⟩
        · have e4 : decide (31 ≤ T.kind) = false := decide_eq_false (by omega)
          clear he4
          obtain ⟨hm1, hm2, hrm, hw32, hk1, hk2, hk64, ha64, hts, hKs⟩ := hN.parts
          unfold maxLen at hm2 hk2 hts
          obtain ⟨hk64a, hk64b⟩ := hk64
          obtain ⟨ha64a, ha64b⟩ := ha64
          have HK := Lib.hid (fun (i : Nat) (t : Nd) (hi : T.kids[i]? = some t) => hN.kid hi)
          have hb1 := (Below.refl w.heap.size w).alloc (Nat.le_refl _) (.cells #[.int .i64 T.kind, .int .i64 T.pos, .string T.text, .bool T.neg, .slice A T.mag.length c, .slice K T.kids.length d] 27)
          obtain ⟨c0, c1, c2, c3, c4, c5⟩ := (cellsN_new w T A c K d 27).box
          unfold ndV
          clear hKs hN
          go_enter Tryz.func67, Tryz.ntmps67
          go_wp2_with fail
          go_ret
          exact ⟨by show Ending.returned (.bool _) = _; simp [Sh.ev, isTargetK, e1, e2, e3, e4], hb1⟩
set_option maxHeartbeats 4000000 in
theorem tStmt_ok (D : Nat) (hRi : RightOk D) (T : Nd) (A : Option Addr) (c : Nat) (K : Option Addr) (d : Nat) (w : World) (hD : T.depth ≤ D) (hW : T.weight ≤ 1048576) (hN : NodeAt w T A c K d) (hT : Lib.Utf8Tabs 0 1 w) :
    Calls Tryz.prog 66 #[ndV T A c K d] w fun e w' => e = .returned (.bool (Sh.stmt.ev Nd.right T)) ∧ Below w.heap.size w w' := by
  have hN2 := fun o => hN.later ((Below.refl w.heap.size w).alloc (Nat.le_refl _) o)
  have HRi := Lib.hid (fun o => hRi T A c K d (w.alloc o) hD hW (hN2 o) (Utf8Tabs_below hT ((Below.refl w.heap.size w).alloc (Nat.le_refl _) o)))
  clear hN2 hT hD
  by_cases he1 : 3 ≤ T.kind
  · have e1 : decide (3 ≤ T.kind) = true := decide_eq_true (by omega)
    clear he1
    by_cases he2 : T.kind ≤ 21
    · have e2 : decide (T.kind ≤ 21) = true := decide_eq_true (by omega)
      clear he2
      by_cases he3 : T.kind = 19
      · have e3 : (T.kind == 19) = true := by simpa using he3
        have e3' : (T.kind != 19) = false := by simp [he3]
        clear he3
        obtain ⟨hm1, hm2, hrm, hw32, hk1, hk2, hk64, ha64, hts, hKs⟩ := hN.parts
        unfold maxLen at hm2 hk2 hts
        obtain ⟨hk64a, hk64b⟩ := hk64
        obtain ⟨ha64a, ha64b⟩ := ha64
        have HK := Lib.hid (fun (i : Nat) (t : Nd) (hi : T.kids[i]? = some t) => hN.kid hi)
        have hb1 := (Below.refl w.heap.size w).alloc (Nat.le_refl _) (.cells #[.int .i64 T.kind, .int .i64 T.pos, .string T.text, .bool T.neg, .slice A T.mag.length c, .slice K T.kids.length d] 27)
        obtain ⟨c0, c1, c2, c3, c4, c5⟩ := (cellsN_new w T A c K d 27).box
        unfold ndV
        clear hKs hN
        go_enter Tryz.func66, Tryz.ntmps66
        go_wp2_with fail
        go_ret
        exact ⟨by show Ending.returned (.bool _) = _; simp [Sh.ev, isTargetK, e1, e2, e3, e3'], hb1⟩
      · have e3 : (T.kind == 19) = false := by simpa using he3
        have e3' : (T.kind != 19) = true := by simp [he3]
        clear he3
        obtain ⟨hm1, hm2, hrm, hw32, hk1, hk2, hk64, ha64, hts, hKs⟩ := hN.parts
        unfold maxLen at hm2 hk2 hts
        obtain ⟨hk64a, hk64b⟩ := hk64
        obtain ⟨ha64a, ha64b⟩ := ha64
        have HK := Lib.hid (fun (i : Nat) (t : Nd) (hi : T.kids[i]? = some t) => hN.kid hi)
        have hb1 := (Below.refl w.heap.size w).alloc (Nat.le_refl _) (.cells #[.int .i64 T.kind, .int .i64 T.pos, .string T.text, .bool T.neg, .slice A T.mag.length c, .slice K T.kids.length d] 27)
        obtain ⟨c0, c1, c2, c3, c4, c5⟩ := (cellsN_new w T A c K d 27).box
        unfold ndV
        clear hKs hN
        go_enter Tryz.func66, Tryz.ntmps66
        go_wp2_with (go_at_call 27; refine (HRi.out _).mono ?_; rintro e w3 ⟨rfl, hb3⟩)
        go_ret
        exact ⟨by show Ending.returned (.bool _) = _; simp [Sh.ev, isTargetK, e1, e2, e3, e3'], hb1.trans (hb3.mono hb1.size)⟩
    · have e2 : decide (T.kind ≤ 21) = false := decide_eq_false (by omega)
      clear he2
      obtain ⟨hm1, hm2, hrm, hw32, hk1, hk2, hk64, ha64, hts, hKs⟩ := hN.parts
      unfold maxLen at hm2 hk2 hts
      obtain ⟨hk64a, hk64b⟩ := hk64
      obtain ⟨ha64a, ha64b⟩ := ha64
      have HK := Lib.hid (fun (i : Nat) (t : Nd) (hi : T.kids[i]? = some t) => hN.kid hi)
      have hb1 := (Below.refl w.heap.size w).alloc (Nat.le_refl _) (.cells #[.int .i64 T.kind, .int .i64 T.pos, .string T.text, .bool T.neg, .slice A T.mag.length c, .slice K T.kids.length d] 27)
      obtain ⟨c0, c1, c2, c3, c4, c5⟩ := (cellsN_new w T A c K d 27).box
      unfold ndV
      clear hKs hN
      go_enter Tryz.func66, Tryz.ntmps66
      go_wp2_with fail
      go_ret
      exact ⟨by show Ending.returned (.bool _) = _; simp [Sh.ev, isTargetK, e1, e2], hb1⟩
  · have e1 : decide (3 ≤ T.kind) = false := decide_eq_false (by omega)
    clear he1
    obtain ⟨hm1, hm2, hrm, hw32, hk1, hk2, hk64, ha64, hts, hKs⟩ := hN.parts
    unfold maxLen at hm2 hk2 hts
    obtain ⟨hk64a, hk64b⟩ := hk64
    obtain ⟨ha64a, ha64b⟩ := ha64
    have HK := Lib.hid (fun (i : Nat) (t : Nd) (hi : T.kids[i]? = some t) => hN.kid hi)
    have hb1 := (Below.refl w.heap.size w).alloc (Nat.le_refl _) (.cells #[.int .i64 T.kind, .int .i64 T.pos, .string T.text, .bool T.neg, .slice A T.mag.length c, .slice K T.kids.length d] 27)
    obtain ⟨c0, c1, c2, c3, c4, c5⟩ := (cellsN_new w T A c K d 27).box
    unfold ndV
    clear hKs hN
    go_enter Tryz.func66, Tryz.ntmps66
    go_wp2_with fail
    go_ret
    exact ⟨by show Ending.returned (.bool _) = _; simp [Sh.ev, isTargetK, e1], hb1⟩
set_option maxHeartbeats 4000000 in
theorem tBlock_ok (D : Nat) (hRi : RightOk D) (T : Nd) (A : Option Addr) (c : Nat) (K : Option Addr) (d : Nat) (w : World) (hD : T.depth ≤ D) (hW : T.weight ≤ 1048576) (hN : NodeAt w T A c K d) (hT : Lib.Utf8Tabs 0 1 w) :
    Calls Tryz.prog 71 #[ndV T A c K d] w fun e w' => e = .returned (.bool (Sh.block.ev Nd.right T)) ∧ Below w.heap.size w w' := by
  have hN2 := fun o => hN.later ((Below.refl w.heap.size w).alloc (Nat.le_refl _) o)
  have HRi := Lib.hid (fun o => hRi T A c K d (w.alloc o) hD hW (hN2 o) (Utf8Tabs_below hT ((Below.refl w.heap.size w).alloc (Nat.le_refl _) o)))
  clear hN2 hT hD
  by_cases he1 : T.kind = 2
  · have e1 : (T.kind == 2) = true := by simpa using he1
    clear he1
    by_cases he2 : 0 < T.kids.length
    · have e2 : decide (0 < (T.kids.length : Int)) = true := decide_eq_true (by omega)
      have e2' : decide (0 < T.kids.length) = true := decide_eq_true (by omega)
      clear he2
      obtain ⟨hm1, hm2, hrm, hw32, hk1, hk2, hk64, ha64, hts, hKs⟩ := hN.parts
      unfold maxLen at hm2 hk2 hts
      obtain ⟨hk64a, hk64b⟩ := hk64
      obtain ⟨ha64a, ha64b⟩ := ha64
      have HK := Lib.hid (fun (i : Nat) (t : Nd) (hi : T.kids[i]? = some t) => hN.kid hi)
      have hb1 := (Below.refl w.heap.size w).alloc (Nat.le_refl _) (.cells #[.int .i64 T.kind, .int .i64 T.pos, .string T.text, .bool T.neg, .slice A T.mag.length c, .slice K T.kids.length d] 27)
      obtain ⟨c0, c1, c2, c3, c4, c5⟩ := (cellsN_new w T A c K d 27).box
      unfold ndV
      clear hKs hN
      go_enter Tryz.func71, Tryz.ntmps71
      go_wp2_with (go_at_call 27; refine (HRi.out _).mono ?_; rintro e w3 ⟨rfl, hb3⟩)
      go_ret
      exact ⟨by show Ending.returned (.bool _) = _; simp [Sh.ev, isTargetK, e1, e2, e2'], hb1.trans (hb3.mono hb1.size)⟩
    · have e2 : decide (0 < (T.kids.length : Int)) = false := decide_eq_false (by omega)
      have e2' : decide (0 < T.kids.length) = false := decide_eq_false (by omega)
      clear he2
      obtain ⟨hm1, hm2, hrm, hw32, hk1, hk2, hk64, ha64, hts, hKs⟩ := hN.parts
      unfold maxLen at hm2 hk2 hts
      obtain ⟨hk64a, hk64b⟩ := hk64
      obtain ⟨ha64a, ha64b⟩ := ha64
      have HK := Lib.hid (fun (i : Nat) (t : Nd) (hi : T.kids[i]? = some t) => hN.kid hi)
      have hb1 := (Below.refl w.heap.size w).alloc (Nat.le_refl _) (.cells #[.int .i64 T.kind, .int .i64 T.pos, .string T.text, .bool T.neg, .slice A T.mag.length c, .slice K T.kids.length d] 27)
      obtain ⟨c0, c1, c2, c3, c4, c5⟩ := (cellsN_new w T A c K d 27).box
      unfold ndV
      clear hKs hN
      go_enter Tryz.func71, Tryz.ntmps71
      go_wp2_with fail
      go_ret
      exact ⟨by show Ending.returned (.bool _) = _; simp [Sh.ev, isTargetK, e1, e2, e2'], hb1⟩
  · have e1 : (T.kind == 2) = false := by simpa using he1
    clear he1
    obtain ⟨hm1, hm2, hrm, hw32, hk1, hk2, hk64, ha64, hts, hKs⟩ := hN.parts
    unfold maxLen at hm2 hk2 hts
    obtain ⟨hk64a, hk64b⟩ := hk64
    obtain ⟨ha64a, ha64b⟩ := ha64
    have HK := Lib.hid (fun (i : Nat) (t : Nd) (hi : T.kids[i]? = some t) => hN.kid hi)
    have hb1 := (Below.refl w.heap.size w).alloc (Nat.le_refl _) (.cells #[.int .i64 T.kind, .int .i64 T.pos, .string T.text, .bool T.neg, .slice A T.mag.length c, .slice K T.kids.length d] 27)
    obtain ⟨c0, c1, c2, c3, c4, c5⟩ := (cellsN_new w T A c K d 27).box
    unfold ndV
    clear hKs hN
    go_enter Tryz.func71, Tryz.ntmps71
    go_wp2_with fail
    go_ret
    exact ⟨by show Ending.returned (.bool _) = _; simp [Sh.ev, isTargetK, e1], hb1⟩
theorem tTarget0_ok (T : Nd) (A : Option Addr) (c : Nat) (K : Option Addr) (d : Nat) (w : World) (hN : NodeAt w T A c K d) :
    Calls Tryz.prog 131 #[ndV T A c K d] w fun e w' => e = .returned (.bool (isTargetK T.kind)) ∧ Below w.heap.size w w' := by
  by_cases he1 : T.kind = 31
  · have e1 : (T.kind == 31) = true := by simpa using he1
    clear he1
    obtain ⟨hm1, hm2, hrm, hw32, hk1, hk2, hk64, ha64, hts, hKs⟩ := hN.parts
    unfold maxLen at hm2 hk2 hts
    obtain ⟨hk64a, hk64b⟩ := hk64
    obtain ⟨ha64a, ha64b⟩ := ha64
    have HK := Lib.hid (fun (i : Nat) (t : Nd) (hi : T.kids[i]? = some t) => hN.kid hi)
    have hb1 := (Below.refl w.heap.size w).alloc (Nat.le_refl _) (.cells #[.int .i64 T.kind, .int .i64 T.pos, .string T.text, .bool T.neg, .slice A T.mag.length c, .slice K T.kids.length d] 27)
    obtain ⟨c0, c1, c2, c3, c4, c5⟩ := (cellsN_new w T A c K d 27).box
    unfold ndV
    clear hKs hN
    go_enter Tryz.func131, Tryz.ntmps131
    go_wp2_with fail
    go_ret
    exact ⟨by show Ending.returned (.bool _) = _; simp [isTargetK, e1], hb1⟩
  · have e1 : (T.kind == 31) = false := by simpa using he1
    clear he1
    by_cases he2 : T.kind = 53
    · have e2 : (T.kind == 53) = true := by simpa using he2
      clear he2
      obtain ⟨hm1, hm2, hrm, hw32, hk1, hk2, hk64, ha64, hts, hKs⟩ := hN.parts
      unfold maxLen at hm2 hk2 hts
      obtain ⟨hk64a, hk64b⟩ := hk64
      obtain ⟨ha64a, ha64b⟩ := ha64
      have HK := Lib.hid (fun (i : Nat) (t : Nd) (hi : T.kids[i]? = some t) => hN.kid hi)
      have hb1 := (Below.refl w.heap.size w).alloc (Nat.le_refl _) (.cells #[.int .i64 T.kind, .int .i64 T.pos, .string T.text, .bool T.neg, .slice A T.mag.length c, .slice K T.kids.length d] 27)
      obtain ⟨c0, c1, c2, c3, c4, c5⟩ := (cellsN_new w T A c K d 27).box
      unfold ndV
      clear hKs hN
      go_enter Tryz.func131, Tryz.ntmps131
      go_wp2_with fail
      go_ret
      exact ⟨by show Ending.returned (.bool _) = _; simp [isTargetK, e1, e2], hb1⟩
    · have e2 : (T.kind == 53) = false := by simpa using he2
      clear he2
      by_cases he3 : T.kind = 54
      · have e3 : (T.kind == 54) = true := by simpa using he3
        clear he3
        obtain ⟨hm1, hm2, hrm, hw32, hk1, hk2, hk64, ha64, hts, hKs⟩ := hN.parts
        unfold maxLen at hm2 hk2 hts
        obtain ⟨hk64a, hk64b⟩ := hk64
        obtain ⟨ha64a, ha64b⟩ := ha64
        have HK := Lib.hid (fun (i : Nat) (t : Nd) (hi : T.kids[i]? = some t) => hN.kid hi)
        have hb1 := (Below.refl w.heap.size w).alloc (Nat.le_refl _) (.cells #[.int .i64 T.kind, .int .i64 T.pos, .string T.text, .bool T.neg, .slice A T.mag.length c, .slice K T.kids.length d] 27)
        obtain ⟨c0, c1, c2, c3, c4, c5⟩ := (cellsN_new w T A c K d 27).box
        unfold ndV
        clear hKs hN
        go_enter Tryz.func131, Tryz.ntmps131
        go_wp2_with fail
        go_ret
        exact ⟨by show Ending.returned (.bool _) = _; simp [isTargetK, e1, e2, e3], hb1⟩
      · have e3 : (T.kind == 54) = false := by simpa using he3
        clear he3
        obtain ⟨hm1, hm2, hrm, hw32, hk1, hk2, hk64, ha64, hts, hKs⟩ := hN.parts
        unfold maxLen at hm2 hk2 hts
        obtain ⟨hk64a, hk64b⟩ := hk64
        obtain ⟨ha64a, ha64b⟩ := ha64
        have HK := Lib.hid (fun (i : Nat) (t : Nd) (hi : T.kids[i]? = some t) => hN.kid hi)
        have hb1 := (Below.refl w.heap.size w).alloc (Nat.le_refl _) (.cells #[.int .i64 T.kind, .int .i64 T.pos, .string T.text, .bool T.neg, .slice A T.mag.length c, .slice K T.kids.length d] 27)
        obtain ⟨c0, c1, c2, c3, c4, c5⟩ := (cellsN_new w T A c K d 27).box
        unfold ndV
        clear hKs hN
        go_enter Tryz.func131, Tryz.ntmps131
        go_wp2_with fail
        go_ret
        exact ⟨by show Ending.returned (.bool _) = _; simp [isTargetK, e1, e2, e3], hb1⟩
theorem tTarget_ok (D : Nat) (hRi : RightOk D) (T : Nd) (A : Option Addr) (c : Nat) (K : Option Addr) (d : Nat) (w : World) (hD : T.depth ≤ D) (hW : T.weight ≤ 1048576) (hN : NodeAt w T A c K d) (hT : Lib.Utf8Tabs 0 1 w) :
    Calls Tryz.prog 68 #[ndV T A c K d] w fun e w' => e = .returned (.bool (Sh.target.ev Nd.right T)) ∧ Below w.heap.size w w' := by
  have HT0 := Lib.hid (fun o => tTarget0_ok T A c K d (w.alloc o) (hN.later ((Below.refl w.heap.size w).alloc (Nat.le_refl _) o)))
  have HRi := Lib.hid (fun W hW2 => hRi T A c K d W hD hW (hN.later hW2) (Utf8Tabs_below hT hW2))
  clear hT hD
  show Calls _ _ _ _ fun e w' => e = .returned (.bool (isTargetK T.kind && T.right)) ∧ _
  generalize isTargetK T.kind = x at *
  generalize T.right = y at *
  cases x
  · obtain ⟨hm1, hm2, hrm, hw32, hk1, hk2, hk64, ha64, hts, hKs⟩ := hN.parts
    unfold maxLen at hm2 hk2 hts
    obtain ⟨hk64a, hk64b⟩ := hk64
    obtain ⟨ha64a, ha64b⟩ := ha64
    have HK := Lib.hid (fun (i : Nat) (t : Nd) (hi : T.kids[i]? = some t) => hN.kid hi)
    have hb1 := (Below.refl w.heap.size w).alloc (Nat.le_refl _) (.cells #[.int .i64 T.kind, .int .i64 T.pos, .string T.text, .bool T.neg, .slice A T.mag.length c, .slice K T.kids.length d] 27)
    obtain ⟨c0, c1, c2, c3, c4, c5⟩ := (cellsN_new w T A c K d 27).box
    unfold ndV
    clear hKs hN
    go_enter Tryz.func68, Tryz.ntmps68
    go_wp2_with (first | (go_at_call 131; refine (HT0.out _).mono ?_; rintro e w3 ⟨rfl, hb3⟩; have d0 := cell_later hb3 c0; have d1 := cell_later hb3 c1; have d2 := cell_later hb3 c2; have d3 := cell_later hb3 c3; have d4 := cell_later hb3 c4; have d5 := cell_later hb3 c5; have hb4 := hb1.trans (hb3.mono hb1.size)))
    go_ret
    exact ⟨rfl, hb4⟩
  · obtain ⟨hm1, hm2, hrm, hw32, hk1, hk2, hk64, ha64, hts, hKs⟩ := hN.parts
    unfold maxLen at hm2 hk2 hts
    obtain ⟨hk64a, hk64b⟩ := hk64
    obtain ⟨ha64a, ha64b⟩ := ha64
    have HK := Lib.hid (fun (i : Nat) (t : Nd) (hi : T.kids[i]? = some t) => hN.kid hi)
    have hb1 := (Below.refl w.heap.size w).alloc (Nat.le_refl _) (.cells #[.int .i64 T.kind, .int .i64 T.pos, .string T.text, .bool T.neg, .slice A T.mag.length c, .slice K T.kids.length d] 27)
    obtain ⟨c0, c1, c2, c3, c4, c5⟩ := (cellsN_new w T A c K d 27).box
    unfold ndV
    clear hKs hN
    go_enter Tryz.func68, Tryz.ntmps68
    go_wp2_with (first | (go_at_call 131; refine (HT0.out _).mono ?_; rintro e w3 ⟨rfl, hb3⟩; have d0 := cell_later hb3 c0; have d1 := cell_later hb3 c1; have d2 := cell_later hb3 c2; have d3 := cell_later hb3 c3; have d4 := cell_later hb3 c4; have d5 := cell_later hb3 c5; have hb4 := hb1.trans (hb3.mono hb1.size)) | (go_at_call 27; refine (HRi.out _ hb4).mono ?_; rintro e w5 ⟨rfl, hb5⟩))
    go_ret
    exact ⟨rfl, hb4.trans (hb5.mono hb4.size)⟩
theorem tTargets_ok (D : Nat) (hRi : RightOk D) (T : Nd) (A : Option Addr) (c : Nat) (K : Option Addr) (d : Nat) (w : World) (hD : T.depth ≤ D) (hW : T.weight ≤ 1048576) (hN : NodeAt w T A c K d) (hT : Lib.Utf8Tabs 0 1 w) :
    Calls Tryz.prog 72 #[ndV T A c K d] w fun e w' => e = .returned (.bool (Sh.targets.ev Nd.right T)) ∧ Below w.heap.size w w' := by
  have HT0 := Lib.hid (fun o => tTarget_ok D hRi T A c K d (w.alloc o) hD hW (hN.later ((Below.refl w.heap.size w).alloc (Nat.le_refl _) o)) (Utf8Tabs_below hT ((Below.refl w.heap.size w).alloc (Nat.le_refl _) o)))
  have HRi := Lib.hid (fun W hW2 => hRi T A c K d W hD hW (hN.later hW2) (Utf8Tabs_below hT hW2))
  clear hT hD
  show Calls _ _ _ _ fun e w' => e = .returned (.bool (Sh.target.ev Nd.right T || (T.kind == 23 && T.right))) ∧ _
  generalize Sh.target.ev Nd.right T = x at *
  generalize T.right = y at *
  cases x
  · by_cases h23 : T.kind = 23
    · have e1 : (T.kind == 23) = true := by simpa using h23
      clear h23
      obtain ⟨hm1, hm2, hrm, hw32, hk1, hk2, hk64, ha64, hts, hKs⟩ := hN.parts
      unfold maxLen at hm2 hk2 hts
      obtain ⟨hk64a, hk64b⟩ := hk64
      obtain ⟨ha64a, ha64b⟩ := ha64
      have HK := Lib.hid (fun (i : Nat) (t : Nd) (hi : T.kids[i]? = some t) => hN.kid hi)
      have hb1 := (Below.refl w.heap.size w).alloc (Nat.le_refl _) (.cells #[.int .i64 T.kind, .int .i64 T.pos, .string T.text, .bool T.neg, .slice A T.mag.length c, .slice K T.kids.length d] 27)
      obtain ⟨c0, c1, c2, c3, c4, c5⟩ := (cellsN_new w T A c K d 27).box
      unfold ndV
      clear hKs hN
      go_enter Tryz.func72, Tryz.ntmps72
      go_wp2_with (first | (go_at_call 68; refine (HT0.out _).mono ?_; rintro e w3 ⟨rfl, hb3⟩; have d0 := cell_later hb3 c0; have d1 := cell_later hb3 c1; have d2 := cell_later hb3 c2; have d3 := cell_later hb3 c3; have d4 := cell_later hb3 c4; have d5 := cell_later hb3 c5; have hb4 := hb1.trans (hb3.mono hb1.size)) | (go_at_call 27; refine (HRi.out _ hb4).mono ?_; rintro e w5 ⟨rfl, hb5⟩))
      go_ret
      exact ⟨by show Ending.returned (.bool _) = _; simp [e1], hb4.trans (hb5.mono hb4.size)⟩
    · have e1 : (T.kind == 23) = false := by simpa using h23
      clear h23
      obtain ⟨hm1, hm2, hrm, hw32, hk1, hk2, hk64, ha64, hts, hKs⟩ := hN.parts
      unfold maxLen at hm2 hk2 hts
      obtain ⟨hk64a, hk64b⟩ := hk64
      obtain ⟨ha64a, ha64b⟩ := ha64
      have HK := Lib.hid (fun (i : Nat) (t : Nd) (hi : T.kids[i]? = some t) => hN.kid hi)
      have hb1 := (Below.refl w.heap.size w).alloc (Nat.le_refl _) (.cells #[.int .i64 T.kind, .int .i64 T.pos, .string T.text, .bool T.neg, .slice A T.mag.length c, .slice K T.kids.length d] 27)
      obtain ⟨c0, c1, c2, c3, c4, c5⟩ := (cellsN_new w T A c K d 27).box
      unfold ndV
      clear hKs hN
      go_enter Tryz.func72, Tryz.ntmps72
      go_wp2_with (first | (go_at_call 68; refine (HT0.out _).mono ?_; rintro e w3 ⟨rfl, hb3⟩; have d0 := cell_later hb3 c0; have d1 := cell_later hb3 c1; have d2 := cell_later hb3 c2; have d3 := cell_later hb3 c3; have d4 := cell_later hb3 c4; have d5 := cell_later hb3 c5; have hb4 := hb1.trans (hb3.mono hb1.size)))
      go_ret
      exact ⟨by show Ending.returned (.bool _) = _; simp [e1], hb4⟩
  · obtain ⟨hm1, hm2, hrm, hw32, hk1, hk2, hk64, ha64, hts, hKs⟩ := hN.parts
    unfold maxLen at hm2 hk2 hts
    obtain ⟨hk64a, hk64b⟩ := hk64
    obtain ⟨ha64a, ha64b⟩ := ha64
    have HK := Lib.hid (fun (i : Nat) (t : Nd) (hi : T.kids[i]? = some t) => hN.kid hi)
    have hb1 := (Below.refl w.heap.size w).alloc (Nat.le_refl _) (.cells #[.int .i64 T.kind, .int .i64 T.pos, .string T.text, .bool T.neg, .slice A T.mag.length c, .slice K T.kids.length d] 27)
    obtain ⟨c0, c1, c2, c3, c4, c5⟩ := (cellsN_new w T A c K d 27).box
    unfold ndV
    clear hKs hN
    go_enter Tryz.func72, Tryz.ntmps72
    go_wp2_with (first | (go_at_call 68; refine (HT0.out _).mono ?_; rintro e w3 ⟨rfl, hb3⟩; have d0 := cell_later hb3 c0; have d1 := cell_later hb3 c1; have d2 := cell_later hb3 c2; have d3 := cell_later hb3 c3; have d4 := cell_later hb3 c4; have d5 := cell_later hb3 c5; have hb4 := hb1.trans (hb3.mono hb1.size)))
    go_ret
    exact ⟨rfl, hb4⟩
theorem tOf1_ok (k : Int) (X : Nat) (D : Nat) (hRi : RightOk D) (T : Nd) (A : Option Addr) (c : Nat) (K : Option Addr) (d : Nat) (w : World) (hD : T.depth ≤ D) (hW : T.weight ≤ 1048576) (hN : NodeAt w T A c K d) (hT : Lib.Utf8Tabs 0 1 w) (hX : w.cell? ⟨X, 0, none⟩ = some (.int .i64 k)) :
    Calls Tryz.prog 128 #[ndV T A c K d, .pointer (some ⟨X, 0, none⟩)] w fun e w' => e = .returned (.bool ((Sh.of k).ev Nd.right T)) ∧ Below w.heap.size w w' := by
  have hN2 := fun o => hN.later ((Below.refl w.heap.size w).alloc (Nat.le_refl _) o)
  have HRi := Lib.hid (fun o => hRi T A c K d (w.alloc o) hD hW (hN2 o) (Utf8Tabs_below hT ((Below.refl w.heap.size w).alloc (Nat.le_refl _) o)))
  clear hN2 hT hD
  have hX2 := fun o => cell_later ((Below.refl w.heap.size w).alloc (Nat.le_refl _) o) hX
  have hXl := World.block_lt_of_cell? w _ hX
  by_cases he1 : T.kind = k
  · have e1 : (T.kind == k) = true := by simpa using he1
    clear he1
    obtain ⟨hm1, hm2, hrm, hw32, hk1, hk2, hk64, ha64, hts, hKs⟩ := hN.parts
    unfold maxLen at hm2 hk2 hts
    obtain ⟨hk64a, hk64b⟩ := hk64
    obtain ⟨ha64a, ha64b⟩ := ha64
    have HK := Lib.hid (fun (i : Nat) (t : Nd) (hi : T.kids[i]? = some t) => hN.kid hi)
    have hb1 := (Below.refl w.heap.size w).alloc (Nat.le_refl _) (.cells #[.int .i64 T.kind, .int .i64 T.pos, .string T.text, .bool T.neg, .slice A T.mag.length c, .slice K T.kids.length d] 27)
    obtain ⟨c0, c1, c2, c3, c4, c5⟩ := (cellsN_new w T A c K d 27).box
    have c6 := hX2 (.cells #[.int .i64 T.kind, .int .i64 T.pos, .string T.text, .bool T.neg, .slice A T.mag.length c, .slice K T.kids.length d] 27)
    clear hX hX2
    unfold ndV
    clear hKs hN
    go_enter Tryz.func128, Tryz.ntmps128
    go_wp2_with (go_at_call 27; refine (HRi.out _).mono ?_; rintro e w3 ⟨rfl, hb3⟩)
    go_ret
    exact ⟨by show Ending.returned (.bool _) = _; simp [Sh.ev, e1], hb1.trans (hb3.mono hb1.size)⟩
  · have e1 : (T.kind == k) = false := by simpa using he1
    clear he1
    obtain ⟨hm1, hm2, hrm, hw32, hk1, hk2, hk64, ha64, hts, hKs⟩ := hN.parts
    unfold maxLen at hm2 hk2 hts
    obtain ⟨hk64a, hk64b⟩ := hk64
    obtain ⟨ha64a, ha64b⟩ := ha64
    have HK := Lib.hid (fun (i : Nat) (t : Nd) (hi : T.kids[i]? = some t) => hN.kid hi)
    have hb1 := (Below.refl w.heap.size w).alloc (Nat.le_refl _) (.cells #[.int .i64 T.kind, .int .i64 T.pos, .string T.text, .bool T.neg, .slice A T.mag.length c, .slice K T.kids.length d] 27)
    obtain ⟨c0, c1, c2, c3, c4, c5⟩ := (cellsN_new w T A c K d 27).box
    have c6 := hX2 (.cells #[.int .i64 T.kind, .int .i64 T.pos, .string T.text, .bool T.neg, .slice A T.mag.length c, .slice K T.kids.length d] 27)
    clear hX hX2
    unfold ndV
    clear hKs hN
    go_enter Tryz.func128, Tryz.ntmps128
    go_wp2_with fail
    go_ret
    exact ⟨by show Ending.returned (.bool _) = _; simp [Sh.ev, e1], hb1⟩
end
section
set_option linter.unusedVariables false
set_option linter.unusedSimpArgs false
open Go.RowKit
set_option maxRecDepth 1000000
theorem beq0F {n : Nat} (h : ¬ n = 0) : ((n : Int) == 0) = false := by simp [h]
theorem text_empty (s : ByteArray) : s.toList.isEmpty = (s.size == 0) := by
  have hl : s.data.toList.length = s.size := by simp
  rw [Lib.toList_data, ← hl]
  cases s.data.toList <;> rfl
theorem tNoNum_ok (T : Nd) (A : Option Addr) (c : Nat) (K : Option Addr) (d : Nat) (w : World) (hN : NodeAt w T A c K d) :
    Calls Tryz.prog 46 #[ndV T A c K d] w fun e w' => e = .returned (.bool (noNumB T)) ∧ Below w.heap.size w w' := by
  cases hng : T.neg with
  | true =>
    obtain ⟨hm1, hm2, hrm, hw32, hk1, hk2, hk64, ha64, hts, hKs⟩ := hN.parts
    unfold maxLen at hm2 hk2 hts
    obtain ⟨hk64a, hk64b⟩ := hk64
    obtain ⟨ha64a, ha64b⟩ := ha64
    have HK := Lib.hid (fun (i : Nat) (t : Nd) (hi : T.kids[i]? = some t) => hN.kid hi)
    have hb1 := (Below.refl w.heap.size w).alloc (Nat.le_refl _) (.cells #[.int .i64 T.kind, .int .i64 T.pos, .string T.text, .bool T.neg, .slice A T.mag.length c, .slice K T.kids.length d] 27)
    obtain ⟨c0, c1, c2, c3, c4, c5⟩ := (cellsN_new w T A c K d 27).box
    rw [hng] at hb1 c3
    unfold ndV
    rw [hng]
    clear hKs hN
    go_enter Tryz.func46, Tryz.ntmps46
    go_wp2_with fail
    go_ret
    exact ⟨by show Ending.returned (.bool _) = _; simp [noNumB, hng], hb1⟩
  | false =>
    by_cases hm0 : T.mag.length = 0
    · have e1 : ((T.mag.length : Int) == 0) = true := by rw [hm0]; rfl
      have e2 : (T.mag.length == 0) = true := by rw [hm0]; rfl
      clear hm0
      obtain ⟨hm1, hm2, hrm, hw32, hk1, hk2, hk64, ha64, hts, hKs⟩ := hN.parts
      unfold maxLen at hm2 hk2 hts
      obtain ⟨hk64a, hk64b⟩ := hk64
      obtain ⟨ha64a, ha64b⟩ := ha64
      have HK := Lib.hid (fun (i : Nat) (t : Nd) (hi : T.kids[i]? = some t) => hN.kid hi)
      have hb1 := (Below.refl w.heap.size w).alloc (Nat.le_refl _) (.cells #[.int .i64 T.kind, .int .i64 T.pos, .string T.text, .bool T.neg, .slice A T.mag.length c, .slice K T.kids.length d] 27)
      obtain ⟨c0, c1, c2, c3, c4, c5⟩ := (cellsN_new w T A c K d 27).box
      rw [hng] at hb1 c3
      unfold ndV
      rw [hng]
      clear hKs hN
      go_enter Tryz.func46, Tryz.ntmps46
      go_wp2_with fail
      go_ret
      exact ⟨by show Ending.returned (.bool _) = _; simp [noNumB, hng, e2], hb1⟩
    · have e1 : ((T.mag.length : Int) == 0) = false := beq0F hm0
      have e2 : (T.mag.length == 0) = false := by simpa using hm0
      clear hm0
      obtain ⟨hm1, hm2, hrm, hw32, hk1, hk2, hk64, ha64, hts, hKs⟩ := hN.parts
      unfold maxLen at hm2 hk2 hts
      obtain ⟨hk64a, hk64b⟩ := hk64
      obtain ⟨ha64a, ha64b⟩ := ha64
      have HK := Lib.hid (fun (i : Nat) (t : Nd) (hi : T.kids[i]? = some t) => hN.kid hi)
      have hb1 := (Below.refl w.heap.size w).alloc (Nat.le_refl _) (.cells #[.int .i64 T.kind, .int .i64 T.pos, .string T.text, .bool T.neg, .slice A T.mag.length c, .slice K T.kids.length d] 27)
      obtain ⟨c0, c1, c2, c3, c4, c5⟩ := (cellsN_new w T A c K d 27).box
      rw [hng] at hb1 c3
      unfold ndV
      rw [hng]
      clear hKs hN
      go_enter Tryz.func46, Tryz.ntmps46
      go_wp2_with fail
      go_ret
      exact ⟨by show Ending.returned (.bool _) = _; simp [noNumB, hng, e2], hb1⟩
theorem tNone_ok (T : Nd) (A : Option Addr) (c : Nat) (K : Option Addr) (d : Nat) (w : World) (hN : NodeAt w T A c K d) :
    Calls Tryz.prog 70 #[ndV T A c K d] w fun e w' => e = .returned (.bool (Sh.none.ev Nd.right T)) ∧ Below w.heap.size w w' := by
  have HNN := Lib.hid (fun o => tNoNum_ok T A c K d (w.alloc o) (hN.later ((Below.refl w.heap.size w).alloc (Nat.le_refl _) o)))
  by_cases he1 : T.kind = 0
  · have e1 : (T.kind == 0) = true := by simpa using he1
    clear he1
    by_cases he2 : T.text.size = 0
    · have e2 : (T.text.size == 0) = true := by simpa using he2
      have e2' : T.text.toList.isEmpty = true := by rw [text_empty, e2]
      clear he2
      generalize hnn : noNumB T = nn at HNN
      cases nn
      · obtain ⟨hm1, hm2, hrm, hw32, hk1, hk2, hk64, ha64, hts, hKs⟩ := hN.parts
        unfold maxLen at hm2 hk2 hts
        obtain ⟨hk64a, hk64b⟩ := hk64
        obtain ⟨ha64a, ha64b⟩ := ha64
        have HK := Lib.hid (fun (i : Nat) (t : Nd) (hi : T.kids[i]? = some t) => hN.kid hi)
        have hb1 := (Below.refl w.heap.size w).alloc (Nat.le_refl _) (.cells #[.int .i64 T.kind, .int .i64 T.pos, .string T.text, .bool T.neg, .slice A T.mag.length c, .slice K T.kids.length d] 27)
        obtain ⟨c0, c1, c2, c3, c4, c5⟩ := (cellsN_new w T A c K d 27).box
        unfold ndV
        clear hKs hN
        go_enter Tryz.func70, Tryz.ntmps70
        go_wp2_with (go_at_call 46; refine (HNN.out _).mono ?_; rintro e w3 ⟨rfl, hb3⟩; have d5 := cell_later hb3 c5)
        go_ret
        exact ⟨by show Ending.returned (.bool _) = _; simp [Sh.ev, e1, e2, e2', hnn], hb1.trans (hb3.mono hb1.size)⟩
      · by_cases hk0 : T.kids.length = 0
        · have e3 : ((T.kids.length : Int) == 0) = true := by rw [hk0]; rfl
          have e3' : (T.kids.length == 0) = true := by rw [hk0]; rfl
          clear hk0
          obtain ⟨hm1, hm2, hrm, hw32, hk1, hk2, hk64, ha64, hts, hKs⟩ := hN.parts
          unfold maxLen at hm2 hk2 hts
          obtain ⟨hk64a, hk64b⟩ := hk64
          obtain ⟨ha64a, ha64b⟩ := ha64
          have HK := Lib.hid (fun (i : Nat) (t : Nd) (hi : T.kids[i]? = some t) => hN.kid hi)
          have hb1 := (Below.refl w.heap.size w).alloc (Nat.le_refl _) (.cells #[.int .i64 T.kind, .int .i64 T.pos, .string T.text, .bool T.neg, .slice A T.mag.length c, .slice K T.kids.length d] 27)
          obtain ⟨c0, c1, c2, c3, c4, c5⟩ := (cellsN_new w T A c K d 27).box
          unfold ndV
          clear hKs hN
          go_enter Tryz.func70, Tryz.ntmps70
          go_wp2_with (go_at_call 46; refine (HNN.out _).mono ?_; rintro e w3 ⟨rfl, hb3⟩; have d5 := cell_later hb3 c5)
          go_ret
          exact ⟨by show Ending.returned (.bool _) = _; simp [Sh.ev, e1, e2, e2', hnn, e3'], hb1.trans (hb3.mono hb1.size)⟩
        · have e3 : ((T.kids.length : Int) == 0) = false := beq0F hk0
          have e3' : (T.kids.length == 0) = false := by simpa using hk0
          clear hk0
          obtain ⟨hm1, hm2, hrm, hw32, hk1, hk2, hk64, ha64, hts, hKs⟩ := hN.parts
          unfold maxLen at hm2 hk2 hts
          obtain ⟨hk64a, hk64b⟩ := hk64
          obtain ⟨ha64a, ha64b⟩ := ha64
          have HK := Lib.hid (fun (i : Nat) (t : Nd) (hi : T.kids[i]? = some t) => hN.kid hi)
          have hb1 := (Below.refl w.heap.size w).alloc (Nat.le_refl _) (.cells #[.int .i64 T.kind, .int .i64 T.pos, .string T.text, .bool T.neg, .slice A T.mag.length c, .slice K T.kids.length d] 27)
          obtain ⟨c0, c1, c2, c3, c4, c5⟩ := (cellsN_new w T A c K d 27).box
          unfold ndV
          clear hKs hN
          go_enter Tryz.func70, Tryz.ntmps70
          go_wp2_with (go_at_call 46; refine (HNN.out _).mono ?_; rintro e w3 ⟨rfl, hb3⟩; have d5 := cell_later hb3 c5)
          go_ret
          exact ⟨by show Ending.returned (.bool _) = _; simp [Sh.ev, e1, e2, e2', hnn, e3'], hb1.trans (hb3.mono hb1.size)⟩
    · have e2 : (T.text.size == 0) = false := by simpa using he2
      have e2' : T.text.toList.isEmpty = false := by rw [text_empty, e2]
      clear he2
      obtain ⟨hm1, hm2, hrm, hw32, hk1, hk2, hk64, ha64, hts, hKs⟩ := hN.parts
      unfold maxLen at hm2 hk2 hts
      obtain ⟨hk64a, hk64b⟩ := hk64
      obtain ⟨ha64a, ha64b⟩ := ha64
      have HK := Lib.hid (fun (i : Nat) (t : Nd) (hi : T.kids[i]? = some t) => hN.kid hi)
      have hb1 := (Below.refl w.heap.size w).alloc (Nat.le_refl _) (.cells #[.int .i64 T.kind, .int .i64 T.pos, .string T.text, .bool T.neg, .slice A T.mag.length c, .slice K T.kids.length d] 27)
      obtain ⟨c0, c1, c2, c3, c4, c5⟩ := (cellsN_new w T A c K d 27).box
      unfold ndV
      clear hKs hN
      go_enter Tryz.func70, Tryz.ntmps70
      go_wp2_with fail
      go_ret
      exact ⟨by show Ending.returned (.bool _) = _; simp [Sh.ev, e1, e2, e2'], hb1⟩
  · have e1 : (T.kind == 0) = false := by simpa using he1
    clear he1
    obtain ⟨hm1, hm2, hrm, hw32, hk1, hk2, hk64, ha64, hts, hKs⟩ := hN.parts
    unfold maxLen at hm2 hk2 hts
    obtain ⟨hk64a, hk64b⟩ := hk64
    obtain ⟨ha64a, ha64b⟩ := ha64
    have HK := Lib.hid (fun (i : Nat) (t : Nd) (hi : T.kids[i]? = some t) => hN.kid hi)
    have hb1 := (Below.refl w.heap.size w).alloc (Nat.le_refl _) (.cells #[.int .i64 T.kind, .int .i64 T.pos, .string T.text, .bool T.neg, .slice A T.mag.length c, .slice K T.kids.length d] 27)
    obtain ⟨c0, c1, c2, c3, c4, c5⟩ := (cellsN_new w T A c K d 27).box
    unfold ndV
    clear hKs hN
    go_enter Tryz.func70, Tryz.ntmps70
    go_wp2_with fail
    go_ret
    exact ⟨by show Ending.returned (.bool _) = _; simp [Sh.ev, e1], hb1⟩
end
section
set_option linter.unusedVariables false
set_option linter.unusedSimpArgs false
open Go.RowKit
set_option maxRecDepth 1000000
theorem orOne_ok (D : Nat) (v : Value) (p : Nd → Bool) (X : Nat) (T : Nd) (A : Option Addr) (c : Nat) (K : Option Addr) (d : Nat) (w : World) (hS : ShapeOk D w v p) (hD : T.depth ≤ D) (hW : T.weight ≤ 1048576) (hN : NodeAt w T A c K d) (hC : CellsN w X 0 T A c K d) :
    Calls Tryz.prog 134 #[v, .pointer (some ⟨X, 0, none⟩)] w fun e w' => e = .returned (.bool (p T)) ∧ Below w.heap.size w w' := by
  obtain ⟨f, caps, hv, hrn, hf⟩ := hS
  subst hv
  obtain ⟨c0, c1, c2, c3, c4, c5⟩ := hC.box
  have hI := hf w (Below.refl _ _) T A c K d hD hW hN
  have hlt := World.block_lt_of_cell? w _ c0
  unfold ndV at hI
  have HI := Lib.hid hI
  clear hI hf hN hC
  go_enter Tryz.func134, Tryz.ntmps134
  go_wp2_with (with_reducible refine HI.out.mono ?_; rintro e w3 ⟨rfl, hb3⟩)
  go_ret
  exact ⟨rfl, hb3⟩
def anyB (T : Nd) (L : List (Nd → Bool)) : Bool := L.any fun p => p T
theorem any_take {T : Nd} {L : List (Nd → Bool)} {k : Nat} {p : Nd → Bool} (h : L[k]? = some p) : anyB T (L.take (k + 1)) = (anyB T (L.take k) || p T) := by
  unfold anyB
  rw [List.take_succ_eq_append_getElem (List.getElem?_eq_some_iff.1 h).1, List.any_append]
  simp [(List.getElem?_eq_some_iff.1 h).2]
theorem any_le {T : Nd} {L : List (Nd → Bool)} {k : Nat} (h : anyB T (L.take k) = true) : anyB T L = true := by
  unfold anyB at h ⊢
  rw [List.any_eq_true] at h ⊢
  obtain ⟨p, hp, h⟩ := h
  exact ⟨p, List.mem_of_mem_take hp, h⟩
set_option maxHeartbeats 4000000 in
theorem idxShape_ok (D : Nat) (L : List (Nd → Bool)) (m c' : Nat) (A' : Option Addr) (X : Nat) (T : Nd) (A : Option Addr) (c : Nat) (K : Option Addr) (d : Nat) (w : World) (hm : L.length = m) (hL : ShapesAt D w A' L) (hmc : m ≤ c') (hc : c' ≤ maxLen) (hD : T.depth ≤ D) (hW : T.weight ≤ 1048576) (hN : NodeAt w T A c K d) (hC : CellsN w X 0 T A c K d) :
    Calls Tryz.prog 178 #[.slice A' m c', .func (.func 134) #[] #[.pointer (some ⟨X, 0, none⟩)]] w fun e w' => (∃ r : Int, e = .returned (.int .i64 r) ∧ ((0 ≤ r ∧ anyB T L = true) ∨ (r = -1 ∧ anyB T L = false))) ∧ Below w.heap.size w w' := by
  unfold maxLen at hc
  have HL := Lib.hid hL
  have HM := Lib.hid hm
  have HN := Lib.hid (fun W (hb : Below w.heap.size w W) v p (hS : ShapeOk D W v p) => orOne_ok D v p X T A c K d W hS hD hW (hN.later hb) (hC.later hb))
  clear hL hm hN hC
  go_enter Tryz.func178, Tryz.ntmps178
  go_wp2_with fail
  go_loopw [8] (fun iv wr => ∃ k : Nat, iv = .int .i64 k ∧ k ≤ m ∧ Hid (anyB T (L.take k) = false) ∧ Below w.heap.size w wr) (fun iv _ => m - (intOf iv).toNat)
  case atStart => exact ⟨0, rfl, Nat.zero_le _, Lib.hid rfl, Below.refl _ _⟩
  case round =>
    obtain ⟨k, rfl, hk, hR, hbr⟩ := hrel
    by_cases hkl : k < m
    · have o1 : decide ((k : Int) < (m : Int)) = true := decide_eq_true (by omega)
      have o2 : decide (k < m) = true := decide_eq_true hkl
      obtain ⟨p, hp⟩ : ∃ p, L[k]? = some p := ⟨_, List.getElem?_eq_getElem (by rw [HM.out]; exact hkl)⟩
      obtain ⟨b2, off2, v, hA, hv, hS⟩ := HL.out k p hp
      subst hA
      have hv2 := cell_later hbr hv
      have hT1 := any_take (T := T) hp
      have hI := HN.out wr hbr v p (hS.later hbr)
      obtain ⟨f, caps, hvf, _, _⟩ := hS
      subst hvf
      have HI := Lib.hid hI
      have HT1 := Lib.hid hT1
      clear hI hT1 hp hv
      cases hpt : p T with
      | true =>
        rw [hpt] at HI HT1
        go_wp2_with (go_at_call 134; refine HI.out.mono ?_; rintro e w3 ⟨rfl, hb3⟩)
        go_ret
        exact ⟨⟨k, rfl, .inl ⟨by omega, any_le (HT1.out.trans (by simp))⟩⟩, hbr.trans (hb3.mono hbr.size)⟩
      | false =>
        rw [hpt] at HI HT1
        go_wp2_with (go_at_call 134; refine HI.out.mono ?_; rintro e w3 ⟨rfl, hb3⟩)
        go_roundw
        case rel => exact ⟨k + 1, by go_num, by omega, Lib.hid (HT1.out.trans (by rw [hR.out]; rfl)), hbr.trans (hb3.mono hbr.size)⟩
        case measure => simp [intOf]; omega
    · have o1 : decide ((k : Int) < (m : Int)) = false := decide_eq_false (by omega)
      have o2 : decide (k < m) = false := decide_eq_false hkl
      have hR2 := hR.out
      rw [List.take_of_length_le (by have := HM.out; omega)] at hR2
      go_wp2_with fail
      go_ret
      exact ⟨⟨-1, rfl, .inr ⟨rfl, hR2⟩⟩, hbr⟩
theorem hasShape_ok (D : Nat) (L : List (Nd → Bool)) (m c' : Nat) (A' : Option Addr) (X : Nat) (T : Nd) (A : Option Addr) (c : Nat) (K : Option Addr) (d : Nat) (w : World) (hm : L.length = m) (hL : ShapesAt D w A' L) (hmc : m ≤ c') (hc : c' ≤ maxLen) (hD : T.depth ≤ D) (hW : T.weight ≤ 1048576) (hN : NodeAt w T A c K d) (hC : CellsN w X 0 T A c K d) :
    Calls Tryz.prog 133 #[.slice A' m c', .func (.func 134) #[] #[.pointer (some ⟨X, 0, none⟩)]] w fun e w' => e = .returned (.bool (anyB T L)) ∧ Below w.heap.size w w' := by
  have HI := Lib.hid (idxShape_ok D L m c' A' X T A c K d w hm hL hmc hc hD hW hN hC)
  clear hL hm hN hC
  go_enter Tryz.func133, Tryz.ntmps133
  go_wp2_with (go_at_call 178; refine HI.out.mono ?_; rintro e w3 ⟨⟨r, rfl, hr⟩, hb3⟩)
  go_ret
  refine ⟨?_, hb3⟩
  show Ending.returned (.bool (decide (0 ≤ r))) = _
  rcases hr with ⟨h1, h2⟩ | ⟨h1, h2⟩
  · rw [h2, decide_eq_true h1]
  · rw [h2, h1]; rfl
theorem or1_ok (D : Nat) (L : List (Nd → Bool)) (m c' X : Nat) (A' : Option Addr) (w : World) (hm : L.length = m) (hL : ShapesAt D w A' L) (hmc : m ≤ c') (hc : c' ≤ maxLen) (hX : w.cell? ⟨X, 0, none⟩ = some (.slice A' m c')) (T : Nd) (A : Option Addr) (c : Nat) (K : Option Addr) (d : Nat) (hD : T.depth ≤ D) (hW : T.weight ≤ 1048576) (hN : NodeAt w T A c K d) :
    Calls Tryz.prog 132 #[ndV T A c K d, .pointer (some ⟨X, 0, none⟩)] w fun e w' => e = .returned (.bool (anyB T L)) ∧ Below w.heap.size w w' := by
  have hX2 := fun o => cell_later ((Below.refl w.heap.size w).alloc (Nat.le_refl _) o) hX
  have hXl := World.block_lt_of_cell? w _ hX
  have HR := Lib.hid (fun W X hb hC => hasShape_ok D L m c' A' X T A c K d W hm (hL.later hb) hmc hc hD hW (hN.later hb) hC)
  have hC1 := cellsN_new w T A c K d 27
  have HR := Lib.hid (HR.out _ _ ((Below.refl w.heap.size w).alloc (Nat.le_refl _) _) hC1)
  clear hL hC1
  obtain ⟨hm1, hm2, hrm, hw32, hk1, hk2, hk64, ha64, hts, hKs⟩ := hN.parts
  unfold maxLen at hm2 hk2 hts
  obtain ⟨hk64a, hk64b⟩ := hk64
  obtain ⟨ha64a, ha64b⟩ := ha64
  have HK := Lib.hid (fun (i : Nat) (t : Nd) (hi : T.kids[i]? = some t) => hN.kid hi)
  have hb1 := (Below.refl w.heap.size w).alloc (Nat.le_refl _) (.cells #[.int .i64 T.kind, .int .i64 T.pos, .string T.text, .bool T.neg, .slice A T.mag.length c, .slice K T.kids.length d] 27)
  obtain ⟨c0, c1, c2, c3, c4, c5⟩ := (cellsN_new w T A c K d 27).box
  have c6 := hX2 (.cells #[.int .i64 T.kind, .int .i64 T.pos, .string T.text, .bool T.neg, .slice A T.mag.length c, .slice K T.kids.length d] 27)
  clear hX hX2
  unfold ndV
  clear hKs hN
  go_enter Tryz.func132, Tryz.ntmps132
  go_wp2_with (go_at_call 133; refine HR.out.mono ?_; rintro e w3 ⟨rfl, hb3⟩)
  go_ret
  exact ⟨rfl, hb1.trans (hb3.mono hb1.size)⟩
theorem or_ok (D : Nat) (L : List (Nd → Bool)) (m c : Nat) (A : Option Addr) (w : World) (hm : L.length = m) (hL : ShapesAt D w A L) (hmc : m ≤ c) (hc : c ≤ maxLen) :
    Calls Tryz.prog 69 #[.slice A m c] w fun e w' => (∃ v, e = .returned v ∧ ShapeOk D w' v fun T => anyB T L) ∧ Below w.heap.size w w' := by
  have hb1 := (Below.refl w.heap.size w).alloc (Nat.le_refl _) (.cells #[.slice A m c] 113)
  have HS : ShapeOk D (w.alloc (.cells #[.slice A m c] 113)) (.func (.func 132) #[] #[.pointer (some ⟨w.heap.size, 0, none⟩)]) fun T => anyB T L :=
    ⟨_, _, rfl, run_call _ _ Tryz.func132 (by kernel_rfl) (by kernel_rfl), fun W hW T A2 c2 K d hD hWt hN => or1_ok D L m c w.heap.size A W hm ((hL.later hb1).later hW) hmc hc (cell_later hW (box_one w _ _)) T A2 c2 K d hD hWt hN⟩
  go_enter Tryz.func69, Tryz.ntmps69
  go_wp2
  go_ret
  exact ⟨⟨_, rfl, HS⟩, hb1⟩
end
section
set_option linter.unusedVariables false
set_option linter.unusedSimpArgs false
open Go.RowKit
set_option maxRecDepth 1000000
theorem each1_ok (D : Nat) (v : Value) (p : Nd → Bool) (X : Nat) (w : World) (hS : ShapeOk D w v p) (hX : w.cell? ⟨X, 0, none⟩ = some v) (T : Nd) (A : Option Addr) (c : Nat) (K : Option Addr) (d : Nat) (hD : T.depth ≤ D) (hW : T.weight ≤ 1048576) (hN : NodeAt w T A c K d) :
    Calls Tryz.prog 177 #[ndV T A c K d, .pointer (some ⟨X, 0, none⟩)] w fun e w' => e = .returned (.bool (!(p T))) ∧ Below w.heap.size w w' := by
  obtain ⟨f, caps, hv, hrn, hf⟩ := hS
  subst hv
  have hX2 := fun o => cell_later ((Below.refl w.heap.size w).alloc (Nat.le_refl _) o) hX
  have hXl := World.block_lt_of_cell? w _ hX
  have hI := hf _ ((Below.refl w.heap.size w).alloc (Nat.le_refl _) (.cells #[.int .i64 T.kind, .int .i64 T.pos, .string T.text, .bool T.neg, .slice A T.mag.length c, .slice K T.kids.length d] 27)) T A c K d hD hW (hN.later ((Below.refl w.heap.size w).alloc (Nat.le_refl _) _))
  unfold ndV at hI
  have HI := Lib.hid hI
  clear hI hf
  obtain ⟨hm1, hm2, hrm, hw32, hk1, hk2, hk64, ha64, hts, hKs⟩ := hN.parts
  unfold maxLen at hm2 hk2 hts
  obtain ⟨hk64a, hk64b⟩ := hk64
  obtain ⟨ha64a, ha64b⟩ := ha64
  have HK := Lib.hid (fun (i : Nat) (t : Nd) (hi : T.kids[i]? = some t) => hN.kid hi)
  have hb1 := (Below.refl w.heap.size w).alloc (Nat.le_refl _) (.cells #[.int .i64 T.kind, .int .i64 T.pos, .string T.text, .bool T.neg, .slice A T.mag.length c, .slice K T.kids.length d] 27)
  obtain ⟨c0, c1, c2, c3, c4, c5⟩ := (cellsN_new w T A c K d 27).box
  have c6 := hX2 (.cells #[.int .i64 T.kind, .int .i64 T.pos, .string T.text, .bool T.neg, .slice A T.mag.length c, .slice K T.kids.length d] 27)
  clear hX hX2
  unfold ndV
  clear hKs hN
  go_enter Tryz.func177, Tryz.ntmps177
  go_wp2_with (with_reducible refine HI.out.mono ?_; rintro e w3 ⟨rfl, hb3⟩)
  go_ret
  exact ⟨rfl, hb1.trans (hb3.mono hb1.size)⟩
theorem all_take {l : List Nd} {p : Nd → Bool} {k : Nat} {t : Nd} (h : l[k]? = some t) : (l.take (k + 1)).all p = ((l.take k).all p && p t) := by
  rw [List.take_succ_eq_append_getElem (List.getElem?_eq_some_iff.1 h).1, List.all_append]
  simp [(List.getElem?_eq_some_iff.1 h).2]
theorem all_le {l : List Nd} {p : Nd → Bool} {k : Nat} (h : (l.take k).all p = false) : l.all p = false := by
  cases hl : l.all p with
  | false => rfl
  | true =>
    rw [List.all_eq_true] at hl
    have : (l.take k).all p = true := List.all_eq_true.2 fun t ht => hl t (List.mem_of_mem_take ht)
    rw [this] at h
    exact h
set_option maxHeartbeats 4000000 in
theorem idxNode_ok (D : Nat) (v : Value) (p : Nd → Bool) (X : Nat) (l : List Nd) (n : Nat) (K : Option Addr) (d : Nat) (w : World) (hS : ShapeOk D w v p) (hX : w.cell? ⟨X, 0, none⟩ = some v) (hn : l.length = n) (hl : KidsAt w l K 0) (hWi : Within D l) (hnd : n ≤ d) (hd : d ≤ maxLen) :
    Calls Tryz.prog 205 #[.slice K n d, .func (.func 177) #[] #[.pointer (some ⟨X, 0, none⟩)]] w fun e w' => (∃ r : Int, e = .returned (.int .i64 r) ∧ ((0 ≤ r ∧ l.all p = false) ∨ (r = -1 ∧ l.all p = true))) ∧ Below w.heap.size w w' := by
  unfold maxLen at hd
  have HK := Lib.hid hl
  have HNn := Lib.hid hn
  have HW := Lib.hid hWi
  have HN := Lib.hid (fun W (hb : Below w.heap.size w W) T A c K d hD hW hN => each1_ok D v p X W (hS.later hb) (cell_later hb hX) T A c K d hD hW hN)
  clear hl hn hWi hX hS
  go_enter Tryz.func205, Tryz.ntmps205
  go_wp2_with fail
  go_loopw [8] (fun iv wr => ∃ k : Nat, iv = .int .i64 k ∧ k ≤ n ∧ Hid ((l.take k).all p = true) ∧ Below w.heap.size w wr) (fun iv _ => n - (intOf iv).toNat)
  case atStart => exact ⟨0, rfl, Nat.zero_le _, Lib.hid rfl, Below.refl _ _⟩
  case round =>
    obtain ⟨k, rfl, hk, hR, hbr⟩ := hrel
    by_cases hkl : k < n
    · have o1 : decide ((k : Int) < (n : Int)) = true := decide_eq_true (by omega)
      have o2 : decide (k < n) = true := decide_eq_true hkl
      obtain ⟨t, ht⟩ : ∃ t, l[k]? = some t := ⟨_, List.getElem?_eq_getElem (by rw [HNn.out]; exact hkl)⟩
      obtain ⟨b, off, A', c', K', d', hK, hC, hNt⟩ := HK.out.kid ht
      rw [Nat.zero_add] at hC
      subst hK
      obtain ⟨n0, n1, n2, n3, n4, n5⟩ := hC.later hbr
      obtain ⟨hd1, hw1⟩ := HW.out t (List.mem_of_getElem? ht)
      have hT1 := all_take (p := p) ht
      have hI := HN.out wr hbr t A' c' K' d' hd1 hw1 (hNt.later hbr)
      unfold ndV at hI
      have HI := Lib.hid hI
      have HT1 := Lib.hid hT1
      clear hI hT1 hC hNt ht hd1 hw1
      cases hpt : p t with
      | true =>
        rw [hpt] at HI HT1
        go_wp2_with (go_at_call 177; refine HI.out.mono ?_; rintro e w3 ⟨rfl, hb3⟩)
        go_roundw
        case rel => exact ⟨k + 1, by go_num, by omega, Lib.hid (HT1.out.trans (by rw [hR.out]; rfl)), hbr.trans (hb3.mono hbr.size)⟩
        case measure => simp [intOf]; omega
      | false =>
        rw [hpt] at HI HT1
        go_wp2_with (go_at_call 177; refine HI.out.mono ?_; rintro e w3 ⟨rfl, hb3⟩)
        go_ret
        exact ⟨⟨k, rfl, .inl ⟨by omega, all_le (HT1.out.trans (by simp))⟩⟩, hbr.trans (hb3.mono hbr.size)⟩
    · have o1 : decide ((k : Int) < (n : Int)) = false := decide_eq_false (by omega)
      have o2 : decide (k < n) = false := decide_eq_false hkl
      have hR2 := hR.out
      rw [List.take_of_length_le (by have := HNn.out; omega)] at hR2
      go_wp2_with fail
      go_ret
      exact ⟨⟨-1, rfl, .inr ⟨rfl, hR2⟩⟩, hbr⟩
theorem hasNode_ok (D : Nat) (v : Value) (p : Nd → Bool) (X : Nat) (l : List Nd) (n : Nat) (K : Option Addr) (d : Nat) (w : World) (hS : ShapeOk D w v p) (hX : w.cell? ⟨X, 0, none⟩ = some v) (hn : l.length = n) (hl : KidsAt w l K 0) (hWi : Within D l) (hnd : n ≤ d) (hd : d ≤ maxLen) :
    Calls Tryz.prog 176 #[.slice K n d, .func (.func 177) #[] #[.pointer (some ⟨X, 0, none⟩)]] w fun e w' => e = .returned (.bool (!(l.all p))) ∧ Below w.heap.size w w' := by
  have HI := Lib.hid (idxNode_ok D v p X l n K d w hS hX hn hl hWi hnd hd)
  clear hS hX hl hn hWi
  go_enter Tryz.func176, Tryz.ntmps176
  go_wp2_with (go_at_call 205; refine HI.out.mono ?_; rintro e w3 ⟨⟨r, rfl, hr⟩, hb3⟩)
  go_ret
  refine ⟨?_, hb3⟩
  show Ending.returned (.bool (decide (0 ≤ r))) = _
  rcases hr with ⟨h1, h2⟩ | ⟨h1, h2⟩
  · rw [h2, decide_eq_true h1]; rfl
  · rw [h2, h1]; rfl
theorem each_ok (D : Nat) (v : Value) (p : Nd → Bool) (l : List Nd) (n : Nat) (K : Option Addr) (d : Nat) (w : World) (hS : ShapeOk D w v p) (hn : l.length = n) (hl : KidsAt w l K 0) (hWi : Within D l) (hnd : n ≤ d) (hd : d ≤ maxLen) :
    Calls Tryz.prog 130 #[.slice K n d, v] w fun e w' => e = .returned (.bool (l.all p)) ∧ Below w.heap.size w w' := by
  have hb1 := (Below.refl w.heap.size w).alloc (Nat.le_refl _) (.cells #[v] 69)
  have hI := hasNode_ok D v p w.heap.size l n K d _ (hS.later hb1) (box_one w v _) hn (hl.later hb1) hWi hnd hd
  obtain ⟨f, caps, hv, _⟩ := hS
  subst hv
  have HI := Lib.hid hI
  clear hI hl hn hWi
  go_enter Tryz.func130, Tryz.ntmps130
  go_wp2_with (go_at_call 176; refine HI.out.mono ?_; rintro e w3 ⟨rfl, hb3⟩)
  go_ret
  exact ⟨rfl, hb1.trans (hb3.mono hb1.size)⟩
theorem some1_ok (D : Nat) (v : Value) (p : Nd → Bool) (m X Y : Nat) (w : World) (hS : ShapeOk D w v p) (hm : m ≤ 10) (hX : w.cell? ⟨X, 0, none⟩ = some (.int .i64 m)) (hY : w.cell? ⟨Y, 0, none⟩ = some v) (T : Nd) (A : Option Addr) (c : Nat) (K : Option Addr) (d : Nat) (hD : T.depth ≤ D + 1) (hW : T.weight ≤ 1048576) (hN : NodeAt w T A c K d) :
    Calls Tryz.prog 129 #[ndV T A c K d, .pointer (some ⟨X, 0, none⟩), .pointer (some ⟨Y, 0, none⟩)] w fun e w' => e = .returned (.bool (decide (m ≤ T.kids.length) && T.kids.all p)) ∧ Below w.heap.size w w' := by
  have hX2 := fun o => cell_later ((Below.refl w.heap.size w).alloc (Nat.le_refl _) o) hX
  have hXl := World.block_lt_of_cell? w _ hX
  have hY2 := fun o => cell_later ((Below.refl w.heap.size w).alloc (Nat.le_refl _) o) hY
  have hYl := World.block_lt_of_cell? w _ hY
  have HR := Lib.hid (fun o => each_ok D v p T.kids T.kids.length K d (w.alloc o) (hS.later ((Below.refl w.heap.size w).alloc (Nat.le_refl _) o)) rfl (hN.parts.2.2.2.2.2.2.2.2.2.later ((Below.refl w.heap.size w).alloc (Nat.le_refl _) o)) (within_kids hD hW) hN.parts.2.2.2.2.1 hN.parts.2.2.2.2.2.1)
  obtain ⟨f, caps, hv, _⟩ := hS
  subst hv
  by_cases hml : m ≤ T.kids.length
  · have e1 : decide ((m : Int) ≤ (T.kids.length : Int)) = true := decide_eq_true (by omega)
    have e2 : decide (m ≤ T.kids.length) = true := decide_eq_true hml
    obtain ⟨hm1, hm2, hrm, hw32, hk1, hk2, hk64, ha64, hts, hKs⟩ := hN.parts
    unfold maxLen at hm2 hk2 hts
    obtain ⟨hk64a, hk64b⟩ := hk64
    obtain ⟨ha64a, ha64b⟩ := ha64
    have HK := Lib.hid (fun (i : Nat) (t : Nd) (hi : T.kids[i]? = some t) => hN.kid hi)
    have hb1 := (Below.refl w.heap.size w).alloc (Nat.le_refl _) (.cells #[.int .i64 T.kind, .int .i64 T.pos, .string T.text, .bool T.neg, .slice A T.mag.length c, .slice K T.kids.length d] 27)
    obtain ⟨c0, c1, c2, c3, c4, c5⟩ := (cellsN_new w T A c K d 27).box
    have c6 := hX2 (.cells #[.int .i64 T.kind, .int .i64 T.pos, .string T.text, .bool T.neg, .slice A T.mag.length c, .slice K T.kids.length d] 27)
    have c7 := hY2 (.cells #[.int .i64 T.kind, .int .i64 T.pos, .string T.text, .bool T.neg, .slice A T.mag.length c, .slice K T.kids.length d] 27)
    clear hX hX2 hY hY2 hml
    unfold ndV
    clear hKs hN
    go_enter Tryz.func129, Tryz.ntmps129
    go_wp2_with (go_at_call 130; refine (HR.out _).mono ?_; rintro e w3 ⟨rfl, hb3⟩)
    go_ret
    exact ⟨by first | rfl | (show Ending.returned (.bool _) = _; rw [e2]; rfl), hb1.trans (hb3.mono hb1.size)⟩
  · have e1 : decide ((m : Int) ≤ (T.kids.length : Int)) = false := decide_eq_false (by omega)
    have e2 : decide (m ≤ T.kids.length) = false := decide_eq_false hml
    obtain ⟨hm1, hm2, hrm, hw32, hk1, hk2, hk64, ha64, hts, hKs⟩ := hN.parts
    unfold maxLen at hm2 hk2 hts
    obtain ⟨hk64a, hk64b⟩ := hk64
    obtain ⟨ha64a, ha64b⟩ := ha64
    have HK := Lib.hid (fun (i : Nat) (t : Nd) (hi : T.kids[i]? = some t) => hN.kid hi)
    have hb1 := (Below.refl w.heap.size w).alloc (Nat.le_refl _) (.cells #[.int .i64 T.kind, .int .i64 T.pos, .string T.text, .bool T.neg, .slice A T.mag.length c, .slice K T.kids.length d] 27)
    obtain ⟨c0, c1, c2, c3, c4, c5⟩ := (cellsN_new w T A c K d 27).box
    have c6 := hX2 (.cells #[.int .i64 T.kind, .int .i64 T.pos, .string T.text, .bool T.neg, .slice A T.mag.length c, .slice K T.kids.length d] 27)
    have c7 := hY2 (.cells #[.int .i64 T.kind, .int .i64 T.pos, .string T.text, .bool T.neg, .slice A T.mag.length c, .slice K T.kids.length d] 27)
    clear hX hX2 hY hY2 hml
    unfold ndV
    clear hKs hN
    go_enter Tryz.func129, Tryz.ntmps129
    go_wp2_with fail
    go_ret
    exact ⟨by first | rfl | (show Ending.returned (.bool _) = _; rw [e2]; rfl), hb1⟩
end
section
set_option linter.unusedVariables false
set_option linter.unusedSimpArgs false
open Go.RowKit
set_option maxRecDepth 1000000
set_option maxHeartbeats 4000000 in
theorem lxWord_ok (T : ByteArray) (w : World) : Calls Tryz.prog 135 #[.string T] w fun e w' => e = .returned (.bool (wordB T.data.toList)) ∧ w = w' := by
  rw [← Lib.toList_data]
  go_enter Tryz.func135, Tryz.ntmps135
  go_wp2
  all_goals (go_ret; refine ⟨?_, rfl⟩; simp only [wordB, wordsL, List.contains_cons, List.contains_nil, Bool.true_or, Bool.or_true, Bool.false_or, Bool.or_false, *])
  all_goals first
    | rfl
    | (exfalso; simp_all; done)
end
end Go.Proofs.YtjefhdlncikhmaaGreatDoor
