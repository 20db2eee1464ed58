/- What Tokens defers. -/
import Derived.Test.YtgheejogpbhokaaDoorLx17
import Derived.Defers
import Derived.Recover
namespace Go.Proofs.YtgheejogpbhokaaDoor
set_option linter.unusedVariables false
set_option linter.unusedSimpArgs false
open Go.RowKit
set_option maxRecDepth 1000000

theorem catch_idle (lp fp : Addr) (w : World) :
    CallsD Tryd.prog 17 #[.pointer (some lp), .pointer (some fp)] .returning w fun e u' w' => e = .returned (.tuple #[]) ∧ u' = .returning ∧ w' = w := by
  refine callsD_of_wpS Tryd.func17 rfl fun c₀ cs hu => ?_
  simp only [Tryd.ntmps17, List.size_toArray, List.length_cons, List.length_nil, Nat.reduceAdd, Nat.reduceSub, Array.replicate_succ, Array.replicate_zero, List.push_toArray, List.append_toArray, List.nil_append, List.cons_append]
  apply wpS_seq
  apply wpS_region
  simp [wpOpsS, go_sem, recoverD, hu, Exit.thenS]
  apply wpS_seq
  apply wpS_region
  simp [wpOpsS, go_sem, recoverD, hu, Exit.thenS]
  refine wpS_cond (t := false) (by simp [Act.eval]) ?_
  simp only [Bool.false_eq_true, if_false]
  refine wpS_of_wp (wp_skip ?_)
  cases c₀
  simp_all [bodyPostS, results, Tryd.results17]

theorem cell_blk {w : World} {X Y i j : Nat} {u v : Value} (h : w.cell? ⟨Y, j, none⟩ = some v) (hne : X ≠ Y) : (w.setCell ⟨X, i, none⟩ u).cell? ⟨Y, j, none⟩ = some v := by
  rw [World.cell?_setCell_other _ _ _ _ (fun e => hne (by injection e))]; exact h
set_option maxHeartbeats 1000000 in
theorem catch_stop (lb fb : Nat) (c : Int) (a : Nat) (older : List PanicEntry) (w : World) {v0 x0 x1 : Value} (h0 : w.cell? ⟨lb, 0, none⟩ = some v0) (h1 : w.cell? ⟨fb, 0, none⟩ = some x0) (h2 : w.cell? ⟨fb, 1, none⟩ = some x1) (f0 : w.frozen? ⟨lb, 0, none⟩ = false) (f1 : w.frozen? ⟨fb, 0, none⟩ = false) (f2 : w.frozen? ⟨fb, 1, none⟩ = false) (hne : lb ≠ fb) (hl : lb < w.heap.size) (hf : fb < w.heap.size) :
    CallsD Tryd.prog 17 #[.pointer (some ⟨lb, 0, none⟩), .pointer (some ⟨fb, 0, none⟩)] (.panicking ({ v := stopV c a, recovered := false } :: older)) w fun e u' w' => e = .returned (.tuple #[]) ∧ u' = .panicking ({ v := stopV c a, recovered := true } :: older) ∧
      w'.cell? ⟨lb, 0, none⟩ = some (.slice none 0 0) ∧ w'.cell? ⟨fb, 0, none⟩ = some (.int .i64 c) ∧ w'.cell? ⟨fb, 1, none⟩ = some (.int .i64 a) ∧ ∀ B, B ≤ lb → B ≤ fb → Below B w w' := by
  unfold stopV
  refine callsD_of_wpS Tryd.func17 rfl fun c₀ cs hu => ?_
  simp only [Tryd.ntmps17, List.size_toArray, List.length_cons, List.length_nil, Nat.reduceAdd, Nat.reduceSub, Array.replicate_succ, Array.replicate_zero, List.push_toArray, List.append_toArray, List.nil_append, List.cons_append]
  apply wpS_seq
  apply wpS_region
  simp [wpOpsS, go_sem, recoverD, hu, Exit.thenS]
  apply wpS_seq
  apply wpS_region
  simp [wpOpsS, go_sem, recoverD, hu, Exit.thenS]
  refine wpS_of_wp ?_
  have HU := Lib.hid hu
  clear hu
  have hta : ∀ W : World, (Instr.typeAssert (Value.iface 46 (.agg #[.int .i64 c, .int .i64 a])) 20 46 true).run Tryd.prog W = .ok (.tuple #[.agg #[.int .i64 c, .int .i64 a], .bool true]) W := fun W => by rfl
  have n1 : fb ≠ w.heap.size := by omega
  have n2 : lb ≠ w.heap.size := by omega
  have n3 : fb ≠ lb := fun e => hne e.symm
  go_wp2_with fail
  go_region
  have k0 := cell_blk (i := 1) (u := .int .i64 a) (cell_blk (i := 0) (u := .int .i64 c) (cell_set_eq (u := .slice none 0 0) h0) (Ne.symm hne)) (Ne.symm hne)
  have k1 := cell_set_ne (u := .int .i64 a) (cell_set_eq (u := .int .i64 c) (cell_blk (i := 0) (u := .slice none 0 0) h1 hne)) (show 1 ≠ 0 by decide)
  have k2 := cell_set_eq (u := .int .i64 a) (cell_set_ne (i := 0) (u := .int .i64 c) (cell_blk (i := 0) (u := .slice none 0 0) h2 hne) (show 0 ≠ 1 by decide))
  have hz := fun B (b1 : B ≤ lb) (b2 : B ≤ fb) => (((Below.refl B w).setCell (p := ⟨lb, 0, none⟩) b1 (.slice none 0 0)).setCell (p := ⟨fb, 0, none⟩) b2 (.int .i64 c)).setCell (p := ⟨fb, 1, none⟩) b2 (.int .i64 a)
  have hs : (((w.setCell ⟨lb, 0, none⟩ (.slice none 0 0)).setCell ⟨fb, 0, none⟩ (.int .i64 c)).setCell ⟨fb, 1, none⟩ (.int .i64 a)).heap.size = w.heap.size := by simp
  generalize (((w.setCell ⟨lb, 0, none⟩ (.slice none 0 0)).setCell ⟨fb, 0, none⟩ (.int .i64 c)).setCell ⟨fb, 1, none⟩ (.int .i64 a)) = W3 at *
  have hb : Below W3.heap.size W3 (W3.alloc (.cells #[.int .i64 c, .int .i64 a] 46)).drew := lxDrew ((Below.refl _ _).alloc (Nat.le_refl _) _)
  exact ⟨rfl, _, rfl, _, results_none rfl _ _ _, rfl, rfl, cell_later hb k0, cell_later hb k1, cell_later hb k2, fun B b1 b2 => (hz B b1 b2).trans (hb.mono (by omega))⟩
end Go.Proofs.YtgheejogpbhokaaDoor
