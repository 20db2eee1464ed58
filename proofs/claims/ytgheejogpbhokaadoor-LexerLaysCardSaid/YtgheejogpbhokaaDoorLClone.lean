/- strings.Clone: the text itself; memory that was there is as it was. -/
import Derived.Test.YtgheejogpbhokaaDoorShelf
import Derived.Test.YtgheejogpbhokaaDoorAppend
import Derived.Lib.UnsafeStr
import Derived.Lib.BufferWrite
import Derived.Laws.MakeOwn
namespace Go.Proofs.YtgheejogpbhokaaDoor
set_option linter.unusedVariables false
set_option linter.unusedSimpArgs false
open Go.RowKit
set_option maxRecDepth 1000000

theorem byte_info : (Tryd.prog.info? 5).map (fun i => (i.zero, i.size, i.bytes)) = some (some (.int .u8 0), 1, 1) := by kernel_rfl

theorem slClone_ok (s : ByteArray) (w : World) (hs : s.size ≤ 1099511627776) :
    Calls Tryd.prog 53 #[.string s] w fun e w' => e = .returned (.string s) ∧ Below w.heap.size w w' := by
  by_cases h0 : s.size = 0
  · have hse : ((s.size : Int) == 0) = true := by simp [h0]
    have hss : s = ⟨#[]⟩ := by
      have : s.data = #[] := Array.eq_empty_of_size_eq_zero h0
      cases s; simp_all
    subst hss
    clear h0 hse
    go_enter Tryd.func53, Tryd.ntmps53
    go_wp2
    go_ret
    exact ⟨rfl, Below.refl _ _⟩
  · have hse : ((s.size : Int) == 0) = false := by simp [h0]
    obtain ⟨i0, hi0, hz0, hz1, hz2⟩ := info_parts byte_info
    have hmk := run_make (P := Tryd.prog) w 22 5 i0 _ Tryd.underlying22 hi0 hz0 .i64 .i64 (s.size : Int) (s.size : Int) (by omega) (Int.le_refl _) (by rw [hz2]; omega) (by omega)
    rw [Int.toNat_natCast, hz1, Nat.mul_one] at hmk
    obtain ⟨cur, hcur⟩ : ∃ cur, madeCells (Value.int .u8 0).cells s.size = cur := ⟨_, rfl⟩
    have hcs : cur.size = s.size := by rw [← hcur]; exact size_madeCells _ _
    rw [hcur] at hmk
    obtain ⟨W1, hW1⟩ : ∃ W1, w.alloc (.cells cur 5) = W1 := ⟨_, rfl⟩
    have hb1 : Below w.heap.size w W1 := by rw [← hW1]; exact (Below.refl _ _).alloc (Nat.le_refl _) _
    have hg1 : W1.heap[w.heap.size]? = some (.cells cur 5 (0, 0)) := by rw [← hW1]; exact heap_alloc_new w _
    rw [hW1] at hmk
    have hcp := Lib.run_copy_row_string (P := Tryd.prog) W1 22 9 3 5 w.heap.size 0 s.size s.size s cur 5 Tryd.underlying22 (by rw [hi0]; simp [hz1]) hg1 (Nat.le_refl _) (by omega)
    rw [List.take_zero, List.nil_append, Nat.zero_add, List.drop_eq_nil_of_le (by rw [Array.length_toList]; omega), List.append_nil] at hcp
    have hg2 := setRow_heap W1 w.heap.size cur (Lib.byteCells s.data.toList).toArray 5 (0, 0) hg1
    have hb2 : Below w.heap.size w (W1.setRow w.heap.size (Lib.byteCells s.data.toList).toArray) := hb1.grown (w' := W1.setRow w.heap.size (Lib.byteCells s.data.toList).toArray) (row := some w.heap.size) ⟨rfl, rfl, rfl, by simp [World.setRow], fun k _ hk => setRow_other W1 w.heap.size k _ (fun e => hk (by simp [e]))⟩ hb1.size (by intro k hk; injection hk with hk; omega)
    obtain ⟨W2, hW2⟩ : ∃ W2, W1.setRow w.heap.size (Lib.byteCells s.data.toList).toArray = W2 := ⟨_, rfl⟩
    rw [hW2] at hcp hg2 hb2
    have hl : s.data.toList.length = s.size := by simp
    have hsh : W2.shape? w.heap.size = some (5, s.size) := by
      unfold World.shape?
      rw [hg2]
      simp [Lib.byteCells]
    have hus := Lib.run_unsafeString_row (P := Tryd.prog) (w := W2) 87 3 9 5 Tryd.underlying87 (by kernel_rfl) w.heap.size s.size hsh s.data.toList (by intro e; rw [e] at hl; simp at hl; omega) (by omega) (by omega) (fun j x hx => by
      rw [Addr.add_lit, Nat.zero_add, cell_of_row W2 w.heap.size j _ 5 (0, 0) hg2]
      simp [Lib.byteCells, hx])
    rw [hl] at hus
    have hb3 : Below w.heap.size w (W2.freeze ⟨w.heap.size, 0, none⟩ s.size) := Lib.below_freeze hb2 (Nat.le_refl _) _
    generalize W2.freeze ⟨w.heap.size, 0, none⟩ s.size = W3 at *
    have hbe : (⟨s.data.toList.toArray⟩ : ByteArray) = s := by cases s; simp
    rw [hbe] at hus
    have hn0 : (0 : Int) < (s.size : Int) := by omega
    clear hsh hcur hcs hW1 hW2 hg1 hg2 hl hbe hz0 hz1 hz2 hi0 hb1 hb2
    go_enter Tryd.func53, Tryd.ntmps53
    go_wp2
    go_ret
    exact ⟨rfl, hb3⟩
theorem clone_ok (s : ByteArray) (w : World) (hs : s.size ≤ 1099511627776) :
    Calls Tryd.prog 46 #[.string s] w fun e w' => e = .returned (.string s) ∧ Below w.heap.size w w' := by
  have h := fun W => slClone_ok s W hs
  go_enter Tryd.func46, Tryd.ntmps46
  go_wp2_with (go_at_call 53; refine (h _).mono ?_; rintro e w1 ⟨rfl, hb⟩)
  go_ret
  exact ⟨rfl, hb⟩
end Go.Proofs.YtgheejogpbhokaaDoor
