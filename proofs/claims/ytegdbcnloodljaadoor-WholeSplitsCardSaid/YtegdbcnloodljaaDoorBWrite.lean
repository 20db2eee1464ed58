/- (*strings.Builder).Write of an array's slice. After the library's worked text on WriteString. Conditions: the builder is one; the bytes lie in a block of their own that holds no row of bytes. -/
import Derived.Test.YtegdbcnloodljaaDoorCopyCheck
import Derived.Test.YtegdbcnloodljaaDoorWords
import Derived.Lib.FrozenHead2
import Derived.Lib.OthersKept
namespace Go.Proofs.YtegdbcnloodljaaDoor
set_option linter.unusedVariables false
set_option linter.unusedSimpArgs false
open Go.RowKit Go.Shelf

theorem byte_info : (Tryd.prog.info? 5).map (fun i => (i.zero, i.size, i.bytes)) = some (some (.int .u8 0), 1, 1) := by kernel_rfl

set_option maxHeartbeats 2000000 in
set_option maxRecDepth 100000 in
theorem bWrite (B b g : Nat) (bs : List Value) (cs : Array Value) (T : TypeId) (w : World) (h : Lib.IsBuilderF 72 5 B b bs w) (hlen : bs.length + cs.size ≤ 140737488355328) (hBw : B ≤ w.heap.size)
    (hgb : g ≠ b) (hT : T ≠ 5) (hg : w.heap[g]? = some (.cells cs T (0, 0))) (h1 : ∀ u ∈ cs.toList, u.oneCell' = true) :
    Calls Tryd.prog 58 #[.pointer (some ⟨b, 0, none⟩), .slice (some ⟨g, 0, none⟩) cs.size cs.size] w fun e w' => e = .returned (.tuple #[.int .i64 cs.size, .nilIface]) ∧ (Lib.BuilderAtF 72 5 B b (.pointer (some ⟨b, 0, none⟩)) (bs ++ cs.toList) w' ∧ Below B w w' ∧ Lib.OthersKept 5 (some b) w w') := by
  obtain ⟨i0, hi, hz0, hz1, hz2⟩ := info_parts byte_info
  have hcc := Tryd.bCopyCheck B b bs w h
  go_enter Tryd.func58, Tryd.ntmps58
  go_wp2_with fail
  go_at_call 73
  refine hcc.mono ?_
  rintro e w1 ⟨rfl, hA, hb1, hk1⟩
  obtain ⟨hB, v, hbk, hown, hne⟩ := hA
  have c0 : w1.cell? ⟨b, 0, none⟩ = some (.pointer (some ⟨b, 0, none⟩)) := by rw [Lib.cell_of_heap hbk]; rfl
  have c1 : w1.cell? ⟨b, 1, none⟩ = some v := by rw [Lib.cell_of_heap hbk]; rfl
  have hg1 : w1.heap[g]? = some (.cells cs T (0, 0)) := hk1 g _ hg (fun e => hgb (Option.some.inj e)) (fun c fz e => by injection e with _ e _; exact hT e)
  have hnews : ∀ j u, cs.toList[j]? = some u → w1.cell? ((⟨g, 0, none⟩ : Addr).add j) = some u := fun j u hu => by
    rw [Addr.add_lit, Lib.cell_of_heap hg1, Nat.zero_add]; simpa using hu
  go_wp2_with (at_builtin; refine wpList_append_ownF _ rfl _ _ 70 rfl B 5 i0 _ 1 1 Tryd.underlying70 hi hz0 hz1 hz2 rfl (by decide) _ _ _ rfl hown ⟨g, 0, none⟩ cs.size cs.size cs.toList rfl (by simp) hnews h1 ?c3 ?c4 ?c5 ?_)
  case c3 => unfold maxLen; omega
  case c4 => omega
  case c5 => have := hb1.size; omega
  intro v' w2 hown' hgrow _
  have hlt : b < w1.heap.size := by
    rcases Nat.lt_or_ge b w1.heap.size with h' | h'
    · exact h'
    · simp [Array.getElem?_eq_none h'] at hbk
  have hb2 : w2.heap[b]? = some (.cells #[.pointer (some ⟨b, 0, none⟩), v] 72 (0, 0)) := by
    rw [hgrow.block b hlt (fun e => hne e.symm)]
    exact hbk
  have d0 : w2.cell? ⟨b, 0, none⟩ = some (.pointer (some ⟨b, 0, none⟩)) := by rw [Lib.cell_of_heap hb2]; rfl
  have d1 : w2.cell? ⟨b, 1, none⟩ = some v := by rw [Lib.cell_of_heap hb2]; rfl
  have f1 : w2.frozen? ⟨b, 1, none⟩ = false := Lib.frozen_of_heap hb2 1
  obtain ⟨ao, n', cap, rfl⟩ : ∃ ao n' cap, v' = .slice ao n' cap := by
    rcases hown'.2 with ⟨hv, _⟩ | ⟨g, cap, cur, fz, hv, _⟩
    · exact ⟨_, _, _, hv⟩
    · exact ⟨_, _, _, hv⟩
  go_wp2
  go_ret2
  refine ⟨rfl, ?_, ?_, (hk1.grown hgrow (Lib.ownsRowF_kind hown)).setCell ⟨b, 1, none⟩ rfl _⟩
  · exact Lib.BuilderAtF.put (T := 72) (e := 5) hB hb2 (bs' := bs ++ cs.toList) (by simpa using hown') (by decide)
  · exact (hb1.grown hgrow (by have := hb1.size; omega) (fun k hk => (hown.lt k hk).1)).setCell (p := ⟨b, 1, none⟩) hB _
end Go.Proofs.YtegdbcnloodljaaDoor
