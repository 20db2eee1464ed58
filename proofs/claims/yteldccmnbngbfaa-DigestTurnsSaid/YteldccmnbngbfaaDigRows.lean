/- The walk of the law DigestRows. Conditions: none but how the argument reads. -/
import Derived.Test.YteldccmnbngbfaaDigAwake
namespace Go.Proofs.Yteldccmnbngbfaa
open Go.RowKit

theorem int_info : (Try.prog.info? 3).map (fun i => (i.zero, i.size, i.bytes)) = some (some (.int .i64 0), 1, 8) := by kernel_rfl
theorem tupleV_ne (zs : List Int) : tupleV zs ≠ -1 := insteadV_ne _ _ (by decide)
theorem frozenV_ne (zs : List Int) : frozenV zs ≠ -1 := insteadV_ne _ _ (by decide)

/-- What the two appends have made. -/
theorem rows_made {w w1 w2 : World} {A1 : Option Addr} {c1 n : Nat} {X : Obj} {v2 : Value} {zs : List Int} {e : TypeId} {k : IntKind} {x : Int} (hB1 : Below w.heap.size w w1) (hown1 : w1.ownsRow w.heap.size e 1 (.slice A1 n c1) n (zs.map (Value.int k)))
    (hown2 : w2.ownsRow w.heap.size e 1 v2 (n + 1) ((zs ++ [x]).map (Value.int k))) (hg2 : (w1.alloc X).grownBy w2 (Value.slice A1 n c1).ownBlock) :
    Below w.heap.size w w2 ∧ ∃ g c2, v2 = .slice (some ⟨g, 0, none⟩) (n + 1) c2 ∧ n + 1 ≤ c2 ∧ c2 ≤ 9223372036854775807 ∧ g < w2.heap.size ∧ RdI w2 k (some ⟨g, 0, none⟩) zs ∧ w2.cell? ⟨g, n, none⟩ = some (.int k x) := by
  have hn : n = zs.length := by have := hown1.1; simp at this; omega
  refine ⟨(hB1.alloc hB1.size _).grown hg2 (by have := hB1.size; simp; omega) (fun j hj => (hown1.lt j hj).1), ?_⟩
  obtain ⟨g, c2, rfl, hgb, hgl⟩ := hown2.form (by omega)
  obtain ⟨A', c', hv, l2, m2, _⟩ := own_form hown2
  injection hv with e1 e2 e3
  subst e1; subst e3
  have fr := FrI.of_own hown2
  refine ⟨g, c2, rfl, l2, m2, hgl, ?_, ?_⟩
  · have := fr.rd.take n
    rw [hn, List.take_left] at this
    exact this
  · obtain ⟨b, off, z, hA, _, hz, hc, _⟩ := fr n (by simp [hn])
    injection hA with hA
    injection hA with e4 e5 _
    subst e4; subst e5
    rw [hn, List.getElem?_append_right (Nat.le_refl _)] at hz
    simp at hz
    subst hz
    simpa using hc

set_option maxHeartbeats 1000000 in
set_option maxRecDepth 100000 in
theorem lawRows_any (A : Option Addr) (c : Nat) (zs : List Int) (w : World) (hr : RdI w .i64 A zs) (hl : zs.length ≤ c) (hm : c ≤ maxLen) (hw : ∀ z ∈ zs, (Lit.int .i64 z).wf = true) :
    Calls Try.prog 7 #[.slice A zs.length c] w fun e w' => e = .returned (.bool true) ∧ Below w.heap.size w w' := by
  unfold maxLen at hm
  by_cases h : zs.length ≤ 3000
  · obtain ⟨i0, hi0, hz0, hz1, hz2⟩ := info_parts int_info
    have t1 : ((tupleV zs) == (tupleV zs)) = true := by simp
    have t2 : ((tupleV zs) != -1) = true := by simpa using tupleV_ne zs
    have t3 : ((frozenV zs) == (frozenV zs)) = true := by simp
    have t4 : ((frozenV zs) != -1) = true := by simpa using frozenV_ne zs
    have hB : Below w.heap.size w w := Below.refl _ _
    clear hw
    go_enter Try.func7, Try.ntmps7
    go_wp2_with (first
      | (at_builtin; refine wpList_append_ints _ rfl (.tmp 10) (.tmp 11) _ rfl w.heap.size 3 i0 _ 8 .i64 Try.underlying35 hi0 hz0 hz1 hz2 rfl (.slice none 0 0) 0 [] rfl (World.ownsRow_nil _ _ _ _) _ _ _ zs rfl rfl hr (by unfold maxLen; omega) (by omega) (Nat.le_refl _) ?_; intro v1 w1 hown1 hg1 hat1; have hB1 := hB.grown hg1 (Nat.le_refl _) (by simp [Value.ownBlock]); simp only [Nat.zero_add, List.nil_append] at hown1; obtain ⟨A1, c1, rfl, l1, m1, _⟩ := own_form hown1)
      | (at_builtin; refine wpList_append_ints _ rfl (.tmp 13) (.tmp 14) _ rfl w.heap.size 3 i0 _ 8 .i64 Try.underlying35 hi0 hz0 hz1 hz2 rfl _ zs.length zs rfl (hown1.alloc _) _ _ _ [77] rfl rfl (rdI_one _ _ _ _) (by unfold maxLen; omega) (by omega) (by have := hB1.size; simp; omega) ?_; intro v2 w2 hown2 hg2 hat2; obtain ⟨hB2, g, c2, rfl, l2, m2, hgl, hrd, h77⟩ := rows_made hB1 hown1 hown2 hg2; have hC : Below w2.heap.size w2 w2 := Below.refl _ _)
      | (go_at_call 19; refine (tuple_any _ _ zs _ (hrd.later hC) h).mono ?_; rintro e w3 ⟨rfl, hb3⟩; have hC := hC.trans (hb3.mono hC.size))
      | (go_at_call 18; refine (frozen_any _ _ zs _ (hrd.later hC) h).mono ?_; rintro e w3 ⟨rfl, hb3⟩; have hC := hC.trans (hb3.mono hC.size))
      | (go_at_call 20; refine (refTuple_any _ _ zs _ (hr.later (hB2.trans (hC.mono hB2.size))) h).mono ?_; rintro e w3 ⟨rfl, rfl⟩)
      | (go_at_call 21; refine (refFrozen_any _ _ zs _ (hr.later (hB2.trans (hC.mono hB2.size))) h).mono ?_; rintro e w3 ⟨rfl, rfl⟩)
      | (go_at_call 22; refine (same_any _ _ _ _ zs zs _ (hrd.later hC) (hr.later (hB2.trans (hC.mono hB2.size))) h h).mono ?_; rintro e w3 ⟨rfl, n3, rfl⟩; have hC := below_drewN hC n3; have h77 := cell_later hC h77; simp only [decide_true])
      | (go_at_call 8; refine (awake_any _).mono ?_; rintro e w3 ⟨rfl, hb3⟩; have hC := hC.trans (hb3.mono hC.size)))
    go_ret
    exact ⟨rfl, hB2.trans (hC.mono hB2.size)⟩
  · go_enter Try.func7, Try.ntmps7
    go_wp2_with (go_at_call 8; refine (awake_any _).mono ?_; rintro e w1 ⟨rfl, hb1⟩)
    go_ret
    exact ⟨rfl, hb1⟩
end Go.Proofs.Yteldccmnbngbfaa
