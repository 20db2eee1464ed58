/- Words between the reading of an argument and what the walks ask: a slice of integers, a slice of words, a bool in a struct. Conditions: none. -/
import Derived.Test.YtegdbcnloodljaaDoorBackward
import Derived.ProofKit
import Derived.OpenShut
import Derived.ChangeOld
import Derived.Lib.SmallJoins
namespace Go.Proofs.YtegdbcnloodljaaDoor
set_option linter.unusedVariables false
set_option linter.unusedSimpArgs false
open Go.ChangeShapes Go.WideShapes Go.ChangeAt Go.RowKit Go.Joins

theorem rdI_of_cells {w : World} {k : IntKind} {x : Addr} {zs : List Int} (hc : ∀ i, i < zs.length → w.cell? (x.add i) = some (.int k (zs.getD i 0))) (n : Nat) : RdI w k (some x) (zs.take n) := fun i hi => by
  have hi' : i < n ∧ i < zs.length := by simpa [List.length_take, Nat.lt_min] using hi
  have h0 := hc 0 (by omega)
  have hx : x = ⟨x.block, x.off, none⟩ := by
    obtain ⟨b, o, s⟩ := x
    cases s with
    | none => rfl
    | some s => simp [Addr.add, World.cell?] at h0; split at h0 <;> simp at h0
  refine ⟨x.block, x.off, zs[i], by rw [← hx], ?_, ?_⟩
  · rw [List.getElem?_take_of_lt hi'.1, List.getElem?_eq_getElem hi'.2]
  · have := hc i hi'.2
    rw [hx, Addr.add_lit] at this
    rw [this]
    simp [List.getElem?_eq_getElem hi'.2]

theorem words_of : ∀ (zs : List Int), (∀ z ∈ zs, (Lit.int .u32 z).wf = true) → ∃ us : List U32, vals us = zs
  | [], _ => ⟨[], rfl⟩
  | z :: zs, h => by
    obtain ⟨us, hus⟩ := words_of zs (fun y hy => h y (List.mem_cons_of_mem _ hy))
    have hz := h z (List.mem_cons_self ..)
    have hb : 0 ≤ z ∧ z ≤ 4294967295 := by simpa [Lit.wf, IntKind.min, IntKind.max, IntKind.signed, IntKind.bits] using hz
    exact ⟨⟨z, hb.1, hb.2⟩ :: us, by rw [vals, List.map_cons]; congr⟩

section
variable {H : Type} {enc : TypeId × Value → H} {P : Program} {w : World} {base : Nat} {spare : Nat → Bool} {held : Bool}
theorem trod_bool_form {t : TypeId} {n : Nat} {v : Value} {y : DataW H × List MemPlace} (ht : P.underlying t = some .bool) (h : DataW.trod enc P w base spare held n t [v] = some y) : ∃ b, v = .bool b := by
  obtain ⟨b, hb⟩ := DataW.trod_bool ht h
  simp at hb
  exact ⟨b, hb.1⟩

theorem trod_words {t e : TypeId} {n : Nat} {v : Value} {y : DataW H × List MemPlace} (ht : P.underlying t = some (.slice e)) (he : P.underlying e = some (.int .u32)) (hC : P.cellsOf e = 1)
    (h : DataW.trod enc P w base spare held n t [v] = some y) :
    ∃ A c, ∃ us : List U32, v = .slice A us.length c ∧ us.length ≤ c ∧ c ≤ maxLen ∧ RdI w .u32 A (vals us) := by
  rcases open_ints ht he hC h with ⟨hcs, _⟩ | ⟨x, l, c, zs, hcs, _, hl, hm, hz, _, hcell, hwz⟩
  · simp at hcs
    subst hcs
    exact ⟨none, 0, [], rfl, Nat.le_refl _, Nat.zero_le _, RdI.nil _ _ _⟩
  · simp at hcs
    subst hcs
    have hzl : l ≤ zs.length := by rw [hz]; split <;> omega
    obtain ⟨us, hus⟩ := words_of (zs.take l) (fun z h => hwz z (List.mem_of_mem_take h))
    have hul : us.length = l := by rw [← vals_length, hus, List.length_take]; omega
    exact ⟨some x, c, us, by rw [hul], by omega, hm, by rw [hus]; exact rdI_of_cells hcell l⟩
end
end Go.Proofs.YtegdbcnloodljaaDoor
