/- Words between the reading of an argument and what the walks ask: a slice of bytes, a slice of ints. Conditions: none. -/
import Derived.Test.YtgheejogpbhokaaDoorBs
import Derived.ProofKit
import Derived.OpenShut
import Derived.ChangeOld
import Derived.Lib.SmallJoins
namespace Go.Proofs.YtgheejogpbhokaaDoor
set_option linter.unusedVariables false
set_option linter.unusedSimpArgs false
open Go.ChangeShapes Go.WideShapes Go.ChangeAt Go.RowKit Go.Joins

theorem rdI_cells {w : World} {k : IntKind} {x : Addr} {zs : List Int} (hc : ∀ i, i < zs.length → w.cell? (x.add i) = some (.int k (zs.getD i 0))) (n : Nat) : RdI w k (some x) (zs.take n) := fun i hi => by
  have hi' : i < n ∧ i < zs.length := by simpa [List.length_take, Nat.lt_min] using hi
  have h0 := hc 0 (by omega)
  have hx : x = ⟨x.block, x.off, none⟩ := by
    obtain ⟨b, o, s⟩ := x
    cases s with
    | none => rfl
    | some s => simp [Addr.add, World.cell?] at h0; split at h0 <;> simp at h0
  refine ⟨x.block, x.off, zs[i], by rw [← hx], ?_, ?_⟩
  · rw [List.getElem?_take_of_lt hi'.1, List.getElem?_eq_getElem hi'.2]
  · have := hc i hi'.2
    rw [hx, Addr.add_lit] at this
    rw [this]
    simp [List.getElem?_eq_getElem hi'.2]

theorem bytes_of : ∀ (zs : List Int), (∀ z ∈ zs, (Lit.int .u8 z).wf = true) → ∃ us : List UInt8, us.map (fun c => (c.toNat : Int)) = zs
  | [], _ => ⟨[], rfl⟩
  | z :: zs, h => by
    obtain ⟨us, hus⟩ := bytes_of zs (fun y hy => h y (List.mem_cons_of_mem _ hy))
    have hz := h z (List.mem_cons_self ..)
    have hb : 0 ≤ z ∧ z ≤ 255 := by simpa [Lit.wf, IntKind.min, IntKind.max, IntKind.signed, IntKind.bits] using hz
    refine ⟨z.toNat.toUInt8 :: us, ?_⟩
    rw [List.map_cons, hus]
    congr 1
    simp
    omega

section
variable {H : Type} {enc : TypeId × Value → H} {P : Program} {w : World} {base : Nat} {spare : Nat → Bool} {held : Bool}
theorem trod_bytes {t e : TypeId} {n : Nat} {v : Value} {y : DataW H × List MemPlace} (ht : P.underlying t = some (.slice e)) (he : P.underlying e = some (.int .u8)) (hC : P.cellsOf e = 1)
    (h : DataW.trod enc P w base spare held n t [v] = some y) :
    ∃ A c, ∃ s : ByteArray, v = .slice A s.size c ∧ s.size ≤ c ∧ c ≤ maxLen ∧ BsAt w A s := by
  rcases open_ints ht he hC h with ⟨hcs, _⟩ | ⟨x, l, c, zs, hcs, _, hl, hm, hz, _, hcell, hwz⟩
  · simp at hcs
    subst hcs
    exact ⟨none, 0, ⟨#[]⟩, rfl, Nat.le_refl _, Nat.zero_le _, RdI.nil _ _ _⟩
  · simp at hcs
    subst hcs
    have hzl : l ≤ zs.length := by rw [hz]; split <;> omega
    obtain ⟨us, hus⟩ := bytes_of (zs.take l) (fun z h => hwz z (List.mem_of_mem_take h))
    have hul : us.length = l := by
      have := congrArg List.length hus
      rw [List.length_map, List.length_take] at this
      omega
    refine ⟨some x, c, ⟨us.toArray⟩, by show _ = Value.slice _ us.toArray.size _; rw [List.size_toArray, hul], by show us.toArray.size ≤ c; rw [List.size_toArray]; omega, hm, ?_⟩
    unfold BsAt
    rw [show (⟨us.toArray⟩ : ByteArray).data.toList = us from rfl, hus]
    exact rdI_cells hcell l
theorem trod_ints {t e : TypeId} {n : Nat} {v : Value} {y : DataW H × List MemPlace} (ht : P.underlying t = some (.slice e)) (he : P.underlying e = some (.int .i64)) (hC : P.cellsOf e = 1)
    (h : DataW.trod enc P w base spare held n t [v] = some y) :
    ∃ A c, ∃ zs : List Int, v = .slice A zs.length c ∧ zs.length ≤ c ∧ c ≤ maxLen ∧ RdI w .i64 A zs ∧ ∀ z ∈ zs, -9223372036854775808 ≤ z ∧ z ≤ 9223372036854775807 := by
  rcases open_ints ht he hC h with ⟨hcs, _⟩ | ⟨x, l, c, zs, hcs, _, hl, hm, hz, _, hcell, hwz⟩
  · simp at hcs
    subst hcs
    exact ⟨none, 0, [], rfl, Nat.le_refl _, Nat.zero_le _, RdI.nil _ _ _, fun z h => by cases h⟩
  · simp at hcs
    subst hcs
    have hzl : l ≤ zs.length := by rw [hz]; split <;> omega
    have hul : (zs.take l).length = l := by rw [List.length_take]; omega
    refine ⟨some x, c, zs.take l, by rw [hul], by omega, hm, rdI_cells hcell l, fun z h => ?_⟩
    have := hwz z (List.mem_of_mem_take h)
    simpa [Lit.wf, IntKind.min, IntKind.max, IntKind.signed, IntKind.bits] using this
end
end Go.Proofs.YtgheejogpbhokaaDoor
