/- Bytes as a text. -/
import Derived.Test.YtgheejogpbhokaaDoorLx2
import Derived.Laws.BytesArg
namespace Go.Proofs.YtgheejogpbhokaaDoor
set_option linter.unusedVariables false
set_option linter.unusedSimpArgs false
open Go.RowKit
set_option maxRecDepth 1000000

/-- a slice that reads as the bytes of s. -/
def BsAt (w : World) (A : Option Addr) (s : ByteArray) : Prop := RdI w .u8 A (s.data.toList.map fun c => (c.toNat : Int))
theorem BsAt.later {w w' : World} {A : Option Addr} {s : ByteArray} (h : BsAt w A s) (hb : Below w.heap.size w w') : BsAt w' A s := RdI.later h hb
theorem conv_ok {w : World} {A : Option Addr} {s : ByteArray} (h : BsAt w A s) (c : Nat) : (convert 22 9 (.slice A s.size c)).run Tryd.prog w = .ok (.string s) w := by
  have hlen : (s.data.toList.map fun c => (c.toNat : Int)).length = s.size := by simp
  have hstr : strOfNums (s.data.toList.map fun c => (c.toNat : Int)) = s := by
    cases s with
    | mk d => simp [strOfNums, List.map_map, Function.comp_def]
  cases A with
  | none =>
    have h0 : s.size = 0 := by
      by_cases h0 : s.size = 0
      · exact h0
      · obtain ⟨b, off, z, hA, _⟩ := h 0 (by rw [hlen]; omega)
        cases hA
    have hs : s = ByteArray.empty := by
      cases s with
      | mk d => simp only [ByteArray.size] at h0; rw [Array.eq_empty_of_size_eq_zero h0]; rfl
    rw [hs]
    exact run_convert_bytes_nil (P := Tryd.prog) w _ _ Tryd.underlying22 Tryd.underlying5 _ c _ Tryd.underlying9
  | some ad =>
    by_cases h0 : s.size = 0
    · have hs : s = ByteArray.empty := by
        cases s with
        | mk d => simp only [ByteArray.size] at h0; rw [Array.eq_empty_of_size_eq_zero h0]; rfl
      subst hs
      rw [run_convert_bytes_string w _ _ _ _ _ c Tryd.underlying22 Tryd.underlying5 Tryd.underlying9]
      show (Conv.bytesToString (.slice (some ad) 0 c)).run Tryd.prog w = _
      simp [Conv.bytesToString, loadCells, loadCellsFrom]
    · obtain ⟨b, off, z, hA, _⟩ := h 0 (by rw [hlen]; omega)
      injection hA with hA
      subst hA
      have := run_convert_bytes_arg (P := Tryd.prog) w _ _ Tryd.underlying22 Tryd.underlying5 b off s.size c _ hlen (fun i hi => by
        obtain ⟨b2, o2, z2, hA2, hz2, hc2⟩ := h i (by rw [hlen]; exact hi)
        injection hA2 with hA2
        injection hA2 with e1 e2 _
        subst e1 e2
        rw [List.getD_eq_getElem?_getD, hz2]
        exact hc2) _ Tryd.underlying9
      rw [this, hstr]

/-- a part of the bytes. -/
theorem BsAt.sub {w : World} {b off : Nat} {s : ByteArray} (h : BsAt w (some ⟨b, off, none⟩) s) (a e : Nat) (he : e ≤ s.size) : BsAt w (some ⟨b, off + a, none⟩) (s.extract a e) := by
  intro i hi
  have hl := ext_list s a e
  rw [hl] at hi ⊢
  rw [List.length_map, List.length_take, List.length_drop] at hi
  have hsz : s.data.toList.length = s.size := by simp
  obtain ⟨b2, o2, z, hA, hz, hc⟩ := h (a + i) (by rw [List.length_map]; omega)
  injection hA with hA
  injection hA with e1 e2 _
  subst e1 e2
  refine ⟨b, off + a, z, rfl, ?_, ?_⟩
  · rw [List.getElem?_map, List.getElem?_take, List.getElem?_drop, if_pos (by omega), ← List.getElem?_map]; exact hz
  · rw [Nat.add_assoc]; exact hc
theorem conv_sub {w : World} {b off : Nat} {s : ByteArray} (h : BsAt w (some ⟨b, off, none⟩) s) (a e n c : Nat) (he : e ≤ s.size) (hn : n = e - a) : (convert 22 9 (.slice (some ⟨b, off + a, none⟩) n c)).run Tryd.prog w = .ok (.string (s.extract a e)) w := by
  have := conv_ok (h.sub a e he) c
  have hsz : (s.extract a e).size = n := by
    have hl := ext_list s a e
    have h2 : (s.extract a e).data.toList.length = (s.extract a e).size := Array.length_toList
    rw [← h2, hl, List.length_take, List.length_drop]
    have hsz : s.data.toList.length = s.size := by simp
    omega
  rw [hsz] at this
  exact this
end Go.Proofs.YtgheejogpbhokaaDoor
