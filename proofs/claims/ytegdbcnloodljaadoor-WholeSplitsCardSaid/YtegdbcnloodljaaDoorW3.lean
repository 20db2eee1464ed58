/- Ints in memory: what form hands back. -/
import Derived.Test.YtegdbcnloodljaaDoorW1
namespace Go.Proofs.YtegdbcnloodljaaDoor
set_option linter.unusedVariables false
set_option linter.unusedSimpArgs false
open Go.RowKit
set_option maxRecDepth 1000000

/-- an Int of words in memory from a block on. -/
def IntAt (w : World) (base : Nat) (X : Int) (v : Value) : Prop :=
  ∃ b A c zs, v = .agg #[.bool b, .slice A zs.length c] ∧ zs.length ≤ c ∧ c ≤ 9223372036854775807 ∧ FrI w base .u32 A zs ∧ W32 zs ∧ NT zs ∧ valI b zs = X ∧ (b = true → zs ≠ [])
theorem IntAt.later {w w' : World} {base : Nat} {X : Int} {v : Value} (h : IntAt w base X v) (hb : Below w.heap.size w w') : IntAt w' base X v := by
  obtain ⟨b, A, c, zs, h1, h2, h3, h4, h5⟩ := h
  exact ⟨b, A, c, zs, h1, h2, h3, h4.later hb, h5⟩
theorem IntAt.mono {w : World} {base base' : Nat} {X : Int} {v : Value} (h : IntAt w base X v) (hb : base' ≤ base) : IntAt w base' X v := by
  obtain ⟨b, A, c, zs, h1, h2, h3, h4, h5⟩ := h
  exact ⟨b, A, c, zs, h1, h2, h3, h4.mono hb, h5⟩
/-- what form hands back is the Int. -/
theorem intV_at {w : World} {base : Nat} {neg : Bool} {A : Option Addr} {c : Nat} {zs : List Int} (hW : W32 zs) (hl : zs.length ≤ c) (hc : c ≤ 9223372036854775807) (hf : FrI w base .u32 A zs) : IntAt w base (valI neg zs) (intV neg A c (trimN zs)) := by
  unfold intV
  have h0 := nt_zero (trimN_w32 hW) (trimN_nt zs)
  rw [val_trimN] at h0
  by_cases h : trimN zs = []
  · rw [if_pos h]
    refine ⟨false, none, 0, [], rfl, Nat.le_refl _, by omega, ?_, W32.nil, trivial, ?_, by simp⟩
    · intro i hi; simp at hi
    · rw [valI, valI, h0.2 h]; cases neg <;> simp [val]
  · rw [if_neg h]
    refine ⟨neg, A, c, trimN zs, rfl, Nat.le_trans (trimN_le zs) hl, hc, ?_, trimN_w32 hW, trimN_nt zs, by rw [valI, valI, val_trimN], fun _ => h⟩
    intro i hi
    have hi2 : i < zs.length := Nat.lt_of_lt_of_le hi (trimN_le zs)
    obtain ⟨b, off, z, hA, hB, hz, hc, hf⟩ := hf i hi2
    refine ⟨b, off, z, hA, hB, ?_, hc, hf⟩
    rw [trimN, List.getElem?_take_of_lt (by rw [← trimN_length]; exact hi)]
    exact hz
/-- a cell keeps what it held when another block is written. -/
theorem cell_off {W : World} {p a : Addr} {v u : Value} (h : W.cell? p = some v) (hne : a.block ≠ p.block) : (W.setCell a u).cell? p = some v := by
  rw [World.cell?_setCell_other _ _ _ _ (fun e => hne (by rw [e]))]; exact h
/-- two Ints of one number are alike. -/
theorem IntAt.same {w w' : World} {base base' : Nat} {X : Int} {v v' : Value} (h : IntAt w base X v) (h' : IntAt w' base' X v') : ∃ b A A' c c' zs, v = .agg #[.bool b, .slice A zs.length c] ∧ v' = .agg #[.bool b, .slice A' zs.length c'] ∧ FrI w base .u32 A zs ∧ FrI w' base' .u32 A' zs ∧ W32 zs ∧ NT zs ∧ zs.length ≤ c ∧ zs.length ≤ c' ∧ c ≤ 9223372036854775807 ∧ c' ≤ 9223372036854775807 := by
  obtain ⟨b, A, c, zs, h1, h2, h3, h4, h5, h6, h7, h8⟩ := h
  obtain ⟨b', A', c', zs', h1', h2', h3', h4', h5', h6', h7', h8'⟩ := h'
  have hz : val zs = val zs' := by
    have e1 := valI_abs (b := b) h5
    have e2 := valI_abs (b := b') h5'
    rw [h7] at e1
    rw [h7'] at e2
    omega
  have hzz := canon h5 h5' h6 h6' hz
  subst hzz
  have hbb : b = b' := by
    have hp := val_nn h5
    have h0 := nt_zero h5 h6
    cases b <;> cases b'
    · rfl
    · exfalso
      have hne := h8' rfl
      have : val zs ≠ 0 := fun e => hne (h0.1 e)
      simp only [valI, Bool.false_eq_true, if_false, if_true] at h7 h7'
      omega
    · exfalso
      have hne := h8 rfl
      have : val zs ≠ 0 := fun e => hne (h0.1 e)
      simp only [valI, Bool.false_eq_true, if_false, if_true] at h7 h7'
      omega
    · rfl
  subst hbb
  exact ⟨b, A, A', c, c', zs, h1, h1', h4, h4', h5, h6, h2, h2', h3, h3'⟩
end Go.Proofs.YtegdbcnloodljaaDoor
