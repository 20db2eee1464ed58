/- Whole numbers as rows of words, the lowest first: the plain law. No program in sight. -/
import Derived.Test.YtegdbcnloodljaaDoorTrim
namespace Go.Proofs.YtegdbcnloodljaaDoor
set_option linter.unusedVariables false
set_option linter.unusedSimpArgs false
open Go.RowKit
set_option maxRecDepth 1000000

/-- each is a word of 32 bits. -/
def W32 (zs : List Int) : Prop := ∀ z ∈ zs, 0 ≤ z ∧ z ≤ 4294967295
/-- the highest word is not 0. -/
def NT : List Int → Prop
  | [] => True
  | [z] => z ≠ 0
  | _ :: z :: zs => NT (z :: zs)
theorem W32.tail {z : Int} {zs : List Int} (h : W32 (z :: zs)) : W32 zs := fun x hx => h x (List.mem_cons_of_mem _ hx)
theorem W32.head {z : Int} {zs : List Int} (h : W32 (z :: zs)) : 0 ≤ z ∧ z ≤ 4294967295 := h z (List.mem_cons_self ..)
theorem W32.nil : W32 [] := by simp [W32]
theorem W32.cons {z : Int} {zs : List Int} (h0 : 0 ≤ z) (h1 : z ≤ 4294967295) (h : W32 zs) : W32 (z :: zs) := by
  intro x hx
  rcases List.mem_cons.1 hx with rfl | hx
  · exact ⟨h0, h1⟩
  · exact h x hx
theorem W32.append {a b : List Int} (ha : W32 a) (hb : W32 b) : W32 (a ++ b) := by
  intro x hx
  rcases List.mem_append.1 hx with h | h
  · exact ha x h
  · exact hb x h
theorem W32.take {a : List Int} (h : W32 a) (n : Nat) : W32 (a.take n) := fun x hx => h x (List.mem_of_mem_take hx)
theorem W32.get {a : List Int} (h : W32 a) (i : Nat) (hi : i < a.length) : 0 ≤ a[i] ∧ a[i] ≤ 4294967295 := h _ (List.getElem_mem hi)

theorem pow_pos (n : Nat) : (0 : Int) < 4294967296 ^ n := Int.pow_pos (by decide)
theorem val_nn : ∀ {zs : List Int}, W32 zs → 0 ≤ val zs
  | [], _ => Int.le_refl _
  | z :: zs, h => by
    have h1 := val_nn h.tail
    have h2 := h.head
    rw [val]; omega
theorem val_bound : ∀ {zs : List Int}, W32 zs → val zs < 4294967296 ^ zs.length
  | [], _ => by simp [val]
  | z :: zs, h => by
    have h1 := val_bound h.tail
    have h2 := h.head
    rw [val, List.length_cons, Int.pow_succ]; omega
theorem val_snoc (zs : List Int) (z : Int) : val (zs ++ [z]) = val zs + 4294967296 ^ zs.length * z := by
  rw [val_append]; simp [val]
theorem val_zeros (n : Nat) : val (List.replicate n 0) = 0 := by
  induction n with
  | zero => rfl
  | succ n ih => rw [List.replicate_succ, val, ih]; rfl
theorem val_take_succ (zs : List Int) (i : Nat) (h : i < zs.length) : val (zs.take (i + 1)) = val (zs.take i) + 4294967296 ^ i * zs[i] := by
  rw [List.take_succ_eq_append_getElem h, val_snoc, List.length_take, Nat.min_eq_left (by omega)]

/-- the number's size says how many words. -/
theorem nt_low : ∀ {zs : List Int}, W32 zs → NT zs → zs ≠ [] → 4294967296 ^ (zs.length - 1) ≤ val zs
  | [], _, _, h => absurd rfl h
  | [z], h, hn, _ => by
    have := h.head
    simp only [NT] at hn
    simp [val]; omega
  | x :: z :: zs, h, hn, _ => by
    have ih := nt_low h.tail hn (by simp)
    have h2 := h.head
    rw [val]
    simp only [List.length_cons, Nat.add_sub_cancel] at ih ⊢
    rw [Int.pow_succ]
    omega
theorem nt_pos {zs : List Int} (h : W32 zs) (hn : NT zs) (he : zs ≠ []) : 0 < val zs := Int.lt_of_lt_of_le (pow_pos _) (nt_low h hn he)
theorem nt_zero {zs : List Int} (h : W32 zs) (hn : NT zs) : val zs = 0 ↔ zs = [] := by
  constructor
  · intro h0
    by_cases he : zs = []
    · exact he
    · have := nt_pos h hn he; omega
  · rintro rfl; rfl
theorem nt_tail {z : Int} {zs : List Int} (h : NT (z :: zs)) : NT zs := by
  cases zs with
  | nil => trivial
  | cons y zs => exact h
/-- a number has one row. -/
theorem canon : ∀ {a b : List Int}, W32 a → W32 b → NT a → NT b → val a = val b → a = b
  | [], b, _, hb, _, nb, h => ((nt_zero hb nb).1 h.symm).symm
  | x :: a, [], ha, _, na, _, h => (nt_zero ha na).1 h
  | x :: a, y :: b, ha, hb, na, nb, h => by
    have h1 := ha.head
    have h2 := hb.head
    rw [val, val] at h
    have hxy : x = y := by omega
    have ht : val a = val b := by omega
    rw [hxy, canon ha.tail hb.tail (nt_tail na) (nt_tail nb) ht]
theorem pow_mono {a b : Nat} (h : a ≤ b) : (4294967296 : Int) ^ a ≤ 4294967296 ^ b := by
  obtain ⟨d, rfl⟩ := Nat.exists_eq_add_of_le h
  rw [Int.pow_add]
  have h1 := pow_pos a
  have h2 := pow_pos d
  have h3 := Int.mul_le_mul_of_nonneg_left (show (1 : Int) ≤ 4294967296 ^ d by omega) (Int.le_of_lt h1)
  rwa [Int.mul_one] at h3
theorem nt_len {zs : List Int} (h : W32 zs) (hn : NT zs) (k : Nat) : k < zs.length ↔ 4294967296 ^ k ≤ val zs := by
  constructor
  · intro hk
    have he : zs ≠ [] := by intro e; rw [e] at hk; simp at hk
    exact Int.le_trans (pow_mono (by omega)) (nt_low h hn he)
  · intro hv
    rcases Nat.lt_or_ge k zs.length with h1 | h1
    · exact h1
    · have := val_bound h
      have := pow_mono h1
      omega

theorem nt_snoc (zs : List Int) (z : Int) (hz : z ≠ 0) : NT (zs ++ [z]) := by
  induction zs with
  | nil => exact hz
  | cons x zs ih =>
    cases zs with
    | nil => exact hz
    | cons y zs => exact ih
theorem trimLen_nt (zs : List Int) : ∀ k, k ≤ zs.length → NT (zs.take (trimLen zs k))
  | 0, _ => by simp [trimLen, NT]
  | k + 1, h => by
    rw [trimLen]
    split
    · exact trimLen_nt zs k (by omega)
    · rename_i h0
      rw [List.take_succ_eq_append_getElem (by omega)]
      apply nt_snoc
      rw [List.getElem?_eq_getElem (by omega)] at h0
      simpa using h0
theorem trimN_nt (zs : List Int) : NT (trimN zs) := trimLen_nt zs _ (Nat.le_refl _)
theorem trimN_w32 {zs : List Int} (h : W32 zs) : W32 (trimN zs) := h.take _
theorem trimN_of_nt {zs : List Int} (h : W32 zs) (hn : NT zs) : trimN zs = zs := canon (trimN_w32 h) h (trimN_nt zs) hn (val_trimN zs)

/-- an Int's number. -/
def valI (b : Bool) (zs : List Int) : Int := if b then -(val zs) else val zs
/-- more than 256 words. -/
def BIG : Int := 4294967296 ^ 256
theorem long_iff {zs : List Int} (h : W32 zs) : 256 < (trimN zs).length ↔ BIG ≤ val zs := by
  rw [nt_len (trimN_w32 h) (trimN_nt zs), val_trimN]; rfl
theorem valI_abs {b : Bool} {zs : List Int} (h : W32 zs) : (valI b zs).natAbs = val zs := by
  have := val_nn h
  unfold valI
  split <;> omega
end Go.Proofs.YtegdbcnloodljaaDoor
