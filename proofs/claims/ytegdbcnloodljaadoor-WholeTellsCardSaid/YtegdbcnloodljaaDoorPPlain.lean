/- Reading decimal digits: the plain law. No program in sight. -/
import Derived.Test.YtegdbcnloodljaaDoorWDec
namespace Go.Proofs.YtegdbcnloodljaaDoor
set_option linter.unusedVariables false
set_option linter.unusedSimpArgs false
open Go.RowKit
set_option maxRecDepth 1000000

/-- is it a digit's sign? -/
def isD (c : UInt8) : Bool := decide (48 ≤ c.toNat ∧ c.toNat ≤ 57)
/-- the number that digits write. -/
def decVal (d : List UInt8) : Nat := d.foldl (fun v c => 10 * v + (c.toNat - 48)) 0
theorem decVal_snoc (d : List UInt8) (c : UInt8) : decVal (d ++ [c]) = 10 * decVal d + (c.toNat - 48) := by simp [decVal]
theorem decVal_go : ∀ (d : List UInt8) (v : Nat), d.foldl (fun v c => 10 * v + (c.toNat - 48)) v = v * 10 ^ d.length + decVal d
  | [], v => by simp [decVal]
  | c :: d, v => by
    have h2 : decVal (c :: d) = d.foldl (fun v c => 10 * v + (c.toNat - 48)) (10 * 0 + (c.toNat - 48)) := rfl
    rw [h2, List.foldl_cons, decVal_go d (10 * v + (c.toNat - 48)), decVal_go d (10 * 0 + (c.toNat - 48)), List.length_cons, Nat.pow_succ]
    simp only [Nat.mul_zero, Nat.zero_add]
    generalize 10 ^ d.length = P
    generalize c.toNat - 48 = x
    generalize decVal d = y
    grind
theorem decVal_cons (c : UInt8) (d : List UInt8) : decVal (c :: d) = (c.toNat - 48) * 10 ^ d.length + decVal d := by
  rw [decVal, List.foldl_cons, decVal_go]; simp
theorem decVal_lt : ∀ (d : List UInt8), (∀ c ∈ d, isD c = true) → decVal d < 10 ^ d.length
  | [], _ => by simp [decVal]
  | c :: d, h => by
    have h1 := h c (List.mem_cons_self ..)
    simp only [isD, decide_eq_true_eq] at h1
    have h2 := decVal_lt d (fun x hx => h x (List.mem_cons_of_mem _ hx))
    rw [decVal_cons, List.length_cons, Nat.pow_succ]
    have : (c.toNat - 48) * 10 ^ d.length ≤ 9 * 10 ^ d.length := Nat.mul_le_mul_right _ (by omega)
    omega
theorem dchr_of (c : UInt8) (h : isD c = true) : dchr (c.toNat - 48) = c := by
  simp only [isD, decide_eq_true_eq] at h
  apply UInt8.toNat_inj.1
  rw [dchr_toNat _ (by omega)]
  omega
theorem isD_dchr (d : Nat) (h : d < 10) : isD (dchr d) = true := by
  simp only [isD, decide_eq_true_eq]
  rw [dchr_toNat d h]; omega
/-- the digits of what digits write are these. -/
theorem digs_decVal : ∀ (d : List UInt8), (∀ c ∈ d, isD c = true) → (digs (decVal d) d.length).map dchr = d
  | [], _ => rfl
  | c :: d, h => by
    have h1 := h c (List.mem_cons_self ..)
    have h2 := decVal_lt d (fun x hx => h x (List.mem_cons_of_mem _ hx))
    have h3 := digs_decVal d (fun x hx => h x (List.mem_cons_of_mem _ hx))
    have hc : c.toNat - 48 < 10 := by
      simp only [isD, decide_eq_true_eq] at h1; omega
    rw [List.length_cons, digs, decVal_cons, List.map_cons]
    have e1 : ((c.toNat - 48) * 10 ^ d.length + decVal d) / 10 ^ d.length % 10 = c.toNat - 48 := by
      rw [Nat.add_comm, Nat.add_mul_div_right _ _ (Nat.pow_pos (by decide)), Nat.div_eq_of_lt h2, Nat.zero_add, Nat.mod_eq_of_lt hc]
    have e2 : digs ((c.toNat - 48) * 10 ^ d.length + decVal d) d.length = digs (decVal d) d.length := by
      rw [Nat.add_comm, Nat.mul_comm]; exact digs_low (decVal d) (c.toNat - 48) d.length d.length (Nat.le_refl _)
    rw [e1, e2, h3, dchr_of c h1]
theorem decB_decVal (c : UInt8) (d : List UInt8) (h : ∀ x ∈ c :: d, isD x = true) (h0 : c ≠ 48) : decB (decVal (c :: d)) = c :: d := by
  have h1 := digs_decVal (c :: d) h
  rw [decB_any _ _ (decVal_lt (c :: d) h), decD]
  rw [List.length_cons, digs, List.map_cons] at h1
  have e1 : dchr (decVal (c :: d) / 10 ^ d.length % 10) = c := by injection h1
  have hne : decVal (c :: d) / 10 ^ d.length % 10 ≠ 0 := fun e => by
    rw [e] at e1
    exact h0 (by rw [← e1]; rfl)
  rw [List.length_cons, digs, List.dropWhile_cons_of_neg (by simpa using hne), List.map_cons]
  exact h1
/-- what is written is read back. -/
theorem decVal_digs (n : Nat) : ∀ K, decVal ((digs n K).map dchr) = n % 10 ^ K
  | 0 => by simp [digs, decVal, Nat.mod_one]
  | K + 1 => by
    rw [digs, List.map_cons, decVal_cons, List.length_map, digs_length, decVal_digs n K, dchr_toNat _ (Nat.mod_lt _ (by decide))]
    have h := Nat.mod_mul (x := n) (a := 10 ^ K) (b := 10)
    rw [Nat.pow_succ, h]
    have : 48 + n / 10 ^ K % 10 - 48 = n / 10 ^ K % 10 := by omega
    rw [this, Nat.mul_comm, Nat.add_comm]
theorem decVal_zeros : ∀ (d : List Nat), decVal ((d.dropWhile (· == 0)).map dchr) = decVal (d.map dchr)
  | [] => rfl
  | x :: d => by
    by_cases h : x = 0
    · subst h
      rw [List.dropWhile_cons_of_pos (by rfl), decVal_zeros d, List.map_cons, decVal_cons]
      have : (dchr 0).toNat - 48 = 0 := by rw [dchr_toNat 0 (by decide)]
      rw [this, Nat.zero_mul, Nat.zero_add]
    · rw [List.dropWhile_cons_of_neg (by simpa using h)]
theorem decVal_decB (n : Nat) : decVal (decB n) = n := by
  rw [decB, decD, decVal_zeros, decVal_digs]
  exact Nat.mod_eq_of_lt (Nat.lt_pow_self (by decide))
theorem decB_digits (n : Nat) : ∀ c ∈ decB n, isD c = true := by
  intro c hc
  rw [decB] at hc
  obtain ⟨d, hd, rfl⟩ := List.mem_map.1 hc
  exact isD_dchr d (digs_lt n n d ((List.dropWhile_sublist _).mem hd))
theorem decB_head (n : Nat) (h : n ≠ 0) : ∃ c d, decB n = c :: d ∧ c ≠ 48 := by
  have hv := decVal_decB n
  cases hd : decB n with
  | nil => rw [hd] at hv; simp [decVal] at hv; omega
  | cons c d =>
    refine ⟨c, d, rfl, fun e => ?_⟩
    rw [decB, decD] at hd
    cases hw : (digs n n).dropWhile (· == 0) with
    | nil => rw [hw] at hd; simp at hd
    | cons x l =>
      rw [hw, List.map_cons] at hd
      injection hd with hx _
      have hmem : x ∈ digs n n := (List.dropWhile_sublist _).mem (by rw [hw]; exact List.mem_cons_self ..)
      have hx0 := (dchr_zero x (digs_lt n n x hmem)).1 (hx.trans e)
      have := List.head?_dropWhile_not (p := (· == 0)) (l := digs n n)
      rw [hw] at this
      simp [hx0] at this
end Go.Proofs.YtegdbcnloodljaaDoor
