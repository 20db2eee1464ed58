/- A number's decimal digits: the plain law. No program in sight. -/
import Derived.Test.YtegdbcnloodljaaDoorWPlain
namespace Go.Proofs.YtegdbcnloodljaaDoor
set_option linter.unusedVariables false
set_option linter.unusedSimpArgs false
open Go.RowKit
set_option maxRecDepth 1000000

/-- so many digits, the highest first. -/
def digs (n : Nat) : Nat → List Nat
  | 0 => []
  | K + 1 => (n / 10 ^ K % 10) :: digs n K
theorem digs_length (n K : Nat) : (digs n K).length = K := by
  induction K with
  | zero => rfl
  | succ K ih => simp [digs, ih]
theorem digs_lt (n K : Nat) : ∀ d ∈ digs n K, d < 10 := by
  induction K with
  | zero => simp [digs]
  | succ K ih =>
    intro d hd
    rw [digs] at hd
    rcases List.mem_cons.1 hd with rfl | hd
    · exact Nat.mod_lt _ (by decide)
    · exact ih d hd
theorem digs_app (n K L : Nat) : digs n (K + L) = digs (n / 10 ^ L) K ++ digs n L := by
  induction K with
  | zero => simp [digs]
  | succ K ih =>
    rw [show K + 1 + L = (K + L) + 1 by omega, digs, ih, digs, List.cons_append, Nat.div_div_eq_div_mul, ← Nat.pow_add, Nat.add_comm L K]
theorem digs_low (p q L : Nat) : ∀ K, K ≤ L → digs (p + 10 ^ L * q) K = digs p K
  | 0, _ => rfl
  | K + 1, h => by
    rw [digs, digs, digs_low p q L K (by omega)]
    congr 1
    have e : 10 ^ L = 10 ^ K * (10 * 10 ^ (L - K - 1)) := by
      rw [← Nat.mul_assoc, ← Nat.pow_succ, ← Nat.pow_add]; congr 1; omega
    rw [e, Nat.mul_assoc, Nat.add_mul_div_left _ _ (Nat.pow_pos (by decide)), Nat.mul_assoc, Nat.add_mul_mod_self_left]
theorem digs_zero (n : Nat) : ∀ K L, n < 10 ^ L → digs n (K + L) = List.replicate K 0 ++ digs n L
  | 0, L, _ => by simp
  | K + 1, L, h => by
    rw [show K + 1 + L = (K + L) + 1 by omega, digs, digs_zero n K L h, List.replicate_succ, List.cons_append]
    have : n / 10 ^ (K + L) = 0 := Nat.div_eq_of_lt (Nat.lt_of_lt_of_le h (Nat.pow_le_pow_right (by decide) (by omega)))
    rw [this]

/-- pieces of nine digits, the lowest first. -/
def pval : List Nat → Nat
  | [] => 0
  | p :: ps => p + 1000000000 * pval ps
theorem pval_snoc (ps : List Nat) (r : Nat) : pval (ps ++ [r]) = pval ps + 10 ^ (9 * ps.length) * r := by
  induction ps with
  | nil => simp [pval]
  | cons p ps ih =>
    rw [List.cons_append, pval, ih, pval, List.length_cons, show 9 * (ps.length + 1) = 9 + 9 * ps.length by omega, Nat.pow_add]
    have : (10 : Nat) ^ 9 = 1000000000 := by decide
    rw [this]
    generalize 10 ^ (9 * ps.length) = P
    grind
theorem digs_pval : ∀ (ps : List Nat), (∀ p ∈ ps, p < 1000000000) → digs (pval ps) (9 * ps.length) = ps.reverse.flatMap (fun p => digs p 9)
  | [], _ => rfl
  | p :: ps, h => by
    have h1 := h p (List.mem_cons_self ..)
    rw [List.length_cons, show 9 * (ps.length + 1) = 9 * ps.length + 9 by omega, digs_app, pval, List.reverse_cons, List.flatMap_append, ← digs_pval ps (fun q hq => h q (List.mem_cons_of_mem _ hq))]
    have e : (10 : Nat) ^ 9 = 1000000000 := by decide
    have e2 := digs_low p (pval ps) 9 9 (Nat.le_refl _)
    rw [e] at e2
    rw [e, e2, Nat.add_mul_div_left _ _ (by decide), Nat.div_eq_of_lt h1, Nat.zero_add]
    simp
theorem pval_lt : ∀ (ps : List Nat), (∀ p ∈ ps, p < 1000000000) → pval ps < 10 ^ (9 * ps.length)
  | [], _ => by decide
  | p :: ps, h => by
    have h1 := h p (List.mem_cons_self ..)
    have h2 := pval_lt ps (fun q hq => h q (List.mem_cons_of_mem _ hq))
    rw [pval, List.length_cons, show 9 * (ps.length + 1) = 9 + 9 * ps.length by omega, Nat.pow_add]
    have : (10 : Nat) ^ 9 = 1000000000 := by decide
    rw [this]
    generalize 10 ^ (9 * ps.length) = P at *
    omega

/-- a digit's sign. -/
def dchr (d : Nat) : UInt8 := UInt8.ofNat (48 + d)
theorem dchr_toNat (d : Nat) (h : d < 10) : (dchr d).toNat = 48 + d := by
  rw [dchr, UInt8.toNat_ofNat']; omega
theorem dchr_zero (d : Nat) (h : d < 10) : dchr d = 48 ↔ d = 0 := by
  constructor
  · intro e
    have := congrArg UInt8.toNat e
    rw [dchr_toNat d h] at this
    have e2 : (48 : UInt8).toNat = 48 := rfl
    omega
  · rintro rfl; rfl

/-- decimal digits without noughts ahead. -/
def decD (n K : Nat) : List Nat := (digs n K).dropWhile (· == 0)
theorem decD_any (n K L : Nat) (hK : n < 10 ^ K) (hL : n < 10 ^ L) : decD n K = decD n L := by
  have : ∀ K L, K ≤ L → n < 10 ^ K → decD n L = decD n K := by
    intro K L h hK
    obtain ⟨d, rfl⟩ := Nat.exists_eq_add_of_le h
    rw [Nat.add_comm, decD, digs_zero n d K hK, decD]
    clear hL h
    induction d with
    | zero => rfl
    | succ d ih => rw [List.replicate_succ, List.cons_append, List.dropWhile_cons_of_pos (by rfl), ih]
  rcases Nat.le_total K L with h | h
  · exact (this K L h hK).symm
  · exact this L K h hL
/-- the digits of a number. -/
def decB (n : Nat) : List UInt8 := (decD n n).map dchr
theorem decB_any (n K : Nat) (h : n < 10 ^ K) : decB n = (decD n K).map dchr := by
  rw [decB, decD_any n n K (Nat.lt_pow_self (by decide)) h]
theorem dropWhile_map_dchr : ∀ l : List Nat, (∀ d ∈ l, d < 10) → (l.map dchr).dropWhile (· == 48) = (l.dropWhile (· == 0)).map dchr
  | [], _ => rfl
  | d :: l, h => by
    have hd := h d (List.mem_cons_self ..)
    rw [List.map_cons]
    by_cases h0 : d = 0
    · subst h0
      rw [List.dropWhile_cons_of_pos (by rfl), List.dropWhile_cons_of_pos (by rfl), dropWhile_map_dchr l (fun x hx => h x (List.mem_cons_of_mem _ hx))]
    · rw [List.dropWhile_cons_of_neg (by simp only [beq_iff_eq]; exact fun e => h0 ((dchr_zero d hd).1 e)), List.dropWhile_cons_of_neg (by simpa using h0), List.map_cons]
theorem decB_of_pieces (ps : List Nat) (h : ∀ p ∈ ps, p < 1000000000) : ((ps.reverse.flatMap (fun p => digs p 9)).map dchr).dropWhile (· == 48) = decB (pval ps) := by
  rw [← digs_pval ps h, dropWhile_map_dchr _ (digs_lt _ _), decB_any (pval ps) _ (pval_lt ps h)]; rfl
/-- a number's text. -/
def textL (X : Int) : List UInt8 := if X = 0 then [48] else if X < 0 then 45 :: decB X.natAbs else decB X.natAbs
theorem textL_three : textL (-3) = [45, 51] := by decide
end Go.Proofs.YtegdbcnloodljaaDoor
