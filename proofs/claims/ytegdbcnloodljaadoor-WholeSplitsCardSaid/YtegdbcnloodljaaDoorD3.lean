/- Long division of sizes: the loops' frames (plain law). -/
import Derived.Test.YtegdbcnloodljaaDoorD0
namespace Go.Proofs.YtegdbcnloodljaaDoor
set_option linter.unusedVariables false
set_option linter.unusedSimpArgs false
open Go.RowKit

/-- the frame of the loop over the digits: what is left, and the digits so far. -/
def DivI (vs : List Int) (U0 : Int) (k : Nat) (us qs : List Int) : Prop :=
  W32 us ∧ W32 qs ∧ val us + val vs * val qs = U0 ∧ val us < 4294967296 ^ k * val vs ∧ ∀ i, i < k → qs[i]?.getD 0 = 0
theorem divI_step {vs us us' qs : List Int} {U0 d : Int} {j : Nat} (hV : W32 vs) (h : DivI vs U0 (j + 1) us qs) (hj : j < qs.length) (hc : CorI vs us j d false us') : DivI vs U0 j us' (qs.set j d) := by
  obtain ⟨h1, h2, h3, h4, h5⟩ := h
  obtain ⟨g1, g2, g3, g4, g5, g6, g7, g8⟩ := hc
  rw [if_neg (by decide)] at g7
  have hlt : val us < 4294967296 ^ j * ((d + 1) * val vs) := by
    rcases Int.lt_or_le d 4294967295 with h | h
    · rcases Int.lt_or_le (val us) (4294967296 ^ j * ((d + 1) * val vs)) with h6 | h6
      · exact h6
      · have := g6 (d + 1) (by omega) (by omega) h6
        omega
    · have : d = 4294967295 := by omega
      subst this
      rw [Int.pow_succ] at h4
      have e : (4294967296 : Int) ^ j * 4294967296 * val vs = 4294967296 ^ j * ((4294967295 + 1) * val vs) := by grind
      omega
  refine ⟨g2, h2.set j d g4 g5, ?_, ?_, ?_⟩
  · rw [val_put _ _ _ hj, h5 j (by omega)]
    generalize (4294967296 : Int) ^ j = P at *
    grind
  · generalize (4294967296 : Int) ^ j = P at *
    have e : P * ((d + 1) * val vs) = P * (d * val vs) + P * val vs := by grind
    omega
  · intro i hi
    rw [List.getElem?_set_ne (by omega)]
    exact h5 i (by omega)
/-- any digit that goes is no greater than the one that was guessed. -/
theorem guess_top {vs us : List Int} {d : Int} {j n : Nat} (hV : W32 vs) (hU : W32 us) (hn : vs.length = n + 2) (hl : val us < 4294967296 ^ (j + 1) * val vs) (hG : GuessOk (us[j + n + 2]?.getD 0) (us[j + n + 1]?.getD 0) (us[j + n]?.getD 0) (vs[n + 1]?.getD 0) (vs[n]?.getD 0) d) :
    val us < 4294967296 ^ (j + vs.length + 1) ∧ ∀ q, 0 ≤ q → q ≤ 4294967295 → 4294967296 ^ j * (q * val vs) ≤ val us → q ≤ d := by
  have hV1 := val_bound hV
  have hlt : val us < 4294967296 ^ (j + vs.length + 1) := by
    have e : (4294967296 : Int) ^ (j + vs.length + 1) = 4294967296 ^ (j + 1) * 4294967296 ^ vs.length := by rw [← Int.pow_add]; congr 1; omega
    rw [e]
    exact Int.lt_trans hl (Int.mul_lt_mul_of_pos_left hV1 (pow_pos _))
  refine ⟨hlt, fun q h0 h1 hle => hG.2.2 q h0 h1 (top3 hU hV hn ?_ h0 hle)⟩
  rw [hn] at hlt
  exact hlt
/-- the frame of the loop that shifts back. -/
def UnsI (us : List Int) (D : Int) (n i : Nat) (rs : List Int) : Prop :=
  rs.length = n ∧ W32 rs ∧ D * val rs + us[0]?.getD 0 % D = val (us.take i) + 4294967296 ^ i * (us[i]?.getD 0 % D) ∧ ∀ m, i ≤ m → rs[m]?.getD 0 = 0
theorem unsI_step {us rs : List Int} {D E a b z : Int} {n i : Nat} (h : UnsI us D n i rs) (hi : i < n) (ha : us[i]?.getD 0 = a) (hb : us[i + 1]?.getD 0 = b) (ha0 : 0 ≤ a ∧ a ≤ 4294967295) (hb0 : 0 ≤ b ∧ b ≤ 4294967295) (hD : 0 < D) (hE : 0 < E) (hDE : D * E = 4294967296) (hz : (b * 4294967296 + a) / D % 4294967296 = z) : UnsI us D n (i + 1) (rs.set i z) := by
  obtain ⟨h1, h2, h3, h4⟩ := h
  have e1 : z * D + a % D = b % D * 4294967296 + a := by
    have b1 := Int.mul_ediv_add_emod b D
    have a1 := Int.mul_ediv_add_emod a D
    have m0 := Int.emod_nonneg b (show D ≠ 0 by omega)
    have m1 := Int.emod_lt_of_pos b hD
    have n0 := Int.emod_nonneg a (show D ≠ 0 by omega)
    have n1 := Int.emod_lt_of_pos a hD
    have q0 : 0 ≤ a / D := Int.ediv_nonneg ha0.1 (by omega)
    have q1 : a / D < E := Int.ediv_lt_of_lt_mul hD (by rw [Int.mul_comm, hDE]; omega)
    generalize b / D = bq at *
    generalize b % D = br at *
    generalize a / D = aq at *
    generalize a % D = ar at *
    have e2 : b * 4294967296 + a = ar + D * (bq * 4294967296 + (br * E + aq)) := by rw [← b1, ← a1, ← hDE]; grind
    have e3 : (b * 4294967296 + a) / D = bq * 4294967296 + (br * E + aq) := by
      rw [e2, Int.add_mul_ediv_left _ _ (show D ≠ 0 by omega), Int.ediv_eq_zero_of_lt n0 n1]; omega
    have e4 : 0 ≤ br * E + aq := by have := Int.mul_nonneg m0 (show 0 ≤ E by omega); omega
    have e5 : br * E + aq < 4294967296 := by
      have : br * E ≤ (D - 1) * E := Int.mul_le_mul_of_nonneg_right (by omega) (by omega)
      have e : (D - 1) * E = D * E - E := by grind
      omega
    have e6 : z = br * E + aq := by rw [← hz, e3]; omega
    rw [e6, ← a1, ← hDE]; grind
  have z0 : 0 ≤ z ∧ z ≤ 4294967295 := by omega
  refine ⟨by rw [List.length_set]; exact h1, h2.set i z z0.1 z0.2, ?_, ?_⟩
  · rw [val_put _ _ _ (by omega), h4 i (Nat.le_refl _), val_take_get, ha, hb, Int.pow_succ]
    rw [ha] at h3
    generalize (4294967296 : Int) ^ i = P at *
    have : P * (z * D + a % D) = P * (b % D * 4294967296 + a) := by rw [e1]
    grind
  · intro m hm
    rw [List.getElem?_set_ne (by omega)]
    exact h4 m (by omega)
/-- what is left, shifted back. -/
theorem unsI_end {us vs rs qs xs ys : List Int} {D E : Int} {n : Nat} (hD : 0 < D) (hE : 0 < E) (hDE : D * E = 4294967296) (hn : vs.length = n) (hV : W32 vs) (hvy : val vs = D * val ys) (hI : DivI vs (D * val xs) 0 us qs) (h : UnsI us D n n rs) : val xs = val ys * val qs + val rs ∧ val rs < val ys := by
  obtain ⟨h1, h2, h3, h4, -⟩ := hI
  obtain ⟨g1, g2, g3, -⟩ := h
  have hV1 := val_bound hV
  rw [hn] at hV1
  have hP : (4294967296 : Int) ^ 0 * val vs = val vs := by rw [Int.pow_zero, Int.one_mul]
  rw [hP] at h4
  have hd := drop_zero h1 (p := n) (by omega)
  have hw := drop_word us n
  have hk := h1.getD n
  have hr := val_nn (h1.drop' (n + 1))
  have hun : us[n]?.getD 0 = 0 := by omega
  have hs := val_cut us n
  rw [hd] at hs
  rw [hun, ← show val us = val (us.take n) by rw [hs]; simp] at g3
  rw [Int.zero_emod, Int.mul_zero, Int.add_zero] at g3
  have e : val us = D * (val xs - val ys * val qs) := by rw [hvy] at h3; grind
  have h0 := val_cut us 0
  have hw0 := drop_word us 0
  have e0 : val us = us[0]?.getD 0 + 4294967296 * val (us.drop 1) := by
    have : val us = val (us.drop 0) := by simp
    rw [this, hw0]
  have m1 : us[0]?.getD 0 % D = 0 := by
    have : us[0]?.getD 0 = D * ((val xs - val ys * val qs) - E * val (us.drop 1)) := by
      have : us[0]?.getD 0 = val us - 4294967296 * val (us.drop 1) := by omega
      rw [this, e, ← hDE]; grind
    rw [this, Int.mul_emod_right]
  rw [m1, Int.add_zero, e] at g3
  have e9 : val rs = val xs - val ys * val qs := Int.eq_of_mul_eq_mul_left (by omega) g3
  refine ⟨by omega, ?_⟩
  rw [e9]
  rw [e, hvy] at h4
  exact Int.lt_of_mul_lt_mul_left h4 (by omega)
theorem divI_start {vs us xs ys qs : List Int} {D : Int} {m n : Nat} (hD : 0 < D) (hX : W32 xs) (hY : W32 ys) (hN : NT ys) (hU : W32 us) (hQ : W32 qs) (hn : ys.length = n + 1) (hm : xs.length = m + n) (hvy : val vs = D * val ys) (hu : val us = D * val xs) (hq : val qs = 0) (hz : ∀ i : Nat, qs[i]?.getD 0 = 0) : DivI vs (D * val xs) m us qs := by
  refine ⟨hU, hQ, by rw [hq, hu]; simp, ?_, fun i _ => hz i⟩
  rw [hu, hvy]
  have h1 := val_bound hX
  have h2 := (nt_len hY hN n).1 (by omega)
  rw [hm, Int.pow_add] at h1
  have h3 : (4294967296 : Int) ^ m * 4294967296 ^ n ≤ 4294967296 ^ m * val ys := Int.mul_le_mul_of_nonneg_left h2 (by have := pow_pos m; omega)
  have h4 : val xs < 4294967296 ^ m * val ys := by omega
  have h5 : D * val xs < D * (4294967296 ^ m * val ys) := Int.mul_lt_mul_of_pos_left h4 hD
  have e : D * (4294967296 ^ m * val ys) = 4294967296 ^ m * (D * val ys) := by grind
  omega
end Go.Proofs.YtegdbcnloodljaaDoor
