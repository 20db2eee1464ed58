/- Long division of sizes (plain law). -/
import Derived.Test.YtegdbcnloodljaaDoorW5
namespace Go.Proofs.YtegdbcnloodljaaDoor
set_option linter.unusedVariables false
set_option linter.unusedSimpArgs false
open Go.RowKit

theorem val_put : ∀ (fs : List Int) (k : Nat) (z : Int), k < fs.length → val (fs.set k z) = val fs + 4294967296 ^ k * (z - fs[k]?.getD 0)
  | [], k, z, h => by simp at h
  | f :: fs, 0, z, _ => by simp [val]; omega
  | f :: fs, k + 1, z, h => by
    have ih := val_put fs k z (by simpa using h)
    rw [List.set_cons_succ, val, val, ih, List.getElem?_cons_succ, Int.pow_succ]
    grind
theorem val_cut (ws : List Int) (p : Nat) : val ws = val (ws.take p) + 4294967296 ^ p * val (ws.drop p) := by
  by_cases h : p ≤ ws.length
  · have := val_append (ws.take p) (ws.drop p)
    rwa [List.take_append_drop, List.length_take, Nat.min_eq_left h] at this
  · rw [List.take_of_length_le (by omega), List.drop_eq_nil_of_le (by omega)]; simp [val]
theorem W32.take' {ws : List Int} (h : W32 ws) (p : Nat) : W32 (ws.take p) := fun x hx => h x (List.mem_of_mem_take hx)
theorem W32.drop' {ws : List Int} (h : W32 ws) (p : Nat) : W32 (ws.drop p) := fun x hx => h x (List.mem_of_mem_drop hx)
theorem take_lt {ws : List Int} (h : W32 ws) (p : Nat) : val (ws.take p) < 4294967296 ^ p :=
  Int.lt_of_lt_of_le (val_bound (h.take' p)) (pow_mono (by rw [List.length_take]; omega))
theorem lt_of_mul {P a b : Int} (hP : 0 < P) (h : P * a < P * b) : a < b := Int.lt_of_mul_lt_mul_left h (by omega)
/-- below a power the words above are none. -/
theorem drop_zero {ws : List Int} (h : W32 ws) {p : Nat} (hl : val ws < 4294967296 ^ p) : val (ws.drop p) = 0 := by
  have h1 := val_cut ws p
  have h2 := val_nn (h.take' p)
  have h3 := val_nn (h.drop' p)
  have h4 := pow_pos p
  rcases Int.lt_or_le 0 (val (ws.drop p)) with h5 | h5
  · exfalso
    have : 4294967296 ^ p * 1 ≤ 4294967296 ^ p * val (ws.drop p) := Int.mul_le_mul_of_nonneg_left h5 (by omega)
    omega
  · omega
theorem low_kept {ws ws' : List Int} {p : Nat} (h : W32 ws) (h' : W32 ws') (hd : ws'.drop p = ws.drop p) (hl : val ws < 4294967296 ^ p) : val ws' < 4294967296 ^ p := by
  have h1 := val_cut ws' p
  rw [hd, drop_zero h hl] at h1
  have := take_lt h' p
  omega
theorem drop_word (ws : List Int) (p : Nat) : val (ws.drop p) = ws[p]?.getD 0 + 4294967296 * val (ws.drop (p + 1)) := by
  by_cases h : p < ws.length
  · rw [List.drop_eq_getElem_cons h, val, List.getElem?_eq_getElem h]; rfl
  · rw [List.drop_eq_nil_of_le (by omega), List.drop_eq_nil_of_le (by omega), List.getElem?_eq_none (by omega)]; rfl
/-- the word at the top tells whether the number fits below. -/
theorem top_word {ws : List Int} {p : Nat} (h : W32 ws) (hl : val ws < 4294967296 ^ (p + 1)) : ws[p]?.getD 0 = 0 ↔ val ws < 4294967296 ^ p := by
  have h1 := val_cut ws p
  have h2 := drop_zero h hl
  rw [drop_word, h2] at h1
  have h3 := take_lt h p
  have h4 := val_nn (h.take' p)
  have h5 := h.getD p
  have h6 := pow_pos p
  constructor
  · intro h0; rw [h0] at h1; omega
  · intro h0
    rcases Int.lt_or_le 0 (ws[p]?.getD 0) with h7 | h7
    · exfalso
      have : 4294967296 ^ p * 1 ≤ 4294967296 ^ p * (ws[p]?.getD 0 + 4294967296 * 0) := Int.mul_le_mul_of_nonneg_left (by omega) (by omega)
      omega
    · omega

/-- a row of which a multiple of another is taken, up to a word. -/
def TakI (vs ws0 : List Int) (d : Int) (j i : Nat) (cr : Int) (ws : List Int) : Prop :=
  ws.length = ws0.length ∧ W32 ws ∧ ws.drop (j + i) = ws0.drop (j + i) ∧ val ws + 4294967296 ^ j * (d * val (vs.take i)) = val ws0 + 4294967296 ^ (j + i) * cr
theorem takI_step {vs ws0 ws : List Int} {d cr z x old cr' : Int} {j i : Nat} (h : TakI vs ws0 d j i cr ws) (hp : j + i < ws0.length) (hx : vs[i]?.getD 0 = x) (ho : ws[j + i]?.getD 0 = old) (h0 : 0 ≤ z) (h1 : z ≤ 4294967295) (he : z + d * x + cr = old + 4294967296 * cr') : TakI vs ws0 d j (i + 1) cr' (ws.set (j + i) z) := by
  obtain ⟨g1, g2, g3, g4⟩ := h
  refine ⟨by rw [List.length_set]; exact g1, g2.set _ z h0 h1, ?_, ?_⟩
  · rw [← Nat.add_assoc, List.drop_set_of_lt (by omega)]
    have e1 : (ws.drop (j + i)).drop 1 = (ws0.drop (j + i)).drop 1 := by rw [g3]
    rwa [List.drop_drop, List.drop_drop] at e1
  · rw [val_put _ _ _ (by omega), ho, val_take_get, hx, ← Nat.add_assoc, Int.pow_succ, Int.pow_add] at *
    generalize (4294967296 : Int) ^ j = P at *
    generalize (4294967296 : Int) ^ i = Q at *
    have : P * Q * (z + d * x + cr) = P * Q * (old + 4294967296 * cr') := by rw [he]
    grind
/-- the last word. -/
theorem takI_end {vs ws0 ws : List Int} {d cr z old bo : Int} {j i : Nat} (h : TakI vs ws0 d j i cr ws) (hp : j + i < ws0.length) (hi : vs.length = i) (ho : ws[j + i]?.getD 0 = old) (h0 : 0 ≤ z) (h1 : z ≤ 4294967295) (he : z + cr = old + 4294967296 * bo) :
    (ws.set (j + i) z).length = ws0.length ∧ W32 (ws.set (j + i) z) ∧ (ws.set (j + i) z).drop (j + i + 1) = ws0.drop (j + i + 1) ∧ val (ws.set (j + i) z) + 4294967296 ^ j * (d * val vs) = val ws0 + 4294967296 ^ (j + i + 1) * bo := by
  have h2 := takI_step h hp (x := 0) (by rw [List.getElem?_eq_none (by omega)]; rfl) ho h0 h1 (cr' := bo) (by omega)
  obtain ⟨g1, g2, g3, g4⟩ := h2
  refine ⟨g1, g2, by rw [Nat.add_assoc]; exact g3, ?_⟩
  rw [List.take_of_length_le (by omega)] at g4
  rw [Nat.add_assoc]; exact g4

/-- what a guessed digit is: no less than any that goes. -/
def GuessOk (u2 u1 u0 v1 v0 d : Int) : Prop := 0 ≤ d ∧ d ≤ 4294967295 ∧ ∀ q, 0 ≤ q → q ≤ 4294967295 → q * (v1 * 4294967296 + v0) ≤ (u2 * 4294967296 + u1) * 4294967296 + u0 → q ≤ d
/-- the frame of the loop that lowers it. -/
def GueI (u2 u1 u0 v1 v0 n r : Int) : Prop := 0 ≤ n ∧ n ≤ 4294967295 ∧ 0 ≤ r ∧ n * v1 + r = u2 * 4294967296 + u1 ∧ ∀ q, 0 ≤ q → q ≤ 4294967295 → q * (v1 * 4294967296 + v0) ≤ (u2 * 4294967296 + u1) * 4294967296 + u0 → q ≤ n
theorem gueI_start {u2 u1 u0 v1 v0 : Int} (h2 : 0 ≤ u2) (h2' : u2 < v1) (h1 : 0 ≤ u1 ∧ u1 ≤ 4294967295) (h0 : 0 ≤ u0 ∧ u0 ≤ 4294967295) (hv : 0 ≤ v0) : GueI u2 u1 u0 v1 v0 ((u2 * 4294967296 + u1) / v1) ((u2 * 4294967296 + u1) % v1) := by
  have hU : 0 ≤ u2 * 4294967296 + u1 := by omega
  refine ⟨Int.ediv_nonneg hU (by omega), ?_, Int.emod_nonneg _ (by omega), ?_, ?_⟩
  · have : (u2 * 4294967296 + u1) / v1 < 4294967296 := by
      apply Int.ediv_lt_of_lt_mul (by omega)
      have : 4294967296 * (u2 + 1) ≤ 4294967296 * v1 := Int.mul_le_mul_of_nonneg_left (by omega) (by omega)
      omega
    omega
  · have := Int.mul_ediv_add_emod (u2 * 4294967296 + u1) v1
    rw [Int.mul_comm]; exact this
  · intro q hq _ hle
    apply Int.le_ediv_of_mul_le (by omega)
    generalize u2 * 4294967296 + u1 = U at *
    have hqv : 0 ≤ q * v0 := Int.mul_nonneg hq hv
    have e : q * (v1 * 4294967296 + v0) = (q * v1) * 4294967296 + q * v0 := by grind
    rw [e] at hle
    omega
theorem gueI_step {u2 u1 u0 v1 v0 n r : Int} (h : GueI u2 u1 u0 v1 v0 n r) (hv1 : 0 ≤ v1) (hv : 0 ≤ v0) (h0 : 0 ≤ u0) (hgt : r * 4294967296 + u0 < n * v0) : GueI u2 u1 u0 v1 v0 (n - 1) (r + v1) ∧ 1 ≤ n := by
  obtain ⟨g1, g2, g3, g4, g5⟩ := h
  have hn : 1 ≤ n := by
    rcases Int.lt_or_le n 1 with h | h
    · have : n = 0 := by omega
      subst this
      rw [Int.zero_mul] at hgt
      omega
    · exact h
  refine ⟨⟨by omega, by omega, by omega, by rw [Int.sub_mul]; omega, ?_⟩, hn⟩
  intro q hq hq1 hle
  have h1 := g5 q hq hq1 hle
  rcases Int.lt_or_eq_of_le h1 with h2 | h2
  · omega
  · exfalso
    subst h2
    rw [← g4] at hle
    have e : q * (v1 * 4294967296 + v0) = (q * v1) * 4294967296 + q * v0 := by grind
    rw [e] at hle
    omega
/-- the three words at the top say enough. -/
theorem top3 {ws vs : List Int} {j n : Nat} {q : Int} (hW : W32 ws) (hV : W32 vs) (hn : vs.length = n + 2) (hl : val ws < 4294967296 ^ (j + n + 3)) (hq : 0 ≤ q) (h : 4294967296 ^ j * (q * val vs) ≤ val ws) :
    q * (vs[n + 1]?.getD 0 * 4294967296 + vs[n]?.getD 0) ≤ (ws[j + n + 2]?.getD 0 * 4294967296 + ws[j + n + 1]?.getD 0) * 4294967296 + ws[j + n]?.getD 0 := by
  have h1 := val_cut ws (j + n)
  rw [drop_word, drop_word, drop_word, drop_zero hW (p := j + n + 1 + 1 + 1) hl] at h1
  have h2 := val_cut vs n
  rw [drop_word, drop_word, List.drop_eq_nil_of_le (by omega)] at h2
  have h3 := take_lt hW (j + n)
  have h4 := val_nn (hV.take' n)
  have e : j + n + 1 + 1 = j + n + 2 := rfl
  rw [e] at h1
  generalize ws[j + n + 2]?.getD 0 = a at *
  generalize ws[j + n + 1]?.getD 0 = b at *
  generalize ws[j + n]?.getD 0 = c at *
  generalize vs[n + 1]?.getD 0 = x at *
  generalize vs[n]?.getD 0 = y at *
  generalize val (ws.take (j + n)) = T at *
  generalize val (vs.take n) = S at *
  rw [Int.pow_add] at h1 h3
  have hP := pow_pos j
  have hQ := pow_pos n
  generalize (4294967296 : Int) ^ j = P at *
  generalize (4294967296 : Int) ^ n = Q at *
  have hPQ : 0 < P * Q := Int.mul_pos hP hQ
  have hS : 0 ≤ P * (q * S) := Int.mul_nonneg (by omega) (Int.mul_nonneg hq h4)
  have key : P * Q * (q * (x * 4294967296 + y)) < P * Q * ((a * 4294967296 + b) * 4294967296 + c + 1) := by
    have e1 : P * (q * val vs) = P * (q * S) + P * Q * (q * (x * 4294967296 + y)) := by rw [h2]; simp only [val]; grind
    have e2 : val ws = T + P * Q * ((a * 4294967296 + b) * 4294967296 + c) := by rw [h1]; grind
    have e3 : P * Q * ((a * 4294967296 + b) * 4294967296 + c + 1) = P * Q * ((a * 4294967296 + b) * 4294967296 + c) + P * Q := by grind
    rw [e3]
    omega
  have := lt_of_mul hPQ key
  omega

/-- the state of the loop that corrects a digit: the row is what is left, or what is left wrapped around. -/
def CorI (vs ws0 : List Int) (j : Nat) (d : Int) (too : Bool) (ws : List Int) : Prop :=
  ws.length = ws0.length ∧ W32 ws ∧ ws.drop (j + vs.length + 1) = ws0.drop (j + vs.length + 1) ∧ 0 ≤ d ∧ d ≤ 4294967295 ∧
  (∀ q, 0 ≤ q → q ≤ 4294967295 → 4294967296 ^ j * (q * val vs) ≤ val ws0 → q ≤ d) ∧
  val ws + 4294967296 ^ j * (d * val vs) = val ws0 + (if too then 4294967296 ^ (j + vs.length + 1) else 0) ∧ (too = true ↔ val ws0 < 4294967296 ^ j * (d * val vs))
theorem corI_start {vs ws0 ws : List Int} {j : Nat} {d bo : Int} (hW : W32 ws0) (hl : val ws0 < 4294967296 ^ (j + vs.length + 1)) (h : ws.length = ws0.length ∧ W32 ws ∧ ws.drop (j + vs.length + 1) = ws0.drop (j + vs.length + 1) ∧ val ws + 4294967296 ^ j * (d * val vs) = val ws0 + 4294967296 ^ (j + vs.length + 1) * bo)
    (hb : bo = 0 ∨ bo = 1) (hd0 : 0 ≤ d) (hd1 : d ≤ 4294967295) (hd : ∀ q, 0 ≤ q → q ≤ 4294967295 → 4294967296 ^ j * (q * val vs) ≤ val ws0 → q ≤ d) : CorI vs ws0 j d (decide (bo = 1)) ws := by
  obtain ⟨h1, h2, h3, h4⟩ := h
  have h5 := low_kept hW h2 h3 hl
  have h6 := val_nn h2
  refine ⟨h1, h2, h3, hd0, hd1, hd, ?_, ?_⟩
  · rcases hb with rfl | rfl
    · rw [if_neg (by decide)]; omega
    · rw [if_pos (by decide)]; omega
  · rcases hb with rfl | rfl
    · simp; omega
    · simp; omega
theorem corI_step {vs ws0 ws ws' : List Int} {j : Nat} {d k : Int} (hV : W32 vs) (hW : W32 ws0) (hl : val ws0 < 4294967296 ^ (j + vs.length + 1)) (hI : CorI vs ws0 j d true ws) (h : ws'.length = ws.length ∧ W32 ws' ∧ ws'.drop (j + vs.length + 1) = ws.drop (j + vs.length + 1) ∧ val ws' + 4294967296 ^ j * (-1 * val vs) = val ws + 4294967296 ^ (j + vs.length + 1) * (-k))
    (hk : k = 0 ∨ k = 1) : 1 ≤ d ∧ CorI vs ws0 j (d - 1) (decide (ws'[j + vs.length]?.getD 0 ≠ 0)) ws' := by
  obtain ⟨g1, g2, g3, g4, g5, g6, g7, g8⟩ := hI
  obtain ⟨h1, h2, h3, h4⟩ := h
  rw [if_pos rfl] at g7
  have h5 := low_kept hW h2 (h3.trans g3) hl
  have h6 := val_nn h2
  have g9 := g8.1 rfl
  have h7 := val_nn hW
  have hV0 := val_nn hV
  have hV1 := val_bound hV
  have hd : 1 ≤ d := by
    rcases Int.lt_or_le d 1 with h | h
    · have : d = 0 := by omega
      subst this
      rw [Int.zero_mul, Int.mul_zero] at g9
      omega
    · exact h
  have htop := top_word (p := j + vs.length) h2 h5
  have eM : 4294967296 ^ j * ((d - 1) * val vs) = 4294967296 ^ j * (d * val vs) - 4294967296 ^ j * val vs := by grind
  have eN : 4294967296 ^ j * (-1 * val vs) = -(4294967296 ^ j * val vs) := by grind
  have hP := pow_pos j
  have hPn : (4294967296 : Int) ^ (j + vs.length) = 4294967296 ^ j * 4294967296 ^ vs.length := Int.pow_add ..
  have hPn1 : (4294967296 : Int) ^ (j + vs.length + 1) = 4294967296 ^ (j + vs.length) * 4294967296 := Int.pow_succ ..
  have hlow : 4294967296 ^ j * val vs < 4294967296 ^ (j + vs.length) := by
    rw [hPn]; exact Int.mul_lt_mul_of_pos_left hV1 hP
  have hge : 4294967296 ^ j * ((d - 1) * val vs) ≤ 4294967296 ^ (j + vs.length + 1) - 4294967296 ^ (j + vs.length) := by
    have a1 : (d - 1) * (4294967296 ^ j * val vs) ≤ 4294967295 * (4294967296 ^ j * val vs) := Int.mul_le_mul_of_nonneg_right (by omega) (Int.mul_nonneg (by omega) hV0)
    have a2 : 4294967296 ^ j * ((d - 1) * val vs) = (d - 1) * (4294967296 ^ j * val vs) := by grind
    omega
  have hq := g6 (d - 1) (by omega) (by omega)
  have hfin : val ws' + 4294967296 ^ j * ((d - 1) * val vs) = val ws0 + (if k = 1 then 0 else 4294967296 ^ (j + vs.length + 1)) := by
    rcases hk with rfl | rfl
    · rw [if_neg (by decide)]; omega
    · rw [if_pos rfl]; omega
  refine ⟨hd, by rw [h1, g1], h2, h3.trans g3, by omega, by omega, ?_, ?_, ?_⟩
  · intro q hq0 hq1 hle
    have := g6 q hq0 hq1 hle
    rcases Int.lt_or_eq_of_le this with h | h
    · omega
    · exfalso; subst h; omega
  · rw [hfin]
    rcases hk with rfl | rfl
    · rw [if_neg (by decide)] at hfin ⊢
      have : ¬ (ws'[j + vs.length]?.getD 0 = 0) := fun e => by have := htop.1 e; omega
      rw [if_pos (by simpa using this)]
    · rw [if_pos rfl] at hfin ⊢
      have : ws'[j + vs.length]?.getD 0 = 0 := by
        refine htop.2 ?_
        omega
      rw [if_neg (by simpa using this)]
  · rw [decide_eq_true_iff]
    rcases hk with rfl | rfl
    · rw [if_neg (by decide)] at hfin
      have : ¬ (ws'[j + vs.length]?.getD 0 = 0) := fun e => by have := htop.1 e; omega
      exact ⟨fun _ => by omega, fun _ => this⟩
    · rw [if_pos rfl] at hfin
      have : ws'[j + vs.length]?.getD 0 = 0 := by
        refine htop.2 ?_
        omega
      exact ⟨fun h => absurd this h, fun h => by omega⟩
end Go.Proofs.YtegdbcnloodljaaDoor
