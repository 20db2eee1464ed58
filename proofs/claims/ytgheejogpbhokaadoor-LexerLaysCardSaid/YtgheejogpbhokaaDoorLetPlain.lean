/- The plain law of quoting and reading quotes, over lists of bytes. No program in sight. -/
import Derived.Test.YtgheejogpbhokaaDoorUtf
namespace Go.Proofs.YtgheejogpbhokaaDoor
set_option linter.unusedVariables false
set_option linter.unusedSimpArgs false
open Go.Lib
set_option maxRecDepth 1000000

/-- a digit's number. -/
def hexd (c : UInt8) : Option Nat :=
  if 48 ≤ c.toNat ∧ c.toNat ≤ 57 then some (c.toNat - 48)
  else if 97 ≤ c.toNat ∧ c.toNat ≤ 102 then some (c.toNat - 87)
  else if 65 ≤ c.toNat ∧ c.toNat ≤ 70 then some (c.toNat - 55) else none
/-- so many digits at the head, onto a number. -/
def hexN : Nat → Nat → List UInt8 → Option Nat
  | 0, v, _ => some v
  | _ + 1, _, [] => none
  | n + 1, v, c :: t => match hexd c with
    | none => none
    | some d => hexN n (16 * v + d) t
/-- what stands behind a backslash. -/
def esc : List UInt8 → Option (Nat × Nat)
  | [] => none
  | c :: t =>
    if c = 110 then some (10, 1)
    else if c = 116 then some (9, 1)
    else if c = 120 then (match hexN 2 0 t with | some v => if v < 128 then some (v, 3) else none | none => none)
    else if c = 117 then (match hexN 4 0 t with | some v => if Sc v then some (v, 5) else none | none => none)
    else if c = 92 ∨ c = 39 ∨ c = 34 then some (c.toNat, 1) else none
/-- what a text says up to the quote q, and how many bytes are taken, the quote's own too. -/
def unq : Nat → UInt8 → List UInt8 → Option (List UInt8 × Nat)
  | 0, _, _ => none
  | _ + 1, _, [] => none
  | f + 1, q, c :: t =>
    if c = q then some ([], 1)
    else if c = 92 then (match esc t with
      | none => none
      | some (r, n) => (unq f q (t.drop n)).map fun x => (enc r ++ x.1, 1 + n + x.2))
    else if Bad (c :: t) ∨ (decodeL (c :: t)).1 < 32 ∨ (decodeL (c :: t)).1 = 127 then none
    else (unq f q ((c :: t).drop (decodeL (c :: t)).2)).map fun x => (enc (decodeL (c :: t)).1 ++ x.1, (decodeL (c :: t)).2 + x.2)

theorem hexd_lt {c : UInt8} {d : Nat} (h : hexd c = some d) : d < 16 := by
  unfold hexd at h
  have := c.toNat_lt
  split at h
  · simp at h; omega
  · split at h
    · simp at h; omega
    · split at h
      · simp at h; omega
      · simp at h
theorem hexN_short : ∀ (n v : Nat) (l : List UInt8), l.length < n → hexN n v l = none
  | 0, _, _, h => by omega
  | n + 1, v, [], _ => rfl
  | n + 1, v, c :: t, h => by
    simp only [hexN]
    cases hexd c with
    | none => rfl
    | some d => exact hexN_short n _ t (by simp at h; omega)
theorem hexN_app : ∀ (n v u : Nat) (l z : List UInt8), hexN n v l = some u → hexN n v (l ++ z) = some u
  | 0, _, _, _, _, h => h
  | n + 1, v, u, [], z, h => by simp [hexN] at h
  | n + 1, v, u, c :: t, z, h => by
    simp only [hexN, List.cons_append] at h ⊢
    cases hd : hexd c with
    | none => rw [hd] at h; simp at h
    | some d => rw [hd] at h; exact hexN_app n _ u t z h
theorem hexN_len : ∀ (n v u : Nat) (l : List UInt8), hexN n v l = some u → n ≤ l.length
  | n, v, u, l, h => by
    by_cases hl : l.length < n
    · rw [hexN_short n v l hl] at h; simp at h
    · omega
theorem hexN_lt : ∀ (n v u : Nat) (l : List UInt8), hexN n v l = some u → u < (v + 1) * 16 ^ n
  | 0, v, u, _, h => by simp [hexN] at h; omega
  | n + 1, v, u, [], h => by simp [hexN] at h
  | n + 1, v, u, c :: t, h => by
    simp only [hexN] at h
    cases hd : hexd c with
    | none => rw [hd] at h; simp at h
    | some d =>
      rw [hd] at h
      have h1 := hexN_lt n _ u t h
      have h2 := hexd_lt hd
      have h3 : (16 * v + d + 1) * 16 ^ n ≤ (16 * v + 16) * 16 ^ n := Nat.mul_le_mul_right _ (by omega)
      rw [Nat.pow_succ]
      have h4 : (16 * v + 16) * 16 ^ n = (v + 1) * (16 ^ n * 16) := by rw [Nat.mul_comm (16 ^ n) 16, ← Nat.mul_assoc]; congr 1; omega
      omega

theorem esc_cons (c : UInt8) (t : List UInt8) : esc (c :: t) =
    if c = 110 then some (10, 1)
    else if c = 116 then some (9, 1)
    else if c = 120 then (match hexN 2 0 t with | some v => if v < 128 then some (v, 3) else none | none => none)
    else if c = 117 then (match hexN 4 0 t with | some v => if Sc v then some (v, 5) else none | none => none)
    else if c = 92 ∨ c = 39 ∨ c = 34 then some (c.toNat, 1) else none := rfl
/-- what esc gives: a scalar value, at least one byte, no more than there are. -/
theorem esc_ok : ∀ (l : List UInt8) (r n : Nat), esc l = some (r, n) → Sc r ∧ 1 ≤ n ∧ n ≤ l.length
  | [], r, n, h => by simp [esc] at h
  | c :: t, r, n, h => by
    have hc := c.toNat_lt
    rw [esc_cons] at h
    split at h
    · simp at h; obtain ⟨rfl, rfl⟩ := h; simp [Sc]
    split at h
    · simp at h; obtain ⟨rfl, rfl⟩ := h; simp [Sc]
    split at h
    · cases hx : hexN 2 0 t with
      | none => rw [hx] at h; simp at h
      | some v =>
        rw [hx] at h
        have hl := hexN_len _ _ _ _ hx
        simp only at h
        split at h
        · simp at h; obtain ⟨rfl, rfl⟩ := h; unfold Sc; simp; omega
        · simp at h
    split at h
    · cases hx : hexN 4 0 t with
      | none => rw [hx] at h; simp at h
      | some v =>
        rw [hx] at h
        have hl := hexN_len _ _ _ _ hx
        simp only at h
        split at h
        · rename_i hs
          simp at h; obtain ⟨rfl, rfl⟩ := h
          exact ⟨hs, by omega, by simp; omega⟩
        · simp at h
    split at h
    · simp at h; obtain ⟨rfl, rfl⟩ := h; unfold Sc; simp; omega
    · simp at h

theorem esc_app : ∀ (l z : List UInt8) (x : Nat × Nat), esc l = some x → esc (l ++ z) = some x
  | [], z, x, h => by simp [esc] at h
  | c :: t, z, x, h => by
    rw [List.cons_append, esc_cons]
    rw [esc_cons] at h
    by_cases h1 : c = 110
    · simpa [h1] using h
    rw [if_neg h1] at h ⊢
    by_cases h2 : c = 116
    · simpa [h2] using h
    rw [if_neg h2] at h ⊢
    by_cases h3 : c = 120
    · rw [if_pos h3] at h ⊢
      cases hx : hexN 2 0 t with
      | none => rw [hx] at h; simp at h
      | some v => rw [hexN_app 2 0 v t z hx]; rw [hx] at h; exact h
    rw [if_neg h3] at h ⊢
    by_cases h4 : c = 117
    · rw [if_pos h4] at h ⊢
      cases hx : hexN 4 0 t with
      | none => rw [hx] at h; simp at h
      | some v => rw [hexN_app 4 0 v t z hx]; rw [hx] at h; exact h
    rw [if_neg h4] at h ⊢
    exact h

theorem bad_app (l z : List UInt8) (hne : l ≠ []) (hb : ¬ Bad l) : ¬ Bad (l ++ z) := by
  unfold Bad; rw [dec_app l z hne hb]; exact hb

/-- What was read is read so whatever follows. -/
theorem unq_app : ∀ (f : Nat) (q : UInt8) (l z : List UInt8) (x : List UInt8 × Nat), unq f q l = some x → unq f q (l ++ z) = some x
  | 0, _, _, _, _, h => by simp [unq] at h
  | f + 1, q, [], z, x, h => by simp [unq] at h
  | f + 1, q, c :: t, z, x, h => by
    simp only [List.cons_append]
    unfold unq at h ⊢
    by_cases h1 : c = q
    · rw [if_pos h1] at h ⊢; exact h
    rw [if_neg h1] at h ⊢
    by_cases h2 : c = 92
    · rw [if_pos h2] at h ⊢
      cases hx : esc t with
      | none => rw [hx] at h; simp at h
      | some y =>
        obtain ⟨r, n⟩ := y
        rw [esc_app t z _ hx]
        rw [hx] at h
        have hn := (esc_ok t r n hx).2.2
        simp only [List.drop_append_of_le_length hn]
        simp only at h
        cases hu : unq f q (t.drop n) with
        | none => rw [hu] at h; simp at h
        | some y => rw [unq_app f q _ z y hu]; rw [hu] at h; exact h
    rw [if_neg h2] at h ⊢
    by_cases h3 : Bad (c :: t) ∨ (decodeL (c :: t)).1 < 32 ∨ (decodeL (c :: t)).1 = 127
    · rw [if_pos h3] at h; simp at h
    rw [if_neg h3] at h
    have hb : ¬ Bad (c :: t) := fun hb => h3 (Or.inl hb)
    have hd := dec_app (c :: t) z (by simp) hb
    have hb2 := bad_app (c :: t) z (by simp) hb
    have hle := decodeL_le (c :: t) (by simp)
    rw [List.cons_append] at hd hb2
    have e3 : ¬ (Bad (c :: (t ++ z)) ∨ (decodeL (c :: t)).1 < 32 ∨ (decodeL (c :: t)).1 = 127) := by
      rintro (h | h)
      · exact hb2 h
      · exact h3 (Or.inr h)
    rw [hd, if_neg e3]
    have e4 : (c :: (t ++ z)).drop (decodeL (c :: t)).2 = (c :: t).drop (decodeL (c :: t)).2 ++ z := by
      rw [← List.drop_append_of_le_length hle]; rfl
    rw [e4]
    cases hu : unq f q ((c :: t).drop (decodeL (c :: t)).2) with
    | none => rw [hu] at h; simp at h
    | some y => rw [unq_app f q _ z y hu]; rw [hu] at h; exact h

/-- the bytes taken: one at least, no more than there are. -/
theorem unq_len : ∀ (f : Nat) (q : UInt8) (l : List UInt8) (x : List UInt8 × Nat), unq f q l = some x → 1 ≤ x.2 ∧ x.2 ≤ l.length
  | 0, _, _, _, h => by simp [unq] at h
  | f + 1, q, [], x, h => by simp [unq] at h
  | f + 1, q, c :: t, x, h => by
    unfold unq at h
    by_cases h1 : c = q
    · rw [if_pos h1] at h; simp at h; subst h; simp
    rw [if_neg h1] at h
    by_cases h2 : c = 92
    · rw [if_pos h2] at h
      cases hx : esc t with
      | none => rw [hx] at h; simp at h
      | some y =>
        obtain ⟨r, n⟩ := y
        rw [hx] at h
        have hn := (esc_ok t r n hx).2.2
        simp only at h
        cases hu : unq f q (t.drop n) with
        | none => rw [hu] at h; simp at h
        | some y =>
          rw [hu] at h
          have := unq_len f q _ y hu
          rw [List.length_drop] at this
          simp only [Option.map_some, Option.some.injEq] at h
          subst h
          simp only [List.length_cons]
          omega
    rw [if_neg h2] at h
    by_cases h3 : Bad (c :: t) ∨ (decodeL (c :: t)).1 < 32 ∨ (decodeL (c :: t)).1 = 127
    · rw [if_pos h3] at h; simp at h
    rw [if_neg h3] at h
    have hle := decodeL_le (c :: t) (by simp)
    cases hu : unq f q ((c :: t).drop (decodeL (c :: t)).2) with
    | none => rw [hu] at h; simp at h
    | some y =>
      rw [hu] at h
      have := unq_len f q _ y hu
      rw [List.length_drop] at this
      simp only [Option.map_some, Option.some.injEq] at h
      subst h
      simp only
      omega

/-- enough fuel is enough. -/
theorem unq_fuel : ∀ (f g : Nat) (q : UInt8) (l : List UInt8), l.length < f → l.length < g → unq f q l = unq g q l
  | 0, _, _, _, h, _ => by omega
  | _ + 1, 0, _, _, _, h => by omega
  | f + 1, g + 1, q, [], _, _ => rfl
  | f + 1, g + 1, q, c :: t, hf, hg => by
    simp only [List.length_cons] at hf hg
    unfold unq
    have hw := decodeL_width (c :: t)
    have e1 : ∀ n, unq f q (t.drop n) = unq g q (t.drop n) := fun n => unq_fuel f g q _ (by rw [List.length_drop]; omega) (by rw [List.length_drop]; omega)
    have e2 : unq f q ((c :: t).drop (decodeL (c :: t)).2) = unq g q ((c :: t).drop (decodeL (c :: t)).2) := unq_fuel f g q _ (by rw [List.length_drop, List.length_cons]; omega) (by rw [List.length_drop, List.length_cons]; omega)
    rw [e2]
    simp only [e1]

/-- a text in quotes: what it says and how many bytes it has. -/
def unquote (l : List UInt8) : Option (List UInt8 × Nat) :=
  match l with
  | [] => none
  | c :: t => if c = 39 ∨ c = 34 then (unq l.length c t).map fun x => (x.1, 1 + x.2) else none

theorem unquote_app (l z : List UInt8) (x : List UInt8 × Nat) (h : unquote l = some x) : unquote (l ++ z) = some x := by
  cases l with
  | nil => simp [unquote] at h
  | cons c t =>
    simp only [unquote, List.cons_append] at h ⊢
    split at h
    · rename_i hc
      rw [if_pos hc]
      cases hu : unq (c :: t).length c t with
      | none => rw [hu] at h; simp at h
      | some y =>
        rw [unq_fuel _ (c :: t ++ z).length c t (by simp) (by simp; omega)] at hu
        rw [List.cons_append] at hu
        rw [unq_app _ c t z y hu]
        rw [unq_fuel _ (c :: (t ++ z)).length c t (by simp) (by simp; omega), hu] at h
        exact h
    · simp at h

theorem unquote_len (l : List UInt8) (x : List UInt8 × Nat) (h : unquote l = some x) : 1 ≤ x.2 ∧ x.2 ≤ l.length := by
  cases l with
  | nil => simp [unquote] at h
  | cons c t =>
    simp only [unquote] at h
    split at h
    · cases hu : unq (c :: t).length c t with
      | none => rw [hu] at h; simp at h
      | some y =>
        rw [hu] at h
        have := unq_len _ c t y hu
        simp only [Option.map_some, Option.some.injEq] at h
        subst h
        simp only [List.length_cons]
        omega
    · simp at h
/-- a cut quote is none. -/
theorem unquote_cut (l : List UInt8) (x : List UInt8) (n : Nat) (h : unquote l = some (x, l.length)) (hn : n < l.length) : unquote (l.take n) = none := by
  cases hu : unquote (l.take n) with
  | none => rfl
  | some y =>
    have h1 := unquote_app _ (l.drop n) y hu
    rw [List.take_append_drop, h] at h1
    have h2 := unquote_len _ y hu
    rw [List.length_take] at h2
    simp only [Option.some.injEq] at h1
    subst h1
    simp only at h2
    omega
end Go.Proofs.YtgheejogpbhokaaDoor
