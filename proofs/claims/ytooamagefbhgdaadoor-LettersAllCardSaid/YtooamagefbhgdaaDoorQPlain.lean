/- The plain law of quoting: what is put in quotes is read back. No program in sight. -/
import Derived.Test.YtooamagefbhgdaaDoorLetPlain
namespace Go.Proofs.YtooamagefbhgdaaDoor
open Go.Lib
set_option maxRecDepth 1000000

/-- a digit's sign. -/
def hexc (d : Nat) : UInt8 := UInt8.ofNat (if d < 10 then 48 + d else 87 + d)
theorem hexd_hexc (d : Nat) (h : d < 16) : hexd (hexc d) = some d := by
  have : ∀ d, d < 16 → hexd (hexc d) = some d := by decide
  exact this d h
/-- so many digits of a number. -/
def numb : Nat → Nat → List UInt8
  | _, 0 => []
  | r, n + 1 => numb (r / 16) n ++ [hexc (r % 16)]
theorem numb2 (r : Nat) : numb r 2 = [hexc (r / 16 % 16), hexc (r % 16)] := rfl
theorem numb4 (r : Nat) : numb r 4 = [hexc (r / 16 / 16 / 16 % 16), hexc (r / 16 / 16 % 16), hexc (r / 16 % 16), hexc (r % 16)] := rfl
theorem numb_len : ∀ (n r : Nat), (numb r n).length = n
  | 0, _ => rfl
  | n + 1, r => by simp [numb, numb_len n]
theorem hexN2 (r : Nat) (z : List UInt8) (h : r < 256) : hexN 2 0 (numb r 2 ++ z) = some r := by
  rw [numb2]
  simp only [List.cons_append, List.nil_append, hexN, hexd_hexc _ (Nat.mod_lt _ (by decide : 0 < 16))]
  congr 1; omega
theorem hexN4 (r : Nat) (z : List UInt8) (h : r < 65536) : hexN 4 0 (numb r 4 ++ z) = some r := by
  rw [numb4]
  simp only [List.cons_append, List.nil_append, hexN, hexd_hexc _ (Nat.mod_lt _ (by decide : 0 < 16))]
  congr 1; omega

/-- the runes that stand as \u and four digits. -/
def Wide (r : Nat) : Prop := (128 ≤ r ∧ r ≤ 159) ∨ r = 8232 ∨ r = 8233 ∨ r = 65279
instance (r : Nat) : Decidable (Wide r) := by unfold Wide; infer_instance
/-- how a rune stands in quotes. -/
def quotedL (r : Nat) : List UInt8 :=
  if r = 39 ∨ r = 92 then 92 :: enc r
  else if r = 10 then [92, 110]
  else if r = 9 then [92, 116]
  else if r < 32 ∨ r = 127 then 92 :: 120 :: numb r 2
  else if Wide r then 92 :: 117 :: numb r 4
  else enc r
/-- runes in quotes. -/
def quoteL (rs : List Nat) : List UInt8 := 39 :: (rs.flatMap quotedL ++ [39])

theorem quotedL_len (r : Nat) : 1 ≤ (quotedL r).length ∧ (quotedL r).length ≤ 6 := by
  have h := enc_len r
  unfold quotedL
  split
  · simp; omega
  split
  · simp
  split
  · simp
  split
  · simp [numb_len]
  split
  · simp [numb_len]
  · omega
theorem quoteds_len : ∀ rs : List Nat, rs.length ≤ (rs.flatMap quotedL).length ∧ (rs.flatMap quotedL).length ≤ 6 * rs.length
  | [] => by simp
  | r :: rs => by
    have h := quotedL_len r
    have h2 := quoteds_len rs
    simp only [List.flatMap_cons, List.length_append, List.length_cons]
    omega
theorem quoteL_len (rs : List Nat) : (quoteL rs).length = (rs.flatMap quotedL).length + 2 := by simp [quoteL]

theorem unq_escape (f : Nat) (t : List UInt8) (r n : Nat) (h : esc t = some (r, n)) : unq (f + 1) 39 (92 :: t) = (unq f 39 (t.drop n)).map fun x => (enc r ++ x.1, 1 + n + x.2) := by
  rw [unq, if_neg (by decide), if_pos rfl, h]
theorem unq_quoted (f r : Nat) (z : List UInt8) (hr : Sc r) : unq (f + 1) 39 (quotedL r ++ z) = (unq f 39 z).map fun x => (enc r ++ x.1, (quotedL r).length + x.2) := by
  unfold quotedL
  by_cases h1 : r = 39 ∨ r = 92
  · rw [if_pos h1]
    have he : enc r = [UInt8.ofNat r] := enc1 r (by omega)
    rcases h1 with rfl | rfl
    all_goals
      rw [he, List.cons_append, List.cons_append, List.nil_append, unq_escape f _ _ 1 rfl]
      rw [show ([92, UInt8.ofNat _] : List UInt8).length = 1 + 1 from rfl]
      rfl
  rw [if_neg h1]
  by_cases h2 : r = 10
  · subst h2
    rw [if_pos rfl, List.cons_append, List.cons_append, List.nil_append, unq_escape f _ 10 1 rfl]; rfl
  rw [if_neg h2]
  by_cases h3 : r = 9
  · subst h3
    rw [if_pos rfl, List.cons_append, List.cons_append, List.nil_append, unq_escape f _ 9 1 rfl]; rfl
  rw [if_neg h3]
  by_cases h4 : r < 32 ∨ r = 127
  · rw [if_pos h4, List.cons_append, List.cons_append]
    have he : esc (120 :: (numb r 2 ++ z)) = some (r, 3) := by
      rw [esc_cons, if_neg (by decide), if_neg (by decide), if_pos rfl, hexN2 r z (by omega)]
      simp only
      rw [if_pos (by omega)]
    rw [unq_escape f _ _ _ he]
    have hd : (120 :: (numb r 2 ++ z)).drop 3 = z := by rw [List.drop_succ_cons, List.drop_append_of_le_length (by rw [numb_len]; exact Nat.le_refl _), List.drop_of_length_le (by rw [numb_len]; exact Nat.le_refl _)]; rfl
    rw [hd]
    simp [numb_len]
  rw [if_neg h4]
  by_cases h5 : Wide r
  · rw [if_pos h5, List.cons_append, List.cons_append]
    have hb : r < 65536 := by unfold Wide at h5; omega
    have he : esc (117 :: (numb r 4 ++ z)) = some (r, 5) := by
      rw [esc_cons, if_neg (by decide), if_neg (by decide), if_neg (by decide), if_pos rfl, hexN4 r z hb]
      simp only
      rw [if_pos hr]
    rw [unq_escape f _ _ _ he]
    have hd : (117 :: (numb r 4 ++ z)).drop 5 = z := by rw [List.drop_succ_cons, List.drop_append_of_le_length (by rw [numb_len]; exact Nat.le_refl _), List.drop_of_length_le (by rw [numb_len]; exact Nat.le_refl _)]; rfl
    rw [hd]
    simp [numb_len]
  rw [if_neg h5]
  have hdec := dec_enc r z hr
  obtain ⟨c, t, hct⟩ : ∃ c t, enc r = c :: t := List.exists_cons_of_ne_nil (enc_ne r)
  have hh := dec_head c (t ++ z)
  rw [hct, List.cons_append] at hdec
  rw [hdec] at hh
  have hc : c ≠ 39 ∧ c ≠ 92 := by
    constructor
    · rintro rfl
      rcases hh with ⟨_, h⟩ | ⟨h, _⟩
      · injection h with h _; exact h1 (Or.inl h)
      · revert h; decide
    · rintro rfl
      rcases hh with ⟨_, h⟩ | ⟨h, _⟩
      · injection h with h _; exact h1 (Or.inr h)
      · revert h; decide
  rw [hct, List.cons_append]
  rw [unq, if_neg hc.1, if_neg hc.2, hdec, if_neg]
  · simp only
    rw [show (c :: (t ++ z)).drop (c :: t).length = z by rw [← List.cons_append, List.drop_left]]
    rw [← hct]
  · rintro (hb | hb | hb)
    · unfold Bad at hb
      rw [hdec] at hb
      obtain ⟨e1, e2⟩ := hb
      simp only at e1 e2
      subst e1
      rw [← hct, enc_fffd] at e2
      simp at e2
    · simp only at hb; omega
    · simp only at hb; omega

theorem unq_quotes : ∀ (rs : List Nat) (f : Nat) (z : List UInt8), (∀ r ∈ rs, Sc r) → rs.length < f → unq f 39 (rs.flatMap quotedL ++ 39 :: z) = some (encs rs, (rs.flatMap quotedL).length + 1)
  | [], f, z, _, h => by
    obtain ⟨f, rfl⟩ : ∃ g, f = g + 1 := ⟨f - 1, by simp at h; omega⟩
    simp [unq, encs]
  | r :: rs, f, z, hs, h => by
    obtain ⟨f, rfl⟩ : ∃ g, f = g + 1 := ⟨f - 1, by simp at h; omega⟩
    rw [List.flatMap_cons, List.append_assoc, unq_quoted f r _ (hs r (by simp)), unq_quotes rs f z (fun x hx => hs x (by simp [hx])) (by simp at h; omega)]
    simp [encs_cons]; omega

theorem unquote_quote_app (rs : List Nat) (z : List UInt8) (hs : ∀ r ∈ rs, Sc r) : unquote (quoteL rs ++ z) = some (encs rs, (quoteL rs).length) := by
  have hl := quoteds_len rs
  rw [quoteL_len]
  unfold quoteL unquote
  rw [List.cons_append]
  simp only
  rw [if_pos (Or.inl trivial), List.append_assoc, List.singleton_append, unq_quotes rs _ z hs (by simp only [List.length_cons, List.length_append]; omega)]
  simp only [Option.map_some]
  congr 2
  omega
theorem unquote_quoteL (rs : List Nat) (hs : ∀ r ∈ rs, Sc r) : unquote (quoteL rs) = some (encs rs, (quoteL rs).length) := by
  have := unquote_quote_app rs [] hs
  rwa [List.append_nil] at this
/-- unlike texts have unlike quotes. -/
theorem quoteL_inj (a b : List Nat) (ha : ∀ r ∈ a, Sc r) (hb : ∀ r ∈ b, Sc r) (h : quoteL a = quoteL b) : encs a = encs b := by
  have h1 := unquote_quoteL a ha
  have h2 := unquote_quoteL b hb
  rw [h, h2] at h1
  injection h1 with h1
  injection h1 with h1 _
  exact h1.symm
theorem quote_cut (rs : List Nat) (hs : ∀ r ∈ rs, Sc r) (n : Nat) (hn : n < (quoteL rs).length) : unquote ((quoteL rs).take n) = none :=
  unquote_cut _ _ n (unquote_quoteL rs hs) hn
end Go.Proofs.YtooamagefbhgdaaDoor
