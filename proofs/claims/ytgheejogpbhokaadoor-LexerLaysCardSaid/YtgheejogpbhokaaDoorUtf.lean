/- Plain facts on UTF-8, over lists of bytes: what a rune's bytes decode to, whatever follows; the runes of a text; when they make the text again. No program in sight. -/
import Derived.Lib.MapLaws
import Derived.Lib.TrimUEq
import Derived.Lib.ValidLaws
import Derived.Lib.RuneBytes
import Derived.Lib.TrimAscii
import Derived.Laws.RangeAny
namespace Go.Proofs.YtgheejogpbhokaaDoor
set_option linter.unusedVariables false
set_option linter.unusedSimpArgs false
open Go.Lib
set_option maxRecDepth 1000000

/-- a rune's bytes. -/
def enc (r : Nat) : List UInt8 := (Utf8.encode (r : Int)).data.toList
/-- a scalar value. -/
def Sc (r : Nat) : Prop := r < 55296 ∨ (57344 ≤ r ∧ r ≤ 1114111)
instance (r : Nat) : Decidable (Sc r) := by unfold Sc; infer_instance

theorem valid_of (r : Nat) (h : Sc r) : Utf8.valid (r : Int) = true := by
  unfold Sc at h; simp [Utf8.valid]; omega
theorem valid_not (r : Nat) (h : ¬ Sc r) : Utf8.valid (r : Int) = false := by
  unfold Sc at h; simp [Utf8.valid]; omega
theorem enc1 (r : Nat) (c1 : r < 128) : enc r = [UInt8.ofNat r] := by
  have v : Utf8.valid (r : Int) = true := valid_of r (by unfold Sc; omega)
  simp [enc, Utf8.encode, v, c1]
theorem enc2 (r : Nat) (c1 : ¬ r < 128) (c2 : r < 2048) : enc r = [UInt8.ofNat (192 + r / 64), UInt8.ofNat (128 + r % 64)] := by
  have v : Utf8.valid (r : Int) = true := valid_of r (by unfold Sc; omega)
  simp [enc, Utf8.encode, v, c1, c2]
theorem enc3 (r : Nat) (c2 : ¬ r < 2048) (c3 : r < 65536) (hv : Sc r) : enc r = [UInt8.ofNat (224 + r / 4096), UInt8.ofNat (128 + r / 64 % 64), UInt8.ofNat (128 + r % 64)] := by
  have v : Utf8.valid (r : Int) = true := valid_of r hv
  have c1 : ¬ r < 128 := by omega
  simp [enc, Utf8.encode, v, c1, c2, c3]
theorem enc4 (r : Nat) (c3 : ¬ r < 65536) (hv : Sc r) : enc r = [UInt8.ofNat (240 + r / 262144), UInt8.ofNat (128 + r / 4096 % 64), UInt8.ofNat (128 + r / 64 % 64), UInt8.ofNat (128 + r % 64)] := by
  have v : Utf8.valid (r : Int) = true := valid_of r hv
  have c1 : ¬ r < 128 := by omega
  have c2 : ¬ r < 2048 := by omega
  simp [enc, Utf8.encode, v, c1, c2, c3]
theorem encBad (r : Nat) (h : ¬ Sc r) : enc r = [239, 191, 189] := by
  simp [enc, Utf8.encode, valid_not r h, Utf8.runeError]

theorem toB (n : Nat) (h : n < 256) : (UInt8.ofNat n).toNat = n := by simp; omega

theorem enc_len (r : Nat) : 1 ≤ (enc r).length ∧ (enc r).length ≤ 4 := by
  by_cases hv : Sc r
  · by_cases c1 : r < 128
    · simp [enc1 r c1]
    by_cases c2 : r < 2048
    · simp [enc2 r c1 c2]
    by_cases c3 : r < 65536
    · simp [enc3 r c2 c3 hv]
    · simp [enc4 r c3 hv]
  · simp [encBad r hv]
theorem enc_ne (r : Nat) : enc r ≠ [] := by
  have := (enc_len r).1
  intro h; rw [h] at this; simp at this

/-- A scalar value's bytes decode to it, whatever follows. -/
theorem dec_enc (r : Nat) (t : List UInt8) (hv : Sc r) : decodeL (enc r ++ t) = (r, (enc r).length) := by
  rw [decodeL_N]
  by_cases c1 : r < 128
  · rw [enc1 r c1]
    have h1 := toB r (by omega)
    simp only [List.cons_append, List.nil_append, List.getD_cons_zero, h1, decodeN, if_pos c1]
    rfl
  by_cases c2 : r < 2048
  · rw [enc2 r c1 c2]
    have h1 := toB (192 + r / 64) (by omega)
    have h2 := toB (128 + r % 64) (by omega)
    simp only [List.cons_append, List.nil_append, List.getD_cons_zero, List.getD_cons_succ, List.length_cons, h1, h2, decodeN, List.length_nil]
    rw [if_neg (by omega), if_pos (by omega), if_pos (by omega)]
    simp; omega
  by_cases c3 : r < 65536
  · rw [enc3 r c2 c3 hv]
    have h1 := toB (224 + r / 4096) (by omega)
    have h2 := toB (128 + r / 64 % 64) (by omega)
    have h3 := toB (128 + r % 64) (by omega)
    have e : (224 + r / 4096) % 16 * 4096 + (128 + r / 64 % 64) % 64 * 64 + (128 + r % 64) % 64 = r := by omega
    unfold Sc at hv
    simp only [List.cons_append, List.nil_append, List.getD_cons_zero, List.getD_cons_succ, List.length_cons, h1, h2, h3, decodeN, List.length_nil, e]
    rw [if_neg (by omega), if_neg (by omega), if_pos (by omega), if_pos (by omega)]
  · rw [enc4 r c3 hv]
    unfold Sc at hv
    have h1 := toB (240 + r / 262144) (by omega)
    have h2 := toB (128 + r / 4096 % 64) (by omega)
    have h3 := toB (128 + r / 64 % 64) (by omega)
    have h4 := toB (128 + r % 64) (by omega)
    have e : (240 + r / 262144) % 8 * 262144 + (128 + r / 4096 % 64) % 64 * 4096 + (128 + r / 64 % 64) % 64 * 64 + (128 + r % 64) % 64 = r := by omega
    simp only [List.cons_append, List.nil_append, List.getD_cons_zero, List.getD_cons_succ, List.length_cons, h1, h2, h3, h4, decodeN, List.length_nil, e]
    rw [if_neg (by omega), if_neg (by omega), if_neg (by omega), if_pos (by omega), if_pos (by omega)]

theorem dec_sc (l : List UInt8) : Sc (decodeL l).1 := by
  rw [decodeL_N]
  have h0 := (l.getD 0 0).toNat_lt; have h1 := (l.getD 1 0).toNat_lt
  generalize (l.getD 0 0).toNat = a at *
  generalize (l.getD 1 0).toNat = b at *
  generalize (l.getD 2 0).toNat = c at *
  generalize (l.getD 3 0).toNat = d at *
  unfold decodeN Sc
  repeat' split
  all_goals simp only
  all_goals omega

/-- the bad byte's sign. -/
def Bad (l : List UInt8) : Prop := (decodeL l).1 = 65533 ∧ (decodeL l).2 = 1
instance (l : List UInt8) : Decidable (Bad l) := by unfold Bad; infer_instance

theorem enc_Z (r : Nat) : enc r = encodeRune (r : Int) := by
  by_cases hv : Sc r
  · by_cases c1 : r < 128
    · rw [enc1 r c1, encodeRune, encodeRuneZ_one (by omega) (by omega)]; simp
    by_cases c2 : r < 2048
    · rw [enc2 r c1 c2, encodeRune, encodeRuneZ_two (by omega) (by omega)]
      simp only [List.map_cons, List.map_nil]
      congr 1
    by_cases c3 : r < 65536
    · unfold Sc at hv
      rw [enc3 r c2 c3 hv, encodeRune, encodeRuneZ_three (by omega)]
      simp only [List.map_cons, List.map_nil]
      congr 1
    · unfold Sc at hv
      rw [enc4 r c3 hv, encodeRune, encodeRuneZ_four (by omega) (by omega)]
      simp only [List.map_cons, List.map_nil]
      congr 1
  · rw [encBad r hv, encodeRune, encodeRuneZ_bad (by unfold Sc at hv; omega)]
    rfl

theorem enc_dec (l : List UInt8) (hne : l ≠ []) (hb : ¬ Bad l) : enc (decodeL l).1 = l.take (decodeL l).2 := by
  rw [enc_Z]; exact encode_decode l hne hb
theorem enc_fffd : enc 65533 = [239, 191, 189] := by rfl

/-- a good head stands whatever follows. -/
theorem dec_app (l z : List UInt8) (hne : l ≠ []) (hb : ¬ Bad l) : decodeL (l ++ z) = decodeL l := by
  have e := enc_dec l hne hb
  have hs := dec_sc l
  have hle := decodeL_le l hne
  have h1 : l = enc (decodeL l).1 ++ l.drop (decodeL l).2 := by rw [e, List.take_append_drop]
  have h2 := dec_enc (decodeL l).1 (l.drop (decodeL l).2 ++ z) hs
  rw [← List.append_assoc, ← h1] at h2
  rw [h2, e, List.length_take, Nat.min_eq_left hle]

/-! ### the runes of a text -/
def pc : Nat → List UInt8 → List Nat
  | 0, _ => []
  | f + 1, l => if l = [] then [] else (decodeL l).1 :: pc f (l.drop (decodeL l).2)
def pieces (l : List UInt8) : List Nat := pc l.length l
def encs (rs : List Nat) : List UInt8 := rs.flatMap enc

theorem pc_nil : ∀ f, pc f [] = [] := by intro f; cases f <;> simp [pc]
theorem pc_fuel : ∀ (f g : Nat) (l : List UInt8), l.length ≤ f → l.length ≤ g → pc f l = pc g l
  | 0, g, l, h, _ => by
    have : l = [] := List.length_eq_zero_iff.1 (by omega)
    rw [this, pc_nil, pc_nil]
  | f + 1, 0, l, _, h => by
    have : l = [] := List.length_eq_zero_iff.1 (by omega)
    rw [this, pc_nil, pc_nil]
  | f + 1, g + 1, l, hf, hg => by
    simp only [pc]
    by_cases hne : l = []
    · simp [hne]
    · have hw := decodeL_width l
      rw [if_neg hne, if_neg hne, pc_fuel f g _ (by rw [List.length_drop]; omega) (by rw [List.length_drop]; omega)]
theorem pieces_nil : pieces [] = [] := rfl
theorem pieces_step (l : List UInt8) (hne : l ≠ []) : pieces l = (decodeL l).1 :: pieces (l.drop (decodeL l).2) := by
  have hl : 0 < l.length := List.length_pos_iff.2 hne
  have hw := decodeL_width l
  obtain ⟨n, hn⟩ : ∃ n, l.length = n + 1 := ⟨l.length - 1, by omega⟩
  unfold pieces
  rw [hn]
  show (if l = [] then [] else _) = _
  rw [if_neg hne, pc_fuel n (l.drop (decodeL l).2).length _ (by rw [List.length_drop]; omega) (Nat.le_refl _)]

theorem encs_nil : encs [] = [] := rfl
theorem encs_cons (r : Nat) (rs : List Nat) : encs (r :: rs) = enc r ++ encs rs := rfl
theorem encs_append (a b : List Nat) : encs (a ++ b) = encs a ++ encs b := by simp [encs]

/-- induction along the runes. -/
theorem rune_ind {p : List UInt8 → Prop} (h0 : p []) (hs : ∀ l, l ≠ [] → p (l.drop (decodeL l).2) → p l) : ∀ l, p l := by
  have : ∀ (n : Nat) (l : List UInt8), l.length ≤ n → p l := by
    intro n
    induction n with
    | zero => intro l h; rw [List.length_eq_zero_iff.1 (by omega : l.length = 0)]; exact h0
    | succ n ih =>
      intro l h
      by_cases hne : l = []
      · rw [hne]; exact h0
      · have hw := decodeL_width l
        have hl : 0 < l.length := List.length_pos_iff.2 hne
        exact hs l hne (ih _ (by rw [List.length_drop]; omega))
  exact fun l => this l.length l (Nat.le_refl _)

theorem pieces_sc : ∀ l, ∀ r ∈ pieces l, Sc r := by
  apply rune_ind
  · intro r h; simp [pieces_nil] at h
  · intro l hne ih r h
    rw [pieces_step l hne] at h
    rcases List.mem_cons.1 h with rfl | h
    · exact dec_sc l
    · exact ih r h

theorem pieces_len : ∀ l, (pieces l).length ≤ l.length := by
  apply rune_ind
  · simp [pieces_nil]
  · intro l hne ih
    have hw := decodeL_width l
    have hle := decodeL_le l hne
    rw [List.length_drop] at ih
    rw [pieces_step l hne, List.length_cons]
    omega

theorem encs_len : ∀ l, l.length ≤ (encs (pieces l)).length := by
  apply rune_ind
  · simp
  · intro l hne ih
    have hle := decodeL_le l hne
    rw [List.length_drop] at ih
    rw [pieces_step l hne, encs_cons, List.length_append]
    by_cases hb : Bad l
    · rw [hb.1, enc_fffd]
      have := hb.2
      simp
      omega
    · rw [enc_dec l hne hb, List.length_take]
      omega

theorem good_iff : ∀ l, (encs (pieces l) = l ↔ validD l = true) := by
  apply rune_ind
  · simp [pieces_nil, encs_nil, validD_nil]
  · intro l hne ih
    have hle := decodeL_le l hne
    rw [validD_step l hne, pieces_step l hne, encs_cons]
    by_cases hb : Bad l
    · rw [if_pos (show (decodeL l).1 = 65533 ∧ (decodeL l).2 = 1 from hb)]
      constructor
      · intro h
        exfalso
        have h1 := congrArg List.length h
        have h2 := encs_len (l.drop (decodeL l).2)
        rw [List.length_drop] at h2
        rw [hb.1, enc_fffd, List.length_append] at h1
        have := hb.2
        simp at h1
        omega
      · simp
    · rw [if_neg (show ¬ ((decodeL l).1 = 65533 ∧ (decodeL l).2 = 1) from hb), ← ih]
      rw [enc_dec l hne hb]
      constructor
      · intro h
        have : l.take (decodeL l).2 ++ encs (pieces (l.drop (decodeL l).2)) = l.take (decodeL l).2 ++ l.drop (decodeL l).2 := by rw [h, List.take_append_drop]
        exact List.append_cancel_left this
      · intro h; rw [h, List.take_append_drop]

theorem pieces_encs : ∀ rs : List Nat, (∀ r ∈ rs, Sc r) → pieces (encs rs) = rs
  | [], _ => rfl
  | r :: rs, h => by
    have hne : encs (r :: rs) ≠ [] := by
      rw [encs_cons]; intro h; exact enc_ne r (List.append_eq_nil_iff.1 h).1
    rw [pieces_step _ hne, encs_cons, dec_enc r _ (h r (by simp))]
    rw [List.drop_left, pieces_encs rs (fun x hx => h x (by simp [hx]))]

theorem pieces_one (x : List UInt8) (r : Nat) (h : pieces x = [r]) (he : enc r = x) : decodeL x = (r, x.length) ∧ Sc r := by
  have hs := pieces_sc x r (by rw [h]; simp)
  have h2 := dec_enc r [] hs
  rw [List.append_nil, he] at h2
  exact ⟨h2, hs⟩

/-- how many bytes the rune at the head has; 0: none. -/
def widthV (l : List UInt8) : Nat := if l = [] ∨ Bad l then 0 else (decodeL l).2

/-- the first n bytes are one rune: n is the width. -/
theorem width_at (l : List UInt8) (n : Nat) (hn : 1 ≤ n) (hnl : n ≤ l.length) :
    ((pieces (l.take n)).length = 1 ∧ encs (pieces (l.take n)) = l.take n) ↔ (¬ Bad l ∧ n = (decodeL l).2) := by
  have hne : l ≠ [] := by intro h; rw [h] at hnl; simp at hnl; omega
  constructor
  · rintro ⟨h1, h2⟩
    obtain ⟨r, hr⟩ := List.length_eq_one_iff.1 h1
    rw [hr, encs_cons, encs_nil, List.append_nil] at h2
    obtain ⟨h3, h4⟩ := pieces_one _ r hr h2
    have h5 := dec_enc r (l.drop n) h4
    rw [h2, List.take_append_drop, List.length_take, Nat.min_eq_left hnl] at h5
    refine ⟨?_, by rw [h5]⟩
    rintro ⟨hb1, hb2⟩
    rw [h5] at hb1 hb2
    simp only at hb1 hb2
    have := congrArg List.length h2
    rw [hb1, enc_fffd, List.length_take, Nat.min_eq_left hnl, hb2] at this
    simp at this
  · rintro ⟨hb, rfl⟩
    have e := enc_dec l hne hb
    rw [← e]
    have := pieces_encs [(decodeL l).1] (by intro r hr; simp at hr; rw [hr]; exact dec_sc l)
    rw [encs_cons, encs_nil, List.append_nil] at this
    rw [this]
    simp [encs_cons, encs_nil]

/-- the first byte tells whether the rune is below 128. -/
theorem dec_head (b : UInt8) (t : List UInt8) : (b.toNat < 128 ∧ decodeL (b :: t) = (b.toNat, 1)) ∨ (128 ≤ b.toNat ∧ 128 ≤ (decodeL (b :: t)).1) := by
  by_cases h : b.toNat < 128
  · exact Or.inl ⟨h, decodeL_ascii b t h⟩
  · refine Or.inr ⟨by omega, ?_⟩
    have hz : 0 < (⟨(b :: t).toArray⟩ : ByteArray).size := by simp [ByteArray.size]
    exact (decode_high (⟨(b :: t).toArray⟩ : ByteArray) 0 hz (by show 128 ≤ ((b :: t).toArray[0]).toNat; simp; omega)).1
end Go.Proofs.YtgheejogpbhokaaDoor
