/- A text that writes a number is what the number's text is, and what a number's text writes is the number (plain law). -/
import Derived.Test.YtegdbcnloodljaaDoorPar
namespace Go.Proofs.YtegdbcnloodljaaDoor
set_option linter.unusedVariables false
set_option linter.unusedSimpArgs false
open Go.RowKit Go.Shelf

/-- a text with no sign, one with a sign. -/
theorem rest_plain {s : ByteArray} (h : s.data.toList.head? ≠ some 45) : restS s = s ∧ negS s = false := by
  have : Lib.hasPrefix s.data.toList [45] = false := by
    rw [Lib.hasPrefix]
    cases hd : s.data.toList with
    | nil => rfl
    | cons c l =>
      rw [hd] at h
      simp only [List.head?_cons, ne_eq, Option.some.injEq] at h
      simp [List.isPrefixOf]
      exact fun e => h e.symm
  refine ⟨?_, this⟩
  rw [restS, Lib.trimPrefix, this]
  exact ByteArray.ext (Array.ext' (by simp))
theorem rest_sign {s : ByteArray} (h : s.data.toList.head? = some 45) : restS s = ⟨(s.data.toList.drop 1).toArray⟩ ∧ negS s = true := by
  have : Lib.hasPrefix s.data.toList [45] = true := by
    rw [Lib.hasPrefix]
    cases hd : s.data.toList with
    | nil => rw [hd] at h; simp at h
    | cons c l =>
      rw [hd] at h
      simp only [List.head?_cons, Option.some.injEq] at h
      subst h
      simp [List.isPrefixOf]
  refine ⟨?_, this⟩
  rw [restS, Lib.trimPrefix, this, if_pos rfl]; rfl

theorem ba_ext {s t : ByteArray} (h : s.data.toList = t.data.toList) : s = t := ByteArray.ext (Array.ext' h)
/-- what a good text is. -/
theorem okS_out {s : ByteArray} (h : okS s = true) : restS s ≠ ⟨#[]⟩ ∧ (∀ c ∈ (restS s).data.toList, isD c = true) ∧ ((restS s).data.toList.head? ≠ some 48 ∨ s = ⟨#[48]⟩) := by
  rw [okS] at h
  simp only [Bool.and_eq_true, Bool.not_eq_true', Bool.and_eq_false_iff, decide_eq_true_eq, decide_eq_false_iff_not, List.all_eq_true] at h
  obtain ⟨⟨h1, h2⟩, h3⟩ := h
  refine ⟨h1, h2, ?_⟩
  rcases h3 with h3 | h3
  · exact Or.inl h3
  · exact Or.inr (Classical.not_not.1 h3)
theorem keepO_some {X Y : Int} (h : keepO X = some Y) : Y = X := by
  rw [keepO] at h
  split at h
  · cases h
  · injection h with h; exact h.symm
theorem decB_zero : decB 0 = [] := rfl
/-- a text that is read is the number's text. -/
theorem text_par {s : ByteArray} {X : Int} (h : parO s = some X) : textL X = s.data.toList := by
  cases hk : okS s with
  | false => rw [(par_bad hk).1] at h; cases h
  | true =>
    rw [(par_good hk).1] at h
    have hX := keepO_some h
    obtain ⟨h1, h2, h3⟩ := okS_out hk
    have hne : (restS s).data.toList ≠ [] := fun e => h1 (ba_ext (by rw [e]))
    by_cases hs : s.data.toList.head? = some 45
    · obtain ⟨r1, r2⟩ := rest_sign hs
      have h48 : (restS s).data.toList.head? ≠ some 48 := by
        rcases h3 with h3 | h3
        · exact h3
        · rw [h3] at hs; exact absurd hs (by decide)
      have er : (restS s).data.toList = s.data.toList.drop 1 := by rw [r1]
      rw [valS, r2, if_pos rfl] at hX
      generalize hR : (restS s).data.toList = R at *
      cases R with
      | nil => exact absurd rfl hne
      | cons c d =>
        have hc : c ≠ 48 := fun e => h48 (by rw [e]; rfl)
        have hd := decB_decVal c d h2 hc
        have hv : decVal (c :: d) ≠ 0 := fun e => by rw [e, decB_zero] at hd; cases hd
        rw [hX, textL, if_neg (by omega), if_pos (by omega), Int.natAbs_neg, Int.natAbs_natCast, hd, er]
        cases hl : s.data.toList with
        | nil => rw [hl] at hs; cases hs
        | cons x l =>
          rw [hl] at hs
          injection hs with hs
          rw [hs]; rfl
    · obtain ⟨r1, r2⟩ := rest_plain hs
      rw [valS, r2, if_neg (by decide), r1] at hX
      rw [r1] at h2 h3 hne
      by_cases h0 : s = ⟨#[48]⟩
      · subst h0
        rw [hX]; rfl
      · have h48 := h3.resolve_right h0
        generalize hR : s.data.toList = R at *
        cases R with
        | nil => exact absurd rfl hne
        | cons c d =>
          have hc : c ≠ 48 := fun e => h48 (by rw [e]; rfl)
          have hd := decB_decVal c d h2 hc
          have hv : decVal (c :: d) ≠ 0 := fun e => by rw [e, decB_zero] at hd; cases hd
          rw [hX, textL, if_neg (by omega), if_neg (by omega), Int.natAbs_natCast, hd]
theorem isD_ne {c : UInt8} (h : isD c = true) : c ≠ 45 := fun e => by rw [e] at h; exact absurd h (by decide)
/-- a number's text is read as the number, if it is not too long. -/
theorem par_text (X : Int) : parO ⟨(textL X).toArray⟩ = keepO X ∧ parE ⟨(textL X).toArray⟩ = ce (keepO X) := by
  obtain ⟨s, hs⟩ : ∃ s : ByteArray, (⟨(textL X).toArray⟩ : ByteArray) = s := ⟨_, rfl⟩
  have hl : s.data.toList = textL X := by rw [← hs]
  rw [hs]
  have hgo : okS s = true → valS s = X → parO s = keepO X ∧ parE s = ce (keepO X) := fun h1 h2 => by
    have := par_good h1
    rwa [h2] at this
  rw [textL] at hl
  by_cases h0 : X = 0
  · rw [if_pos h0] at hl
    have : s = ⟨#[48]⟩ := ba_ext hl
    subst this
    exact hgo (by decide) (by rw [h0]; decide)
  · rw [if_neg h0] at hl
    obtain ⟨c, d, hd, hc⟩ := decB_head X.natAbs (by omega)
    have hdig := decB_digits X.natAbs
    have hval := decVal_decB X.natAbs
    rw [hd] at hl hdig hval
    by_cases hn : X < 0
    · rw [if_pos hn] at hl
      obtain ⟨r1, r2⟩ := rest_sign (s := s) (by rw [hl]; rfl)
      have er : (restS s).data.toList = c :: d := by rw [r1, hl]; rfl
      refine hgo ?_ ?_
      · rw [okS, er, decide_eq_true (show restS s ≠ ⟨#[]⟩ from fun e => by rw [e] at er; cases er), List.all_eq_true.2 hdig, decide_eq_false (show ¬ ((c :: d).head? = some 48) from fun e => hc (by injection e))]
        rfl
      · rw [valS, r2, if_pos rfl, er, hval]; omega
    · rw [if_neg hn] at hl
      obtain ⟨r1, r2⟩ := rest_plain (s := s) (by rw [hl]; exact fun e => isD_ne (hdig c (List.mem_cons_self ..)) (by injection e))
      have er : (restS s).data.toList = c :: d := by rw [r1, hl]
      refine hgo ?_ ?_
      · rw [okS, er, decide_eq_true (show restS s ≠ ⟨#[]⟩ from fun e => by rw [e] at er; cases er), List.all_eq_true.2 hdig, decide_eq_false (show ¬ ((c :: d).head? = some 48) from fun e => hc (by injection e))]
        rfl
      · rw [valS, r2, if_neg (by decide), er, hval]; omega
end Go.Proofs.YtegdbcnloodljaaDoor
