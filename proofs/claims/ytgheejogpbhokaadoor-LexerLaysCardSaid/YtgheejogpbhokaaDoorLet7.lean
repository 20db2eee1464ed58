/- Both Unquotes, whole. -/
import Derived.Test.YtgheejogpbhokaaDoorLet6
namespace Go.Proofs.YtgheejogpbhokaaDoor
set_option linter.unusedVariables false
set_option linter.unusedSimpArgs false
open Go.RowKit Go.Shelf
set_option maxRecDepth 1000000

theorem unquote_nil (s : ByteArray) (h : s.size = 0) : unquote s.data.toList = none := by
  rw [List.eq_nil_of_length_eq_zero (l := s.data.toList) (by simpa using h)]; rfl
theorem unquote_off (s : ByteArray) (h : 0 < s.size) (h1 : s[0] ≠ 39) (h2 : s[0] ≠ 34) : unquote s.data.toList = none := by
  rw [bytes_cons s h, unquote, if_neg (by rintro (e | e); exact h1 e; exact h2 e)]
theorem unquote_on (s : ByteArray) (h : 0 < s.size) (q : UInt8) (hq : s[0] = q) (hq2 : q = 39 ∨ q = 34) : unquote s.data.toList = comb [] 1 (unq s.size q (s.data.toList.drop 1)) := by
  have e : s.size = s.data.toList.length := by simp
  rw [e, bytes_cons s h, unquote, if_pos (by rw [hq]; exact hq2), hq]
  rw [List.drop_succ_cons, List.drop_zero]
  cases unq (q :: s.data.toList.drop 1).length q (s.data.toList.drop 1) with
  | none => rfl
  | some x => simp [comb]

theorem unquote_ok (s : ByteArray) (w : World) (hs : s.size ≤ 1099511627776) (hT : Lib.Utf8Tabs 1 2 w) :
    Calls Tryd.prog 51 #[.string s] w fun e w' => e = .returned (unqR (unquote s.data.toList)) ∧ Below w.heap.size w w' := by
  by_cases h : s.size = 0
  · rw [unquote_nil s h]; exact unquote_short s w h
  · have h : 0 < s.size := Nat.pos_of_ne_zero h
    by_cases h1 : s[0] = 39 ∨ s[0] = 34
    · exact unquote_quote s _ w hs hT h rfl h1 _ (unquote_on s h _ rfl h1)
    · rw [unquote_off s h (fun e => h1 (Or.inl e)) (fun e => h1 (Or.inr e))]
      exact unquote_other s w h (fun e => h1 (Or.inl e)) (fun e => h1 (Or.inr e))

theorem refUnquote_short (s : ByteArray) (w : World) (h : s.size = 0) :
    Calls Tryd.prog 33 #[.string s] w fun e w' => e = .returned (unqR none) ∧ Below w.heap.size w w' := by
  have hse : s.toList.isEmpty = true := by rw [Lib.toList_data, List.eq_nil_of_length_eq_zero (l := s.data.toList) (by simpa using h)]; rfl
  go_enter Tryd.func33, Tryd.ntmps33
  go_wp2
  go_ret3
  exact ⟨rfl, Below.refl _ _⟩
theorem refUnquote_other (s : ByteArray) (w : World) (h : 0 < s.size) (h1 : s[0] ≠ 39) (h2 : s[0] ≠ 34) :
    Calls Tryd.prog 33 #[.string s] w fun e w' => e = .returned (unqR none) ∧ Below w.heap.size w w' := by
  have hse : s.toList.isEmpty = false := by rw [Lib.toList_data, bytes_cons s h]; rfl
  have ne : ∀ k : UInt8, s[0] ≠ k → s[0].toNat ≠ k.toNat := fun k h e => h (UInt8.toNat_inj.1 e)
  have d1 : ¬ s[0].toNat = 39 := ne 39 h1
  have d2 : ¬ s[0].toNat = 34 := ne 34 h2
  obtain ⟨k, hk⟩ : ∃ k, s[0].toNat = k := ⟨_, rfl⟩
  rw [hk] at d1 d2
  have b1 : ((k : Int) != 39) = true := by simp; omega
  have b2 : ((k : Int) != 34) = true := by simp; omega
  clear ne h1 h2 d1 d2
  go_enter Tryd.func33, Tryd.ntmps33
  go_wp2
  go_ret3
  exact ⟨rfl, Below.refl _ _⟩
theorem refUnquote_ok (s : ByteArray) (w : World) (hs : s.size ≤ 1099511627776) :
    Calls Tryd.prog 33 #[.string s] w fun e w' => e = .returned (unqR (unquote s.data.toList)) ∧ Below w.heap.size w w' := by
  by_cases h : s.size = 0
  · rw [unquote_nil s h]; exact refUnquote_short s w h
  · have h : 0 < s.size := Nat.pos_of_ne_zero h
    by_cases h1 : s[0] = 39 ∨ s[0] = 34
    · exact refUnquote_quote s _ w hs h rfl h1 _ (unquote_on s h _ rfl h1)
    · rw [unquote_off s h (fun e => h1 (Or.inl e)) (fun e => h1 (Or.inr e))]
      exact refUnquote_other s w h (fun e => h1 (Or.inl e)) (fun e => h1 (Or.inr e))

end Go.Proofs.YtgheejogpbhokaaDoor
