/- Both Unquotes, whole; awake; the walk of the law LettersUnquote. -/
import Derived.Test.YtooamagefbhgdaaDoorLet6
namespace Go.Proofs.YtooamagefbhgdaaDoor
open Go.RowKit Go.Shelf
set_option maxRecDepth 1000000

theorem unquote_nil (s : ByteArray) (h : s.size = 0) : unquote s.data.toList = none := by
  rw [List.eq_nil_of_length_eq_zero (l := s.data.toList) (by simpa using h)]; rfl
theorem unquote_off (s : ByteArray) (h : 0 < s.size) (h1 : s[0] ≠ 39) (h2 : s[0] ≠ 34) : unquote s.data.toList = none := by
  rw [bytes_cons s h, unquote, if_neg (by rintro (e | e); exact h1 e; exact h2 e)]
theorem unquote_on (s : ByteArray) (h : 0 < s.size) (q : UInt8) (hq : s[0] = q) (hq2 : q = 39 ∨ q = 34) : unquote s.data.toList = comb [] 1 (unq s.size q (s.data.toList.drop 1)) := by
  have e : s.size = s.data.toList.length := by simp
  rw [e, bytes_cons s h, unquote, if_pos (by rw [hq]; exact hq2), hq]
  rw [List.drop_succ_cons, List.drop_zero]
  cases unq (q :: s.data.toList.drop 1).length q (s.data.toList.drop 1) with
  | none => rfl
  | some x => simp [comb]

theorem unquote_ok (s : ByteArray) (w : World) (hs : s.size ≤ 1099511627776) (hT : Lib.Utf8Tabs 0 1 w) :
    Calls Tryd.prog 10 #[.string s] w fun e w' => e = .returned (unqR (unquote s.data.toList)) ∧ Below w.heap.size w w' := by
  by_cases h : s.size = 0
  · rw [unquote_nil s h]; exact unquote_short s w h
  · have h : 0 < s.size := Nat.pos_of_ne_zero h
    by_cases h1 : s[0] = 39 ∨ s[0] = 34
    · exact unquote_quote s _ w hs hT h rfl h1 _ (unquote_on s h _ rfl h1)
    · rw [unquote_off s h (fun e => h1 (Or.inl e)) (fun e => h1 (Or.inr e))]
      exact unquote_other s w h (fun e => h1 (Or.inl e)) (fun e => h1 (Or.inr e))

theorem refUnquote_short (s : ByteArray) (w : World) (h : s.size = 0) :
    Calls Tryd.prog 11 #[.string s] w fun e w' => e = .returned (unqR none) ∧ Below w.heap.size w w' := by
  have hse : s.toList.isEmpty = true := by rw [Lib.toList_data, List.eq_nil_of_length_eq_zero (l := s.data.toList) (by simpa using h)]; rfl
  go_enter Tryd.func11, Tryd.ntmps11
  go_wp2
  go_ret3
  exact ⟨rfl, Below.refl _ _⟩
theorem refUnquote_other (s : ByteArray) (w : World) (h : 0 < s.size) (h1 : s[0] ≠ 39) (h2 : s[0] ≠ 34) :
    Calls Tryd.prog 11 #[.string s] w fun e w' => e = .returned (unqR none) ∧ Below w.heap.size w w' := by
  have hse : s.toList.isEmpty = false := by rw [Lib.toList_data, bytes_cons s h]; rfl
  have ne : ∀ k : UInt8, s[0] ≠ k → s[0].toNat ≠ k.toNat := fun k h e => h (UInt8.toNat_inj.1 e)
  have d1 : ¬ s[0].toNat = 39 := ne 39 h1
  have d2 : ¬ s[0].toNat = 34 := ne 34 h2
  obtain ⟨k, hk⟩ : ∃ k, s[0].toNat = k := ⟨_, rfl⟩
  rw [hk] at d1 d2
  have b1 : ((k : Int) != 39) = true := by simp; omega
  have b2 : ((k : Int) != 34) = true := by simp; omega
  clear ne h1 h2 d1 d2
  go_enter Tryd.func11, Tryd.ntmps11
  go_wp2
  go_ret3
  exact ⟨rfl, Below.refl _ _⟩
theorem refUnquote_ok (s : ByteArray) (w : World) (hs : s.size ≤ 1099511627776) :
    Calls Tryd.prog 11 #[.string s] w fun e w' => e = .returned (unqR (unquote s.data.toList)) ∧ Below w.heap.size w w' := by
  by_cases h : s.size = 0
  · rw [unquote_nil s h]; exact refUnquote_short s w h
  · have h : 0 < s.size := Nat.pos_of_ne_zero h
    by_cases h1 : s[0] = 39 ∨ s[0] = 34
    · exact refUnquote_quote s _ w hs h rfl h1 _ (unquote_on s h _ rfl h1)
    · rw [unquote_off s h (fun e => h1 (Or.inl e)) (fun e => h1 (Or.inr e))]
      exact refUnquote_other s w h (fun e => h1 (Or.inl e)) (fun e => h1 (Or.inr e))

theorem awake_any (w : World) (hT : Lib.Utf8Tabs 0 1 w) : Calls Tryd.prog 9 #[] w fun e w' => e = .returned (.bool true) ∧ Below w.heap.size w w' := by
  have hu := fun wx h => unquote_ok ⟨#[39, 97, 92, 110, 39, 122]⟩ wx (by decide) h
  have hv : unquote (⟨#[39, 97, 92, 110, 39, 122]⟩ : ByteArray).data.toList = some ([97, 10], 5) := by rfl
  rw [hv] at hu
  simp only [unqR] at hu
  go_enter Tryd.func9, Tryd.ntmps9
  go_wp2_with (go_at_call 10; refine (hu _ hT).mono ?_; rintro e w1 ⟨rfl, hb1⟩)
  go_ret
  exact ⟨rfl, hb1⟩

theorem lawUnquote_any (s : ByteArray) (w : World) (hs : s.size ≤ maxLen) (hT : Lib.Utf8Tabs 0 1 w) : Calls Tryd.prog 3 #[.string s] w fun e w' => e = .returned (.bool true) ∧ Below w.heap.size w w' := by
  unfold maxLen at hs
  have ha := fun wx h => awake_any wx h
  by_cases h : s.size ≤ 3000
  · have hB : Below w.heap.size w w := Below.refl _ _
    have hu := fun wx h => unquote_ok s wx (by omega) h
    have hr := fun wx => refUnquote_ok s wx (by omega)
    cases hx : unquote s.data.toList with
    | none =>
      rw [hx] at hu hr
      simp only [unqR] at hu hr
      go_enter Tryd.func3, Tryd.ntmps3
      go_wp2_with (first
        | (go_at_call 10; refine (hu _ hT).mono ?_; rintro e w1 ⟨rfl, hb1⟩; have hB := hB.trans (hb1.mono hB.size); have hT := Utf8Tabs_below hT hB)
        | (go_at_call 11; refine (hr _).mono ?_; rintro e w1 ⟨rfl, hb1⟩; have hB := hB.trans (hb1.mono hB.size); have hT := Utf8Tabs_below hT hb1)
        | (go_at_call 9; refine (ha _ hT).mono ?_; rintro e w1 ⟨rfl, hb1⟩; have hB := hB.trans (hb1.mono hB.size)))
      go_ret
      exact ⟨rfl, hB⟩
    | some x =>
      obtain ⟨l, n⟩ := x
      have hn := unquote_len _ _ hx
      rw [hx] at hu hr
      simp only [unqR] at hu hr
      obtain ⟨T, hTe⟩ : ∃ T : ByteArray, (⟨l.toArray⟩ : ByteArray) = T := ⟨_, rfl⟩
      rw [hTe] at hu hr
      have e1 : (T.toList == T.toList) = true := by simp
      have e2 : ((n : Int) == (n : Int)) = true := by simp
      clear hx hTe hn
      go_enter Tryd.func3, Tryd.ntmps3
      go_wp2_with (first
        | (go_at_call 10; refine (hu _ hT).mono ?_; rintro e w1 ⟨rfl, hb1⟩; have hB := hB.trans (hb1.mono hB.size); have hT := Utf8Tabs_below hT hB)
        | (go_at_call 11; refine (hr _).mono ?_; rintro e w1 ⟨rfl, hb1⟩; have hB := hB.trans (hb1.mono hB.size); have hT := Utf8Tabs_below hT hb1)
        | (go_at_call 9; refine (ha _ hT).mono ?_; rintro e w1 ⟨rfl, hb1⟩; have hB := hB.trans (hb1.mono hB.size)))
      go_ret
      exact ⟨rfl, hB⟩
  · go_enter Tryd.func3, Tryd.ntmps3
    go_wp2_with (go_at_call 9; refine (ha _ hT).mono ?_; rintro e w1 ⟨rfl, hb1⟩)
    go_ret
    exact ⟨rfl, hb1⟩
end Go.Proofs.YtooamagefbhgdaaDoor
