/- letters.quoted: how a rune stands in quotes. -/
import Derived.Test.YtooamagefbhgdaaDoorNumb
namespace Go.Proofs.YtooamagefbhgdaaDoor
open Go.RowKit Go.Shelf
set_option maxRecDepth 1000000

theorem str_eq {a b : ByteArray} (h : a.data.toList = b.data.toList) : a = b := ByteArray.ext (Array.ext' h)
theorem str_of (l : List UInt8) : (⟨l.toArray⟩ : ByteArray).data.toList = l := by simp
theorem str_app (a b : ByteArray) : (a ++ b).data.toList = a.data.toList ++ b.data.toList := by simp [ByteArray.data_append]

set_option maxHeartbeats 1000000 in
theorem quoted_ok (r : Nat) (hr : Sc r) (w : World) :
    Calls Tryd.prog 36 #[.int .i32 r] w fun e w' => e = .returned (.string ⟨(quotedL r).toArray⟩) ∧ Below w.heap.size w w' := by
  have hb : r ≤ 1114111 := by unfold Sc at hr; omega
  have hn2 := fun wx => numbered_ok r 2 (Or.inl rfl) hb wx
  have hn4 := fun wx => numbered_ok r 4 (Or.inr rfl) hb wx
  obtain ⟨X, hX⟩ : ∃ X, (⟨(quotedL r).toArray⟩ : ByteArray) = X := ⟨_, rfl⟩
  rw [hX]
  have hXl : X.data.toList = quotedL r := by rw [← hX, str_of]
  clear hX
  unfold quotedL at hXl
  by_cases h39 : r = 39
  · subst h39
    have HX := Lib.hid (show (⟨#[92]⟩ : ByteArray) ++ Utf8.encode 39 = X from str_eq (by rw [hXl, str_app]; rfl))
    clear hXl hn2 hn4
    go_enter Tryd.func36, Tryd.ntmps36
    go_wp2
    go_ret
    exact ⟨by rw [← HX.out]; rfl, Below.refl _ _⟩
  by_cases h92 : r = 92
  · subst h92
    have HX := Lib.hid (show (⟨#[92]⟩ : ByteArray) ++ Utf8.encode 92 = X from str_eq (by rw [hXl, str_app]; rfl))
    clear hXl hn2 hn4
    go_enter Tryd.func36, Tryd.ntmps36
    go_wp2
    go_ret
    exact ⟨by rw [← HX.out]; rfl, Below.refl _ _⟩
  rw [if_neg (by omega)] at hXl
  by_cases h10 : r = 10
  · subst h10
    have HX := Lib.hid (show (⟨#[92, 110]⟩ : ByteArray) = X from str_eq (by rw [hXl]; rfl))
    clear hXl hn2 hn4
    go_enter Tryd.func36, Tryd.ntmps36
    go_wp2
    go_ret
    exact ⟨by rw [← HX.out]; rfl, Below.refl _ _⟩
  rw [if_neg h10] at hXl
  by_cases h9 : r = 9
  · subst h9
    have HX := Lib.hid (show (⟨#[92, 116]⟩ : ByteArray) = X from str_eq (by rw [hXl]; rfl))
    clear hXl hn2 hn4
    go_enter Tryd.func36, Tryd.ntmps36
    go_wp2
    go_ret
    exact ⟨by rw [← HX.out]; rfl, Below.refl _ _⟩
  rw [if_neg h9] at hXl
  have b39 : ((r : Int) == 39) = false := beqI (b := 39) h39
  have b92 : ((r : Int) == 92) = false := beqI (b := 92) h92
  have b10 : ((r : Int) == 10) = false := beqI (b := 10) h10
  have b9 : ((r : Int) == 9) = false := beqI (b := 9) h9
  clear h39 h92 h10 h9
  by_cases hx : r < 32 ∨ r = 127
  · rw [if_pos hx] at hXl
    obtain ⟨Y, hY⟩ : ∃ Y, (⟨(numb r 2).toArray⟩ : ByteArray) = Y := ⟨_, rfl⟩
    have HX := Lib.hid (show (⟨#[92, 120]⟩ : ByteArray) ++ Y = X from str_eq (by rw [hXl, str_app, ← hY, str_of]; rfl))
    have hYs : Y.size = 2 := by rw [← hY]; exact numb_len 2 r
    rw [hY] at hn2
    clear hXl hn4 hY
    have hx2 : (r : Int) < 32 ∨ r = 127 := by omega
    clear hx hb hr
    rcases hx2 with hx2 | rfl
    all_goals
      go_enter Tryd.func36, Tryd.ntmps36
      go_wp2_with (go_at_call 49; refine (hn2 _).mono ?_; rintro e w1 ⟨rfl, hb1⟩)
      go_ret
      exact ⟨by rw [← HX.out]; rfl, hb1⟩
  rw [if_neg hx] at hXl
  have x32 : 32 ≤ (r : Int) := by omega
  have b127 : ((r : Int) == 127) = false := beqI (b := 127) (by omega)
  by_cases hw : Wide r
  · rw [if_pos hw] at hXl
    obtain ⟨Y, hY⟩ : ∃ Y, (⟨(numb r 4).toArray⟩ : ByteArray) = Y := ⟨_, rfl⟩
    have HX := Lib.hid (show (⟨#[92, 117]⟩ : ByteArray) ++ Y = X from str_eq (by rw [hXl, str_app, ← hY, str_of]; rfl))
    have hYs : Y.size = 4 := by rw [← hY]; exact numb_len 4 r
    rw [hY] at hn4
    have hw2 : (128 ≤ (r : Int) ∧ (r : Int) ≤ 159) ∨ r = 8232 ∨ r = 8233 ∨ r = 65279 := by unfold Wide at hw; omega
    clear hXl hn2 hY hx hb hr hw
    rcases hw2 with ⟨y1, y2⟩ | rfl | rfl | rfl
    all_goals
      go_enter Tryd.func36, Tryd.ntmps36
      go_wp2_with (go_at_call 49; refine (hn4 _).mono ?_; rintro e w1 ⟨rfl, hb1⟩)
      go_ret
      exact ⟨by rw [← HX.out]; rfl, hb1⟩
  · rw [if_neg hw] at hXl
    have HX := Lib.hid (show Utf8.encode (r : Int) = X from str_eq (by rw [hXl]; rfl))
    have hb' : r < 2147483648 := by omega
    have hw2 : ((r : Int) < 128 ∨ (128 ≤ (r : Int) ∧ 159 < (r : Int))) ∧ r ≠ 8232 ∧ r ≠ 8233 ∧ r ≠ 65279 := by unfold Wide at hw; omega
    obtain ⟨hw2, z1, z2, z3⟩ := hw2
    have b1 : ((r : Int) == 8232) = false := beqI (b := 8232) z1
    have b2 : ((r : Int) == 8233) = false := beqI (b := 8233) z2
    have b3 : ((r : Int) == 65279) = false := beqI (b := 65279) z3
    clear hXl hn2 hn4 hx hr hw z1 z2 z3
    rcases hw2 with y1 | ⟨y1, y2⟩
    all_goals
      go_enter Tryd.func36, Tryd.ntmps36
      go_wp2
      go_ret
      exact ⟨by rw [← HX.out]; rfl, Below.refl _ _⟩
end Go.Proofs.YtooamagefbhgdaaDoor
