/- The walk of the law LettersTell. -/
import Derived.Test.YtooamagefbhgdaaDoorTell1
namespace Go.Proofs.YtooamagefbhgdaaDoor
open Go.RowKit Go.Shelf
set_option maxRecDepth 1000000

theorem maxLen_of {W : World} (h : W.ShapedOpen Tryd.prog) : ∃ m, W.cell? ⟨2, 0, none⟩ = some (.int .i64 m) := Tryd.laysM144.s1_3 W h
theorem contains_self (l : List UInt8) : Lib.contains l l = true := by rw [Lib.contains, Lib.index_self]; rfl
theorem contains_empty (l : List UInt8) : Lib.contains l [] = true := by rw [Lib.contains, Lib.index_empty]; rfl

set_option maxHeartbeats 4000000 in
theorem lawTell_any (s part : ByteArray) (i : Int) (w : World) (hs : s.size ≤ maxLen) (hp : part.size ≤ maxLen) (hi : -9223372036854775808 ≤ i ∧ i ≤ 9223372036854775807) (hT : Lib.Utf8Tabs 0 1 w)
    (hmx : ∃ m, w.cell? ⟨2, 0, none⟩ = some (.int .i64 m)) :
    Calls Tryd.prog 7 #[.string s, .string part, .int .i64 i] w fun e w' => e = .returned (.bool true) ∧ Below w.heap.size w w' := by
  unfold maxLen at hs hp
  obtain ⟨m, hm⟩ := hmx
  have ha := fun wx h => awake_any wx h
  by_cases c1 : s.size ≤ 3000 ∧ part.size ≤ 3000
  · obtain ⟨c1, c2⟩ := c1
    have f1 := fun wx => at_ok s i wx (by omega) hi
    have f2 := fun wx => refAt_ok s i wx (by omega) hi
    have f3 := fun wx h => good_ok s wx (by omega) h
    have f4 := fun wx => refGood_ok s wx (by omega)
    have f5 := fun wx => len_ok s wx (by omega)
    have f6 := fun wx => refLen_ok s wx (by omega)
    have f7 := fun wx h => has_ok s part m wx c1 h
    have f8 := fun wx => refHas_ok s part wx (by omega) (by omega)
    have f9 := fun wx h => has_ok s s m wx c1 h
    have f10 := fun wx h => has_ok s ⟨#[]⟩ m wx c1 h
    rw [contains_self] at f9
    rw [show (⟨#[]⟩ : ByteArray).data.toList = [] from rfl, contains_empty] at f10
    generalize Lib.contains s.data.toList part.data.toList = R at *
    generalize goodB s = gb at *
    have hpl := pieces_len s.data.toList
    rw [show s.data.toList.length = s.size by simp] at hpl
    generalize atO (pieces s.data.toList) i = O at *
    generalize (pieces s.data.toList).length = N at *
    have x1 : (R == R) = true := by simp
    have x2 : (gb == gb) = true := by simp
    have x3 : ((N : Int) == (N : Int)) = true := by simp
    cases O with
    | none =>
      simp only [atR] at f1 f2
      have hB : Below w.heap.size w w := Below.refl _ _
      have hM : ∀ W, Below w.heap.size w W → W.cell? ⟨2, 0, none⟩ = some (.int .i64 m) := fun W h => cell_later h hm
      go_enter Tryd.func7, Tryd.ntmps7
      go_wp2_with fail
      go_at_call 19
      refine (f1 _).mono ?_
      rintro e w1 ⟨rfl, hb1⟩
      have hB := hB.trans (hb1.mono hB.size)
      have hT := Utf8Tabs_below hT hb1
      clear hb1
      go_wp2_with fail
      go_at_call 20
      refine (f2 _).mono ?_
      rintro e w1 ⟨rfl, hb1⟩
      have hB := hB.trans (hb1.mono hB.size)
      have hT := Utf8Tabs_below hT hb1
      clear hb1
      go_wp2_with fail
      go_at_call 17
      refine (f3 _ hT).mono ?_
      rintro e w1 ⟨rfl, hb1⟩
      have hB := hB.trans (hb1.mono hB.size)
      have hT := Utf8Tabs_below hT hb1
      clear hb1
      go_wp2_with fail
      go_at_call 12
      refine (f4 _).mono ?_
      rintro e w1 ⟨rfl, hb1⟩
      have hB := hB.trans (hb1.mono hB.size)
      have hT := Utf8Tabs_below hT hb1
      clear hb1
      go_wp2_with fail
      go_at_call 21
      refine (f5 _).mono ?_
      rintro e w1 ⟨rfl, hb1⟩
      have hB := hB.trans (hb1.mono hB.size)
      have hT := Utf8Tabs_below hT hb1
      clear hb1
      go_wp2_with fail
      go_at_call 22
      refine (f6 _).mono ?_
      rintro e w1 ⟨rfl, hb1⟩
      have hB := hB.trans (hb1.mono hB.size)
      have hT := Utf8Tabs_below hT hb1
      clear hb1
      go_wp2_with fail
      go_at_call 23
      refine (f7 _ (hM _ hB)).mono ?_
      rintro e w1 ⟨rfl, hw1⟩
      subst hw1
      go_wp2_with fail
      go_at_call 24
      refine (f8 _).mono ?_
      rintro e w1 ⟨rfl, hb1⟩
      have hB := hB.trans (hb1.mono hB.size)
      have hT := Utf8Tabs_below hT hb1
      clear hb1
      go_wp2_with fail
      go_at_call 23
      refine (f9 _ (hM _ hB)).mono ?_
      rintro e w1 ⟨rfl, hw1⟩
      subst hw1
      go_wp2_with fail
      go_at_call 23
      refine (f10 _ (hM _ hB)).mono ?_
      rintro e w1 ⟨rfl, hw1⟩
      subst hw1
      go_wp2_with fail
      go_at_call 9
      refine (ha _ hT).mono ?_
      rintro e w1 ⟨rfl, hb1⟩
      have hB := hB.trans (hb1.mono hB.size)
      have hT := Utf8Tabs_below hT hb1
      clear hb1
      go_wp2
      go_ret
      exact ⟨rfl, hB⟩
    | some r =>
      simp only [atR] at f1 f2
      generalize Utf8.encode (r : Int) = E at *
      have x4 : (E.toList == E.toList) = true := by simp
      have hB : Below w.heap.size w w := Below.refl _ _
      have hM : ∀ W, Below w.heap.size w W → W.cell? ⟨2, 0, none⟩ = some (.int .i64 m) := fun W h => cell_later h hm
      go_enter Tryd.func7, Tryd.ntmps7
      go_wp2_with fail
      go_at_call 19
      refine (f1 _).mono ?_
      rintro e w1 ⟨rfl, hb1⟩
      have hB := hB.trans (hb1.mono hB.size)
      have hT := Utf8Tabs_below hT hb1
      clear hb1
      go_wp2_with fail
      go_at_call 20
      refine (f2 _).mono ?_
      rintro e w1 ⟨rfl, hb1⟩
      have hB := hB.trans (hb1.mono hB.size)
      have hT := Utf8Tabs_below hT hb1
      clear hb1
      go_wp2_with fail
      go_at_call 17
      refine (f3 _ hT).mono ?_
      rintro e w1 ⟨rfl, hb1⟩
      have hB := hB.trans (hb1.mono hB.size)
      have hT := Utf8Tabs_below hT hb1
      clear hb1
      go_wp2_with fail
      go_at_call 12
      refine (f4 _).mono ?_
      rintro e w1 ⟨rfl, hb1⟩
      have hB := hB.trans (hb1.mono hB.size)
      have hT := Utf8Tabs_below hT hb1
      clear hb1
      go_wp2_with fail
      go_at_call 21
      refine (f5 _).mono ?_
      rintro e w1 ⟨rfl, hb1⟩
      have hB := hB.trans (hb1.mono hB.size)
      have hT := Utf8Tabs_below hT hb1
      clear hb1
      go_wp2_with fail
      go_at_call 22
      refine (f6 _).mono ?_
      rintro e w1 ⟨rfl, hb1⟩
      have hB := hB.trans (hb1.mono hB.size)
      have hT := Utf8Tabs_below hT hb1
      clear hb1
      go_wp2_with fail
      go_at_call 23
      refine (f7 _ (hM _ hB)).mono ?_
      rintro e w1 ⟨rfl, hw1⟩
      subst hw1
      go_wp2_with fail
      go_at_call 24
      refine (f8 _).mono ?_
      rintro e w1 ⟨rfl, hb1⟩
      have hB := hB.trans (hb1.mono hB.size)
      have hT := Utf8Tabs_below hT hb1
      clear hb1
      go_wp2_with fail
      go_at_call 23
      refine (f9 _ (hM _ hB)).mono ?_
      rintro e w1 ⟨rfl, hw1⟩
      subst hw1
      go_wp2_with fail
      go_at_call 23
      refine (f10 _ (hM _ hB)).mono ?_
      rintro e w1 ⟨rfl, hw1⟩
      subst hw1
      go_wp2_with fail
      go_at_call 9
      refine (ha _ hT).mono ?_
      rintro e w1 ⟨rfl, hb1⟩
      have hB := hB.trans (hb1.mono hB.size)
      have hT := Utf8Tabs_below hT hb1
      clear hb1
      go_wp2
      go_ret
      exact ⟨rfl, hB⟩
  · have c1 : 3000 < (s.size : Int) ∨ ((s.size : Int) ≤ 3000 ∧ 3000 < (part.size : Int)) := by omega
    rcases c1 with d1 | ⟨d1, d2⟩
    all_goals
      go_enter Tryd.func7, Tryd.ntmps7
      go_wp2_with (go_at_call 9; refine (ha _ hT).mono ?_; rintro e w1 ⟨rfl, hb1⟩)
      go_ret
      exact ⟨rfl, hb1⟩
end Go.Proofs.YtooamagefbhgdaaDoor
