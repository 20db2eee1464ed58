/- The law LexerWords: both tell the words alike. -/
import Derived.Test.YtgheejogpbhokaaDoorLxAw
import Derived.Test.YtgheejogpbhokaaDoorRx4
namespace Go.Proofs.YtgheejogpbhokaaDoor
set_option linter.unusedVariables false
set_option linter.unusedSimpArgs false
open Go.RowKit
set_option maxRecDepth 1000000

set_option maxHeartbeats 1000000 in
theorem lawWords_any (s : ByteArray) (w : World) (hs : s.size ≤ maxLen) (hT : Lib.Utf8Tabs 1 2 w) :
    Calls Tryd.prog 4 #[.string s] w fun e w' => e = .returned (.bool true) ∧ Below w.heap.size w w' := by
  have f1 := fun W => lxWord_ok s W
  have f2 := fun W => refWord_ok s W
  have x1 : ∀ b : Bool, (b == b) = true := fun b => by simp
  generalize wordB s.data.toList = b at *
  by_cases hl : 70000 < s.size
  · have e1 : decide (70000 < (s.size : Int)) = true := decide_eq_true (by omega)
    go_enter Tryd.func4, Tryd.ntmps4
    go_wp2
    go_ret
    exact ⟨rfl, Below.refl _ _⟩
  · have e1 : decide (70000 < (s.size : Int)) = false := decide_eq_false (by omega)
    cases b
    all_goals
      go_enter Tryd.func4, Tryd.ntmps4
      go_wp2_with (first
        | (go_at_call 14; refine (f1 _).mono ?_; rintro e w1 ⟨rfl, rfl⟩)
        | (go_at_call 15; refine (f2 _).mono ?_; rintro e w2 ⟨rfl, hb2⟩)
        | (go_at_call 9; refine (lxAwake_ok _ (Utf8Tabs_below hT hb2)).mono ?_; rintro e w3 ⟨rfl, hb3⟩))
      go_ret
      exact ⟨rfl, hb2.trans (hb3.mono hb2.size)⟩
end Go.Proofs.YtgheejogpbhokaaDoor
