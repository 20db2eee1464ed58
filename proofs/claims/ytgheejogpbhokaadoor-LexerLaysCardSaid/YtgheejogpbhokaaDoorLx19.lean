/- Tokens: the tokens of a source, or its fault (under way). -/
import Derived.Test.YtgheejogpbhokaaDoorLx18
import Derived.Test.YtgheejogpbhokaaDoorBs
namespace Go.Proofs.YtgheejogpbhokaaDoor
set_option linter.unusedVariables false
set_option linter.unusedSimpArgs false
open Go.RowKit
set_option maxRecDepth 1000000

theorem lxTokens_long (A : Option Addr) (n c : Nat) (w : World) (hn : 65536 < n) (hn2 : n ≤ 9223372036854775807) :
    Calls Tryd.prog 10 #[.slice A n c] w fun e w' => e = .returned (.tuple #[.slice none 0 0, .agg #[.int .i64 101, .int .i64 65536]]) ∧ Below w.heap.size w w' := by
  have i1 : (65536 : Int) < (n : Int) := by omega
  go_enter_defers Tryd.func10, Tryd.ntmps10
  go_wp2
  have hb : Below w.heap.size w ((w.alloc (.cells #[.slice none 0 0] 24)).alloc (.cells #[.int .i64 101, .int .i64 65536] 26)) := ((Below.refl _ _).alloc (Nat.le_refl _) _).alloc (by simp) _
  simp [bodyPostD, Leaves, settle, results, Tryd.results10, go_sem]
  exact hb
end Go.Proofs.YtgheejogpbhokaaDoor
