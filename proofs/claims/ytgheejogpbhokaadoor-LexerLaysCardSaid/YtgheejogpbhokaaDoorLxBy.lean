/- Both Tokens at any size; the law's bytes. -/
import Derived.Test.YtgheejogpbhokaaDoorLxTk
import Derived.Test.YtgheejogpbhokaaDoorRxC
namespace Go.Proofs.YtgheejogpbhokaaDoor
set_option linter.unusedVariables false
set_option linter.unusedSimpArgs false
open Go.RowKit
set_option maxRecDepth 1000000

theorem refTokens_long (A : Option Addr) (n c : Nat) (w : World) (hn : 65536 < n) (hn2 : n ≤ 9223372036854775807) :
    Calls Tryd.prog 11 #[.slice A n c] w fun e w' => e = .returned (.tuple #[.slice none 0 0, .agg #[.int .i64 101, .int .i64 65536]]) ∧ Below w.heap.size w w' := by
  have i1 : (65536 : Int) < (n : Int) := by omega
  go_enter Tryd.func11, Tryd.ntmps11
  go_wp2
  have hb : Below w.heap.size w (w.alloc (.cells #[.int .i64 101, .int .i64 65536] 26)) := (Below.refl _ _).alloc (Nat.le_refl _) _
  refine bodyPost_ret (v := .tuple #[.slice none 0 0, .agg #[.int .i64 101, .int .i64 65536]]) (by simp [results, Tryd.results11, go_sem]) rfl ?_
  exact ⟨rfl, hb⟩
/-- what comes of any source. -/
def anyR (s : ByteArray) : LR := if s.size ≤ 65536 then lexR s.data.toList lexS else .bad 101 65536
theorem lxTokens_any {A : Option Addr} {s : ByteArray} (c : Nat) (w : World) (h : BsAt w A s) (hl : s.size ≤ c) (hc : c ≤ 9223372036854775807) (hT : Lib.Utf8Tabs 1 2 w) :
    Calls Tryd.prog 10 #[.slice A s.size c] w (TokensR w (anyR s)) := by
  unfold anyR
  by_cases hs : s.size ≤ 65536
  · rw [if_pos hs]; exact lxTokens_ok c w h hs hl hc hT
  · rw [if_neg hs]; exact lxTokens_long A s.size c w (by omega) (by omega)
theorem refTokens_any {A : Option Addr} {s : ByteArray} (c : Nat) (w : World) (h : BsAt w A s) (hl : s.size ≤ c) (hc : c ≤ 9223372036854775807) :
    Calls Tryd.prog 11 #[.slice A s.size c] w (TokensR w (anyR s)) := by
  unfold anyR
  by_cases hs : s.size ≤ 65536
  · rw [if_pos hs]; exact refTokens_ok c w h hs hl hc
  · rw [if_neg hs]; exact refTokens_long A s.size c w (by omega) (by omega)
set_option maxHeartbeats 2000000 in
theorem bytes_true (A B : Option Addr) (s : ByteArray) (c d : Nat) (w : World) (hA : BsAt w A s) (hB : BsAt w B s) (hc : s.size ≤ c) (hd : s.size ≤ d) (hc2 : c ≤ maxLen) (hd2 : d ≤ maxLen) :
    Calls Tryd.prog 12 #[.slice A s.size c, .slice B s.size d] w fun e w' => e = .returned (.bool true) ∧ Below w.heap.size w w' := by
  unfold maxLen at hc2 hd2
  have HA := Lib.hid hA
  have HB := Lib.hid hB
  clear hA hB
  go_enter Tryd.func12, Tryd.ntmps12
  go_wp2_with fail
  go_loopw [5] (fun v wr => ∃ k : Nat, v = .int .i64 k ∧ k ≤ s.size ∧ Below w.heap.size w wr ∧ Hid (BsAt wr A s) ∧ Hid (BsAt wr B s)) (fun v _ => s.size - (intOf v).toNat)
  case atStart => exact ⟨0, rfl, Nat.zero_le _, Below.refl _ _, HA, HB⟩
  case round =>
    obtain ⟨k, rfl, hk, hbr, HAr, HBr⟩ := hrel
    clear HA HB
    by_cases hlt : k < s.size
    · obtain ⟨b, off, rfl⟩ := HAr.out.some (by omega)
      obtain ⟨b2, off2, rfl⟩ := HBr.out.some (by omega)
      have c0 := HAr.out.byte k hlt
      have c1 := HBr.out.byte k hlt
      have x1 : ((s[k].toNat : Int) != (s[k].toNat : Int)) = false := by simp
      go_wp2_with fail
      go_quiet (fail)
      obtain ⟨v2, hv, hbv⟩ : ∃ v, v = wr.drewN nq ∧ Below wr.heap.size wr v := ⟨_, rfl, below_draws _ _⟩
      rw [← hv]
      clear hv c0 c1
      have HA2 := Lib.hid (HAr.out.later hbv)
      have HB2 := Lib.hid (HBr.out.later hbv)
      replace hbr := hbr.trans (hbv.mono hbr.size)
      clear HAr HBr
      go_wp2
      go_roundw
      case rel => exact ⟨k + 1, by go_num, by omega, hbr, HA2, HB2⟩
      case measure => simp [intOf]; omega
    · have hke : k = s.size := by omega
      subst hke
      go_wp2
      go_ret
      exact ⟨rfl, hbr⟩
end Go.Proofs.YtgheejogpbhokaaDoor
