/- The law LexerLong: a source that is too long is refused, and no other is refused so. -/
import Derived.Test.YtgheejogpbhokaaDoorLawReads13
namespace Go.Proofs.YtgheejogpbhokaaDoor
set_option linter.unusedVariables false
set_option linter.unusedSimpArgs false
open Go.RowKit
set_option maxRecDepth 1000000

theorem tokL_101 {o : Nat} {l : List UInt8} {c : Int} (h : tokL o l = .bad c) : c ≠ 101 := by
  intro e
  subst e
  unfold tokL at h
  cases l with
  | nil => simp at h
  | cons a r =>
    simp only at h
    split at h
    · cases h
    · split at h
      · split at h <;> simp at h
      · split at h
        · split at h <;> simp at h
        · unfold signT at h
          split at h
          · simp at h
          · split at h
            · split at h <;> simp at h
            · split at h <;> simp at h
theorem beginL_101 {n a : Nat} {st : List Nat} {toks : List Tk} {c : Int} (h : beginL n a st toks = .inr c) : c ≠ 101 := by
  intro e
  subst e
  unfold beginL at h
  split at h
  · split at h <;> simp at h
  · split at h <;> simp at h
theorem stepL_101 {s : List UInt8} {S : LS} {c : Int} {a : Nat} (h : stepL s S = .inr (.bad c a)) : c ≠ 101 := by
  unfold stepL at h
  split at h
  · simp at h
  · split at h
    · cases h
    · split at h
      · cases h
      · split at h
        · cases h
        · split at h
          · split at h
            · cases h
            · rename_i hb
              injection h with h
              injection h with h1 h2
              subst h1
              exact beginL_101 hb
          · split at h
            · cases h
            · rename_i hb
              injection h with h
              injection h with h1 h2
              subst h1
              exact tokL_101 hb
theorem runL_101 (s : List UInt8) : ∀ (f : Nat) (S : LS) (c : Int) (a : Nat), runL s f S = .bad c a → c ≠ 101
  | 0, _, c, a, h => by
    injection h with h1 h2
    subst h1
    decide
  | f + 1, S, c, a, h => by
    unfold runL at h
    split at h
    · exact runL_101 s f _ c a h
    · rename_i R hs
      subst h
      exact stepL_101 hs
theorem lexR_101 {s : List UInt8} {S : LS} {c : Int} {a : Nat} (h : lexR s S = .bad c a) : c ≠ 101 := runL_101 s _ S c a h

/-- an owned row of bytes reads as these bytes. -/
theorem bsAt_own {w : World} {base : Nat} {e : TypeId} {A : Option Addr} {n C : Nat} {s : ByteArray} (h : w.ownsRow base e 1 (.slice A n C) n ((bsI s).map (Value.int .u8))) : BsAt w A s := FrI.rd (FrI.of_own h)
theorem bsI_app (s t : ByteArray) : bsI (s ++ t) = bsI s ++ bsI t := by simp [bsI]
def lenN (v : Value) : Nat := match v with | .slice _ n _ => n | _ => 0
set_option maxHeartbeats 4000000 in
theorem lawLong_any (A : Option Addr) (c : Nat) (s : ByteArray) (n : Int) (w : World) (hr : BsAt w A s) (hl : s.size ≤ c) (hm : c ≤ maxLen) (hn : -9223372036854775808 ≤ n ∧ n ≤ 9223372036854775807) (hT : Lib.Utf8Tabs 1 2 w) :
    Calls Tryd.prog 5 #[.slice A s.size c, .int .i64 n] w fun e w' => e = .returned (.bool true) ∧ Below w.heap.size w w' := by
  unfold maxLen at hm
  have haw := lxAwake_ok w hT
  by_cases h1 : s.size = 0
  · have e1 : ((s.size : Int) == 0) = true := by simp [h1]
    go_enter Tryd.func5, Tryd.ntmps5
    go_wp2_with (go_at_call 9; refine haw.mono ?_; rintro e w1 ⟨rfl, hb1⟩)
    go_ret
    exact ⟨rfl, hb1⟩
  · have e1 : ((s.size : Int) == 0) = false := by rw [beq_eq_false_iff_ne]; omega
    by_cases h2 : 100 < s.size
    · have e2 : decide (100 < (s.size : Int)) = true := decide_eq_true (by omega)
      go_enter Tryd.func5, Tryd.ntmps5
      go_wp2_with (go_at_call 9; refine haw.mono ?_; rintro e w1 ⟨rfl, hb1⟩)
      go_ret
      exact ⟨rfl, hb1⟩
    · have e2 : decide (100 < (s.size : Int)) = false := decide_eq_false (by omega)
      by_cases h3 : n < 0
      · have e3 : decide (n < 0) = true := decide_eq_true h3
        go_enter Tryd.func5, Tryd.ntmps5
        go_wp2_with (go_at_call 9; refine haw.mono ?_; rintro e w1 ⟨rfl, hb1⟩)
        go_ret
        exact ⟨rfl, hb1⟩
      · have e3 : decide (n < 0) = false := decide_eq_false h3
        by_cases h4 : 70000 < n
        · have e4 : decide (70000 < n) = true := decide_eq_true h4
          go_enter Tryd.func5, Tryd.ntmps5
          go_wp2_with (go_at_call 9; refine haw.mono ?_; rintro e w1 ⟨rfl, hb1⟩)
          go_ret
          exact ⟨rfl, hb1⟩
        · have e4 : decide (70000 < n) = false := decide_eq_false h4
          clear haw
          obtain ⟨i0, hi0, hz0, hz1, hz2⟩ := info_parts byte_info
          have hri : RdI w .u8 A (bsI s) := hr
          go_enter Tryd.func5, Tryd.ntmps5
          go_wp2_with fail
          go_loopw [5] (fun v wr => ∃ (B : Option Addr) (D : Nat) (u : ByteArray), v = .slice B u.size D ∧ wr.ownsRow w.heap.size 5 1 (.slice B u.size D) u.size ((bsI u).map (Value.int .u8)) ∧ u.size ≤ 70100 ∧ Below w.heap.size w wr) (fun v _ => 70000 - lenN v)
          case atStart => exact ⟨none, 0, ⟨#[]⟩, rfl, World.ownsRow_nil _ _ _ _, by decide, Below.refl _ _⟩
          case round =>
            obtain ⟨B, D, u, rfl, hown, hu, hbr⟩ := hrel
            obtain ⟨f1, f2⟩ := own_fits hown
            unfold maxLen at f2
            by_cases hlt : (u.size : Int) < n
            · have hrr : RdI wr .u8 A (bsI s) := hr.later hbr
              have hfin := fun (W : World) (v : Value) (h : W.ownsRow w.heap.size 5 1 v (u.size + s.size) ((bsI u ++ bsI s).map (Value.int .u8))) => own_form h
              go_wp2_with (at_builtin; refine wpList_append_ints _ rfl _ _ 22 rfl w.heap.size 5 i0 _ 1 .u8 Tryd.underlying22 hi0 hz0 hz1 hz2 rfl (.slice B u.size D) u.size (bsI u) rfl hown _ _ _ (bsI s) rfl (by rw [bsI_len]) hrr (by unfold maxLen; omega) (by omega) hbr.size ?_; intro v1 w1 hown1 hg1 hat1; obtain ⟨B1, D1, rfl, _⟩ := hfin _ _ hown1)
              go_roundw
              case rel =>
                have hsz : (u ++ s).size = u.size + s.size := by simp
                exact ⟨B1, D1, u ++ s, by rw [hsz], by rw [hsz, bsI_app]; exact hown1, by rw [hsz]; omega, hbr.grown hg1 hbr.size (fun j hj => (hown.lt j hj).1)⟩
              case measure => simp [lenN]; omega
            · have e5 : decide ((u.size : Int) < n) = false := decide_eq_false hlt
              have hTk := lxTokens_any (s := u) D wr (bsAt_own hown) f1 f2 (Utf8Tabs_below hT hbr)
              by_cases h65 : u.size ≤ 65536
              · have e6 : decide ((u.size : Int) ≤ 65536) = true := decide_eq_true (by omega)
                have hR : anyR u = lexR u.data.toList lexS := by unfold anyR; rw [if_pos h65]
                rw [hR] at hTk
                cases hx : lexR u.data.toList lexS with
                | ok l =>
                  rw [hx] at hTk
                  unfold TokensR at hTk
                  dsimp only at hTk
                  clear hx hR
                  go_wp2_with (first
                    | (go_at_call 10; refine hTk.mono ?_; rintro e w3 ⟨A3, C3, rfl, ho3, hC3⟩; have hE := (hbr.trans (hC3.mono hbr.size)).alloc (hbr.trans (hC3.mono hbr.size)).size (.cells #[.int .i64 0, .int .i64 0] 26))
                    | (go_at_call 9; refine (lxAwake_ok _ (Utf8Tabs_below hT hE)).mono ?_; rintro e w4 ⟨rfl, hb4⟩))
                  go_ret
                  exact ⟨rfl, hE.trans (hb4.mono hE.size)⟩
                | bad cc a =>
                  have hne := lexR_101 hx
                  have e7 : (cc != 101) = true := by simpa using hne
                  rw [hx] at hTk
                  unfold TokensR at hTk
                  dsimp only at hTk
                  clear hx hR
                  go_wp2_with (first
                    | (go_at_call 10; refine hTk.mono ?_; rintro e w3 ⟨rfl, hC3⟩; have hE := (hbr.trans (hC3.mono hbr.size)).alloc (hbr.trans (hC3.mono hbr.size)).size (.cells #[.int .i64 cc, .int .i64 a] 26))
                    | (go_at_call 9; refine (lxAwake_ok _ (Utf8Tabs_below hT hE)).mono ?_; rintro e w4 ⟨rfl, hb4⟩))
                  go_ret
                  exact ⟨rfl, hE.trans (hb4.mono hE.size)⟩
              · have e6 : decide ((u.size : Int) ≤ 65536) = false := decide_eq_false (by omega)
                have hR : anyR u = .bad 101 65536 := by unfold anyR; rw [if_neg h65]
                rw [hR] at hTk
                unfold TokensR at hTk
                dsimp only at hTk
                go_wp2_with (first
                  | (go_at_call 10; refine hTk.mono ?_; rintro e w3 ⟨rfl, hC3⟩; have hE := (hbr.trans (hC3.mono hbr.size)).alloc (hbr.trans (hC3.mono hbr.size)).size (.cells #[.int .i64 101, .int .i64 65536] 26))
                  | (go_at_call 9; refine (lxAwake_ok _ (Utf8Tabs_below hT hE)).mono ?_; rintro e w4 ⟨rfl, hb4⟩))
                go_ret
                exact ⟨rfl, hE.trans (hb4.mono hE.size)⟩
end Go.Proofs.YtgheejogpbhokaaDoor
