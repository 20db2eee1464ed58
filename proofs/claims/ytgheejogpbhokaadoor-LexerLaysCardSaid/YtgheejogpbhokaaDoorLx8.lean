/- The lexer's token. -/
import Derived.Test.YtgheejogpbhokaaDoorLx7
namespace Go.Proofs.YtgheejogpbhokaaDoor
set_option linter.unusedVariables false
set_option linter.unusedSimpArgs false
open Go.RowKit
set_option maxRecDepth 1000000

section
variable {w : World} {base X : Nat} {s : ByteArray} {p o : Nat} {st : List Nat} {toks : List Tk}
theorem TokR.from {v w w' : World} {r : T1} {e : Ending} (hb : Below base w v) (h : TokR v base X s p st toks r e w') : TokR w base X s p st toks r e w' := by
  cases r with
  | tok k x n o' => exact ⟨h.1, h.2.1, hb.trans h.2.2⟩
  | bad c => exact ⟨h.1, hb.trans h.2⟩
theorem below_draws (w : World) (n : Nat) : Below w.heap.size w (w.drewN n) := ⟨rfl, rfl, rfl, Nat.le_refl _, fun _ _ => rfl⟩
theorem lxSgn_ok (hL : LxS w base X s p o st toks) (hz : base ≤ w.heap.size) (hs : s.size ≤ 1099511) (hp : p ≤ s.size) (hn : toks.length ≤ 1000000) (ho : o ≤ 60) :
    Calls Tryd.prog 45 #[.pointer (some ⟨X, 0, none⟩)] w (TokR w base X s p st toks (signT o (signL (s.data.toList.drop p)))) := by
  by_cases h0 : signL (s.data.toList.drop p) = []
  · exact lxSgn_none _ rfl hL hz hs hp hn ho h0
  · by_cases h1 : signL (s.data.toList.drop p) = [40] ∨ signL (s.data.toList.drop p) = [91] ∨ signL (s.data.toList.drop p) = [123]
    · exact lxSgn_open _ rfl hL hz hs hp hn ho h1
    · by_cases h2 : signL (s.data.toList.drop p) = [41] ∨ signL (s.data.toList.drop p) = [93] ∨ signL (s.data.toList.drop p) = [125]
      · exact lxSgn_shut _ rfl hL hz hs hp hn ho h2
      · exact lxSgn_else _ rfl hL hz hs hp hn ho h0 h1 h2

theorem tokL_let {l t : List UInt8} {c : UInt8} (hl : l = c :: t) (h : isLet c = true) : tokL o l = .tok (if wordB (wd l) then 2 else 1) (wd l) (wd l).length o := by
  subst hl; rw [tokL, if_pos h]
theorem tokL_dig {l t : List UInt8} {c : UInt8} (hl : l = c :: t) (h : isLet c = false) (h2 : isDig c = true) : tokL o l = (if numOk (wd l) then .tok 3 (wd l) (wd l).length o else .bad 105) := by
  subst hl; rw [tokL, if_neg (by rw [h]; decide), if_pos h2]
theorem tokL_quo {l t : List UInt8} {c : UInt8} (hl : l = c :: t) (h : isLet c = false) (h2 : isDig c = false) (h3 : c = 39 ∨ c = 34) : tokL o l = quoT l o := by
  subst hl; rw [tokL, if_neg (by rw [h]; decide), if_neg (by rw [h2]; decide), if_pos h3]; rfl
theorem tokL_sgn {l t : List UInt8} {c : UInt8} (hl : l = c :: t) (h : isLet c = false) (h2 : isDig c = false) (h3 : ¬ (c = 39 ∨ c = 34)) : tokL o l = signT o (signL l) := by
  subst hl; rw [tokL, if_neg (by rw [h]; decide), if_neg (by rw [h2]; decide), if_neg h3]

set_option maxHeartbeats 4000000 in
theorem lxToken_ok (hL : LxS w base X s p o st toks) (hz : base ≤ w.heap.size) (hs : s.size ≤ 1099511) (hp : p < s.size) (hn : toks.length ≤ 1000000) (ho : o ≤ 60) (hT : Lib.Utf8Tabs 1 2 w) :
    Calls Tryd.prog 27 #[.pointer (some ⟨X, 0, none⟩)] w (TokR w base X s p st toks (tokL o (s.data.toList.drop p))) := by
  have hl := drop_cons s p hp
  have i1 : (p : Int) < (s.size : Int) := by omega
  have i2 : (0 : Int) ≤ (p : Int) := by omega
  have hB : ∀ n, Below base w (w.drewN n) := fun n => (below_draws w n).mono hz
  obtain ⟨q0, q1, q3, f1, f3, hX, hbX⟩ := hL.cells
  clear q3 f1 f3
  cases h1 : isLet s[p] with
  | true =>
    have hC : ∀ n, Calls Tryd.prog 41 #[.pointer (some ⟨X, 0, none⟩)] (w.drewN n) (TokR (w.drewN n) base X s p st toks (tokL o (s.data.toList.drop p))) := fun n => by
      rw [tokL_let hl h1]; exact lxName_ok (hL.later (below_draws w n)) hz (by omega) (by omega) hn
    generalize tokL o (s.data.toList.drop p) = r at *
    clear hl hL
    cases r with
    | tok k x n o' =>
      go_enter Tryd.func27, Tryd.ntmps27
      go_wp2_with fail
      go_quiet (fail)
      go_wp2_with (first
        | (go_at_call 40; refine (isLet_ok _ _).mono ?_; rintro e w' ⟨rfl, rfl⟩)
        | (go_at_call 42; refine (isDig_ok _ _).mono ?_; rintro e w' ⟨rfl, rfl⟩)
        | (go_at_call 41; refine (hC _).mono ?_; rintro e w1 ⟨rfl, hl1, hb1⟩))
      go_end0
      exact ⟨rfl, hl1, (hB _).trans hb1⟩
    | bad c =>
      go_enter Tryd.func27, Tryd.ntmps27
      go_wp2_with fail
      go_quiet (fail)
      go_wp2_with (first
        | (go_at_call 40; refine (isLet_ok _ _).mono ?_; rintro e w' ⟨rfl, rfl⟩)
        | (go_at_call 42; refine (isDig_ok _ _).mono ?_; rintro e w' ⟨rfl, rfl⟩)
        | (go_at_call 41; refine (hC _).mono ?_; rintro e w1 ⟨rfl, hb1⟩))
      exact ⟨rfl, rfl, (hB _).trans hb1⟩
  | false =>
    cases h2 : isDig s[p] with
    | true =>
      have hC : ∀ n, Calls Tryd.prog 43 #[.pointer (some ⟨X, 0, none⟩)] (w.drewN n) (TokR (w.drewN n) base X s p st toks (tokL o (s.data.toList.drop p))) := fun n => by
        rw [tokL_dig hl h1 h2]; exact lxNumber_ok (hL.later (below_draws w n)) hz (by omega) (by omega) hn (by rw [hl]; exact wd_pos (by rw [isWd, h2]; simp))
      generalize tokL o (s.data.toList.drop p) = r at *
      clear hl hL
      cases r with
      | tok k x n o' =>
        go_enter Tryd.func27, Tryd.ntmps27
        go_wp2_with fail
        go_quiet (fail)
        go_wp2_with (first
          | (go_at_call 40; refine (isLet_ok _ _).mono ?_; rintro e w' ⟨rfl, rfl⟩)
          | (go_at_call 42; refine (isDig_ok _ _).mono ?_; rintro e w' ⟨rfl, rfl⟩)
          | (go_at_call 43; refine (hC _).mono ?_; rintro e w1 ⟨rfl, hl1, hb1⟩))
        go_end0
        exact ⟨rfl, hl1, (hB _).trans hb1⟩
      | bad c =>
        go_enter Tryd.func27, Tryd.ntmps27
        go_wp2_with fail
        go_quiet (fail)
        go_wp2_with (first
          | (go_at_call 40; refine (isLet_ok _ _).mono ?_; rintro e w' ⟨rfl, rfl⟩)
          | (go_at_call 42; refine (isDig_ok _ _).mono ?_; rintro e w' ⟨rfl, rfl⟩)
          | (go_at_call 43; refine (hC _).mono ?_; rintro e w1 ⟨rfl, hb1⟩))
        exact ⟨rfl, rfl, (hB _).trans hb1⟩
    | false =>
      by_cases h3 : s[p] = 39 ∨ s[p] = 34
      · obtain ⟨b1, e1⟩ : ∃ b, ((s[p].toNat : Int) == 39) = b := ⟨_, rfl⟩
        obtain ⟨b2, e2⟩ : ∃ b, ((s[p].toNat : Int) == 34) = b := ⟨_, rfl⟩
        have hb : (b1 || b2) = true := by
          rw [← e1, ← e2]
          rcases h3 with h | h
          · rw [h]; rfl
          · rw [h]; rfl
        have hC : ∀ n, Calls Tryd.prog 44 #[.pointer (some ⟨X, 0, none⟩)] (w.drewN n) (TokR (w.drewN n) base X s p st toks (tokL o (s.data.toList.drop p))) := fun n => by
          rw [tokL_quo hl h1 h2 h3]; exact lxQuoted_ok (hL.later (below_draws w n)) hz (by omega) (by omega) hn (Utf8Tabs_below hT (below_draws w n))
        generalize tokL o (s.data.toList.drop p) = r at *
        clear hl hL
        clear h3
        cases b1 <;> cases b2
        · exact absurd hb (by decide)
        all_goals
          clear hb
          cases r with
          | tok k x n o' =>
            go_enter Tryd.func27, Tryd.ntmps27
            go_wp2_with fail
            go_quiet (fail)
            go_wp2_with (first
              | (go_at_call 40; refine (isLet_ok _ _).mono ?_; rintro e w' ⟨rfl, rfl⟩)
              | (go_at_call 42; refine (isDig_ok _ _).mono ?_; rintro e w' ⟨rfl, rfl⟩)
              | (go_at_call 44; refine (hC _).mono ?_; rintro e w1 ⟨rfl, hl1, hb1⟩))
            go_end0
            exact ⟨rfl, hl1, (hB _).trans hb1⟩
          | bad c =>
            go_enter Tryd.func27, Tryd.ntmps27
            go_wp2_with fail
            go_quiet (fail)
            go_wp2_with (first
              | (go_at_call 40; refine (isLet_ok _ _).mono ?_; rintro e w' ⟨rfl, rfl⟩)
              | (go_at_call 42; refine (isDig_ok _ _).mono ?_; rintro e w' ⟨rfl, rfl⟩)
              | (go_at_call 44; refine (hC _).mono ?_; rintro e w1 ⟨rfl, hb1⟩))
            exact ⟨rfl, rfl, (hB _).trans hb1⟩
      · have e1 : ((s[p].toNat : Int) == 39) = false := by simp; intro h; exact h3 (Or.inl (UInt8.toNat_inj.1 (by show s[p].toNat = 39; omega)))
        have e2 : ((s[p].toNat : Int) == 34) = false := by simp; intro h; exact h3 (Or.inr (UInt8.toNat_inj.1 (by show s[p].toNat = 34; omega)))
        have hC : ∀ n, Calls Tryd.prog 45 #[.pointer (some ⟨X, 0, none⟩)] (w.drewN n) (TokR (w.drewN n) base X s p st toks (tokL o (s.data.toList.drop p))) := fun n => by
          rw [tokL_sgn hl h1 h2 h3]; exact lxSgn_ok (hL.later (below_draws w n)) hz (by omega) (by omega) hn ho
        generalize tokL o (s.data.toList.drop p) = r at *
        clear hl hL
        cases r with
        | tok k x n o' =>
          go_enter Tryd.func27, Tryd.ntmps27
          go_wp2_with fail
          go_quiet (fail)
          go_wp2_with (first
            | (go_at_call 40; refine (isLet_ok _ _).mono ?_; rintro e w' ⟨rfl, rfl⟩)
            | (go_at_call 42; refine (isDig_ok _ _).mono ?_; rintro e w' ⟨rfl, rfl⟩)
            | (go_at_call 45; refine (hC _).mono ?_; rintro e w1 ⟨rfl, hl1, hb1⟩))
          go_end0
          exact ⟨rfl, hl1, (hB _).trans hb1⟩
        | bad c =>
          go_enter Tryd.func27, Tryd.ntmps27
          go_wp2_with fail
          go_quiet (fail)
          go_wp2_with (first
            | (go_at_call 40; refine (isLet_ok _ _).mono ?_; rintro e w' ⟨rfl, rfl⟩)
            | (go_at_call 42; refine (isDig_ok _ _).mono ?_; rintro e w' ⟨rfl, rfl⟩)
            | (go_at_call 45; refine (hC _).mono ?_; rintro e w1 ⟨rfl, hb1⟩))
          exact ⟨rfl, rfl, (hB _).trans hb1⟩
end
end Go.Proofs.YtgheejogpbhokaaDoor
