/- Joined by a program: Lx8, Lx9, Lx10. -/
import Derived.Test.YtjndbcnmmnkilaaGreatDoorPF36
namespace Go.Proofs.YtjndbcnmmnkilaaGreatDoor
set_option linter.unusedVariables false
set_option linter.unusedSimpArgs false
set_option maxRecDepth 1000000
set_option maxHeartbeats 16000000
section
open Go.RowKit
open List (length_append length_cons length_nil length_singleton)
section
variable {w : World} {base X : Nat} {s : ByteArray} {p o : Nat} {st : List Nat} {toks : List Tk}
theorem below_draws (w : World) (n : Nat) : Below w.heap.size w (w.drewN n) := ⟨rfl, rfl, rfl, Nat.le_refl _, fun _ _ => rfl⟩
theorem lxSgn_ok (hL : LxS w base X s p o st toks) (hz : base ≤ w.heap.size) (hs : s.size ≤ 1099511) (hp : p ≤ s.size) (hn : toks.length ≤ 1000000) (ho : o ≤ 60) :
  Calls Tryz.prog 172 #[.pointer (some ⟨X, 0, none⟩)] w (TokR w base X s p st toks (signT o (signL (s.data.toList.drop p)))) := by
 by_cases h0 : signL (s.data.toList.drop p) = []
 ·exact lxSgn_none _ rfl hL hz hs hp hn ho h0
 ·by_cases h1 : signL (s.data.toList.drop p) = [40] ∨ signL (s.data.toList.drop p) = [91] ∨ signL (s.data.toList.drop p) = [123]
  ·exact lxSgn_open _ rfl hL hz hs hp hn ho h1
  ·by_cases h2 : signL (s.data.toList.drop p) = [41] ∨ signL (s.data.toList.drop p) = [93] ∨ signL (s.data.toList.drop p) = [125]
   ·exact lxSgn_shut _ rfl hL hz hs hp hn ho h2
   ·exact lxSgn_else _ rfl hL hz hs hp hn ho h0 h1 h2
theorem tokL_let {l t : List UInt8} {c : UInt8} (hl : l = c :: t) (h : isLet c = true) : tokL o l = .tok (if wordB (wd l) then 2 else 1) (wd l) (wd l).length o := by
 subst hl; rw [tokL, if_pos h]
theorem tokL_dig {l t : List UInt8} {c : UInt8} (hl : l = c :: t) (h : isLet c = false) (h2 : isDig c = true) : tokL o l = (if numOk (wd l) then .tok 3 (wd l) (wd l).length o else .bad 105) := by
 subst hl; rw [tokL, if_neg (by rw [h]; decide), if_pos h2]
theorem tokL_quo {l t : List UInt8} {c : UInt8} (hl : l = c :: t) (h : isLet c = false) (h2 : isDig c = false) (h3 : c = 39 ∨ c = 34) : tokL o l = quoT l o := by
 subst hl; rw [tokL, if_neg (by rw [h]; decide), if_neg (by rw [h2]; decide), if_pos h3]; rfl
theorem tokL_sgn {l t : List UInt8} {c : UInt8} (hl : l = c :: t) (h : isLet c = false) (h2 : isDig c = false) (h3 : ¬ (c = 39 ∨ c = 34)) : tokL o l = signT o (signL l) := by
 subst hl; rw [tokL, if_neg (by rw [h]; decide), if_neg (by rw [h2]; decide), if_neg h3]
theorem lxToken_ok (hL : LxS w base X s p o st toks) (hz : base ≤ w.heap.size) (hs : s.size ≤ 1099511) (hp : p < s.size) (hn : toks.length ≤ 1000000) (ho : o ≤ 60) (hT : Lib.Utf8Tabs 0 1 w) :
  Calls Tryz.prog 88 #[.pointer (some ⟨X, 0, none⟩)] w (TokR w base X s p st toks (tokL o (s.data.toList.drop p))) := by
 have hl := drop_cons s p hp
 have i1 : (p : Int) < (s.size : Int) := by omega
 have i2 : (0 : Int) ≤ (p : Int) := by omega
 have hB : ∀ n, Below base w (w.drewN n) := fun n => (below_draws w n).mono hz
 obtain ⟨q0, q1, q3, f1, f3, hX, hbX⟩ := hL.cells
 clear q3 f1 f3
 cases h1 : isLet s[p] with
 | true =>
  have hC : ∀ n, Calls Tryz.prog 168 #[.pointer (some ⟨X, 0, none⟩)] (w.drewN n) (TokR (w.drewN n) base X s p st toks (tokL o (s.data.toList.drop p))) := fun n => by
   rw [tokL_let hl h1]; exact lxName_ok (hL.later (below_draws w n)) hz lq17 lq17 hn
  generalize tokL o (s.data.toList.drop p) = r at *
  clear hl hL
  cases r with
  | tok k x n o' =>
   go_enter Tryz.func88, Tryz.ntmps88; go_wp2_with fail
   go_quiet (fail)
   go_wp2_with (first
    | (go_at_call 167; refine (isLet_ok _ _).mono ?_; rintro e w' ⟨rfl, rfl⟩)
    | (go_at_call 169; refine (isDig_ok _ _).mono ?_; rintro e w' ⟨rfl, rfl⟩)
    | (go_at_call 168; refine (hC _).mono ?_; rintro e w1 ⟨rfl, hl1, hb1⟩))
   go_end0
   exact ⟨rfl, hl1, (hB _).trans hb1⟩
  | bad c =>
   go_enter Tryz.func88, Tryz.ntmps88; go_wp2_with fail
   go_quiet (fail)
   go_wp2_with (first
    | (go_at_call 167; refine (isLet_ok _ _).mono ?_; rintro e w' ⟨rfl, rfl⟩)
    | (go_at_call 169; refine (isDig_ok _ _).mono ?_; rintro e w' ⟨rfl, rfl⟩)
    | (go_at_call 168; refine (hC _).mono ?_; rintro e w1 ⟨rfl, hb1⟩))
   exact ⟨rfl, rfl, (hB _).trans hb1⟩
 | false =>
  cases h2 : isDig s[p] with
  | true =>
   have hC : ∀ n, Calls Tryz.prog 170 #[.pointer (some ⟨X, 0, none⟩)] (w.drewN n) (TokR (w.drewN n) base X s p st toks (tokL o (s.data.toList.drop p))) := fun n => by
    rw [tokL_dig hl h1 h2]; exact lxNumber_ok (hL.later (below_draws w n)) hz lq17 lq17 hn (by rw [hl]; exact wd_pos (by rw [isWd, h2]; simp))
   generalize tokL o (s.data.toList.drop p) = r at *
   clear hl hL
   cases r with
   | tok k x n o' =>
    go_enter Tryz.func88, Tryz.ntmps88; go_wp2_with fail
    go_quiet (fail)
    go_wp2_with (first
     | (go_at_call 167; refine (isLet_ok _ _).mono ?_; rintro e w' ⟨rfl, rfl⟩)
     | (go_at_call 169; refine (isDig_ok _ _).mono ?_; rintro e w' ⟨rfl, rfl⟩)
     | (go_at_call 170; refine (hC _).mono ?_; rintro e w1 ⟨rfl, hl1, hb1⟩))
    go_end0
    exact ⟨rfl, hl1, (hB _).trans hb1⟩
   | bad c =>
    go_enter Tryz.func88, Tryz.ntmps88; go_wp2_with fail
    go_quiet (fail)
    go_wp2_with (first
     | (go_at_call 167; refine (isLet_ok _ _).mono ?_; rintro e w' ⟨rfl, rfl⟩)
     | (go_at_call 169; refine (isDig_ok _ _).mono ?_; rintro e w' ⟨rfl, rfl⟩)
     | (go_at_call 170; refine (hC _).mono ?_; rintro e w1 ⟨rfl, hb1⟩))
    exact ⟨rfl, rfl, (hB _).trans hb1⟩
  | false =>
   by_cases h3 : s[p] = 39 ∨ s[p] = 34
   ·obtain ⟨b1, e1⟩ : ∃ b, ((s[p].toNat : Int) == 39) = b := ⟨_, rfl⟩; obtain ⟨b2, e2⟩ : ∃ b, ((s[p].toNat : Int) == 34) = b := ⟨_, rfl⟩; have hb : (b1 || b2) = true := by
     rw [← e1, ← e2]
     rcases h3 with h | h
     ·rw [h]; rfl
     ·rw [h]; rfl
    have hC : ∀ n, Calls Tryz.prog 171 #[.pointer (some ⟨X, 0, none⟩)] (w.drewN n) (TokR (w.drewN n) base X s p st toks (tokL o (s.data.toList.drop p))) := fun n => by
     rw [tokL_quo hl h1 h2 h3]; exact lxQuoted_ok (hL.later (below_draws w n)) hz lq17 lq17 hn (Utf8Tabs_below hT (below_draws w n))
    generalize tokL o (s.data.toList.drop p) = r at *
    clear hl hL; clear h3
    cases b1 <;> cases b2
    ·exact absurd hb lq16
    all_goals
     clear hb
     cases r with
     | tok k x n o' =>
      go_enter Tryz.func88, Tryz.ntmps88; go_wp2_with fail
      go_quiet (fail)
      go_wp2_with (first
       | (go_at_call 167; refine (isLet_ok _ _).mono ?_; rintro e w' ⟨rfl, rfl⟩)
       | (go_at_call 169; refine (isDig_ok _ _).mono ?_; rintro e w' ⟨rfl, rfl⟩)
       | (go_at_call 171; refine (hC _).mono ?_; rintro e w1 ⟨rfl, hl1, hb1⟩))
      go_end0
      exact ⟨rfl, hl1, (hB _).trans hb1⟩
     | bad c =>
      go_enter Tryz.func88, Tryz.ntmps88; go_wp2_with fail
      go_quiet (fail)
      go_wp2_with (first
       | (go_at_call 167; refine (isLet_ok _ _).mono ?_; rintro e w' ⟨rfl, rfl⟩)
       | (go_at_call 169; refine (isDig_ok _ _).mono ?_; rintro e w' ⟨rfl, rfl⟩)
       | (go_at_call 171; refine (hC _).mono ?_; rintro e w1 ⟨rfl, hb1⟩))
      exact ⟨rfl, rfl, (hB _).trans hb1⟩
   ·have e1 : ((s[p].toNat : Int) == 39) = false := by simp; intro h; exact h3 (Or.inl (UInt8.toNat_inj.1 (by show s[p].toNat = 39; omega)))
    have e2 : ((s[p].toNat : Int) == 34) = false := by simp; intro h; exact h3 (Or.inr (UInt8.toNat_inj.1 (by show s[p].toNat = 34; omega)))
    have hC : ∀ n, Calls Tryz.prog 172 #[.pointer (some ⟨X, 0, none⟩)] (w.drewN n) (TokR (w.drewN n) base X s p st toks (tokL o (s.data.toList.drop p))) := fun n => by
     rw [tokL_sgn hl h1 h2 h3]; exact lxSgn_ok (hL.later (below_draws w n)) hz lq17 lq17 hn ho
    generalize tokL o (s.data.toList.drop p) = r at *
    clear hl hL
    cases r with
    | tok k x n o' =>
     go_enter Tryz.func88, Tryz.ntmps88; go_wp2_with fail
     go_quiet (fail)
     go_wp2_with (first
      | (go_at_call 167; refine (isLet_ok _ _).mono ?_; rintro e w' ⟨rfl, rfl⟩)
      | (go_at_call 169; refine (isDig_ok _ _).mono ?_; rintro e w' ⟨rfl, rfl⟩)
      | (go_at_call 172; refine (hC _).mono ?_; rintro e w1 ⟨rfl, hl1, hb1⟩))
     go_end0
     exact ⟨rfl, hl1, (hB _).trans hb1⟩
    | bad c =>
     go_enter Tryz.func88, Tryz.ntmps88; go_wp2_with fail
     go_quiet (fail)
     go_wp2_with (first
      | (go_at_call 167; refine (isLet_ok _ _).mono ?_; rintro e w' ⟨rfl, rfl⟩)
      | (go_at_call 169; refine (isDig_ok _ _).mono ?_; rintro e w' ⟨rfl, rfl⟩)
      | (go_at_call 172; refine (hC _).mono ?_; rintro e w1 ⟨rfl, hb1⟩))
     exact ⟨rfl, rfl, (hB _).trans hb1⟩
end
def blL (l : List UInt8) : Nat := (l.takeWhile (fun c => c == 32)).length
theorem blL_step (s : ByteArray) (k : Nat) (h : k < s.size) (hc : s[k] = 32) : blL (s.data.toList.drop k) = 1 + blL (s.data.toList.drop (k + 1)) := by
 rw [drop_cons s k h, blL, List.takeWhile_cons, if_pos (by rw [hc]; decide), length_cons, blL]; omega
theorem blL_stop (s : ByteArray) (k : Nat) (h : k < s.size) (hc : s[k] ≠ 32) : blL (s.data.toList.drop k) = 0 := by
 rw [drop_cons s k h, blL, List.takeWhile_cons, if_neg (by simpa using hc)]; rfl
theorem blL_end (s : ByteArray) : blL (s.data.toList.drop s.size) = 0 := by
 rw [List.drop_eq_nil_of_le lq18]; rfl
def pastP (s : ByteArray) (p : Nat) : Nat :=
 p + blL (s.data.toList.drop p) + (if (s.data.toList.drop (p + blL (s.data.toList.drop p))).head? = some 35 then remL (s.data.toList.drop (p + blL (s.data.toList.drop p))) else 0)
theorem idx_rem : ∀ l : List UInt8, (Lib.indexByte l 10 = -1 ∧ remL l = l.length) ∨ (0 ≤ Lib.indexByte l 10 ∧ Lib.indexByte l 10 = remL l)
 | [] => Or.inl ⟨rfl, rfl⟩
 | c :: t => by
  unfold Lib.indexByte
  by_cases hc : c = 10
  ·subst hc
   right
   exact ⟨by simp, by simp [remL]⟩
  ·have h1 : (c == 10) = false := by simpa using hc
   have h2 : remL (c :: t) = 1 + remL t := by
    rw [remL, List.takeWhile_cons, if_pos (by simpa using hc), length_cons, remL]; omega
   rw [h1, h2]
   rcases idx_rem t with ⟨a, b⟩ | ⟨a, b⟩
   ·left
    rw [a]; exact ⟨rfl, by rw [b, length_cons]; omega⟩
   ·right
    have : (Lib.indexByte t 10 == -1) = false := by simp; omega
    rw [this]; simp only [Bool.false_eq_true, if_false]
    omega
theorem rem_le (l : List UInt8) : remL l ≤ l.length := by unfold remL; exact (List.takeWhile_sublist _).length_le
def atM (s : ByteArray) (X : Nat) (w : World) : Nat := match w.cell? ⟨X, 1, none⟩ with | some (.int _ n) => s.size - n.toNat | _ => 0
theorem atM_eq {w : World} {s : ByteArray} {X p : Nat} (h : w.cell? ⟨X, 1, none⟩ = some (.int .i64 p)) : atM s X w = s.size - p := by
 unfold atM; rw [h]; simp
section
variable {w : World} {base X : Nat} {s : ByteArray} {p o : Nat} {st : List Nat} {toks : List Tk}
theorem byte_ne {c : UInt8} {k : Nat} {d : UInt8} (hd : d.toNat = k) (h : c ≠ d) : ((c.toNat : Int) == (k : Int)) = false := by
 simp; intro e; exact h (UInt8.toNat_inj.1 lq17)
theorem byte_eq {c d : UInt8} {k : Nat} (hd : d.toNat = k) (h : c = d) : ((c.toNat : Int) == (k : Int)) = true := by
 subst h; simp; omega
theorem lxPast_ok (hL : LxS w base X s p o st toks) (hz : base ≤ w.heap.size) (hs : s.size ≤ 1099511) (hp : p ≤ s.size) :
  Calls Tryz.prog 85 #[.pointer (some ⟨X, 0, none⟩)] w fun e w' => e = .returned (.tuple #[]) ∧ LxS w' base X s (pastP s p) o st toks ∧ Below base w w' := by
 have HP := Lh (show ∀ k, k = p + blL (s.data.toList.drop p) → pastP s p = k + (if (s.data.toList.drop k).head? = some 35 then remL (s.data.toList.drop k) else 0) from fun k h => by rw [h]; rfl)
 have hsz : w.heap.size ≤ w.heap.size := Nat.le_refl _
 go_enter Tryz.func85, Tryz.ntmps85
 go_wp2
 go_loopw [3] (fun v wr => ∃ k : Nat, p ≤ k ∧ k ≤ s.size ∧ LxS wr base X s k o st toks ∧ Below base w wr ∧ base ≤ wr.heap.size ∧ Hid (blL (s.data.toList.drop p) = k - p + blL (s.data.toList.drop k))) (fun v wr => atM s X wr)
 case atStart => exact ⟨p, Nat.le_refl _, hp, hL, Below.refl _ _, hz, Lh lq17⟩
 case round =>
  obtain ⟨k, hk1, hk2, hLk, hbk, hzk, hbl⟩ := hrel; clear hL; obtain ⟨q0, q1, q3, f1, f3, hX, hbX⟩ := hLk.cells; have hm := Lh (atM_eq (s := s) q1); have i2 : (0 : Int) ≤ (k : Int) := by omega
  by_cases hlt : k < s.size
  ·have i1 : (k : Int) < (s.size : Int) := by omega
   by_cases h32 : s[k] = 32
   ·have e32 := byte_eq (k := 32) rfl h32; have hst := Lh (blL_step s k hlt h32); clear h32; go_wp2_with fail
    go_quiet (fail)
    obtain ⟨v, hv, hbv⟩ : ∃ v, v = wr.drewN nq ∧ Below wr.heap.size wr v := ⟨_, rfl, below_draws _ _⟩; rw [← hv]; clear hv q0 q1 q3 f1 f3
    replace hLk := hLk.later hbv
    have hzv := Nat.le_trans hzk hbv.size
    replace hbk := hbk.trans (hbv.mono hzk)
    obtain ⟨q0, q1, q3, f1, f3, hX, hbX⟩ := hLk.cells; go_wp2
    go_roundw
    case rel =>
     exact ⟨k + 1, by omega, by omega, hLk.setPos (k + 1) _ lq17, Below.setCell (p := ⟨X, 1, none⟩) hbk hbX _, by rw [World.size_setCell]; exact hzv, Lh (by have a := hbl.out; have b := hst.out; omega)⟩
    case measure =>
     rw [hm.out, atM_eq (p := k + 1) (hLk.setPos (k + 1) _ lq17).cells.2.1]
     omega
   ·have e32 : ((s[k].toNat : Int) == 32) = false := byte_ne (d := 32) (k := 32) rfl h32; have hst := blL_stop s k hlt h32; have hpk := HP.out k (by have a := hbl.out; omega); rw [drop_cons s k hlt, List.head?_cons, ← drop_cons s k hlt] at hpk; clear h32 hst
    by_cases h35 : s[k] = 35
    ·have e35 := byte_eq (k := 35) rfl h35; rw [if_pos (by rw [h35])] at hpk; clear h35; have hI := fun W => Tryz.strings_IndexByte (s.extract k s.size) 10 W
     rw [rest_list] at hI; have hrl := rem_le (s.data.toList.drop k); rw [List.length_drop] at hrl; have hle : s.data.toList.length = s.size := by simp
     rw [hle] at hrl; have e10 : (10 : Int).toNat.toUInt8 = 10 := rfl; rw [e10] at hI; have i3 : (k : Int) ≤ (s.size : Int) := by omega
     have hlen : (s.data.toList.drop k).length = s.size - k := by rw [List.length_drop, hle]
     rcases idx_rem (s.data.toList.drop k) with ⟨ha, hb⟩ | ⟨ha, hb⟩
     ·rw [ha] at hI; rw [hb, hlen] at hpk; have hfin := Lh (show pastP s p = s.size by rw [hpk]; omega); clear ha hb hpk hle hrl hlen e10; go_wp2_with fail
      go_quiet (fail)
      obtain ⟨v1, hv, hbv⟩ : ∃ v, v = wr.drewN nq ∧ Below wr.heap.size wr v := ⟨_, rfl, below_draws _ _⟩; rw [← hv]; clear hv q0 q1 q3 f1 f3
      replace hLk := hLk.later hbv
      replace hbk := hbk.trans (hbv.mono hzk)
      replace hzk := Nat.le_trans hzk hbv.size
      obtain ⟨q0, q1, q3, f1, f3, hX, hbX⟩ := hLk.cells; go_wp2_with fail
      go_quiet (fail)
      obtain ⟨v2, hv, hbv⟩ : ∃ v, v = v1.drewN nq ∧ Below v1.heap.size v1 v := ⟨_, rfl, below_draws _ _⟩; rw [← hv]; clear hv q0 q1 q3 f1 f3
      replace hLk := hLk.later hbv
      replace hbk := hbk.trans (hbv.mono hzk)
      replace hzk := Nat.le_trans hzk hbv.size
      obtain ⟨q0, q1, q3, f1, f3, hX, hbX⟩ := hLk.cells; go_wp2_with fail
      go_quiet ((go_at_call 164; exact Calls.quiet_of_same (hI _)))
      obtain ⟨v3, hv, hbv⟩ : ∃ v, v = v2.drewN nq ∧ Below v2.heap.size v2 v := ⟨_, rfl, below_draws _ _⟩; rw [← hv]; clear hv q0 q1 q3 f1 f3
      replace hLk := hLk.later hbv
      replace hbk := hbk.trans (hbv.mono hzk)
      replace hzk := Nat.le_trans hzk hbv.size
      obtain ⟨q0, q1, q3, f1, f3, hX, hbX⟩ := hLk.cells; go_wp2_with fail
      go_quiet (fail)
      obtain ⟨v4, hv, hbv⟩ : ∃ v, v = v3.drewN nq ∧ Below v3.heap.size v3 v := ⟨_, rfl, below_draws _ _⟩; rw [← hv]; clear hv q0 q1 q3 f1 f3
      replace hLk := hLk.later hbv
      replace hbk := hbk.trans (hbv.mono hzk)
      replace hzk := Nat.le_trans hzk hbv.size
      obtain ⟨q0, q1, q3, f1, f3, hX, hbX⟩ := hLk.cells; go_wp2
      go_end0
      exact ⟨rfl, by rw [hfin.out]; exact hLk.setPos _ _ lq17, Below.setCell (p := ⟨X, 1, none⟩) hbk hbX _⟩
     ·rw [hb] at hI
      generalize remL (s.data.toList.drop k) = r at *
      have hfin := Lh hpk; clear ha hb hpk hle hlen e10; go_wp2_with fail
      go_quiet (fail)
      obtain ⟨v1, hv, hbv⟩ : ∃ v, v = wr.drewN nq ∧ Below wr.heap.size wr v := ⟨_, rfl, below_draws _ _⟩; rw [← hv]; clear hv q0 q1 q3 f1 f3
      replace hLk := hLk.later hbv
      replace hbk := hbk.trans (hbv.mono hzk)
      replace hzk := Nat.le_trans hzk hbv.size
      obtain ⟨q0, q1, q3, f1, f3, hX, hbX⟩ := hLk.cells; go_wp2_with fail
      go_quiet (fail)
      obtain ⟨v2, hv, hbv⟩ : ∃ v, v = v1.drewN nq ∧ Below v1.heap.size v1 v := ⟨_, rfl, below_draws _ _⟩; rw [← hv]; clear hv q0 q1 q3 f1 f3
      replace hLk := hLk.later hbv
      replace hbk := hbk.trans (hbv.mono hzk)
      replace hzk := Nat.le_trans hzk hbv.size
      obtain ⟨q0, q1, q3, f1, f3, hX, hbX⟩ := hLk.cells; go_wp2_with fail
      go_quiet ((go_at_call 164; exact Calls.quiet_of_same (hI _)))
      obtain ⟨v3, hv, hbv⟩ : ∃ v, v = v2.drewN nq ∧ Below v2.heap.size v2 v := ⟨_, rfl, below_draws _ _⟩; rw [← hv]; clear hv q0 q1 q3 f1 f3
      replace hLk := hLk.later hbv
      replace hbk := hbk.trans (hbv.mono hzk)
      replace hzk := Nat.le_trans hzk hbv.size
      obtain ⟨q0, q1, q3, f1, f3, hX, hbX⟩ := hLk.cells; go_wp2
      go_end0
      exact ⟨rfl, by rw [hfin.out]; exact hLk.setPos _ _ lq17, Below.setCell (p := ⟨X, 1, none⟩) hbk hbX _⟩
    ·have e35 : ((s[k].toNat : Int) == 35) = false := byte_ne (d := 35) (k := 35) rfl h35; rw [if_neg (by intro h; injection h with h; exact h35 h)] at hpk; have hfin := Lh hpk; clear h35 hpk; go_wp2_with fail
     go_quiet (fail)
     obtain ⟨v1, hv, hbv⟩ : ∃ v, v = wr.drewN nq ∧ Below wr.heap.size wr v := ⟨_, rfl, below_draws _ _⟩; rw [← hv]; clear hv q0 q1 q3 f1 f3
     replace hLk := hLk.later hbv
     replace hbk := hbk.trans (hbv.mono hzk)
     replace hzk := Nat.le_trans hzk hbv.size
     obtain ⟨q0, q1, q3, f1, f3, hX, hbX⟩ := hLk.cells; go_wp2_with fail
     go_quiet (fail)
     obtain ⟨v2, hv, hbv⟩ : ∃ v, v = v1.drewN nq ∧ Below v1.heap.size v1 v := ⟨_, rfl, below_draws _ _⟩; rw [← hv]; clear hv q0 q1 q3 f1 f3
     replace hLk := hLk.later hbv
     replace hbk := hbk.trans (hbv.mono hzk)
     replace hzk := Nat.le_trans hzk hbv.size
     obtain ⟨q0, q1, q3, f1, f3, hX, hbX⟩ := hLk.cells; go_wp2
     go_end0
     exact ⟨rfl, by rw [hfin.out]; exact hLk, hbk⟩
  ·have hks : k = s.size := by omega
   subst hks; have hpk := HP.out s.size (by have a := hbl.out; rw [blL_end] at a; omega); rw [List.drop_eq_nil_of_le lq18, List.head?_nil, if_neg lq16] at hpk; have hfin := Lh hpk; have i1 : decide ((s.size : Int) < (s.size : Int)) = false := by simp
   clear hpk hlt; go_wp2_with fail
   go_quiet (fail)
   obtain ⟨v1, hv, hbv⟩ : ∃ v, v = wr.drewN nq ∧ Below wr.heap.size wr v := ⟨_, rfl, below_draws _ _⟩; rw [← hv]; clear hv q0 q1 q3 f1 f3
   replace hLk := hLk.later hbv
   replace hbk := hbk.trans (hbv.mono hzk)
   replace hzk := Nat.le_trans hzk hbv.size
   obtain ⟨q0, q1, q3, f1, f3, hX, hbX⟩ := hLk.cells; go_wp2_with fail
   go_quiet (fail)
   obtain ⟨v2, hv, hbv⟩ : ∃ v, v = v1.drewN nq ∧ Below v1.heap.size v1 v := ⟨_, rfl, below_draws _ _⟩; rw [← hv]; clear hv q0 q1 q3 f1 f3
   replace hLk := hLk.later hbv
   replace hbk := hbk.trans (hbv.mono hzk)
   replace hzk := Nat.le_trans hzk hbv.size
   obtain ⟨q0, q1, q3, f1, f3, hX, hbX⟩ := hLk.cells; go_wp2
   go_end0
   exact ⟨rfl, by rw [hfin.out]; exact hLk, hbk⟩
theorem lxEnds_ok (hL : LxS w base X s p o st toks) (hs : s.size ≤ 1099511) (hp : p ≤ s.size) (b : Bool) (hb : b = (match s.data.toList.drop p with | [] => true | c :: _ => c == 10)) :
  Calls Tryz.prog 86 #[.pointer (some ⟨X, 0, none⟩)] w fun e w' => e = .returned (.bool b) ∧ Below w.heap.size w w' := by
 obtain ⟨q0, q1, q3, f1, f3, hX, hbX⟩ := hL.cells
 have i2 : (0 : Int) ≤ (p : Int) := by omega
 by_cases hlt : p < s.size
 ·rw [drop_cons s p hlt] at hb
  dsimp only at hb
  have i1 : (p : Int) < (s.size : Int) := by omega
  have i3 : ((p : Int) == (s.size : Int)) = false := by simp; omega
  have e10 : ((s[p].toNat : Int) == 10) = b := by
   rw [hb]
   by_cases h : s[p] = 10
   ·rw [show ((s[p].toNat : Int) == 10) = true from byte_eq (k := 10) rfl h, h]; rfl
   ·rw [show ((s[p].toNat : Int) == 10) = false from byte_ne (d := 10) (k := 10) rfl h]; simpa using h
  clear hb; go_enter Tryz.func86, Tryz.ntmps86; go_wp2_with fail
  go_quiet (fail)
  go_wp2; go_ret; exact ⟨rfl, below_draws _ _⟩
 ·have hps : p = s.size := by omega
  subst hps; rw [List.drop_eq_nil_of_le lq18] at hb
  dsimp only at hb
  subst hb; have i3 : ((s.size : Int) == (s.size : Int)) = true := by simp
  clear hlt; go_enter Tryz.func86, Tryz.ntmps86; go_wp2_with fail
  go_quiet (fail)
  go_wp2; go_ret; exact ⟨rfl, below_draws _ _⟩
end
section
variable {w : World} {base X : Nat} {s : ByteArray} {p o : Nat} {st : List Nat} {toks : List Tk}
theorem lxLast_ok {d : Nat} (B : Nat) (hB : w.cell? ⟨B, 0, none⟩ = some (.pointer (some ⟨X, 0, none⟩))) (hL : LxS w base X s p o (d :: st) toks) (hn : st.length ≤ 1000000) :
  Calls Tryz.prog 165 #[.pointer (some ⟨B, 0, none⟩)] w fun e w' => e = .returned (.int .i64 d) ∧ Below w.heap.size w w' := by
 obtain ⟨LA, LC, BA, BC, h⟩ := hL
 obtain ⟨g, rfl, hc, hl, hm⟩ := h.top
 have q4 := h.c4
 rw [length_cons] at q4
 have hX := h.lt
 clear h
 generalize st.length = m at *
 have i0 : (0 : Int) ≤ (m : Int) := by omega
 have i1 : (m : Int) < ((m + 1 : Nat) : Int) := by omega
 have i2 : ((m + 1 : Nat) : Int) - 1 = (m : Int) := by omega
 have i3 : (m : Int) + 1 - 1 = (m : Int) := by omega
 go_enter Tryz.func165, Tryz.ntmps165
 go_wp2_with fail
 go_quiet (fail)
 go_wp2
 go_ret
 exact ⟨rfl, below_draws _ _⟩
def IndR (w : World) (base X : Nat) (s : ByteArray) (p o : Nat) (r : (List Nat × List Tk) ⊕ Int) (e : Ending) (w' : World) : Prop :=
 match r with
 | .inl y => e = .returned (.tuple #[]) ∧ LxS w' base X s p o y.1 y.2 ∧ Below base w w'
 | .inr c => e = .panicked [{ v := stopV c p, recovered := false }] ∧ Below base w w'
theorem LxS.cellB {d : Nat} (hL : LxS w base X s p o (d :: st) toks) : ∃ g BC, w.cell? ⟨X, 4, none⟩ = some (.slice (some ⟨g, 0, none⟩) (st.length + 1) BC) ∧ st.length + 1 ≤ BC ∧ BC ≤ 9223372036854775807 ∧ w.frozen? ⟨X, 4, none⟩ = false ∧ LxS (w.setCell ⟨X, 4, none⟩ (.slice (some ⟨g, 0, none⟩) st.length BC)) base X s p o st toks := by
 obtain ⟨LA, LC, BA, BC, h⟩ := hL
 obtain ⟨g, rfl, hc, hl, hm⟩ := h.top
 exact ⟨g, BC, h.c4, hl, hm, h.f4, ⟨LA, LC, _, BC, h.popB⟩⟩
theorem lxDrew {B : Nat} {a u : World} (h : Below B a u) : Below B a u.drew := h.trans ⟨rfl, rfl, rfl, Nat.le_refl _, fun _ _ => rfl⟩
def LxB (w : World) (base X : Nat) (s : ByteArray) (p o : Nat) (st : List Nat) (toks : List Tk) (B : Nat) : Prop :=
 ∃ LA LC BA BC, Lx w base X s p o st toks LA LC BA BC ∧ w.cell? ⟨B, 0, none⟩ = some (.pointer (some ⟨X, 0, none⟩)) ∧ B ≠ X ∧ (Value.slice LA toks.length LC).ownBlock ≠ some B ∧ (Value.slice BA st.length BC).ownBlock ≠ some B
theorem LxB.lx {B : Nat} (h : LxB w base X s p o st toks B) : LxS w base X s p o st toks := by
 obtain ⟨LA, LC, BA, BC, h, _⟩ := h
 exact ⟨LA, LC, BA, BC, h⟩
theorem LxB.box {B : Nat} (h : LxB w base X s p o st toks B) : w.cell? ⟨B, 0, none⟩ = some (.pointer (some ⟨X, 0, none⟩)) ∧ B < w.heap.size ∧ B ≠ X := by
 obtain ⟨LA, LC, BA, BC, h, h1, h2, _⟩ := h
 exact ⟨h1, World.block_lt_of_cell? w _ h1, h2⟩
theorem LxB.later {B : Nat} {w' : World} (h : LxB w base X s p o st toks B) (hb : Below w.heap.size w w') : LxB w' base X s p o st toks B := by
 obtain ⟨LA, LC, BA, BC, h, h1, h2⟩ := h
 exact ⟨LA, LC, BA, BC, h.later hb, cLt hb h1, h2⟩
theorem lxB_new (hL : LxS w base X s p o st toks) : LxB (w.alloc (.cells #[.pointer (some ⟨X, 0, none⟩)] 82)) base X s p o st toks w.heap.size := by
 obtain ⟨LA, LC, BA, BC, h⟩ := hL
 refine ⟨LA, LC, BA, BC, h.later ((Below.refl _ _).alloc (Nat.le_refl _) _), by simp, ?_, ?_, ?_⟩
 ·have := h.lt; omega
 ·intro e; have := h.ol.lt _ e; omega
 ·intro e; have := h.ob.lt _ e; omega
theorem LxB.pop {B d : Nat} {BA : Option Addr} {BC : Nat} (h : LxB w base X s p o (d :: st) toks B) (hc : w.cell? ⟨X, 4, none⟩ = some (.slice BA (st.length + 1) BC)) : LxB (w.setCell ⟨X, 4, none⟩ (.slice BA st.length BC)) base X s p o st toks B := by
 obtain ⟨LA, LC, BA', BC', h, h1, h2, h3, h4⟩ := h
 have h5 := h.c4
 rw [length_cons, hc] at h5
 injection h5 with h5
 injection h5 with e1 _ e3
 subst e1 e3
 refine ⟨LA, LC, BA, BC, h.popB, ?_, h2, h3, own_len_ne h4⟩
 rw [World.cell?_setCell_other _ _ _ _ (fun e => h2 (by injection e with e; first | exact e | exact e.symm))]; exact h1
theorem lxPutB_ok {B : Nat} (kind : Int) (T : ByteArray) (a : Nat) (hL : LxB w base X s p o st toks B) (hz : base ≤ w.heap.size) (hT : T.size ≤ 1099511627776) (hn : toks.length ≤ 1000000) :
  Calls Tryz.prog 89 #[.pointer (some ⟨X, 0, none⟩), .int .i64 kind, .string T, .int .i64 a] w fun e w' => e = .returned (.tuple #[]) ∧ LxB w' base X s p o st (toks ++ [⟨kind, T.data.toList, a⟩]) B ∧ Below base w w' := by
 have hbx := hL.box
 obtain ⟨LA, LC, BA, BC, h, h1, h2, h3, h4⟩ := hL
 refine (lxPutX_ok kind T a h hz hT hn).mono ?_
 rintro e w' ⟨he, ⟨LA', LC', hl, hk⟩, hb⟩
 obtain ⟨k1, k2⟩ := hk B hbx.2.1 h2 h3
 exact ⟨he, ⟨LA', LC', BA, BC, hl, (World.cell?_of_block (a := ⟨B, 0, none⟩) k1).trans h1, h2, by rw [length_append]; exact k2, h4⟩, hb⟩
theorem lxInd_more {d n : Nat} (hL : LxS w base X s p o (d :: st) toks) (hz : base ≤ w.heap.size) (hn : toks.length ≤ 1000000) (hst : st.length ≤ 1000) (hp : p ≤ 1099511) (hd : d < n) (hn2 : n ≤ 1099511) :
  Calls Tryz.prog 87 #[.pointer (some ⟨X, 0, none⟩), .int .i64 n] w (IndR w base X s p o (if 40 < (d :: st).length then .inr 107 else .inl (n :: d :: st, toks ++ [⟨7, [], p⟩]))) := by
 have hmf : ∀ (fn : Fn) (first cap : Array Value) (w : World), (Instr.makeFunc fn first cap).run Tryz.prog w = .ok (.func fn first cap) w := fun _ _ _ _ => rfl
 have hLB := lxB_new hL
 obtain ⟨W1, hW1⟩ : ∃ W1, w.alloc (.cells #[.pointer (some ⟨X, 0, none⟩)] 82) = W1 := ⟨_, rfl⟩
 have hb1 : Below w.heap.size w W1 := by rw [← hW1]; exact (Below.refl _ _).alloc (Nat.le_refl _) _
 rw [hW1] at hLB
 have hzb := hb1.mono hz
 have hz1 := Nat.le_trans hz hb1.size
 have hdn : (d : Int) < (n : Int) := by omega
 clear hL hb1
 obtain ⟨i0, hi0, hz0, hzz1, hzz2⟩ := info_parts int_info
 by_cases h40 : 40 < (d :: st).length
 ·rw [if_pos h40]; unfold IndR
  dsimp only
  have e40 : decide (40 < ((st.length : Nat) : Int) + 1) = true := dTr (by simp at h40; omega); go_enter Tryz.func87, Tryz.ntmps87; go_wp2_with fail; clear hW1
  go_at_call 165
  refine (lxLast_ok w.heap.size hLB.box.1 hLB.lx lq17).mono ?_
  rintro e w2 ⟨rfl, hb2⟩
  replace hLB := hLB.later hb2
  have hz2 := Nat.le_trans hz1 hb2.size; have hzb2 := hzb.trans (hb2.mono hz1); clear hb2 hzb hz1; obtain ⟨B, hBe⟩ : ∃ B, w.heap.size = B := ⟨_, rfl⟩; rw [hBe] at hLB; rw [hBe]; clear hBe; obtain ⟨hB2, hBs2, hBX2⟩ := hLB.box; obtain ⟨q0, q1, q3, f1, f3, hX, hbX⟩ := hLB.lx.cells; obtain ⟨g, BC, q4, hl4, hm4, f4, _⟩ := hLB.lx.cellB; go_wp2_with fail
  go_still_tail 5, lq15
  go_wp2_with (go_at_call 166; refine (lxFail_ok X 107 p _).mono ?_; rintro e w' ⟨rfl, rfl⟩); exact ⟨rfl, rfl, hzb2.trans ((below_draws w2 1).mono hz2)⟩
 ·rw [if_neg h40]; unfold IndR
  dsimp only
  have e40 : decide (40 < ((st.length : Nat) : Int) + 1) = false := dFa (by simp at h40; omega); have e41 : ¬ (40 < ((st.length : Nat) : Int) + 1) := by simp at h40; omega
  go_enter Tryz.func87, Tryz.ntmps87; go_wp2_with fail; clear hW1
  go_at_call 165
  refine (lxLast_ok w.heap.size hLB.box.1 hLB.lx lq17).mono ?_
  rintro e w2 ⟨rfl, hb2⟩
  replace hLB := hLB.later hb2
  have hz2 := Nat.le_trans hz1 hb2.size; have hzb2 := hzb.trans (hb2.mono hz1); clear hb2 hzb hz1; obtain ⟨B, hBe⟩ : ∃ B, w.heap.size = B := ⟨_, rfl⟩; rw [hBe] at hLB; rw [hBe]; clear hBe; obtain ⟨hB2, hBs2, hBX2⟩ := hLB.box; obtain ⟨q0, q1, q3, f1, f3, hX, hbX⟩ := hLB.lx.cells; obtain ⟨g, BC, q4, hl4, hm4, f4, _⟩ := hLB.lx.cellB; go_wp2_with fail
  go_region_held3 (fun W => W.cell? ⟨B, 0, none⟩ = some (.pointer (some ⟨X, 0, none⟩)) ∧ W.cell? ⟨X, 1, none⟩ = some (.int .i64 p)) (first | exact ⟨hB2, q1⟩ | exact ⟨hB3, q13⟩ | go_keep) (first | (go_at_call 89; refine (lxPutB_ok 7 ⟨#[]⟩ p (hLB.later (below_draws w2 1)) hz2 lq16 hn).mono ?_; rintro e w3 ⟨rfl, hL3, hb3⟩; obtain ⟨hB3, hBs3, hBX3⟩ := hL3.box; obtain ⟨q03, q13, q33, f13, f33, hX3, hbX3⟩ := hL3.lx.cells))
  clear q0 q1 q3 f1 f3 q4 f4 hl4 hm4 hB2 hBs2; have hz3 := Nat.le_trans hz2 hb3.size; have hzb3 := hzb2.trans (((below_draws w2 1).mono hz2).trans hb3); obtain ⟨LA, LC, BA, BC, hx, h1, h2, h3, h4⟩ := hL3; have q4 := hx.c4; go_wp2_with fail; have f4 := hx.f4; have hob : w3.ownsRow base 3 1 (.slice BA (st.length + 1) BC) (st.length + 1) (stVs (d :: st)) := hx.ob; rw [length_cons] at q4; have hz4 : base ≤ w3.heap.size := hz3
  go_region_law (first
   | (refine step_append_lies _ (by rfl) _ _ _ (by rfl) base 3 i0 _ 1 8 Tryz.underlying83 hi0 hz0 hzz1 hzz2 rfl lq17 (.slice BA (st.length + 1) BC) (st.length + 1) (stVs (d :: st)) (by rfl) (hob.alloc _) ⟨w3.heap.size, 0, none⟩ 1 1 [.int .i64 n] (by rfl) (by rfl) (World.news_of_block (cs := #[.int .i64 n]) (t := 3) (fr := (0, 0)) (heap_alloc_new w3 _)) (by simp [Value.oneCell']) lq17 lq13 lq17 (by simp; omega) (w3.heap.size + 1) lq18 ?_; intro gg cap w4 hown4 hgrow hat hlt; have hx2 := hx.later (lxDrew ((Below.refl _ _).alloc (Nat.le_refl w3.heap.size) (.cells #[.int .i64 n] 3))); have k4 := hgrow.cell hx2.c4 (fun e => hx2.nb e.symm); have kf : w4.frozen? ⟨X, 4, none⟩ = false := (World.frozen?_of_block (a := ⟨X, 4, none⟩) (hgrow.block X hx2.lt (fun e => hx2.nb e.symm))).trans hx2.f4; have hX4 : X < w4.heap.size := Nat.lt_of_lt_of_le hx2.lt hgrow.size; have kB : w4.cell? ⟨B, 0, none⟩ = some (.pointer (some ⟨X, 0, none⟩)) := hgrow.cell (cLt (lxDrew ((Below.refl _ _).alloc (Nat.le_refl w3.heap.size) (.cells #[.int .i64 n] 3))) hB3) (fun e => h4 e.symm)))
  all_goals
   go_wp2
   refine bodyPost_ret (results_none rfl _ _ _) rfl ?_
   refine ⟨rfl, ⟨LA, LC, some ⟨gg, 0, none⟩, cap, hx2.addB (by simp; omega) n hown4 hgrow ?_⟩, ?_⟩
   ·rcases hat with e | e
    ·exact Or.inl e
    ·exact Or.inr (by rw [e]; simp)
   ·refine Below.setCell (p := ⟨X, 4, none⟩) ?_ hx.bX _
    refine Below.grown ?_ hgrow (by simp; omega) ?_
    ·exact lxDrew (hzb3.alloc hz3 _)
    ·exact fun k hk => (hx2.ob.lt k hk).1
end
end
end Go.Proofs.YtjndbcnmmnkilaaGreatDoor
