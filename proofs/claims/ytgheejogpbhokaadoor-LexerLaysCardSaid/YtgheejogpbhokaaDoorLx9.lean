/- The lexer's past and ends. -/
import Derived.Test.YtgheejogpbhokaaDoorLx8
import Derived.Lib.Bytealg
namespace Go.Proofs.YtgheejogpbhokaaDoor
set_option linter.unusedVariables false
set_option linter.unusedSimpArgs false
open Go.RowKit
set_option maxRecDepth 1000000

/-- so many blanks at the head. -/
def blL (l : List UInt8) : Nat := (l.takeWhile (fun c => c == 32)).length
theorem blL_step (s : ByteArray) (k : Nat) (h : k < s.size) (hc : s[k] = 32) : blL (s.data.toList.drop k) = 1 + blL (s.data.toList.drop (k + 1)) := by
  rw [drop_cons s k h, blL, List.takeWhile_cons, if_pos (by rw [hc]; decide), List.length_cons, blL]; omega
theorem blL_stop (s : ByteArray) (k : Nat) (h : k < s.size) (hc : s[k] ≠ 32) : blL (s.data.toList.drop k) = 0 := by
  rw [drop_cons s k h, blL, List.takeWhile_cons, if_neg (by simpa using hc)]; rfl
theorem blL_end (s : ByteArray) : blL (s.data.toList.drop s.size) = 0 := by
  rw [List.drop_eq_nil_of_le (by simp)]; rfl
/-- behind blanks and a remark. -/
def pastP (s : ByteArray) (p : Nat) : Nat :=
  p + blL (s.data.toList.drop p) + (if (s.data.toList.drop (p + blL (s.data.toList.drop p))).head? = some 35 then remL (s.data.toList.drop (p + blL (s.data.toList.drop p))) else 0)
theorem idx_rem : ∀ l : List UInt8, (Lib.indexByte l 10 = -1 ∧ remL l = l.length) ∨ (0 ≤ Lib.indexByte l 10 ∧ Lib.indexByte l 10 = remL l)
  | [] => Or.inl ⟨rfl, rfl⟩
  | c :: t => by
    unfold Lib.indexByte
    by_cases hc : c = 10
    · subst hc
      right
      exact ⟨by simp, by simp [remL]⟩
    · have h1 : (c == 10) = false := by simpa using hc
      have h2 : remL (c :: t) = 1 + remL t := by
        rw [remL, List.takeWhile_cons, if_pos (by simpa using hc), List.length_cons, remL]; omega
      rw [h1, h2]
      rcases idx_rem t with ⟨a, b⟩ | ⟨a, b⟩
      · left
        rw [a]
        exact ⟨rfl, by rw [b, List.length_cons]; omega⟩
      · right
        have : (Lib.indexByte t 10 == -1) = false := by simp; omega
        rw [this]
        simp only [Bool.false_eq_true, if_false]
        omega
theorem rem_le (l : List UInt8) : remL l ≤ l.length := by unfold remL; exact (List.takeWhile_sublist _).length_le

def atM (s : ByteArray) (X : Nat) (w : World) : Nat := match w.cell? ⟨X, 1, none⟩ with | some (.int _ n) => s.size - n.toNat | _ => 0
theorem atM_eq {w : World} {s : ByteArray} {X p : Nat} (h : w.cell? ⟨X, 1, none⟩ = some (.int .i64 p)) : atM s X w = s.size - p := by
  unfold atM; rw [h]; simp

section
variable {w : World} {base X : Nat} {s : ByteArray} {p o : Nat} {st : List Nat} {toks : List Tk}
theorem byte_ne {c : UInt8} {k : Nat} {d : UInt8} (hd : d.toNat = k) (h : c ≠ d) : ((c.toNat : Int) == (k : Int)) = false := by
  simp; intro e; exact h (UInt8.toNat_inj.1 (by omega))
theorem byte_eq {c d : UInt8} {k : Nat} (hd : d.toNat = k) (h : c = d) : ((c.toNat : Int) == (k : Int)) = true := by
  subst h; simp; omega
set_option maxHeartbeats 4000000 in
theorem lxPast_ok (hL : LxS w base X s p o st toks) (hz : base ≤ w.heap.size) (hs : s.size ≤ 1099511) (hp : p ≤ s.size) :
    Calls Tryd.prog 24 #[.pointer (some ⟨X, 0, none⟩)] w fun e w' => e = .returned (.tuple #[]) ∧ LxS w' base X s (pastP s p) o st toks ∧ Below base w w' := by
  have HP := Lib.hid (show ∀ k, k = p + blL (s.data.toList.drop p) → pastP s p = k + (if (s.data.toList.drop k).head? = some 35 then remL (s.data.toList.drop k) else 0) from fun k h => by rw [h]; rfl)
  have hsz : w.heap.size ≤ w.heap.size := Nat.le_refl _
  go_enter Tryd.func24, Tryd.ntmps24
  go_wp2
  go_loopw [3] (fun v wr => ∃ k : Nat, p ≤ k ∧ k ≤ s.size ∧ LxS wr base X s k o st toks ∧ Below base w wr ∧ base ≤ wr.heap.size ∧ Hid (blL (s.data.toList.drop p) = k - p + blL (s.data.toList.drop k))) (fun v wr => atM s X wr)
  case atStart => exact ⟨p, Nat.le_refl _, hp, hL, Below.refl _ _, hz, Lib.hid (by omega)⟩
  case round =>
    obtain ⟨k, hk1, hk2, hLk, hbk, hzk, hbl⟩ := hrel
    clear hL
    obtain ⟨q0, q1, q3, f1, f3, hX, hbX⟩ := hLk.cells
    have hm := Lib.hid (atM_eq (s := s) q1)
    have i2 : (0 : Int) ≤ (k : Int) := by omega
    by_cases hlt : k < s.size
    · have i1 : (k : Int) < (s.size : Int) := by omega
      by_cases h32 : s[k] = 32
      · have e32 := byte_eq (k := 32) rfl h32
        have hst := Lib.hid (blL_step s k hlt h32)
        clear h32
        go_wp2_with fail
        go_quiet (fail)
        obtain ⟨v, hv, hbv⟩ : ∃ v, v = wr.drewN nq ∧ Below wr.heap.size wr v := ⟨_, rfl, below_draws _ _⟩
        rw [← hv]
        clear hv q0 q1 q3 f1 f3
        replace hLk := hLk.later hbv
        have hzv := Nat.le_trans hzk hbv.size
        replace hbk := hbk.trans (hbv.mono hzk)
        obtain ⟨q0, q1, q3, f1, f3, hX, hbX⟩ := hLk.cells
        go_wp2
        go_roundw
        case rel =>
          exact ⟨k + 1, by omega, by omega, hLk.setPos (k + 1) _ (by omega), Below.setCell (p := ⟨X, 1, none⟩) hbk hbX _, by rw [World.size_setCell]; exact hzv, Lib.hid (by have a := hbl.out; have b := hst.out; omega)⟩
        case measure =>
          rw [hm.out, atM_eq (p := k + 1) (hLk.setPos (k + 1) _ (by omega)).cells.2.1]
          omega
      · have e32 : ((s[k].toNat : Int) == 32) = false := byte_ne (d := 32) (k := 32) rfl h32
        have hst := blL_stop s k hlt h32
        have hpk := HP.out k (by have a := hbl.out; omega)
        rw [drop_cons s k hlt, List.head?_cons, ← drop_cons s k hlt] at hpk
        clear h32 hst
        by_cases h35 : s[k] = 35
        · have e35 := byte_eq (k := 35) rfl h35
          rw [if_pos (by rw [h35])] at hpk
          clear h35
          have hI := fun W => Tryd.strings_IndexByte (s.extract k s.size) 10 W
          rw [rest_list] at hI
          have hrl := rem_le (s.data.toList.drop k)
          rw [List.length_drop] at hrl
          have hle : s.data.toList.length = s.size := by simp
          rw [hle] at hrl
          have e10 : (10 : Int).toNat.toUInt8 = 10 := rfl
          rw [e10] at hI
          have i3 : (k : Int) ≤ (s.size : Int) := by omega
          have hlen : (s.data.toList.drop k).length = s.size - k := by rw [List.length_drop, hle]
          rcases idx_rem (s.data.toList.drop k) with ⟨ha, hb⟩ | ⟨ha, hb⟩
          · rw [ha] at hI
            rw [hb, hlen] at hpk
            have hfin := Lib.hid (show pastP s p = s.size by rw [hpk]; omega)
            clear ha hb hpk hle hrl hlen e10
            go_wp2_with fail
            go_quiet (fail)
            obtain ⟨v1, hv, hbv⟩ : ∃ v, v = wr.drewN nq ∧ Below wr.heap.size wr v := ⟨_, rfl, below_draws _ _⟩
            rw [← hv]
            clear hv q0 q1 q3 f1 f3
            replace hLk := hLk.later hbv
            replace hbk := hbk.trans (hbv.mono hzk)
            replace hzk := Nat.le_trans hzk hbv.size
            obtain ⟨q0, q1, q3, f1, f3, hX, hbX⟩ := hLk.cells
            go_wp2_with fail
            go_quiet (fail)
            obtain ⟨v2, hv, hbv⟩ : ∃ v, v = v1.drewN nq ∧ Below v1.heap.size v1 v := ⟨_, rfl, below_draws _ _⟩
            rw [← hv]
            clear hv q0 q1 q3 f1 f3
            replace hLk := hLk.later hbv
            replace hbk := hbk.trans (hbv.mono hzk)
            replace hzk := Nat.le_trans hzk hbv.size
            obtain ⟨q0, q1, q3, f1, f3, hX, hbX⟩ := hLk.cells
            go_wp2_with fail
            go_quiet ((go_at_call 37; exact Calls.quiet_of_same (hI _)))
            obtain ⟨v3, hv, hbv⟩ : ∃ v, v = v2.drewN nq ∧ Below v2.heap.size v2 v := ⟨_, rfl, below_draws _ _⟩
            rw [← hv]
            clear hv q0 q1 q3 f1 f3
            replace hLk := hLk.later hbv
            replace hbk := hbk.trans (hbv.mono hzk)
            replace hzk := Nat.le_trans hzk hbv.size
            obtain ⟨q0, q1, q3, f1, f3, hX, hbX⟩ := hLk.cells
            go_wp2_with fail
            go_quiet (fail)
            obtain ⟨v4, hv, hbv⟩ : ∃ v, v = v3.drewN nq ∧ Below v3.heap.size v3 v := ⟨_, rfl, below_draws _ _⟩
            rw [← hv]
            clear hv q0 q1 q3 f1 f3
            replace hLk := hLk.later hbv
            replace hbk := hbk.trans (hbv.mono hzk)
            replace hzk := Nat.le_trans hzk hbv.size
            obtain ⟨q0, q1, q3, f1, f3, hX, hbX⟩ := hLk.cells
            go_wp2
            go_end0
            exact ⟨rfl, by rw [hfin.out]; exact hLk.setPos _ _ (by omega), Below.setCell (p := ⟨X, 1, none⟩) hbk hbX _⟩
          · rw [hb] at hI
            generalize remL (s.data.toList.drop k) = r at *
            have hfin := Lib.hid hpk
            clear ha hb hpk hle hlen e10
            go_wp2_with fail
            go_quiet (fail)
            obtain ⟨v1, hv, hbv⟩ : ∃ v, v = wr.drewN nq ∧ Below wr.heap.size wr v := ⟨_, rfl, below_draws _ _⟩
            rw [← hv]
            clear hv q0 q1 q3 f1 f3
            replace hLk := hLk.later hbv
            replace hbk := hbk.trans (hbv.mono hzk)
            replace hzk := Nat.le_trans hzk hbv.size
            obtain ⟨q0, q1, q3, f1, f3, hX, hbX⟩ := hLk.cells
            go_wp2_with fail
            go_quiet (fail)
            obtain ⟨v2, hv, hbv⟩ : ∃ v, v = v1.drewN nq ∧ Below v1.heap.size v1 v := ⟨_, rfl, below_draws _ _⟩
            rw [← hv]
            clear hv q0 q1 q3 f1 f3
            replace hLk := hLk.later hbv
            replace hbk := hbk.trans (hbv.mono hzk)
            replace hzk := Nat.le_trans hzk hbv.size
            obtain ⟨q0, q1, q3, f1, f3, hX, hbX⟩ := hLk.cells
            go_wp2_with fail
            go_quiet ((go_at_call 37; exact Calls.quiet_of_same (hI _)))
            obtain ⟨v3, hv, hbv⟩ : ∃ v, v = v2.drewN nq ∧ Below v2.heap.size v2 v := ⟨_, rfl, below_draws _ _⟩
            rw [← hv]
            clear hv q0 q1 q3 f1 f3
            replace hLk := hLk.later hbv
            replace hbk := hbk.trans (hbv.mono hzk)
            replace hzk := Nat.le_trans hzk hbv.size
            obtain ⟨q0, q1, q3, f1, f3, hX, hbX⟩ := hLk.cells
            go_wp2
            go_end0
            exact ⟨rfl, by rw [hfin.out]; exact hLk.setPos _ _ (by omega), Below.setCell (p := ⟨X, 1, none⟩) hbk hbX _⟩
        · have e35 : ((s[k].toNat : Int) == 35) = false := byte_ne (d := 35) (k := 35) rfl h35
          rw [if_neg (by intro h; injection h with h; exact h35 h)] at hpk
          have hfin := Lib.hid hpk
          clear h35 hpk
          go_wp2_with fail
          go_quiet (fail)
          obtain ⟨v1, hv, hbv⟩ : ∃ v, v = wr.drewN nq ∧ Below wr.heap.size wr v := ⟨_, rfl, below_draws _ _⟩
          rw [← hv]
          clear hv q0 q1 q3 f1 f3
          replace hLk := hLk.later hbv
          replace hbk := hbk.trans (hbv.mono hzk)
          replace hzk := Nat.le_trans hzk hbv.size
          obtain ⟨q0, q1, q3, f1, f3, hX, hbX⟩ := hLk.cells
          go_wp2_with fail
          go_quiet (fail)
          obtain ⟨v2, hv, hbv⟩ : ∃ v, v = v1.drewN nq ∧ Below v1.heap.size v1 v := ⟨_, rfl, below_draws _ _⟩
          rw [← hv]
          clear hv q0 q1 q3 f1 f3
          replace hLk := hLk.later hbv
          replace hbk := hbk.trans (hbv.mono hzk)
          replace hzk := Nat.le_trans hzk hbv.size
          obtain ⟨q0, q1, q3, f1, f3, hX, hbX⟩ := hLk.cells
          go_wp2
          go_end0
          exact ⟨rfl, by rw [hfin.out]; exact hLk, hbk⟩
    · have hks : k = s.size := by omega
      subst hks
      have hpk := HP.out s.size (by have a := hbl.out; rw [blL_end] at a; omega)
      rw [List.drop_eq_nil_of_le (by simp), List.head?_nil, if_neg (by decide)] at hpk
      have hfin := Lib.hid hpk
      have i1 : decide ((s.size : Int) < (s.size : Int)) = false := by simp
      clear hpk hlt
      go_wp2_with fail
      go_quiet (fail)
      obtain ⟨v1, hv, hbv⟩ : ∃ v, v = wr.drewN nq ∧ Below wr.heap.size wr v := ⟨_, rfl, below_draws _ _⟩
      rw [← hv]
      clear hv q0 q1 q3 f1 f3
      replace hLk := hLk.later hbv
      replace hbk := hbk.trans (hbv.mono hzk)
      replace hzk := Nat.le_trans hzk hbv.size
      obtain ⟨q0, q1, q3, f1, f3, hX, hbX⟩ := hLk.cells
      go_wp2_with fail
      go_quiet (fail)
      obtain ⟨v2, hv, hbv⟩ : ∃ v, v = v1.drewN nq ∧ Below v1.heap.size v1 v := ⟨_, rfl, below_draws _ _⟩
      rw [← hv]
      clear hv q0 q1 q3 f1 f3
      replace hLk := hLk.later hbv
      replace hbk := hbk.trans (hbv.mono hzk)
      replace hzk := Nat.le_trans hzk hbv.size
      obtain ⟨q0, q1, q3, f1, f3, hX, hbX⟩ := hLk.cells
      go_wp2
      go_end0
      exact ⟨rfl, by rw [hfin.out]; exact hLk, hbk⟩

set_option maxHeartbeats 2000000 in
theorem lxEnds_ok (hL : LxS w base X s p o st toks) (hs : s.size ≤ 1099511) (hp : p ≤ s.size) (b : Bool) (hb : b = (match s.data.toList.drop p with | [] => true | c :: _ => c == 10)) :
    Calls Tryd.prog 25 #[.pointer (some ⟨X, 0, none⟩)] w fun e w' => e = .returned (.bool b) ∧ Below w.heap.size w w' := by
  obtain ⟨q0, q1, q3, f1, f3, hX, hbX⟩ := hL.cells
  have i2 : (0 : Int) ≤ (p : Int) := by omega
  by_cases hlt : p < s.size
  · rw [drop_cons s p hlt] at hb
    dsimp only at hb
    have i1 : (p : Int) < (s.size : Int) := by omega
    have i3 : ((p : Int) == (s.size : Int)) = false := by simp; omega
    have e10 : ((s[p].toNat : Int) == 10) = b := by
      rw [hb]
      by_cases h : s[p] = 10
      · rw [show ((s[p].toNat : Int) == 10) = true from byte_eq (k := 10) rfl h, h]; rfl
      · rw [show ((s[p].toNat : Int) == 10) = false from byte_ne (d := 10) (k := 10) rfl h]; simpa using h
    clear hb
    go_enter Tryd.func25, Tryd.ntmps25
    go_wp2_with fail
    go_quiet (fail)
    go_wp2
    go_ret
    exact ⟨rfl, below_draws _ _⟩
  · have hps : p = s.size := by omega
    subst hps
    rw [List.drop_eq_nil_of_le (by simp)] at hb
    dsimp only at hb
    subst hb
    have i3 : ((s.size : Int) == (s.size : Int)) = true := by simp
    clear hlt
    go_enter Tryd.func25, Tryd.ntmps25
    go_wp2_with fail
    go_quiet (fail)
    go_wp2
    go_ret
    exact ⟨rfl, below_draws _ _⟩
end
end Go.Proofs.YtgheejogpbhokaaDoor
