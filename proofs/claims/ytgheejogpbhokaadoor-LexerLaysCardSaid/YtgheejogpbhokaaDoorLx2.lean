/- The lexer's isLetter, run and Word. -/
import Derived.Test.YtgheejogpbhokaaDoorLx1
namespace Go.Proofs.YtgheejogpbhokaaDoor
set_option linter.unusedVariables false
set_option linter.unusedSimpArgs false
open Go.RowKit
set_option maxRecDepth 1000000

theorem isLet_ok (c : UInt8) (w : World) : Calls Tryd.prog 40 #[.int .u8 c.toNat] w fun e w' => e = .returned (.bool (isLet c)) ∧ w = w' := by
  obtain ⟨k, hk⟩ : ∃ k, c.toNat = k := ⟨_, rfl⟩
  have hd : isLet c = ((decide (97 ≤ k) && decide (k ≤ 122)) || (decide (65 ≤ k) && decide (k ≤ 90)) || k == 95) := by rw [isLet, hk]
  rw [hd, hk]
  clear hd hk c
  rcases (by omega : k < 65 ∨ (65 ≤ k ∧ k ≤ 90) ∨ (90 < k ∧ k < 95) ∨ k = 95 ∨ k = 96 ∨ (97 ≤ k ∧ k ≤ 122) ∨ 122 < k) with h | h | h | h | h | h | h
  · have hr : ((decide (97 ≤ k) && decide (k ≤ 122)) || (decide (65 ≤ k) && decide (k ≤ 90)) || k == 95) = false := by simp; omega
    rw [hr]
    clear hr
    have e1 : decide (97 ≤ (k : Int)) = false := decide_eq_false (by omega)
    have e3 : decide (65 ≤ (k : Int)) = false := decide_eq_false (by omega)
    have e5 : ((k : Int) == 95) = false := by simp; omega
    clear h
    go_enter Tryd.func40, Tryd.ntmps40
    go_wp2
    go_ret
    exact ⟨rfl, rfl⟩
  · have hr : ((decide (97 ≤ k) && decide (k ≤ 122)) || (decide (65 ≤ k) && decide (k ≤ 90)) || k == 95) = true := by simp; omega
    rw [hr]
    clear hr
    have e1 : decide (97 ≤ (k : Int)) = false := decide_eq_false (by omega)
    have e3 : decide (65 ≤ (k : Int)) = true := decide_eq_true (by omega)
    have e4 : decide ((k : Int) ≤ 90) = true := decide_eq_true (by omega)
    clear h
    go_enter Tryd.func40, Tryd.ntmps40
    go_wp2
    go_ret
    exact ⟨rfl, rfl⟩
  · have hr : ((decide (97 ≤ k) && decide (k ≤ 122)) || (decide (65 ≤ k) && decide (k ≤ 90)) || k == 95) = false := by simp; omega
    rw [hr]
    clear hr
    have e1 : decide (97 ≤ (k : Int)) = false := decide_eq_false (by omega)
    have e3 : decide (65 ≤ (k : Int)) = true := decide_eq_true (by omega)
    have e4 : decide ((k : Int) ≤ 90) = false := decide_eq_false (by omega)
    have e5 : ((k : Int) == 95) = false := by simp; omega
    clear h
    go_enter Tryd.func40, Tryd.ntmps40
    go_wp2
    go_ret
    exact ⟨rfl, rfl⟩
  · have hr : ((decide (97 ≤ k) && decide (k ≤ 122)) || (decide (65 ≤ k) && decide (k ≤ 90)) || k == 95) = true := by simp; omega
    rw [hr]
    clear hr
    have e1 : decide (97 ≤ (k : Int)) = false := decide_eq_false (by omega)
    have e3 : decide (65 ≤ (k : Int)) = true := decide_eq_true (by omega)
    have e4 : decide ((k : Int) ≤ 90) = false := decide_eq_false (by omega)
    have e5 : ((k : Int) == 95) = true := by simp; omega
    clear h
    go_enter Tryd.func40, Tryd.ntmps40
    go_wp2
    go_ret
    exact ⟨rfl, rfl⟩
  · have hr : ((decide (97 ≤ k) && decide (k ≤ 122)) || (decide (65 ≤ k) && decide (k ≤ 90)) || k == 95) = false := by simp; omega
    rw [hr]
    clear hr
    have e1 : decide (97 ≤ (k : Int)) = false := decide_eq_false (by omega)
    have e3 : decide (65 ≤ (k : Int)) = true := decide_eq_true (by omega)
    have e4 : decide ((k : Int) ≤ 90) = false := decide_eq_false (by omega)
    have e5 : ((k : Int) == 95) = false := by simp; omega
    clear h
    go_enter Tryd.func40, Tryd.ntmps40
    go_wp2
    go_ret
    exact ⟨rfl, rfl⟩
  · have hr : ((decide (97 ≤ k) && decide (k ≤ 122)) || (decide (65 ≤ k) && decide (k ≤ 90)) || k == 95) = true := by simp; omega
    rw [hr]
    clear hr
    have e1 : decide (97 ≤ (k : Int)) = true := decide_eq_true (by omega)
    have e2 : decide ((k : Int) ≤ 122) = true := decide_eq_true (by omega)
    clear h
    go_enter Tryd.func40, Tryd.ntmps40
    go_wp2
    go_ret
    exact ⟨rfl, rfl⟩
  · have hr : ((decide (97 ≤ k) && decide (k ≤ 122)) || (decide (65 ≤ k) && decide (k ≤ 90)) || k == 95) = false := by simp; omega
    rw [hr]
    clear hr
    have e1 : decide (97 ≤ (k : Int)) = true := decide_eq_true (by omega)
    have e2 : decide ((k : Int) ≤ 122) = false := decide_eq_false (by omega)
    have e3 : decide (65 ≤ (k : Int)) = true := decide_eq_true (by omega)
    have e4 : decide ((k : Int) ≤ 90) = false := decide_eq_false (by omega)
    have e5 : ((k : Int) == 95) = false := by simp; omega
    clear h
    go_enter Tryd.func40, Tryd.ntmps40
    go_wp2
    go_ret
    exact ⟨rfl, rfl⟩

/-- the word at a place. -/
def wdS (s : ByteArray) (p : Nat) : ByteArray := s.extract p (p + (wd (s.data.toList.drop p)).length)
theorem ext_list (s : ByteArray) (a b : Nat) : (s.extract a b).data.toList = (s.data.toList.drop a).take (b - a) := by
  simp [ByteArray.extract, ByteArray.copySlice, List.drop_take, List.extract_eq_take_drop]
theorem wd_take (l : List UInt8) : l.take (wd l).length = wd l := by
  unfold wd
  conv => lhs; arg 2; rw [← List.takeWhile_append_dropWhile (p := isWd) (l := l)]
  rw [List.take_left]
theorem wdS_list (s : ByteArray) (p : Nat) : (wdS s p).data.toList = wd (s.data.toList.drop p) := by
  rw [wdS, ext_list, Nat.add_sub_cancel_left, wd_take]
theorem wdS_size (s : ByteArray) (p : Nat) : (wdS s p).size = (wd (s.data.toList.drop p)).length := by
  rw [← wdS_list]; simp
theorem drop_cons (s : ByteArray) (k : Nat) (h : k < s.size) : s.data.toList.drop k = s[k] :: s.data.toList.drop (k + 1) := by
  rw [List.drop_eq_getElem_cons (by simpa using h)]; rfl
theorem wd_step (s : ByteArray) (k : Nat) (h : k < s.size) (hw : isWd s[k] = true) : (wd (s.data.toList.drop k)).length = 1 + (wd (s.data.toList.drop (k + 1))).length := by
  rw [drop_cons s k h, wd, List.takeWhile_cons, if_pos hw, List.length_cons, wd]; omega
theorem wd_stop (s : ByteArray) (k : Nat) (h : k < s.size) (hw : isWd s[k] = false) : (wd (s.data.toList.drop k)).length = 0 := by
  rw [drop_cons s k h, wd, List.takeWhile_cons, if_neg (by rw [hw]; decide)]; rfl
theorem wd_end (s : ByteArray) : (wd (s.data.toList.drop s.size)).length = 0 := by
  rw [List.drop_eq_nil_of_le (by simp)]; rfl

set_option maxHeartbeats 1000000 in
theorem lxRun_ok {w : World} {base X : Nat} {s : ByteArray} {p o : Nat} {st : List Nat} {toks : List Tk} (hL : LxS w base X s p o st toks) (hs : s.size ≤ 1099511627776) (hp : p ≤ s.size) :
    Calls Tryd.prog 50 #[.pointer (some ⟨X, 0, none⟩)] w fun e w' => e = .returned (.string (wdS s p)) ∧ Below w.heap.size w w' := by
  obtain ⟨LA, LC, BA, BC, h⟩ := hL
  have q0 := h.c0
  have q1 := h.c1
  have HW : ∀ k, p ≤ k → k ≤ s.size → (wd (s.data.toList.drop p)).length = k - p + (wd (s.data.toList.drop k)).length → (wd (s.data.toList.drop k)).length = 0 → s.extract p k = wdS s p := fun k h1 h2 h3 h4 => by
    rw [wdS, show p + (wd (s.data.toList.drop p)).length = k by omega]
  have HW := Lib.hid HW
  clear h
  go_enter Tryd.func50, Tryd.ntmps50
  go_wp2
  go_loop [3] (fun v => ∃ k : Nat, v = .int .i64 k ∧ p ≤ k ∧ k ≤ s.size ∧ Hid ((wd (s.data.toList.drop p)).length = k - p + (wd (s.data.toList.drop k)).length)) (fun v => s.size - (intOf v).toNat)
  case atStart => exact ⟨p, rfl, Nat.le_refl _, hp, Lib.hid (by omega)⟩
  case round =>
    obtain ⟨k, rfl, hk1, hk2, hk3⟩ := hrel
    by_cases hlt : k < s.size
    · have hsk : ∀ b, isWd s[k] = b → Hid (isWd s[k] = b) := fun b h => Lib.hid h
      by_cases hl : isLet s[k] = true
      · have hw := Lib.hid (wd_step s k hlt (by rw [isWd, hl]; rfl))
        clear hsk
        go_wp2_with (go_at_call 40; refine (isLet_ok _ _).mono ?_; rintro e w' ⟨rfl, rfl⟩)
        go_round
        case rel => exact ⟨k + 1, by go_num, by omega, by omega, Lib.hid (by have a := hk3.out; have b := hw.out; omega)⟩
        case measure => simp [intOf]; omega
      · have hl : isLet s[k] = false := by simpa using hl
        by_cases hd : isDig s[k] = true
        · have hw := Lib.hid (wd_step s k hlt (by rw [isWd, hl, hd]; rfl))
          clear hsk
          go_wp2_with (first | (go_at_call 40; refine (isLet_ok _ _).mono ?_; rintro e w' ⟨rfl, rfl⟩) | (go_at_call 42; refine (isDig_ok _ _).mono ?_; rintro e w' ⟨rfl, rfl⟩))
          go_round
          case rel => exact ⟨k + 1, by go_num, by omega, by omega, Lib.hid (by have a := hk3.out; have b := hw.out; omega)⟩
          case measure => simp [intOf]; omega
        · have hd : isDig s[k] = false := by simpa using hd
          have hw := Lib.hid (HW.out k hk1 hk2 hk3.out (wd_stop s k hlt (by rw [isWd, hl, hd]; rfl)))
          clear hsk
          have i1 : (p : Int) ≤ (k : Int) := by omega
          have i2 : (k : Int) ≤ (s.size : Int) := by omega
          have i3 : (0 : Int) ≤ (p : Int) := by omega
          go_wp2_with (first | (go_at_call 40; refine (isLet_ok _ _).mono ?_; rintro e w' ⟨rfl, rfl⟩) | (go_at_call 42; refine (isDig_ok _ _).mono ?_; rintro e w' ⟨rfl, rfl⟩))
          go_quiet (fail)
          go_wp2
          go_ret
          exact ⟨by rw [← hw.out]; rfl, ⟨rfl, rfl, rfl, Nat.le_refl _, fun _ _ => rfl⟩⟩
    · have hks : k = s.size := by omega
      have hw := Lib.hid (HW.out k hk1 hk2 hk3.out (by rw [hks]; exact wd_end s))
      have i1 : (p : Int) ≤ (k : Int) := by omega
      have i2 : (k : Int) ≤ (s.size : Int) := by omega
      have i3 : (0 : Int) ≤ (p : Int) := by omega
      have i4 : ¬ ((k : Int) < (s.size : Int)) := by omega
      clear hks
      go_wp2
      go_quiet (fail)
      go_wp2
      go_ret
      exact ⟨by rw [← hw.out]; rfl, ⟨rfl, rfl, rfl, Nat.le_refl _, fun _ _ => rfl⟩⟩

set_option maxHeartbeats 4000000 in
theorem lxWord_ok (T : ByteArray) (w : World) : Calls Tryd.prog 14 #[.string T] w fun e w' => e = .returned (.bool (wordB T.data.toList)) ∧ w = w' := by
  rw [← Lib.toList_data]
  go_enter Tryd.func14, Tryd.ntmps14
  go_wp2
  all_goals (go_ret; refine ⟨?_, rfl⟩; simp only [wordB, wordsL, List.contains_cons, List.contains_nil, Bool.true_or, Bool.or_true, Bool.false_or, Bool.or_false, *])
  all_goals first
    | rfl
    | (exfalso; simp_all; done)
end Go.Proofs.YtgheejogpbhokaaDoor
