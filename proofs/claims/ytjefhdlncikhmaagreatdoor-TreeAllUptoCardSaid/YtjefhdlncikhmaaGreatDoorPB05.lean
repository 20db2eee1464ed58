/- Joined by a program: Txt, ValidLay, LawQuote, Txt2, Wr1, Trim. -/
import Derived.WalkKit
import Derived.Shelf.Unicode.ValidAny
import Derived.Test.YtjefhdlncikhmaaGreatDoorProg
import Derived.Lib.AppendStr
import Derived.Laws.BytesArg
import Derived.Laws.Cover4
import Derived.Deep.OwnRows
import Derived.Lib.FrozenHead2
import Derived.Lib.OthersKept
import Derived.Test.YtjefhdlncikhmaaGreatDoorRows
import Derived.Test.YtjefhdlncikhmaaGreatDoorPB01
import Derived.Test.YtjefhdlncikhmaaGreatDoorShelf
import Derived.Test.YtjefhdlncikhmaaGreatDoorPB03
import Derived.Test.YtjefhdlncikhmaaGreatDoorPB04
namespace Go.Proofs.YtjefhdlncikhmaaGreatDoor
section
set_option linter.unusedVariables false
set_option linter.unusedSimpArgs false
open Go.RowKit
set_option maxRecDepth 1000000
def preB : List UInt8 → Bool
  | [] => true
  | c :: r => isLet c && r.all isWd
theorem nameB_eq (s : List UInt8) : nameB s = (!s.isEmpty && preB s && !wordB s) := by
  cases s with
  | nil => rfl
  | cons c r => simp [nameB, preB]
theorem pre_take (l : List UInt8) (k : Nat) (c : UInt8) (h : l[k]? = some c) : preB (l.take (k + 1)) = (preB (l.take k) && (if k = 0 then isLet c else isWd c)) := by
  cases l with
  | nil => simp at h
  | cons a r =>
    cases k with
    | zero => simp at h; subst h; simp [preB]
    | succ k =>
      rw [List.getElem?_cons_succ] at h
      obtain ⟨hk, hc⟩ := List.getElem?_eq_some_iff.1 h
      rw [List.take_succ_cons, List.take_succ_cons, preB, preB, List.take_succ_eq_append_getElem hk, List.all_append, hc]
      simp [Bool.and_assoc]
theorem pre_le (l : List UInt8) (k : Nat) (h : preB (l.take k) = false) : preB l = false := by
  cases l with
  | nil => simpa using h
  | cons a r =>
    cases k with
    | zero => simp [preB] at h
    | succ k =>
      rw [List.take_succ_cons, preB] at h
      rw [preB]
      cases ha : isLet a with
      | false => rfl
      | true =>
        rw [ha, Bool.true_and] at h
        rw [Bool.true_and]
        cases hr : r.all isWd with
        | false => rfl
        | true =>
          rw [List.all_eq_true] at hr
          have : (r.take k).all isWd = true := List.all_eq_true.2 fun t ht => hr t (List.mem_of_mem_take ht)
          rw [this] at h; exact h
set_option maxHeartbeats 16000000 in
theorem isName_ok (s : ByteArray) (w : World) (hs : s.size ≤ 1099511627776) : Calls Tryz.prog 73 #[.string s] w fun e w' => e = .returned (.bool (nameB s.data.toList)) ∧ Below w.heap.size w w' := by
  have hsz : s.data.toList.length = s.size := by simp
  have HN := Lib.hid (nameB_eq s.data.toList)
  have HW := Lib.hid (fun W => lxWord_ok s W)
  have HL := Lib.hid hsz
  have HP := Lib.hid (fun k c h => pre_take s.data.toList k c h)
  have HQ := Lib.hid (fun k h => pre_le s.data.toList k h)
  generalize nameB s.data.toList = R at *
  have HTE := Lib.hid (text_empty s)
  clear hsz
  go_enter Tryz.func73, Tryz.ntmps73
  go_wp2_with fail
  go_loopw [8] (fun iv wr => ∃ k : Nat, iv = .int .i64 k ∧ k ≤ s.size ∧ Hid (preB (s.data.toList.take k) = true) ∧ Below w.heap.size w wr) (fun iv _ => s.size - (intOf iv).toNat)
  case atStart => exact ⟨0, rfl, Nat.zero_le _, Lib.hid rfl, Below.refl _ _⟩
  case round =>
    obtain ⟨k, rfl, hk, hR, hbr⟩ := hrel
    by_cases hkl : k < s.size
    · have o1 : decide ((k : Int) < (s.size : Int)) = true := decide_eq_true (by omega)
      have o2 : decide (k < s.size) = true := decide_eq_true hkl
      have hT1 := HP.out k s[k] (by rw [List.getElem?_eq_getElem (by rw [HL.out]; exact hkl)]; rfl)
      rw [hR.out, Bool.true_and] at hT1
      obtain ⟨x, hx⟩ : ∃ x, s[k].toNat = x := ⟨_, rfl⟩
      have hlet : isLet s[k] = ((decide (97 ≤ x) && decide (x ≤ 122)) || (decide (65 ≤ x) && decide (x ≤ 90)) || x == 95) := by rw [isLet, hx]
      have hdig : isDig s[k] = (decide (48 ≤ x) && decide (x ≤ 57)) := by rw [isDig, hx]
      have hwd : isWd s[k] = (isLet s[k] || isDig s[k]) := rfl
      rw [hwd, hlet, hdig] at hT1
      clear hlet hdig hwd
      have HX := Lib.hid hx
      have HT1 := Lib.hid hT1
      clear hT1 hx
      by_cases h0 : k = 0
      · have q0 : ((k : Int) == 0) = true := by rw [h0]; rfl
        rw [if_pos h0] at HT1
        clear h0
        rcases (by omega : x < 48 ∨ (48 ≤ x ∧ x ≤ 57) ∨ (57 < x ∧ x < 65) ∨ (65 ≤ x ∧ x ≤ 90) ∨ (90 < x ∧ x < 95) ∨ x = 95 ∨ x = 96 ∨ (97 ≤ x ∧ x ≤ 122) ∨ 122 < x) with h | h | h | h | h | h | h | h | h
        · have hz : preB (s.data.toList.take (k + 1)) = false := by rw [HT1.out]; simp; omega
          have f0 : decide (97 ≤ (s[k].toNat : Int)) = false := decide_eq_false (by rw [HX.out]; omega)
          have f1 : decide ((s[k].toNat : Int) ≤ 122) = true := decide_eq_true (by rw [HX.out]; omega)
          have f2 : decide (65 ≤ (s[k].toNat : Int)) = false := decide_eq_false (by rw [HX.out]; omega)
          have f3 : decide ((s[k].toNat : Int) ≤ 90) = true := decide_eq_true (by rw [HX.out]; omega)
          have f4 : ((s[k].toNat : Int) == 95) = false := by rw [HX.out]; simp; omega
          have f5 : decide ((s[k].toNat : Int) < 48) = true := decide_eq_true (by rw [HX.out]; omega)
          have f6 : decide (57 < (s[k].toNat : Int)) = false := decide_eq_false (by rw [HX.out]; omega)
          have n0 : decide (97 ≤ s[k].toNat) = false := decide_eq_false (by rw [HX.out]; omega)
          have n1 : decide (s[k].toNat ≤ 122) = true := decide_eq_true (by rw [HX.out]; omega)
          have n2 : decide (65 ≤ s[k].toNat) = false := decide_eq_false (by rw [HX.out]; omega)
          have n3 : decide (s[k].toNat ≤ 90) = true := decide_eq_true (by rw [HX.out]; omega)
          have n4 : (s[k].toNat == 95) = false := by rw [HX.out]; simp; omega
          have n5 : decide (s[k].toNat < 48) = true := decide_eq_true (by rw [HX.out]; omega)
          have n6 : decide (57 < s[k].toNat) = false := decide_eq_false (by rw [HX.out]; omega)
          clear h
          have hR2 : R = false := by rw [HN.out, HQ.out _ hz, Bool.and_false, Bool.false_and]
          have HR2 := Lib.hid hR2
          clear hz hR2
          go_wp2_with fail
          go_ret
          exact ⟨by rw [HR2.out]; rfl, hbr⟩
        · have hz : preB (s.data.toList.take (k + 1)) = false := by rw [HT1.out]; simp; omega
          have f0 : decide (97 ≤ (s[k].toNat : Int)) = false := decide_eq_false (by rw [HX.out]; omega)
          have f1 : decide ((s[k].toNat : Int) ≤ 122) = true := decide_eq_true (by rw [HX.out]; omega)
          have f2 : decide (65 ≤ (s[k].toNat : Int)) = false := decide_eq_false (by rw [HX.out]; omega)
          have f3 : decide ((s[k].toNat : Int) ≤ 90) = true := decide_eq_true (by rw [HX.out]; omega)
          have f4 : ((s[k].toNat : Int) == 95) = false := by rw [HX.out]; simp; omega
          have f5 : decide ((s[k].toNat : Int) < 48) = false := decide_eq_false (by rw [HX.out]; omega)
          have f6 : decide (57 < (s[k].toNat : Int)) = false := decide_eq_false (by rw [HX.out]; omega)
          have n0 : decide (97 ≤ s[k].toNat) = false := decide_eq_false (by rw [HX.out]; omega)
          have n1 : decide (s[k].toNat ≤ 122) = true := decide_eq_true (by rw [HX.out]; omega)
          have n2 : decide (65 ≤ s[k].toNat) = false := decide_eq_false (by rw [HX.out]; omega)
          have n3 : decide (s[k].toNat ≤ 90) = true := decide_eq_true (by rw [HX.out]; omega)
          have n4 : (s[k].toNat == 95) = false := by rw [HX.out]; simp; omega
          have n5 : decide (s[k].toNat < 48) = false := decide_eq_false (by rw [HX.out]; omega)
          have n6 : decide (57 < s[k].toNat) = false := decide_eq_false (by rw [HX.out]; omega)
          clear h
          have hR2 : R = false := by rw [HN.out, HQ.out _ hz, Bool.and_false, Bool.false_and]
          have HR2 := Lib.hid hR2
          clear hz hR2
          go_wp2_with fail
          go_ret
          exact ⟨by rw [HR2.out]; rfl, hbr⟩
        · have hz : preB (s.data.toList.take (k + 1)) = false := by rw [HT1.out]; simp; omega
          have f0 : decide (97 ≤ (s[k].toNat : Int)) = false := decide_eq_false (by rw [HX.out]; omega)
          have f1 : decide ((s[k].toNat : Int) ≤ 122) = true := decide_eq_true (by rw [HX.out]; omega)
          have f2 : decide (65 ≤ (s[k].toNat : Int)) = false := decide_eq_false (by rw [HX.out]; omega)
          have f3 : decide ((s[k].toNat : Int) ≤ 90) = true := decide_eq_true (by rw [HX.out]; omega)
          have f4 : ((s[k].toNat : Int) == 95) = false := by rw [HX.out]; simp; omega
          have f5 : decide ((s[k].toNat : Int) < 48) = false := decide_eq_false (by rw [HX.out]; omega)
          have f6 : decide (57 < (s[k].toNat : Int)) = true := decide_eq_true (by rw [HX.out]; omega)
          have n0 : decide (97 ≤ s[k].toNat) = false := decide_eq_false (by rw [HX.out]; omega)
          have n1 : decide (s[k].toNat ≤ 122) = true := decide_eq_true (by rw [HX.out]; omega)
          have n2 : decide (65 ≤ s[k].toNat) = false := decide_eq_false (by rw [HX.out]; omega)
          have n3 : decide (s[k].toNat ≤ 90) = true := decide_eq_true (by rw [HX.out]; omega)
          have n4 : (s[k].toNat == 95) = false := by rw [HX.out]; simp; omega
          have n5 : decide (s[k].toNat < 48) = false := decide_eq_false (by rw [HX.out]; omega)
          have n6 : decide (57 < s[k].toNat) = true := decide_eq_true (by rw [HX.out]; omega)
          clear h
          have hR2 : R = false := by rw [HN.out, HQ.out _ hz, Bool.and_false, Bool.false_and]
          have HR2 := Lib.hid hR2
          clear hz hR2
          go_wp2_with fail
          go_ret
          exact ⟨by rw [HR2.out]; rfl, hbr⟩
        · have hz : preB (s.data.toList.take (k + 1)) = true := by rw [HT1.out]; simp; omega
          have f0 : decide (97 ≤ (s[k].toNat : Int)) = false := decide_eq_false (by rw [HX.out]; omega)
          have f1 : decide ((s[k].toNat : Int) ≤ 122) = true := decide_eq_true (by rw [HX.out]; omega)
          have f2 : decide (65 ≤ (s[k].toNat : Int)) = true := decide_eq_true (by rw [HX.out]; omega)
          have f3 : decide ((s[k].toNat : Int) ≤ 90) = true := decide_eq_true (by rw [HX.out]; omega)
          have f4 : ((s[k].toNat : Int) == 95) = false := by rw [HX.out]; simp; omega
          have f5 : decide ((s[k].toNat : Int) < 48) = false := decide_eq_false (by rw [HX.out]; omega)
          have f6 : decide (57 < (s[k].toNat : Int)) = true := decide_eq_true (by rw [HX.out]; omega)
          have n0 : decide (97 ≤ s[k].toNat) = false := decide_eq_false (by rw [HX.out]; omega)
          have n1 : decide (s[k].toNat ≤ 122) = true := decide_eq_true (by rw [HX.out]; omega)
          have n2 : decide (65 ≤ s[k].toNat) = true := decide_eq_true (by rw [HX.out]; omega)
          have n3 : decide (s[k].toNat ≤ 90) = true := decide_eq_true (by rw [HX.out]; omega)
          have n4 : (s[k].toNat == 95) = false := by rw [HX.out]; simp; omega
          have n5 : decide (s[k].toNat < 48) = false := decide_eq_false (by rw [HX.out]; omega)
          have n6 : decide (57 < s[k].toNat) = true := decide_eq_true (by rw [HX.out]; omega)
          clear h
          go_wp2_with fail
          go_roundw
          case rel => exact ⟨k + 1, by go_num, by omega, Lib.hid hz, hbr⟩
          case measure => simp [intOf]; omega
        · have hz : preB (s.data.toList.take (k + 1)) = false := by rw [HT1.out]; simp; omega
          have f0 : decide (97 ≤ (s[k].toNat : Int)) = false := decide_eq_false (by rw [HX.out]; omega)
          have f1 : decide ((s[k].toNat : Int) ≤ 122) = true := decide_eq_true (by rw [HX.out]; omega)
          have f2 : decide (65 ≤ (s[k].toNat : Int)) = true := decide_eq_true (by rw [HX.out]; omega)
          have f3 : decide ((s[k].toNat : Int) ≤ 90) = false := decide_eq_false (by rw [HX.out]; omega)
          have f4 : ((s[k].toNat : Int) == 95) = false := by rw [HX.out]; simp; omega
          have f5 : decide ((s[k].toNat : Int) < 48) = false := decide_eq_false (by rw [HX.out]; omega)
          have f6 : decide (57 < (s[k].toNat : Int)) = true := decide_eq_true (by rw [HX.out]; omega)
          have n0 : decide (97 ≤ s[k].toNat) = false := decide_eq_false (by rw [HX.out]; omega)
          have n1 : decide (s[k].toNat ≤ 122) = true := decide_eq_true (by rw [HX.out]; omega)
          have n2 : decide (65 ≤ s[k].toNat) = true := decide_eq_true (by rw [HX.out]; omega)
          have n3 : decide (s[k].toNat ≤ 90) = false := decide_eq_false (by rw [HX.out]; omega)
          have n4 : (s[k].toNat == 95) = false := by rw [HX.out]; simp; omega
          have n5 : decide (s[k].toNat < 48) = false := decide_eq_false (by rw [HX.out]; omega)
          have n6 : decide (57 < s[k].toNat) = true := decide_eq_true (by rw [HX.out]; omega)
          clear h
          have hR2 : R = false := by rw [HN.out, HQ.out _ hz, Bool.and_false, Bool.false_and]
          have HR2 := Lib.hid hR2
          clear hz hR2
          go_wp2_with fail
          go_ret
          exact ⟨by rw [HR2.out]; rfl, hbr⟩
        · have hz : preB (s.data.toList.take (k + 1)) = true := by rw [HT1.out]; simp; omega
          have f0 : decide (97 ≤ (s[k].toNat : Int)) = false := decide_eq_false (by rw [HX.out]; omega)
          have f1 : decide ((s[k].toNat : Int) ≤ 122) = true := decide_eq_true (by rw [HX.out]; omega)
          have f2 : decide (65 ≤ (s[k].toNat : Int)) = true := decide_eq_true (by rw [HX.out]; omega)
          have f3 : decide ((s[k].toNat : Int) ≤ 90) = false := decide_eq_false (by rw [HX.out]; omega)
          have f4 : ((s[k].toNat : Int) == 95) = true := by rw [HX.out, h]; rfl
          have f5 : decide ((s[k].toNat : Int) < 48) = false := decide_eq_false (by rw [HX.out]; omega)
          have f6 : decide (57 < (s[k].toNat : Int)) = true := decide_eq_true (by rw [HX.out]; omega)
          have n0 : decide (97 ≤ s[k].toNat) = false := decide_eq_false (by rw [HX.out]; omega)
          have n1 : decide (s[k].toNat ≤ 122) = true := decide_eq_true (by rw [HX.out]; omega)
          have n2 : decide (65 ≤ s[k].toNat) = true := decide_eq_true (by rw [HX.out]; omega)
          have n3 : decide (s[k].toNat ≤ 90) = false := decide_eq_false (by rw [HX.out]; omega)
          have n4 : (s[k].toNat == 95) = true := by rw [HX.out, h]; rfl
          have n5 : decide (s[k].toNat < 48) = false := decide_eq_false (by rw [HX.out]; omega)
          have n6 : decide (57 < s[k].toNat) = true := decide_eq_true (by rw [HX.out]; omega)
          clear h
          go_wp2_with fail
          go_roundw
          case rel => exact ⟨k + 1, by go_num, by omega, Lib.hid hz, hbr⟩
          case measure => simp [intOf]; omega
        · have hz : preB (s.data.toList.take (k + 1)) = false := by rw [HT1.out]; simp; omega
          have f0 : decide (97 ≤ (s[k].toNat : Int)) = false := decide_eq_false (by rw [HX.out]; omega)
          have f1 : decide ((s[k].toNat : Int) ≤ 122) = true := decide_eq_true (by rw [HX.out]; omega)
          have f2 : decide (65 ≤ (s[k].toNat : Int)) = true := decide_eq_true (by rw [HX.out]; omega)
          have f3 : decide ((s[k].toNat : Int) ≤ 90) = false := decide_eq_false (by rw [HX.out]; omega)
          have f4 : ((s[k].toNat : Int) == 95) = false := by rw [HX.out]; simp; omega
          have f5 : decide ((s[k].toNat : Int) < 48) = false := decide_eq_false (by rw [HX.out]; omega)
          have f6 : decide (57 < (s[k].toNat : Int)) = true := decide_eq_true (by rw [HX.out]; omega)
          have n0 : decide (97 ≤ s[k].toNat) = false := decide_eq_false (by rw [HX.out]; omega)
          have n1 : decide (s[k].toNat ≤ 122) = true := decide_eq_true (by rw [HX.out]; omega)
          have n2 : decide (65 ≤ s[k].toNat) = true := decide_eq_true (by rw [HX.out]; omega)
          have n3 : decide (s[k].toNat ≤ 90) = false := decide_eq_false (by rw [HX.out]; omega)
          have n4 : (s[k].toNat == 95) = false := by rw [HX.out]; simp; omega
          have n5 : decide (s[k].toNat < 48) = false := decide_eq_false (by rw [HX.out]; omega)
          have n6 : decide (57 < s[k].toNat) = true := decide_eq_true (by rw [HX.out]; omega)
          clear h
          have hR2 : R = false := by rw [HN.out, HQ.out _ hz, Bool.and_false, Bool.false_and]
          have HR2 := Lib.hid hR2
          clear hz hR2
          go_wp2_with fail
          go_ret
          exact ⟨by rw [HR2.out]; rfl, hbr⟩
        · have hz : preB (s.data.toList.take (k + 1)) = true := by rw [HT1.out]; simp; omega
          have f0 : decide (97 ≤ (s[k].toNat : Int)) = true := decide_eq_true (by rw [HX.out]; omega)
          have f1 : decide ((s[k].toNat : Int) ≤ 122) = true := decide_eq_true (by rw [HX.out]; omega)
          have f2 : decide (65 ≤ (s[k].toNat : Int)) = true := decide_eq_true (by rw [HX.out]; omega)
          have f3 : decide ((s[k].toNat : Int) ≤ 90) = false := decide_eq_false (by rw [HX.out]; omega)
          have f4 : ((s[k].toNat : Int) == 95) = false := by rw [HX.out]; simp; omega
          have f5 : decide ((s[k].toNat : Int) < 48) = false := decide_eq_false (by rw [HX.out]; omega)
          have f6 : decide (57 < (s[k].toNat : Int)) = true := decide_eq_true (by rw [HX.out]; omega)
          have n0 : decide (97 ≤ s[k].toNat) = true := decide_eq_true (by rw [HX.out]; omega)
          have n1 : decide (s[k].toNat ≤ 122) = true := decide_eq_true (by rw [HX.out]; omega)
          have n2 : decide (65 ≤ s[k].toNat) = true := decide_eq_true (by rw [HX.out]; omega)
          have n3 : decide (s[k].toNat ≤ 90) = false := decide_eq_false (by rw [HX.out]; omega)
          have n4 : (s[k].toNat == 95) = false := by rw [HX.out]; simp; omega
          have n5 : decide (s[k].toNat < 48) = false := decide_eq_false (by rw [HX.out]; omega)
          have n6 : decide (57 < s[k].toNat) = true := decide_eq_true (by rw [HX.out]; omega)
          clear h
          go_wp2_with fail
          go_roundw
          case rel => exact ⟨k + 1, by go_num, by omega, Lib.hid hz, hbr⟩
          case measure => simp [intOf]; omega
        · have hz : preB (s.data.toList.take (k + 1)) = false := by rw [HT1.out]; simp; omega
          have f0 : decide (97 ≤ (s[k].toNat : Int)) = true := decide_eq_true (by rw [HX.out]; omega)
          have f1 : decide ((s[k].toNat : Int) ≤ 122) = false := decide_eq_false (by rw [HX.out]; omega)
          have f2 : decide (65 ≤ (s[k].toNat : Int)) = true := decide_eq_true (by rw [HX.out]; omega)
          have f3 : decide ((s[k].toNat : Int) ≤ 90) = false := decide_eq_false (by rw [HX.out]; omega)
          have f4 : ((s[k].toNat : Int) == 95) = false := by rw [HX.out]; simp; omega
          have f5 : decide ((s[k].toNat : Int) < 48) = false := decide_eq_false (by rw [HX.out]; omega)
          have f6 : decide (57 < (s[k].toNat : Int)) = true := decide_eq_true (by rw [HX.out]; omega)
          have n0 : decide (97 ≤ s[k].toNat) = true := decide_eq_true (by rw [HX.out]; omega)
          have n1 : decide (s[k].toNat ≤ 122) = false := decide_eq_false (by rw [HX.out]; omega)
          have n2 : decide (65 ≤ s[k].toNat) = true := decide_eq_true (by rw [HX.out]; omega)
          have n3 : decide (s[k].toNat ≤ 90) = false := decide_eq_false (by rw [HX.out]; omega)
          have n4 : (s[k].toNat == 95) = false := by rw [HX.out]; simp; omega
          have n5 : decide (s[k].toNat < 48) = false := decide_eq_false (by rw [HX.out]; omega)
          have n6 : decide (57 < s[k].toNat) = true := decide_eq_true (by rw [HX.out]; omega)
          clear h
          have hR2 : R = false := by rw [HN.out, HQ.out _ hz, Bool.and_false, Bool.false_and]
          have HR2 := Lib.hid hR2
          clear hz hR2
          go_wp2_with fail
          go_ret
          exact ⟨by rw [HR2.out]; rfl, hbr⟩
      · have q0 : ((k : Int) == 0) = false := beq0F h0
        rw [if_neg h0] at HT1
        clear h0
        rcases (by omega : x < 48 ∨ (48 ≤ x ∧ x ≤ 57) ∨ (57 < x ∧ x < 65) ∨ (65 ≤ x ∧ x ≤ 90) ∨ (90 < x ∧ x < 95) ∨ x = 95 ∨ x = 96 ∨ (97 ≤ x ∧ x ≤ 122) ∨ 122 < x) with h | h | h | h | h | h | h | h | h
        · have hz : preB (s.data.toList.take (k + 1)) = false := by rw [HT1.out]; simp; omega
          have f0 : decide (97 ≤ (s[k].toNat : Int)) = false := decide_eq_false (by rw [HX.out]; omega)
          have f1 : decide ((s[k].toNat : Int) ≤ 122) = true := decide_eq_true (by rw [HX.out]; omega)
          have f2 : decide (65 ≤ (s[k].toNat : Int)) = false := decide_eq_false (by rw [HX.out]; omega)
          have f3 : decide ((s[k].toNat : Int) ≤ 90) = true := decide_eq_true (by rw [HX.out]; omega)
          have f4 : ((s[k].toNat : Int) == 95) = false := by rw [HX.out]; simp; omega
          have f5 : decide ((s[k].toNat : Int) < 48) = true := decide_eq_true (by rw [HX.out]; omega)
          have f6 : decide (57 < (s[k].toNat : Int)) = false := decide_eq_false (by rw [HX.out]; omega)
          have n0 : decide (97 ≤ s[k].toNat) = false := decide_eq_false (by rw [HX.out]; omega)
          have n1 : decide (s[k].toNat ≤ 122) = true := decide_eq_true (by rw [HX.out]; omega)
          have n2 : decide (65 ≤ s[k].toNat) = false := decide_eq_false (by rw [HX.out]; omega)
          have n3 : decide (s[k].toNat ≤ 90) = true := decide_eq_true (by rw [HX.out]; omega)
          have n4 : (s[k].toNat == 95) = false := by rw [HX.out]; simp; omega
          have n5 : decide (s[k].toNat < 48) = true := decide_eq_true (by rw [HX.out]; omega)
          have n6 : decide (57 < s[k].toNat) = false := decide_eq_false (by rw [HX.out]; omega)
          clear h
          have hR2 : R = false := by rw [HN.out, HQ.out _ hz, Bool.and_false, Bool.false_and]
          have HR2 := Lib.hid hR2
          clear hz hR2
          go_wp2_with fail
          go_ret
          exact ⟨by rw [HR2.out]; rfl, hbr⟩
        · have hz : preB (s.data.toList.take (k + 1)) = true := by rw [HT1.out]; simp; omega
          have f0 : decide (97 ≤ (s[k].toNat : Int)) = false := decide_eq_false (by rw [HX.out]; omega)
          have f1 : decide ((s[k].toNat : Int) ≤ 122) = true := decide_eq_true (by rw [HX.out]; omega)
          have f2 : decide (65 ≤ (s[k].toNat : Int)) = false := decide_eq_false (by rw [HX.out]; omega)
          have f3 : decide ((s[k].toNat : Int) ≤ 90) = true := decide_eq_true (by rw [HX.out]; omega)
          have f4 : ((s[k].toNat : Int) == 95) = false := by rw [HX.out]; simp; omega
          have f5 : decide ((s[k].toNat : Int) < 48) = false := decide_eq_false (by rw [HX.out]; omega)
          have f6 : decide (57 < (s[k].toNat : Int)) = false := decide_eq_false (by rw [HX.out]; omega)
          have n0 : decide (97 ≤ s[k].toNat) = false := decide_eq_false (by rw [HX.out]; omega)
          have n1 : decide (s[k].toNat ≤ 122) = true := decide_eq_true (by rw [HX.out]; omega)
          have n2 : decide (65 ≤ s[k].toNat) = false := decide_eq_false (by rw [HX.out]; omega)
          have n3 : decide (s[k].toNat ≤ 90) = true := decide_eq_true (by rw [HX.out]; omega)
          have n4 : (s[k].toNat == 95) = false := by rw [HX.out]; simp; omega
          have n5 : decide (s[k].toNat < 48) = false := decide_eq_false (by rw [HX.out]; omega)
          have n6 : decide (57 < s[k].toNat) = false := decide_eq_false (by rw [HX.out]; omega)
          clear h
          go_wp2_with fail
          go_roundw
          case rel => exact ⟨k + 1, by go_num, by omega, Lib.hid hz, hbr⟩
          case measure => simp [intOf]; omega
        · have hz : preB (s.data.toList.take (k + 1)) = false := by rw [HT1.out]; simp; omega
          have f0 : decide (97 ≤ (s[k].toNat : Int)) = false := decide_eq_false (by rw [HX.out]; omega)
          have f1 : decide ((s[k].toNat : Int) ≤ 122) = true := decide_eq_true (by rw [HX.out]; omega)
          have f2 : decide (65 ≤ (s[k].toNat : Int)) = false := decide_eq_false (by rw [HX.out]; omega)
          have f3 : decide ((s[k].toNat : Int) ≤ 90) = true := decide_eq_true (by rw [HX.out]; omega)
          have f4 : ((s[k].toNat : Int) == 95) = false := by rw [HX.out]; simp; omega
          have f5 : decide ((s[k].toNat : Int) < 48) = false := decide_eq_false (by rw [HX.out]; omega)
          have f6 : decide (57 < (s[k].toNat : Int)) = true := decide_eq_true (by rw [HX.out]; omega)
          have n0 : decide (97 ≤ s[k].toNat) = false := decide_eq_false (by rw [HX.out]; omega)
          have n1 : decide (s[k].toNat ≤ 122) = true := decide_eq_true (by rw [HX.out]; omega)
          have n2 : decide (65 ≤ s[k].toNat) = false := decide_eq_false (by rw [HX.out]; omega)
          have n3 : decide (s[k].toNat ≤ 90) = true := decide_eq_true (by rw [HX.out]; omega)
          have n4 : (s[k].toNat == 95) = false := by rw [HX.out]; simp; omega
          have n5 : decide (s[k].toNat < 48) = false := decide_eq_false (by rw [HX.out]; omega)
          have n6 : decide (57 < s[k].toNat) = true := decide_eq_true (by rw [HX.out]; omega)
          clear h
          have hR2 : R = false := by rw [HN.out, HQ.out _ hz, Bool.and_false, Bool.false_and]
          have HR2 := Lib.hid hR2
          clear hz hR2
          go_wp2_with fail
          go_ret
          exact ⟨by rw [HR2.out]; rfl, hbr⟩
        · have hz : preB (s.data.toList.take (k + 1)) = true := by rw [HT1.out]; simp; omega
          have f0 : decide (97 ≤ (s[k].toNat : Int)) = false := decide_eq_false (by rw [HX.out]; omega)
          have f1 : decide ((s[k].toNat : Int) ≤ 122) = true := decide_eq_true (by rw [HX.out]; omega)
          have f2 : decide (65 ≤ (s[k].toNat : Int)) = true := decide_eq_true (by rw [HX.out]; omega)
          have f3 : decide ((s[k].toNat : Int) ≤ 90) = true := decide_eq_true (by rw [HX.out]; omega)
          have f4 : ((s[k].toNat : Int) == 95) = false := by rw [HX.out]; simp; omega
          have f5 : decide ((s[k].toNat : Int) < 48) = false := decide_eq_false (by rw [HX.out]; omega)
          have f6 : decide (57 < (s[k].toNat : Int)) = true := decide_eq_true (by rw [HX.out]; omega)
          have n0 : decide (97 ≤ s[k].toNat) = false := decide_eq_false (by rw [HX.out]; omega)
          have n1 : decide (s[k].toNat ≤ 122) = true := decide_eq_true (by rw [HX.out]; omega)
          have n2 : decide (65 ≤ s[k].toNat) = true := decide_eq_true (by rw [HX.out]; omega)
          have n3 : decide (s[k].toNat ≤ 90) = true := decide_eq_true (by rw [HX.out]; omega)
          have n4 : (s[k].toNat == 95) = false := by rw [HX.out]; simp; omega
          have n5 : decide (s[k].toNat < 48) = false := decide_eq_false (by rw [HX.out]; omega)
          have n6 : decide (57 < s[k].toNat) = true := decide_eq_true (by rw [HX.out]; omega)
          clear h
          go_wp2_with fail
          go_roundw
          case rel => exact ⟨k + 1, by go_num, by omega, Lib.hid hz, hbr⟩
          case measure => simp [intOf]; omega
        · have hz : preB (s.data.toList.take (k + 1)) = false := by rw [HT1.out]; simp; omega
          have f0 : decide (97 ≤ (s[k].toNat : Int)) = false := decide_eq_false (by rw [HX.out]; omega)
          have f1 : decide ((s[k].toNat : Int) ≤ 122) = true := decide_eq_true (by rw [HX.out]; omega)
          have f2 : decide (65 ≤ (s[k].toNat : Int)) = true := decide_eq_true (by rw [HX.out]; omega)
          have f3 : decide ((s[k].toNat : Int) ≤ 90) = false := decide_eq_false (by rw [HX.out]; omega)
          have f4 : ((s[k].toNat : Int) == 95) = false := by rw [HX.out]; simp; omega
          have f5 : decide ((s[k].toNat : Int) < 48) = false := decide_eq_false (by rw [HX.out]; omega)
          have f6 : decide (57 < (s[k].toNat : Int)) = true := decide_eq_true (by rw [HX.out]; omega)
          have n0 : decide (97 ≤ s[k].toNat) = false := decide_eq_false (by rw [HX.out]; omega)
          have n1 : decide (s[k].toNat ≤ 122) = true := decide_eq_true (by rw [HX.out]; omega)
          have n2 : decide (65 ≤ s[k].toNat) = true := decide_eq_true (by rw [HX.out]; omega)
          have n3 : decide (s[k].toNat ≤ 90) = false := decide_eq_false (by rw [HX.out]; omega)
          have n4 : (s[k].toNat == 95) = false := by rw [HX.out]; simp; omega
          have n5 : decide (s[k].toNat < 48) = false := decide_eq_false (by rw [HX.out]; omega)
          have n6 : decide (57 < s[k].toNat) = true := decide_eq_true (by rw [HX.out]; omega)
          clear h
          have hR2 : R = false := by rw [HN.out, HQ.out _ hz, Bool.and_false, Bool.false_and]
          have HR2 := Lib.hid hR2
          clear hz hR2
          go_wp2_with fail
          go_ret
          exact ⟨by rw [HR2.out]; rfl, hbr⟩
        · have hz : preB (s.data.toList.take (k + 1)) = true := by rw [HT1.out]; simp; omega
          have f0 : decide (97 ≤ (s[k].toNat : Int)) = false := decide_eq_false (by rw [HX.out]; omega)
          have f1 : decide ((s[k].toNat : Int) ≤ 122) = true := decide_eq_true (by rw [HX.out]; omega)
          have f2 : decide (65 ≤ (s[k].toNat : Int)) = true := decide_eq_true (by rw [HX.out]; omega)
          have f3 : decide ((s[k].toNat : Int) ≤ 90) = false := decide_eq_false (by rw [HX.out]; omega)
          have f4 : ((s[k].toNat : Int) == 95) = true := by rw [HX.out, h]; rfl
          have f5 : decide ((s[k].toNat : Int) < 48) = false := decide_eq_false (by rw [HX.out]; omega)
          have f6 : decide (57 < (s[k].toNat : Int)) = true := decide_eq_true (by rw [HX.out]; omega)
          have n0 : decide (97 ≤ s[k].toNat) = false := decide_eq_false (by rw [HX.out]; omega)
          have n1 : decide (s[k].toNat ≤ 122) = true := decide_eq_true (by rw [HX.out]; omega)
          have n2 : decide (65 ≤ s[k].toNat) = true := decide_eq_true (by rw [HX.out]; omega)
          have n3 : decide (s[k].toNat ≤ 90) = false := decide_eq_false (by rw [HX.out]; omega)
          have n4 : (s[k].toNat == 95) = true := by rw [HX.out, h]; rfl
          have n5 : decide (s[k].toNat < 48) = false := decide_eq_false (by rw [HX.out]; omega)
          have n6 : decide (57 < s[k].toNat) = true := decide_eq_true (by rw [HX.out]; omega)
          clear h
          go_wp2_with fail
          go_roundw
          case rel => exact ⟨k + 1, by go_num, by omega, Lib.hid hz, hbr⟩
          case measure => simp [intOf]; omega
        · have hz : preB (s.data.toList.take (k + 1)) = false := by rw [HT1.out]; simp; omega
          have f0 : decide (97 ≤ (s[k].toNat : Int)) = false := decide_eq_false (by rw [HX.out]; omega)
          have f1 : decide ((s[k].toNat : Int) ≤ 122) = true := decide_eq_true (by rw [HX.out]; omega)
          have f2 : decide (65 ≤ (s[k].toNat : Int)) = true := decide_eq_true (by rw [HX.out]; omega)
          have f3 : decide ((s[k].toNat : Int) ≤ 90) = false := decide_eq_false (by rw [HX.out]; omega)
          have f4 : ((s[k].toNat : Int) == 95) = false := by rw [HX.out]; simp; omega
          have f5 : decide ((s[k].toNat : Int) < 48) = false := decide_eq_false (by rw [HX.out]; omega)
          have f6 : decide (57 < (s[k].toNat : Int)) = true := decide_eq_true (by rw [HX.out]; omega)
          have n0 : decide (97 ≤ s[k].toNat) = false := decide_eq_false (by rw [HX.out]; omega)
          have n1 : decide (s[k].toNat ≤ 122) = true := decide_eq_true (by rw [HX.out]; omega)
          have n2 : decide (65 ≤ s[k].toNat) = true := decide_eq_true (by rw [HX.out]; omega)
          have n3 : decide (s[k].toNat ≤ 90) = false := decide_eq_false (by rw [HX.out]; omega)
          have n4 : (s[k].toNat == 95) = false := by rw [HX.out]; simp; omega
          have n5 : decide (s[k].toNat < 48) = false := decide_eq_false (by rw [HX.out]; omega)
          have n6 : decide (57 < s[k].toNat) = true := decide_eq_true (by rw [HX.out]; omega)
          clear h
          have hR2 : R = false := by rw [HN.out, HQ.out _ hz, Bool.and_false, Bool.false_and]
          have HR2 := Lib.hid hR2
          clear hz hR2
          go_wp2_with fail
          go_ret
          exact ⟨by rw [HR2.out]; rfl, hbr⟩
        · have hz : preB (s.data.toList.take (k + 1)) = true := by rw [HT1.out]; simp; omega
          have f0 : decide (97 ≤ (s[k].toNat : Int)) = true := decide_eq_true (by rw [HX.out]; omega)
          have f1 : decide ((s[k].toNat : Int) ≤ 122) = true := decide_eq_true (by rw [HX.out]; omega)
          have f2 : decide (65 ≤ (s[k].toNat : Int)) = true := decide_eq_true (by rw [HX.out]; omega)
          have f3 : decide ((s[k].toNat : Int) ≤ 90) = false := decide_eq_false (by rw [HX.out]; omega)
          have f4 : ((s[k].toNat : Int) == 95) = false := by rw [HX.out]; simp; omega
          have f5 : decide ((s[k].toNat : Int) < 48) = false := decide_eq_false (by rw [HX.out]; omega)
          have f6 : decide (57 < (s[k].toNat : Int)) = true := decide_eq_true (by rw [HX.out]; omega)
          have n0 : decide (97 ≤ s[k].toNat) = true := decide_eq_true (by rw [HX.out]; omega)
          have n1 : decide (s[k].toNat ≤ 122) = true := decide_eq_true (by rw [HX.out]; omega)
          have n2 : decide (65 ≤ s[k].toNat) = true := decide_eq_true (by rw [HX.out]; omega)
          have n3 : decide (s[k].toNat ≤ 90) = false := decide_eq_false (by rw [HX.out]; omega)
          have n4 : (s[k].toNat == 95) = false := by rw [HX.out]; simp; omega
          have n5 : decide (s[k].toNat < 48) = false := decide_eq_false (by rw [HX.out]; omega)
          have n6 : decide (57 < s[k].toNat) = true := decide_eq_true (by rw [HX.out]; omega)
          clear h
          go_wp2_with fail
          go_roundw
          case rel => exact ⟨k + 1, by go_num, by omega, Lib.hid hz, hbr⟩
          case measure => simp [intOf]; omega
        · have hz : preB (s.data.toList.take (k + 1)) = false := by rw [HT1.out]; simp; omega
          have f0 : decide (97 ≤ (s[k].toNat : Int)) = true := decide_eq_true (by rw [HX.out]; omega)
          have f1 : decide ((s[k].toNat : Int) ≤ 122) = false := decide_eq_false (by rw [HX.out]; omega)
          have f2 : decide (65 ≤ (s[k].toNat : Int)) = true := decide_eq_true (by rw [HX.out]; omega)
          have f3 : decide ((s[k].toNat : Int) ≤ 90) = false := decide_eq_false (by rw [HX.out]; omega)
          have f4 : ((s[k].toNat : Int) == 95) = false := by rw [HX.out]; simp; omega
          have f5 : decide ((s[k].toNat : Int) < 48) = false := decide_eq_false (by rw [HX.out]; omega)
          have f6 : decide (57 < (s[k].toNat : Int)) = true := decide_eq_true (by rw [HX.out]; omega)
          have n0 : decide (97 ≤ s[k].toNat) = true := decide_eq_true (by rw [HX.out]; omega)
          have n1 : decide (s[k].toNat ≤ 122) = false := decide_eq_false (by rw [HX.out]; omega)
          have n2 : decide (65 ≤ s[k].toNat) = true := decide_eq_true (by rw [HX.out]; omega)
          have n3 : decide (s[k].toNat ≤ 90) = false := decide_eq_false (by rw [HX.out]; omega)
          have n4 : (s[k].toNat == 95) = false := by rw [HX.out]; simp; omega
          have n5 : decide (s[k].toNat < 48) = false := decide_eq_false (by rw [HX.out]; omega)
          have n6 : decide (57 < s[k].toNat) = true := decide_eq_true (by rw [HX.out]; omega)
          clear h
          have hR2 : R = false := by rw [HN.out, HQ.out _ hz, Bool.and_false, Bool.false_and]
          have HR2 := Lib.hid hR2
          clear hz hR2
          go_wp2_with fail
          go_ret
          exact ⟨by rw [HR2.out]; rfl, hbr⟩
    · have o1 : decide ((k : Int) < (s.size : Int)) = false := decide_eq_false (by omega)
      have o2 : decide (k < s.size) = false := decide_eq_false hkl
      have hR2 := hR.out
      rw [List.take_of_length_le (by have := HL.out; omega)] at hR2
      have hte : s.data.toList.isEmpty = s.toList.isEmpty := by rw [Lib.toList_data]
      have hN2 := HN.out
      rw [hR2, Bool.and_true, hte] at hN2
      have HN2 := Lib.hid hN2
      clear hR2 hte hN2
      by_cases hs0 : s.size = 0
      · have e1 : s.toList.isEmpty = true := by rw [HTE.out, hs0]; rfl
        rw [e1] at HN2
        go_wp2_with fail
        go_ret
        exact ⟨by rw [HN2.out]; rfl, hbr⟩
      · have e1 : s.toList.isEmpty = false := by rw [HTE.out]; simpa using hs0
        rw [e1] at HN2
        go_wp2_with (go_at_call 135; refine (HW.out _).mono ?_; rintro e w3 ⟨rfl, rfl⟩)
        go_ret
        exact ⟨by rw [HN2.out]; rfl, hbr⟩
end
end Go.Proofs.YtjefhdlncikhmaaGreatDoor
namespace Go.Proofs
section
set_option linter.unusedVariables false
set_option linter.unusedSimpArgs false
open Go.Shelf Go.RowKit
def Tryz.layzValid_ren : Go.Shelf.Ren := ⟨fun | 196 => 179 | 259 => 206 | n => n, fun | 0 => 0 | 3 => 3 | 4 => 4 | 5 => 5 | 9 => 9 | 12 => 12 | 46 => 137 | 53 => 156 | 119 => 164 | 138 => 166 | 139 => 167 | n => n, fun | 3 => 0 | 4 => 1 | n => n⟩
theorem Tryz.layzValid : Go.Proofs.Lays.n196 Tryz.prog Tryz.layzValid_ren := {
  mixed := by kernel_rfl
  f196 := Tryz.func179.trans (congrArg some (by kernel_rfl))
  f259 := Tryz.func206.trans (congrArg some (by kernel_rfl))
  t0 := Tryz.underlying0
  a0 := Tryz.isAgg0
  z0 := Tryz.sizeOf0
  v0 := Tryz.zeroValue0
  t3 := Tryz.underlying3
  a3 := Tryz.isAgg3
  z3 := Tryz.sizeOf3
  v3 := Tryz.zeroValue3
  t4 := Tryz.underlying4
  a4 := Tryz.isAgg4
  z4 := Tryz.sizeOf4
  v4 := Tryz.zeroValue4
  t5 := Tryz.underlying5
  a5 := Tryz.isAgg5
  z5 := Tryz.sizeOf5
  v5 := Tryz.zeroValue5
  t9 := Tryz.underlying9
  a9 := Tryz.isAgg9
  z9 := Tryz.sizeOf9
  v9 := Tryz.zeroValue9
  t12 := Tryz.underlying12
  a12 := Tryz.isAgg12
  z12 := Tryz.sizeOf12
  v12 := Tryz.zeroValue12
  t46 := Tryz.underlying137
  a46 := Tryz.isAgg137
  z46 := Tryz.sizeOf137
  v46 := Tryz.zeroValue137
  t53 := Tryz.underlying156
  a53 := Tryz.isAgg156
  z53 := Tryz.sizeOf156
  v53 := Tryz.zeroValue156
  t119 := Tryz.underlying164
  a119 := Tryz.isAgg164
  z119 := Tryz.sizeOf164
  t138 := Tryz.underlying166
  a138 := Tryz.isAgg166
  z138 := Tryz.sizeOf166
  v138 := Tryz.zeroValue166
  t139 := Tryz.underlying167
  a139 := Tryz.isAgg167
  z139 := Tryz.sizeOf167
  v139 := Tryz.zeroValue167
  g3 := by kernel_rfl
  g4 := by kernel_rfl }
theorem Tryz.utf8_ValidString (s : ByteArray) (w : World) (hs : s.size ≤ 9223372036854775807) (hT : Lib.Utf8Tabs 0 1 w) :
    Calls Tryz.prog 179 #[.string s] w fun e w' => e = .returned (.bool (Lib.validD s.data.toList)) ∧ Below w.heap.size w w' := Any.utf8_ValidString Tryz.layzValid s w hs hT
end
end Go.Proofs
namespace Go.Proofs.YtjefhdlncikhmaaGreatDoor
section
set_option linter.unusedVariables false
set_option linter.unusedSimpArgs false
open Go.RowKit Go.Shelf
set_option maxRecDepth 1000000
theorem good_ok (s : ByteArray) (w : World) (hs : s.size ≤ 9223372036854775807) (hT : Lib.Utf8Tabs 0 1 w) :
    Calls Tryz.prog 137 #[.string s] w fun e w' => e = .returned (.bool (goodB s)) ∧ Below w.heap.size w w' := by
  have hv := fun wx h => Tryz.utf8_ValidString s wx hs h
  have hg : Lib.validD s.data.toList = goodB s := by
    rw [Bool.eq_iff_iff, goodB_iff, good_iff]
  rw [hg] at hv
  clear hg
  go_enter Tryz.func137, Tryz.ntmps137
  go_wp2_with (go_at_call 179; refine (hv _ hT).mono ?_; rintro e w1 ⟨rfl, hb1⟩)
  go_ret
  exact ⟨rfl, hb1⟩
end
section
set_option linter.unusedVariables false
set_option linter.unusedSimpArgs false
open Go.RowKit
set_option maxRecDepth 1000000
theorem noText_ok (s : ByteArray) (w : World) : Calls Tryz.prog 62 #[.string s] w fun e w' => e = .returned (.bool (s.size == 0)) ∧ Below w.heap.size w w' := by
  have HT := Lib.hid (text_empty s)
  cases hq : s.size == 0 with
  | true =>
    have e1 : s.toList.isEmpty = true := by rw [HT.out, hq]
    go_enter Tryz.func62, Tryz.ntmps62
    go_wp2
    go_ret
    exact ⟨rfl, Below.refl _ _⟩
  | false =>
    have e1 : s.toList.isEmpty = false := by rw [HT.out, hq]
    go_enter Tryz.func62, Tryz.ntmps62
    go_wp2
    go_ret
    exact ⟨rfl, Below.refl _ _⟩
theorem excText_ok (s : ByteArray) (w : World) (hs : s.size ≤ 1048576) : Calls Tryz.prog 77 #[.string s] w fun e w' => e = .returned (.bool (s.size == 0 || nameB s.data.toList)) ∧ Below w.heap.size w w' := by
  have HT := Lib.hid (text_empty s)
  have HI := Lib.hid (fun W => isName_ok s W (by omega))
  generalize nameB s.data.toList = R at *
  cases hq : s.size == 0 with
  | true =>
    have e1 : s.toList.isEmpty = true := by rw [HT.out, hq]
    go_enter Tryz.func77, Tryz.ntmps77
    go_wp2
    go_ret
    exact ⟨rfl, Below.refl _ _⟩
  | false =>
    have e1 : s.toList.isEmpty = false := by rw [HT.out, hq]
    go_enter Tryz.func77, Tryz.ntmps77
    go_wp2_with (go_at_call 73; refine (HI.out _).mono ?_; rintro e w3 ⟨rfl, hb3⟩)
    go_ret
    exact ⟨rfl, hb3⟩
/-- a row of texts. -/
def StrsAt (w : World) (A : Option Addr) (L : List ByteArray) : Prop := ∀ i s, L[i]? = some s → ∃ b off, A = some ⟨b, off, none⟩ ∧ w.cell? ⟨b, off + i, none⟩ = some (.string s)
theorem strsAt_new (w : World) (L : List ByteArray) (t : TypeId) (cs : Array Value) (hc : cs = (L.map Value.string).toArray) : StrsAt (w.alloc (.cells cs t)) (some ⟨w.heap.size, 0, none⟩) L := fun i s hi => by
  refine ⟨w.heap.size, 0, rfl, ?_⟩
  rw [Nat.zero_add, cell_of_row _ _ i cs t (0, 0) (heap_alloc_new w _), hc]
  simp [hi]
theorem StrsAt.later {w w' : World} {A : Option Addr} {L : List ByteArray} (h : StrsAt w A L) (hb : Below w.heap.size w w') : StrsAt w' A L := fun i s hi => by
  obtain ⟨b, off, hA, hc⟩ := h i s hi
  exact ⟨b, off, hA, cell_later hb hc⟩
theorem containsS_eq (L : List (List UInt8)) (x : ByteArray) : Lib.containsS (L.map fun l => (⟨l.toArray⟩ : ByteArray)) x = L.contains x.data.toList := by
  rw [Bool.eq_iff_iff, Lib.containsS_iff, List.contains_iff_mem, List.mem_map]
  constructor
  · rintro ⟨l, hl, rfl⟩
    simpa using hl
  · intro h
    refine ⟨_, h, ?_⟩
    cases x
    simp
theorem text1_ok (L : List ByteArray) (m c X : Nat) (A : Option Addr) (s : ByteArray) (w : World) (hm : L.length = m) (h0 : 0 < m) (hL : StrsAt w A L) (hm2 : m ≤ 1000) (hX : w.cell? ⟨X, 0, none⟩ = some (.slice A m c)) :
    Calls Tryz.prog 124 #[.string s, .pointer (some ⟨X, 0, none⟩)] w fun e w' => e = .returned (.bool (Lib.containsS L s)) ∧ Below w.heap.size w w' := by
  obtain ⟨b, off, hA, _⟩ := hL 0 L[0] (List.getElem?_eq_getElem (by omega))
  subst hA
  have hI := Tryz.slices_Contains_string b off m c L s w (by omega) (by omega) (fun j hj => by
    obtain ⟨b', off', e, hc⟩ := hL j L[j] (List.getElem?_eq_getElem hj)
    injection e with e
    injection e with e1 e2
    subst e1 e2
    rw [hc]; simp [List.getD, List.getElem?_eq_getElem hj])
  rw [List.take_of_length_le (by omega)] at hI
  have HI := Lib.hid hI
  have hXl := World.block_lt_of_cell? w _ hX
  clear hI hL
  go_enter Tryz.func124, Tryz.ntmps124
  go_wp2_with (go_at_call 125; refine HI.out.mono ?_; rintro e w3 ⟨rfl, rfl⟩)
  go_ret
  exact ⟨rfl, Below.refl _ _⟩
end
section
set_option linter.unusedVariables false
set_option linter.unusedSimpArgs false
open Go.RowKit Go.Shelf
set_option maxRecDepth 1000000
def WrAt (p : Value) (B X dep : Nat) (bs : List Value) (w : World) : Prop :=
  B ≤ X ∧ ∃ v, w.heap[X]? = some (.cells #[p, v, .int .i64 ((dep : Nat) : Int)] 58 (0, 0)) ∧ w.ownsRowF B 5 1 v bs.length bs ∧ v.ownBlock ≠ some X
/-- a writer: what it has written, how deep it is. -/
def Wr (B X dep : Nat) (bs : List Value) (w : World) : Prop := ∃ p, (p = .pointer none ∨ p = .pointer (some ⟨X, 0, none⟩)) ∧ WrAt p B X dep bs w
/-- behind a call that turned the writer alone. -/
structure WK (B X : Nat) (w w' : World) : Prop where
  b : Below B w w'
  k : Lib.OthersKept 5 (some X) w w'
section
variable {B X dep : Nat} {bs : List Value} {w w' w'' : World} {p : Value}
theorem WK.refl (B X : Nat) (w : World) : WK B X w w := ⟨Below.refl _ _, Lib.OthersKept.refl _ _ _⟩
theorem WK.trans (h : WK B X w w') (h' : WK B X w' w'') : WK B X w w'' := ⟨h.b.trans h'.b, h.k.trans h'.k⟩
theorem WK.alloc (h : WK B X w w') (hB : B ≤ w'.heap.size) (o : Obj) : WK B X w (w'.alloc o) := ⟨h.b.alloc hB o, h.k.alloc o⟩
theorem WK.drew (h : WK B X w w') : WK B X w w'.drew := ⟨h.b.trans ⟨rfl, rfl, rfl, Nat.le_refl _, fun _ _ => rfl⟩, h.k.drew⟩
theorem WrAt.lt (h : WrAt p B X dep bs w) : X < w.heap.size := by
  obtain ⟨_, v, hb, _⟩ := h
  rcases Nat.lt_or_ge X w.heap.size with h' | h'
  · exact h'
  · simp [Array.getElem?_eq_none h'] at hb
theorem Wr.lt (h : Wr B X dep bs w) : X < w.heap.size := by obtain ⟨p, _, h⟩ := h; exact h.lt
theorem Wr.le (h : Wr B X dep bs w) : B ≤ X := by obtain ⟨p, _, h⟩ := h; exact h.1
theorem WrAt.alloc (h : WrAt p B X dep bs w) (o : Obj) : WrAt p B X dep bs (w.alloc o) := by
  have hlt := h.lt
  obtain ⟨hB, v, hb, hown, hne⟩ := h
  exact ⟨hB, v, (Lib.alloc_old w o X hlt).trans hb, hown.alloc o, hne⟩
theorem Wr.alloc (h : Wr B X dep bs w) (o : Obj) : Wr B X dep bs (w.alloc o) := by obtain ⟨p, hp, h⟩ := h; exact ⟨p, hp, h.alloc o⟩
theorem Wr.drew (h : Wr B X dep bs w) : Wr B X dep bs w.drew := h
theorem WrAt.later (h : WrAt p B X dep bs w) (hb : Below w.heap.size w w') : WrAt p B X dep bs w' := by
  have hlt := h.lt
  obtain ⟨hB, v, hx, hown, hne⟩ := h
  exact ⟨hB, v, (hb.block X hlt).trans hx, hown.kept (row := none) ⟨hb.os, hb.tape, hb.output, hb.size, fun k hk _ => hb.block k hk⟩ (by cases hv : v.ownBlock <;> simp), hne⟩
theorem Wr.later (h : Wr B X dep bs w) (hb : Below w.heap.size w w') : Wr B X dep bs w' := by obtain ⟨p, hp, h⟩ := h; exact ⟨p, hp, h.later hb⟩
theorem WK.of_below (hb : Below w.heap.size w w') (hB : B ≤ w.heap.size) : WK B X w w' :=
  ⟨hb.mono hB, fun k o hk _ _ => by
    have hlt : k < w.heap.size := by
      rcases Nat.lt_or_ge k w.heap.size with h' | h'
      · exact h'
      · simp [Array.getElem?_eq_none h'] at hk
    rw [hb.block k hlt]; exact hk⟩
theorem WrAt.cell0 (h : WrAt p B X dep bs w) : w.cell? ⟨X, 0, none⟩ = some p := by
  obtain ⟨_, v, hb, _⟩ := h
  rw [Lib.cell_of_heap hb]; rfl
theorem WrAt.cell2 (h : WrAt p B X dep bs w) : w.cell? ⟨X, 2, none⟩ = some (.int .i64 ((dep : Nat) : Int)) := by
  obtain ⟨_, v, hb, _⟩ := h
  rw [Lib.cell_of_heap hb]; rfl
theorem Wr.cell2 (h : Wr B X dep bs w) : w.cell? ⟨X, 2, none⟩ = some (.int .i64 ((dep : Nat) : Int)) := by obtain ⟨p, _, h⟩ := h; exact h.cell2
theorem Wr.frozen2 (h : Wr B X dep bs w) : w.frozen? ⟨X, 2, none⟩ = false := by
  obtain ⟨p, _, _, v, hb, _⟩ := h
  exact Lib.frozen_of_heap hb 2
/-- the depth is set. -/
theorem Wr.deep (h : Wr B X dep bs w) (m : Nat) : Wr B X m bs (w.setCell ⟨X, 2, none⟩ (.int .i64 ((m : Nat) : Int))) := by
  obtain ⟨p, hp, hB, v, hb, hown, hne⟩ := h
  refine ⟨p, hp, hB, v, ?_, ?_, hne⟩
  · simp [World.setCell, Array.getElem?_modify, hb]
  · exact hown.kept (row := some X) ⟨rfl, rfl, rfl, by simp [World.setCell], fun k _ hk => Below.heap_setCell _ _ _ _ (fun e => hk (by simp [e]))⟩ (Or.inr hne)
theorem WK.set (h : WK B X w w') (hB : B ≤ X) (i : Nat) (u : Value) : WK B X w (w'.setCell ⟨X, i, none⟩ u) := ⟨h.b.setCell (p := ⟨X, i, none⟩) hB _, h.k.setCell ⟨X, i, none⟩ rfl _⟩
end
theorem wCopyFresh (B X dep : Nat) (bs : List Value) (w : World) (h : WrAt (.pointer none) B X dep bs w) :
    Calls Tryz.prog 193 #[.pointer (some ⟨X, 0, none⟩)] w fun e w' => e = .returned (.tuple #[]) ∧ w' = w.setCell ⟨X, 0, none⟩ (.pointer (some ⟨X, 0, none⟩)) := by
  obtain ⟨j, hj, hjs⟩ := Option.map_eq_some_iff.1 Tryz.x72.sizeBuilder
  have hj' : Tryz.prog.info? 56 = some j := hj
  have h0 := h.cell0
  have hsh : w.shape? X = some (58, 3) := by
    obtain ⟨_, v, hb, _⟩ := h
    simp [World.shape?, hb]
  have hfz : w.frozen? ⟨X, 0, none⟩ = false := by
    obtain ⟨_, v, hb, _⟩ := h
    exact Lib.frozen_of_heap hb 0
  go_enter Tryz.func193, Tryz.ntmps193
  go_wp2
  rw [Lib.run_to_unsafe w ⟨X, 0, none⟩ Tryz.underlying54 Tryz.underlying180 hj' (by rw [hjs]; decide) hsh (Nat.zero_lt_succ 2)]
  simp only [Result.andThen]
  rw [Oper.upon_value]
  go_wp2
  rw [run_callFunc_extern (show Tryz.prog.funcs[217]? = _ from Tryz.layz240.f276) (by kernel_rfl) (by kernel_rfl) (by kernel_rfl) (e := Extern.AbiNoEscape.same) (by kernel_rfl)]
  rw [Lib.run_noEscape]
  simp only [Result.andThen]
  rw [Oper.upon_value]
  go_wp2
  rw [Lib.run_from_unsafe w ⟨X, 0, none⟩ Tryz.underlying180 Tryz.underlying54 hj' hsh (by kernel_rfl)]
  simp only [Result.andThen]
  rw [Oper.upon_value]
  go_wp2
  go_end0
  exact ⟨rfl, rfl⟩
theorem wCopy_ok (B X dep : Nat) (bs : List Value) (w : World) (h : Wr B X dep bs w) :
    Calls Tryz.prog 193 #[.pointer (some ⟨X, 0, none⟩)] w fun e w' => e = .returned (.tuple #[]) ∧ WrAt (.pointer (some ⟨X, 0, none⟩)) B X dep bs w' ∧ WK B X w w' := by
  obtain ⟨p, rfl | rfl, h⟩ := h
  · refine (wCopyFresh B X dep bs w h).mono ?_
    rintro e w' ⟨rfl, rfl⟩
    refine ⟨rfl, ?_, (WK.refl B X w).set h.1 0 _⟩
    obtain ⟨hB, v, hb, hown, hne⟩ := h
    refine ⟨hB, v, ?_, ?_, hne⟩
    · simp [World.setCell, Array.getElem?_modify, hb]
    · exact hown.kept (row := some X) ⟨rfl, rfl, rfl, by simp [World.setCell], fun k _ hk => Below.heap_setCell _ _ _ _ (fun e => hk (by simp [e]))⟩ (Or.inr hne)
  · refine (Any.Builder_copyCheck_used Tryz.layz240 Tryz.x72 X w h.cell0).mono ?_
    rintro e w' ⟨rfl, rfl⟩
    exact ⟨rfl, h, WK.refl B X _⟩
theorem byteInfo : (Tryz.prog.info? 5).map (fun i => (i.zero, i.size, i.bytes)) = some (some (.int .u8 0), 1, 1) := by kernel_rfl
set_option maxHeartbeats 2000000 in
theorem wWrite_ok (B X dep : Nat) (bs : List Value) (s : ByteArray) (w : World) (h : Wr B X dep bs w) (hlen : bs.length + s.size ≤ 140737488355328) (hBw : B ≤ w.heap.size) :
    Calls Tryz.prog 147 #[.pointer (some ⟨X, 0, none⟩), .string s] w fun e w' => e = .returned (.tuple #[.int .i64 s.size, .nilIface]) ∧ Wr B X dep (bs ++ Lib.strCells s) w' ∧ WK B X w w' := by
  obtain ⟨i0, hi, hz0, hz1, hz2⟩ := info_parts byteInfo
  have hcc := wCopy_ok B X dep bs w h
  go_enter Tryz.func147, Tryz.ntmps147
  go_wp2_with fail
  go_at_call 193
  refine hcc.mono ?_
  rintro e w1 ⟨rfl, hA, hk1⟩
  have hlt := hA.lt
  obtain ⟨hB, v, hbk, hown, hne⟩ := hA
  have c0 : w1.cell? ⟨X, 0, none⟩ = some (.pointer (some ⟨X, 0, none⟩)) := by rw [Lib.cell_of_heap hbk]; rfl
  have c1 : w1.cell? ⟨X, 1, none⟩ = some v := by rw [Lib.cell_of_heap hbk]; rfl
  go_wp2_with (at_builtin; refine Lib.wpList_append_own_stringF _ rfl _ _ 40 9 rfl B 5 i0 Tryz.underlying40 Tryz.underlying9 hi hz0 hz1 hz2 _ _ _ rfl hown s rfl ?c3 ?c4 ?c5 ?_)
  case c3 => unfold maxLen; omega
  case c4 => omega
  case c5 => have := hk1.b.size; omega
  intro v' w2 hown' hgrow _
  have hb2 : w2.heap[X]? = some (.cells #[.pointer (some ⟨X, 0, none⟩), v, .int .i64 ((dep : Nat) : Int)] 58 (0, 0)) := by
    rw [hgrow.block X hlt (fun e => hne e.symm)]
    exact hbk
  have d0 : w2.cell? ⟨X, 0, none⟩ = some (.pointer (some ⟨X, 0, none⟩)) := by rw [Lib.cell_of_heap hb2]; rfl
  have d1 : w2.cell? ⟨X, 1, none⟩ = some v := by rw [Lib.cell_of_heap hb2]; rfl
  have f1 : w2.frozen? ⟨X, 1, none⟩ = false := Lib.frozen_of_heap hb2 1
  obtain ⟨ao, n', cap, rfl⟩ : ∃ ao n' cap, v' = .slice ao n' cap := by
    rcases hown'.2 with ⟨hv, _⟩ | ⟨g, cap, cur, fz, hv, _⟩
    · exact ⟨_, _, _, hv⟩
    · exact ⟨_, _, _, hv⟩
  go_wp2
  go_ret2
  refine ⟨rfl, ⟨_, .inr rfl, hB, _, ?_, ?_, Lib.ownBlock_neF hown' hb2 (by decide)⟩, ⟨(hk1.b.grown hgrow (by have := hk1.b.size; omega) (fun k hk => (hown.lt k hk).1)).setCell (p := ⟨X, 1, none⟩) hB _, (hk1.k.grown hgrow (Lib.ownsRowF_kind hown)).setCell ⟨X, 1, none⟩ rfl _⟩⟩
  · simp [World.setCell, Array.getElem?_modify, hb2]
  · have := hown'.kept (row := some X) (w' := w2.setCell ⟨X, 1, none⟩ (.slice ao n' cap)) ⟨rfl, rfl, rfl, by simp [World.setCell], fun k _ hk => Below.heap_setCell _ _ _ _ (fun e => hk (by simp [e]))⟩ (Or.inr (Lib.ownBlock_neF hown' hb2 (by decide)))
    simpa [Lib.strCells_length] using this
/-- a row of texts that the writer leaves alone. -/
def StrsW (w : World) (X : Nat) (A : Option Addr) (L : List ByteArray) : Prop := L = [] ∨ ∃ g, A = some ⟨g, 0, none⟩ ∧ g ≠ X ∧ w.heap[g]? = some (.cells (L.map Value.string).toArray 9 (0, 0))
theorem StrsW.kept {B X : Nat} {w w' : World} {A : Option Addr} {L : List ByteArray} (h : StrsW w X A L) (hk : WK B X w w') : StrsW w' X A L := by
  rcases h with h | ⟨g, hA, hg, hh⟩
  · exact .inl h
  · exact .inr ⟨g, hA, hg, hk.k g _ hh (fun e => hg (Option.some.inj e)) (fun c fz e => by injection e with _ e _; exact absurd e (by decide))⟩
def totalS : List ByteArray → Nat
  | [] => 0
  | s :: r => s.size + totalS r
theorem totalS_take (L : List ByteArray) (k : Nat) (s : ByteArray) (h : L[k]? = some s) : totalS (L.take (k + 1)) = totalS (L.take k) + s.size := by
  induction L generalizing k with
  | nil => simp at h
  | cons a r ih =>
    cases k with
    | zero => simp at h; subst h; simp [totalS]
    | succ k => rw [List.getElem?_cons_succ] at h; rw [List.take_succ_cons, List.take_succ_cons, totalS, totalS, ih k h]; omega
theorem totalS_le (L : List ByteArray) (k : Nat) : totalS (L.take k) ≤ totalS L := by
  induction L generalizing k with
  | nil => simp
  | cons a r ih =>
    cases k with
    | zero => simp [totalS]
    | succ k => rw [List.take_succ_cons, totalS, totalS]; have := ih k; omega
theorem flat_len (L : List ByteArray) : (L.flatMap Lib.strCells).length = totalS L := by
  induction L with
  | nil => rfl
  | cons a r ih => rw [List.flatMap_cons, List.length_append, ih, totalS, Lib.strCells_length]
theorem flat_take (L : List ByteArray) (k : Nat) (s : ByteArray) (h : L[k]? = some s) : (L.take (k + 1)).flatMap Lib.strCells = (L.take k).flatMap Lib.strCells ++ Lib.strCells s := by
  obtain ⟨hk, rfl⟩ := List.getElem?_eq_some_iff.1 h
  rw [List.take_succ_eq_append_getElem hk, List.flatMap_append]
  simp
set_option maxHeartbeats 4000000 in
theorem wSay_ok (B X dep : Nat) (bs : List Value) (L : List ByteArray) (n c : Nat) (A : Option Addr) (w : World) (h : Wr B X dep bs w) (hn : L.length = n) (hL : StrsW w X A L) (hnc : n ≤ c) (hc : c ≤ maxLen) (hlen : bs.length + totalS L ≤ 140737488355328) (hBw : B ≤ w.heap.size) :
    Calls Tryz.prog 84 #[.pointer (some ⟨X, 0, none⟩), .slice A n c] w fun e w' => e = .returned (.tuple #[]) ∧ Wr B X dep (bs ++ L.flatMap Lib.strCells) w' ∧ WK B X w w' := by
  unfold maxLen at hc
  have HN := Lib.hid hn
  have HL := Lib.hid hL
  have H := Lib.hid h
  have HLen := Lib.hid hlen
  have HB := Lib.hid hBw
  have hXlt := h.lt
  clear hn hL h hlen hBw
  go_enter Tryz.func84, Tryz.ntmps84
  go_wp2_with fail
  go_loopw [8] (fun iv wr => ∃ k : Nat, iv = .int .i64 k ∧ k ≤ n ∧ Hid (Wr B X dep (bs ++ (L.take k).flatMap Lib.strCells) wr) ∧ Hid (WK B X w wr)) (fun iv _ => n - (intOf iv).toNat)
  case atStart => exact ⟨0, rfl, Nat.zero_le _, Lib.hid (by simpa using H.out), Lib.hid (WK.refl _ _ _)⟩
  case round =>
    obtain ⟨k, rfl, hk, hR, hbr⟩ := hrel
    by_cases hkl : k < n
    · have o1 : decide ((k : Int) < (n : Int)) = true := decide_eq_true (by omega)
      have o2 : decide (k < n) = true := decide_eq_true hkl
      obtain ⟨x, hx⟩ : ∃ x, L[k]? = some x := ⟨_, List.getElem?_eq_getElem (by rw [HN.out]; exact hkl)⟩
      obtain ⟨g, hA, hgX, hh⟩ : ∃ g, A = some ⟨g, 0, none⟩ ∧ g ≠ X ∧ wr.heap[g]? = some (.cells (L.map Value.string).toArray 9 (0, 0)) := by
        rcases HL.out.kept hbr.out with h | h
        · rw [h] at hx; simp at hx
        · exact h
      subst hA
      have hc2 : wr.cell? ⟨g, k, none⟩ = some (.string x) := by rw [Lib.cell_of_heap hh]; simp [hx]
      have hxl : X < wr.heap.size := hR.out.lt
      have HI := Lib.hid (wWrite_ok B X dep _ x wr hR.out (by have h1 := HLen.out; have h2 := totalS_take L k x hx; have h3 := totalS_le L (k + 1); rw [List.length_append, flat_len]; omega) (Nat.le_trans HB.out hbr.out.b.size))
      have HF := Lib.hid (flat_take L k x hx)
      clear hh hx
      go_wp2_with (go_at_call 147; refine HI.out.mono ?_; rintro e w3 ⟨rfl, hw3, hk3⟩)
      go_roundw
      case rel => exact ⟨k + 1, by go_num, by omega, Lib.hid (by rw [HF.out, ← List.append_assoc]; exact hw3), Lib.hid (hbr.out.trans hk3)⟩
      case measure => simp [intOf]; omega
    · have o1 : decide ((k : Int) < (n : Int)) = false := decide_eq_false (by omega)
      have o2 : decide (k < n) = false := decide_eq_false hkl
      have hR2 := hR.out
      rw [List.take_of_length_le (by have := HN.out; omega)] at hR2
      have HR2 := Lib.hid hR2
      clear hR2
      go_wp2_with fail
      go_end0
      exact ⟨rfl, HR2.out, hbr.out⟩
end
section
set_option linter.unusedVariables false
set_option linter.unusedSimpArgs false
open Go.RowKit
/-- How many of the first k words are left when those 0 at the end are out. -/
def trimLen (zs : List Int) : Nat → Nat
  | 0 => 0
  | k + 1 => if zs[k]?.getD 0 = 0 then trimLen zs k else k + 1
theorem trimLen_le (zs : List Int) : ∀ k, trimLen zs k ≤ k
  | 0 => Nat.le_refl _
  | k + 1 => by rw [trimLen]; split; exact Nat.le_succ_of_le (trimLen_le zs k); exact Nat.le_refl _
/-- Without the words 0 at the end. -/
def trimN (zs : List Int) : List Int := zs.take (trimLen zs zs.length)
theorem trimN_length (zs : List Int) : (trimN zs).length = trimLen zs zs.length := by
  rw [trimN, List.length_take]; exact Nat.min_eq_left (trimLen_le _ _)
theorem trimN_le (zs : List Int) : (trimN zs).length ≤ zs.length := by rw [trimN_length]; exact trimLen_le _ _
/-- The number that the words make, the lowest first. -/
def val : List Int → Int
  | [] => 0
  | z :: zs => z + 4294967296 * val zs
theorem val_append (xs ys : List Int) : val (xs ++ ys) = val xs + 4294967296 ^ xs.length * val ys := by
  induction xs with
  | nil => simp [val]
  | cons x xs ih => simp only [List.cons_append, val, ih, List.length_cons, Int.pow_succ]; grind
theorem val_take_trim (zs : List Int) : ∀ k, k ≤ zs.length → val (zs.take (trimLen zs k)) = val (zs.take k)
  | 0, _ => rfl
  | k + 1, h => by
    rw [trimLen]
    split
    · rename_i h0
      rw [val_take_trim zs k (by omega), List.take_succ_eq_append_getElem (by omega), val_append]
      rw [List.getElem?_eq_getElem (by omega)] at h0
      simp at h0
      simp [val, h0]
    · rfl
theorem val_trimN (zs : List Int) : val (trimN zs) = val zs := by rw [trimN, val_take_trim zs _ (Nat.le_refl _), List.take_length]
theorem RdI.take {w : World} {k : IntKind} {A : Option Addr} {zs : List Int} (h : RdI w k A zs) (j : Nat) : RdI w k A (zs.take j) := fun i hi => by
  have hi' : i < j ∧ i < zs.length := by simpa [List.length_take, Nat.lt_min] using hi
  obtain ⟨b, off, z, hA, hz, hc⟩ := h i hi'.2
  exact ⟨b, off, z, hA, by rw [List.getElem?_take_of_lt hi'.1]; exact hz, hc⟩
set_option maxHeartbeats 400000 in
theorem trim_any (A : Option Addr) (c : Nat) (zs : List Int) (w : World) (hr : RdI w .u32 A zs) (hl : zs.length ≤ c) (hm : c ≤ 9223372036854775807) :
    Calls Tryz.prog 185 #[.slice A zs.length c] w fun e w' => e = .returned (.slice A (trimN zs).length c) ∧ w = w' := by
  rw [trimN_length]
  go_enter Tryz.func185, Tryz.ntmps185
  go_wp2
  go_loop [0] (fun v => ∃ k : Nat, k ≤ zs.length ∧ v = .slice A k c ∧ Hid (trimLen zs k = trimLen zs zs.length)) (fun v => match v with | .slice _ k _ => k | _ => 0)
  case atStart => exact ⟨zs.length, Nat.le_refl _, rfl, rfl⟩
  case round =>
    obtain ⟨k, hk, rfl, hT⟩ := hrel
    cases k with
    | zero =>
      go_wp2
      go_ret
      exact ⟨by rw [← hT.out]; rfl, rfl⟩
    | succ k =>
      obtain ⟨b, off, z, rfl, hz, hc⟩ := hr k (by omega)
      have hT' := hT.out
      rw [trimLen, hz] at hT'
      simp only [Option.getD_some] at hT'
      have HZ := Lib.hid hz
      clear hz
      by_cases h0 : z = 0
      · rw [if_pos h0] at hT'
        have HT := Lib.hid hT'
        have h0' : (z == 0) = true := by simp [h0]
        clear hT' h0
        go_wp2
        go_round
        case rel => exact ⟨k, by omega, rfl, HT⟩
        case measure => simp
      · rw [if_neg h0] at hT'
        have HT := Lib.hid hT'
        have h0' : (z == 0) = false := by simp [h0]
        clear hT' h0
        go_wp2
        go_ret
        exact ⟨by rw [← HT.out]; rfl, rfl⟩
end
end Go.Proofs.YtjefhdlncikhmaaGreatDoor
