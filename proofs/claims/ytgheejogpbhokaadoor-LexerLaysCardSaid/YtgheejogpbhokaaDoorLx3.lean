/- The longest sign at a text's head: the lexer's sign. -/
import Derived.Test.YtgheejogpbhokaaDoorLx2
namespace Go.Proofs.YtgheejogpbhokaaDoor
set_option linter.unusedVariables false
set_option linter.unusedSimpArgs false
open Go.RowKit
set_option maxRecDepth 1000000

def signsA : List (List UInt8) := [[40], [41], [91], [93], [123], [125], [44], [58], [46], [61], [61, 61], [33, 61], [60], [60, 61], [62], [62, 61], [43], [43, 61], [45], [45, 61], [42], [42, 61], [42, 42], [47, 47], [47, 47, 61], [37], [37, 61], [38], [38, 61], [124], [124, 61], [94], [94, 61]]
def signK (l : List UInt8) : Nat → List UInt8
  | 0 => []
  | k + 1 => if signsA.contains (l.take (k + 1)) then l.take (k + 1) else signK l k
theorem signs_split (x : List UInt8) : signsA.contains x = (signs3.contains x || signs2.contains x || signs1.contains x) := by
  rw [Bool.eq_iff_iff]
  simp only [signsA, signs1, signs2, signs3, List.contains_cons, List.contains_nil, Bool.or_eq_true, beq_iff_eq, Bool.or_false]
  constructor
  · intro h
    rcases h with rfl | rfl | rfl | rfl | rfl | rfl | rfl | rfl | rfl | rfl | rfl | rfl | rfl | rfl | rfl | rfl | rfl | rfl | rfl | rfl | rfl | rfl | rfl | rfl | rfl | rfl | rfl | rfl | rfl | rfl | rfl | rfl | rfl
    all_goals simp
  · intro h
    rcases h with (h | h) | h
    · simp [h]
    · rcases h with rfl | rfl | rfl | rfl | rfl | rfl | rfl | rfl | rfl | rfl | rfl | rfl | rfl
      all_goals simp
    · rcases h with rfl | rfl | rfl | rfl | rfl | rfl | rfl | rfl | rfl | rfl | rfl | rfl | rfl | rfl | rfl | rfl | rfl | rfl | rfl
      all_goals simp
theorem signK_ok (l : List UInt8) : signK l (min 3 l.length) = signL l := by
  cases l with
  | nil => rfl
  | cons a l =>
    cases l with
    | nil =>
      show signK [a] 1 = _
      unfold signL signK signK
      simp only [signs_split]
      simp [signs1, signs2, signs3]
    | cons b l =>
      cases l with
      | nil =>
        show signK [a, b] 2 = _
        unfold signL signK signK signK
        simp only [signs_split]
        simp [signs1, signs2, signs3]
      | cons c t =>
        have : min 3 (a :: b :: c :: t).length = 3 := by simp
        rw [this]
        unfold signL signK signK signK signK
        simp only [signs_split]
        simp [signs1, signs2, signs3]
theorem signL_take (l : List UInt8) : l.take (signL l).length = signL l := by
  unfold signL
  split
  · rw [List.length_take, List.take_eq_take_iff]; omega
  · split
    · rw [List.length_take, List.take_eq_take_iff]; omega
    · split
      · rw [List.length_take, List.take_eq_take_iff]; omega
      · rfl
def sgS (T : ByteArray) : ByteArray := T.extract 0 (signL T.data.toList).length
theorem sgS_list (T : ByteArray) : (sgS T).data.toList = signL T.data.toList := by rw [sgS, ext_list, List.drop_zero, Nat.sub_zero, signL_take]
theorem sgS_size (T : ByteArray) : (sgS T).size = (signL T.data.toList).length := by rw [← sgS_list]; simp
theorem ext_none (T : ByteArray) : T.extract 0 0 = ⟨#[]⟩ := by
  have : (T.extract 0 0).data = #[] := Array.eq_empty_of_size_eq_zero (by simp [ByteArray.extract, ByteArray.copySlice])
  cases hT : T.extract 0 0; rw [hT] at this; simp only at this; rw [this]
theorem sign_hit {T : ByteArray} {k : Nat} (hk : k + 1 ≤ T.size) (h : signK T.data.toList (k + 1) = signL T.data.toList) (hc : signsA.contains (T.extract 0 (k + 1)).toList = true) : T.extract 0 (k + 1) = sgS T := by
  rw [Lib.toList_data, ext_list, List.drop_zero, Nat.sub_zero] at hc
  rw [signK, if_pos hc] at h
  rw [sgS, ← h, List.length_take]
  congr 1
  have : T.data.toList.length = T.size := by simp
  omega
theorem sign_miss {T : ByteArray} {k : Nat} (h : signK T.data.toList (k + 1) = signL T.data.toList) (hc : signsA.contains (T.extract 0 (k + 1)).toList = false) : signK T.data.toList k = signL T.data.toList := by
  rw [Lib.toList_data, ext_list, List.drop_zero, Nat.sub_zero] at hc
  rw [signK, if_neg (by rw [hc]; decide)] at h
  exact h

set_option maxHeartbeats 8000000 in
theorem lxSign_ok (T : ByteArray) (w : World) (hs : T.size ≤ 1099511627776) : Calls Tryd.prog 52 #[.string T] w fun e w' => e = .returned (.string (sgS T)) ∧ w = w' := by
  have HK := Lib.hid (signK_ok T.data.toList)
  have hl : T.data.toList.length = T.size := by simp
  rw [hl] at HK
  clear hl
  have m3 : min (3 : Int) (T.size : Int) = ((min 3 T.size : Nat) : Int) := by omega
  have m4 : min 3 T.size ≤ T.size := by omega
  have m5 : min 3 T.size ≤ 3 := by omega
  generalize min 3 T.size = M at *
  go_enter Tryd.func52, Tryd.ntmps52
  go_wp2
  clear m3
  go_loop [3] (fun v => ∃ k : Nat, v = .int .i64 k ∧ k ≤ T.size ∧ k ≤ 3 ∧ Hid (signK T.data.toList k = signL T.data.toList)) (fun v => (intOf v).toNat)
  case atStart => exact ⟨M, rfl, m4, m5, HK⟩
  case round =>
    obtain ⟨k, rfl, hk1, hk2, hk3⟩ := hrel
    clear m4 m5 HK
    cases k with
    | zero =>
      go_wp2
      go_ret
      have e := hk3.out
      have e2 : sgS T = ⟨#[]⟩ := by rw [sgS, ← e]; exact ext_none T
      exact ⟨by rw [e2]; rfl, rfl⟩
    | succ k =>
      have i1 : (0 : Int) ≤ ((k + 1 : Nat) : Int) := by omega
      have i2 : ((k + 1 : Nat) : Int) ≤ (T.size : Int) := by omega
      have i4 : (0 : Int) < ((k + 1 : Nat) : Int) := by omega
      have hH := Lib.hid (fun hc => sign_hit (T := T) hk1 hk3.out hc)
      have hM := Lib.hid (fun hc => sign_miss (T := T) hk3.out hc)
      clear hk3
      go_wp2
      all_goals first
        | (go_ret; suffices hc : signsA.contains (T.extract 0 (k + 1)).toList = true from ⟨by rw [← hH.out hc]; rfl, rfl⟩; simp only [signsA, List.contains_cons, List.contains_nil, Bool.true_or, Bool.or_true, Bool.false_or, Bool.or_false, *]; done)
        | (go_round; (case rel => (suffices hc : signsA.contains (T.extract 0 (k + 1)).toList = false from ⟨k, rfl, by omega, by omega, Lib.hid (hM.out hc)⟩; simp only [signsA, List.contains_cons, List.contains_nil, Bool.true_or, Bool.or_true, Bool.false_or, Bool.or_false, *])); (case measure => (simp [intOf])))
        | (exfalso; simp_all; done)
end Go.Proofs.YtgheejogpbhokaaDoor
