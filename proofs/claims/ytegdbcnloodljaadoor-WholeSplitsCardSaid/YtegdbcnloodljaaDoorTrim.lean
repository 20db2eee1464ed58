/- whole.trim: the words 0 at the end are left out. Conditions: the slice reads as words. -/
import Derived.Test.YtegdbcnloodljaaDoorWords
import Derived.Test.YtegdbcnloodljaaDoorRows
namespace Go.Proofs.YtegdbcnloodljaaDoor
set_option linter.unusedVariables false
set_option linter.unusedSimpArgs false
open Go.RowKit

/-- How many of the first k words are left when those 0 at the end are out. -/
def trimLen (zs : List Int) : Nat → Nat
  | 0 => 0
  | k + 1 => if zs[k]?.getD 0 = 0 then trimLen zs k else k + 1
theorem trimLen_le (zs : List Int) : ∀ k, trimLen zs k ≤ k
  | 0 => Nat.le_refl _
  | k + 1 => by rw [trimLen]; split; exact Nat.le_succ_of_le (trimLen_le zs k); exact Nat.le_refl _
/-- Without the words 0 at the end. -/
def trimN (zs : List Int) : List Int := zs.take (trimLen zs zs.length)
theorem trimN_length (zs : List Int) : (trimN zs).length = trimLen zs zs.length := by
  rw [trimN, List.length_take]; exact Nat.min_eq_left (trimLen_le _ _)
theorem trimN_le (zs : List Int) : (trimN zs).length ≤ zs.length := by rw [trimN_length]; exact trimLen_le _ _

/-- The number that the words make, the lowest first. -/
def val : List Int → Int
  | [] => 0
  | z :: zs => z + 4294967296 * val zs
theorem val_append (xs ys : List Int) : val (xs ++ ys) = val xs + 4294967296 ^ xs.length * val ys := by
  induction xs with
  | nil => simp [val]
  | cons x xs ih => simp only [List.cons_append, val, ih, List.length_cons, Int.pow_succ]; grind
theorem val_take_trim (zs : List Int) : ∀ k, k ≤ zs.length → val (zs.take (trimLen zs k)) = val (zs.take k)
  | 0, _ => rfl
  | k + 1, h => by
    rw [trimLen]
    split
    · rename_i h0
      rw [val_take_trim zs k (by omega), List.take_succ_eq_append_getElem (by omega), val_append]
      rw [List.getElem?_eq_getElem (by omega)] at h0
      simp at h0
      simp [val, h0]
    · rfl
theorem val_trimN (zs : List Int) : val (trimN zs) = val zs := by rw [trimN, val_take_trim zs _ (Nat.le_refl _), List.take_length]

theorem RdI.take {w : World} {k : IntKind} {A : Option Addr} {zs : List Int} (h : RdI w k A zs) (j : Nat) : RdI w k A (zs.take j) := fun i hi => by
  have hi' : i < j ∧ i < zs.length := by simpa [List.length_take, Nat.lt_min] using hi
  obtain ⟨b, off, z, hA, hz, hc⟩ := h i hi'.2
  exact ⟨b, off, z, hA, by rw [List.getElem?_take_of_lt hi'.1]; exact hz, hc⟩

set_option maxHeartbeats 400000 in
theorem trim_any (A : Option Addr) (c : Nat) (zs : List Int) (w : World) (hr : RdI w .u32 A zs) (hl : zs.length ≤ c) (hm : c ≤ 9223372036854775807) :
    Calls Tryd.prog 54 #[.slice A zs.length c] w fun e w' => e = .returned (.slice A (trimN zs).length c) ∧ w = w' := by
  rw [trimN_length]
  go_enter Tryd.func54, Tryd.ntmps54
  go_wp2
  go_loop [0] (fun v => ∃ k : Nat, k ≤ zs.length ∧ v = .slice A k c ∧ Hid (trimLen zs k = trimLen zs zs.length)) (fun v => match v with | .slice _ k _ => k | _ => 0)
  case atStart => exact ⟨zs.length, Nat.le_refl _, rfl, rfl⟩
  case round =>
    obtain ⟨k, hk, rfl, hT⟩ := hrel
    cases k with
    | zero =>
      go_wp2
      go_ret
      exact ⟨by rw [← hT.out]; rfl, rfl⟩
    | succ k =>
      obtain ⟨b, off, z, rfl, hz, hc⟩ := hr k (by omega)
      have hT' := hT.out
      rw [trimLen, hz] at hT'
      simp only [Option.getD_some] at hT'
      have HZ := Lib.hid hz
      clear hz
      by_cases h0 : z = 0
      · rw [if_pos h0] at hT'
        have HT := Lib.hid hT'
        have h0' : (z == 0) = true := by simp [h0]
        clear hT' h0
        go_wp2
        go_round
        case rel => exact ⟨k, by omega, rfl, HT⟩
        case measure => simp
      · rw [if_neg h0] at hT'
        have HT := Lib.hid hT'
        have h0' : (z == 0) = false := by simp [h0]
        clear hT' h0
        go_wp2
        go_ret
        exact ⟨by rw [← HT.out]; rfl, rfl⟩
end Go.Proofs.YtegdbcnloodljaaDoor
