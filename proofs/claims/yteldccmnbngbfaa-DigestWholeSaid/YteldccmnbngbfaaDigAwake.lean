/- What the laws of package digest hold awake: three values that the document fixes. Conditions: none. -/
import Derived.Test.YteldccmnbngbfaaDig3
namespace Go.Proofs.Yteldccmnbngbfaa
open Go.RowKit

def one32 : List U32 := [⟨1, by omega, by omega⟩]

set_option maxHeartbeats 400000 in
theorem awake_any (w : World) : Calls Try.prog 8 #[] w fun e w' => e = .returned (.bool true) ∧ Below w.heap.size w w' := by
  have e1 : wholeV true (vals one32) = -2 := by kernel_rfl
  have e2 : textV (⟨#[97]⟩ : ByteArray).data.toList = -5808556873153909620 := by kernel_rfl
  have e3 : numberV 16 = 1 := by kernel_rfl
  have h1 := Lib.hid (fun (W : World) (hr : RdI W .u32 (some ⟨w.heap.size, 0, none⟩) (vals one32)) => whole_any true (some ⟨w.heap.size, 0, none⟩) 1 one32 W hr (Nat.le_refl _) (by omega))
  have h2 := Lib.hid (fun (W : World) => text_any ⟨#[97]⟩ W (by decide))
  have h3 := Lib.hid (fun (W : World) => number_any 16 W)
  rw [e1] at h1
  rw [e2] at h2
  rw [e3] at h3
  clear e1 e2 e3
  go_enter Try.func8, Try.ntmps8
  go_wp2_with (first
    | (go_at_call 9; refine (h1.out _ ?_).mono ?_; rotate_left; rintro e w1 ⟨rfl, hb1⟩)
    | (go_at_call 14; refine (h2.out _).mono ?_; rintro e w2 ⟨rfl, hb2⟩)
    | (go_at_call 16; refine (h3.out _).mono ?_; rintro e w3 ⟨rfl, hb3⟩))
  · go_ret
    refine ⟨rfl, ?_⟩
    have k1 := ((Below.refl w.heap.size w).alloc (Nat.le_refl _) (.cells #[.int .u32 1] 39)).trans (hb1.mono (by simp))
    have k2 := k1.trans (hb2.mono k1.size)
    exact k2.trans (hb3.mono k2.size)
  · intro i hi
    obtain rfl : i = 0 := by simp [vals_length, one32] at hi; exact hi
    exact ⟨w.heap.size, 0, 1, rfl, rfl, by go_simp⟩
end Go.Proofs.Yteldccmnbngbfaa
