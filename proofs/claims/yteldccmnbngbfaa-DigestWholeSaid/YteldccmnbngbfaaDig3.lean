/- The hash of a whole number, the program's and the reference's; the reference's Small. Conditions: the slice reads as at most a million words of 32 bits. -/
import Derived.Test.YteldccmnbngbfaaRefRest
import Derived.Test.YteldccmnbngbfaaDig2
namespace Go.Proofs.Yteldccmnbngbfaa
open Go.RowKit

def mersenne : Int := 2305843009213693951
def wholeN (neg : Bool) (V : Int) : Int := match neg with | true => IntKind.u64.wrap (-V) | false => V
def wholeV (neg : Bool) (zs : List Int) : Int := insteadV (wholeN neg (val zs % mersenne)) (-2)

set_option maxHeartbeats 400000 in
theorem whole_any (neg : Bool) (A : Option Addr) (c : Nat) (zs : List U32) (w : World) (hr : RdI w .u32 A (vals zs)) (hl : zs.length ≤ c) (hc : c ≤ 9223372036854775807) :
    Calls Try.prog 9 #[.agg #[.bool neg, .slice A zs.length c]] w fun e w' => e = .returned (.int .i64 (wholeV neg (vals zs))) ∧ Below w.heap.size w w' := by
  have HC := Lib.hid (fun W (hb : Below w.heap.size w W) => rest_any false A c zs 2305843009213693951 W (hr.later hb) hl hc (by omega) (by omega))
  have e0 : restRes false 2305843009213693951 (val (vals zs) % 2305843009213693951) = val (vals zs) % 2305843009213693951 := rfl
  rw [e0] at HC
  have n0 : 0 ≤ val (vals zs) % 2305843009213693951 := Int.emod_nonneg _ (by decide)
  have n1 : val (vals zs) % 2305843009213693951 < 2305843009213693951 := Int.emod_lt_of_pos _ (by decide)
  have HV : Hid (wholeV neg (vals zs) = insteadV (wholeN neg (val (vals zs) % 2305843009213693951)) (-2)) := rfl
  obtain ⟨V, hV⟩ : ∃ V, V = val (vals zs) % 2305843009213693951 := ⟨_, rfl⟩
  rw [← hV] at HC n0 n1 HV
  clear e0 hV
  have hb1 : ∀ o, Below w.heap.size w (w.alloc o) := fun o => (Below.refl _ _).alloc (Nat.le_refl _) _
  cases neg
  all_goals
    go_enter Try.func9, Try.ntmps9
    go_wp2_with (first
      | (go_at_call 23; refine (HC.out _ (hb1 _)).mono ?_; rintro e w' ⟨rfl, hb⟩; obtain ⟨ko, kf⟩ := oldCells hb; have hsz : w.heap.size + 1 ≤ w'.heap.size := (by have := hb.size; simpa using this))
      | (go_at_call 25; refine (stands_any _ _).mono ?_; rintro e w' ⟨rfl, rfl⟩)
      | (go_at_call 24; refine (hash_any _ _ (-2) _ (by go_simp)).mono ?_; rintro e w' ⟨rfl, rfl⟩))
    go_ret
    refine ⟨by rw [HV.out]; rfl, ?_⟩
    exact ((hb1 _).trans (hb.mono (by simp))).alloc (by omega) _

set_option maxHeartbeats 400000 in
theorem refWhole_any (neg : Bool) (A : Option Addr) (c : Nat) (zs : List U32) (w : World) (hr : RdI w .u32 A (vals zs)) (hl : zs.length ≤ c) (hc : c ≤ 9223372036854775807) (hn : zs.length ≤ 1000000) :
    Calls Try.prog 13 #[.agg #[.bool neg, .slice A zs.length c]] w fun e w' => e = .returned (.int .i64 (wholeV neg (vals zs))) ∧ Below w.heap.size w w' := by
  have HC := Lib.hid (fun W (hb : Below w.heap.size w W) => refRest_any false A c zs 2305843009213693951 W (hr.later hb) hl hc hn (by omega) (by omega))
  have e0 : restRes false 2305843009213693951 (val (vals zs) % 2305843009213693951) = val (vals zs) % 2305843009213693951 := rfl
  rw [e0] at HC
  have n0 : 0 ≤ val (vals zs) % 2305843009213693951 := Int.emod_nonneg _ (by decide)
  have n1 : val (vals zs) % 2305843009213693951 < 2305843009213693951 := Int.emod_lt_of_pos _ (by decide)
  have HV : Hid (wholeV neg (vals zs) = insteadV (wholeN neg (val (vals zs) % 2305843009213693951)) (-2)) := rfl
  obtain ⟨V, hV⟩ : ∃ V, V = val (vals zs) % 2305843009213693951 := ⟨_, rfl⟩
  rw [← hV] at HC n0 n1 HV
  clear e0 hV
  have hb1 : ∀ o, Below w.heap.size w (w.alloc o) := fun o => (Below.refl _ _).alloc (Nat.le_refl _) _
  cases neg
  all_goals
    go_enter Try.func13, Try.ntmps13
    go_wp2_with (first
      | (go_at_call 27; refine (HC.out _ (hb1 _)).mono ?_; rintro e w' ⟨rfl, hb⟩; obtain ⟨ko, kf⟩ := oldCells hb; have hsz : w.heap.size + 1 ≤ w'.heap.size := (by have := hb.size; simpa using this))
      | (go_at_call 28; refine (instead_any _ _ _).mono ?_; rintro e w' ⟨rfl, rfl⟩))
    go_ret
    exact ⟨by rw [HV.out]; rfl, (hb1 _).trans (hb.mono (by simp))⟩
end Go.Proofs.Yteldccmnbngbfaa
