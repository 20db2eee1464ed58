/- The reference's long, kept, made as Ints, sum, Add, Sub, Negate, Compare (chapter 1). -/
import Derived.Test.YtegdbcnloodljaaDoorR3
import Derived.Test.YtegdbcnloodljaaDoorW8
namespace Go.Proofs.YtegdbcnloodljaaDoor
set_option linter.unusedVariables false
set_option linter.unusedSimpArgs false
open Go.RowKit
set_option maxRecDepth 1000000

/-- An Int in its form, in new memory. -/
def RetI (w : World) (X : Int) (e : Ending) (w' : World) : Prop :=
  ∃ b' A' n' c', e = .returned (.agg #[.bool b', .slice A' n' c']) ∧ IntAt w' w.heap.size X (.agg #[.bool b', .slice A' n' c']) ∧ Below w.heap.size w w'

theorem retInt_i {w w' : World} {neg : Bool} {zs : List Int} {e : Ending} (hW : W32 zs) (h : RetInt w (negN neg zs) (trimN zs) e w') : RetI w (valI neg zs) e w' := by
  obtain ⟨A, c, rfl, h1, h2, h3, h4⟩ := h
  refine ⟨_, _, _, _, rfl, ⟨_, A, c, trimN zs, rfl, h1, h2, h3, trimN_w32 hW, trimN_nt zs, ?_, ?_⟩, h4⟩
  · have h0 := nt_zero (trimN_w32 hW) (trimN_nt zs)
    rw [val_trimN] at h0
    unfold valI negN
    rw [val_trimN]
    cases neg
    · simp
    · by_cases ht : trimN zs = []
      · have hv := h0.2 ht
        rw [ht, hv]; simp
      · have : 0 < (trimN zs).length := List.length_pos_iff.2 ht
        simp [this]
  · intro hb
    unfold negN at hb
    simp only [Bool.and_eq_true, decide_eq_true_eq] at hb
    exact List.length_pos_iff.1 hb.2

theorem made_int (neg : Bool) (A : Option Addr) (c : Nat) (zs : List Int) (w : World) (hW : W32 zs) (hr : RdI w .u32 A zs) (hl : zs.length ≤ c) (hc : c ≤ 9223372036854775807) (hm : zs.length ≤ 1000000) (S : Int) (hS : valI neg zs = S) :
    Calls Tryd.prog 52 #[.bool neg, .slice A zs.length c] w (RetI w S) := by
  subst hS
  exact (made_any neg A c zs w hr hl hc hm).mono fun e w' h => retInt_i hW h
theorem refForm_int (neg : Bool) (A : Option Addr) (c : Nat) (zs : List Int) (w : World) (hW : W32 zs) (hr : RdI w .u32 A zs) (hl : zs.length ≤ c) (hc : c ≤ 9223372036854775807) (hm : zs.length ≤ 1000000) :
    Calls Tryd.prog 37 #[.agg #[.bool neg, .slice A zs.length c]] w (RetI w (valI neg zs)) :=
  (form_any neg A c zs w hr hl hc hm).mono fun e w' h => retInt_i hW h
theorem valI_not' (b : Bool) (zs : List Int) : valI (!b) zs = -(valI b zs) := by
  unfold valI; cases b <;> simp
theorem refNegate_int (neg : Bool) (A : Option Addr) (c : Nat) (zs : List Int) (w : World) (hW : W32 zs) (hr : RdI w .u32 A zs) (hl : zs.length ≤ c) (hc : c ≤ 9223372036854775807) (hm : zs.length ≤ 1000000) :
    Calls Tryd.prog 29 #[.agg #[.bool neg, .slice A zs.length c]] w (RetI w (-(valI neg zs))) :=
  (refNegate_any neg A c zs w hr hl hc hm).mono fun e w' h => by
    rw [← valI_not']
    refine retInt_i hW ?_
    exact h

set_option maxHeartbeats 400000 in
theorem refLong_ok (neg : Bool) (A : Option Addr) (c : Nat) (zs : List Int) (w : World) (hW : W32 zs) (hr : RdI w .u32 A zs) (hl : zs.length ≤ c) (hc : c ≤ 9223372036854775807) (hm : zs.length ≤ 1000000) :
    Calls Tryd.prog 64 #[.agg #[.bool neg, .slice A zs.length c]] w fun e w' => e = .returned (.bool (big (valI neg zs))) ∧ Below w.heap.size w w' := by
  have HC := Lib.hid (fun W (hb : Below w.heap.size w W) => refTrim_any A c zs W (hr.later hb) hl hc hm)
  rw [big_valI hW, ← show decide (256 < (trimN zs).length) = decide (BIG ≤ val zs) from by rw [Bool.eq_iff_iff]; simp only [decide_eq_true_eq]; exact long_iff hW]
  have hl2 := trimN_le zs
  obtain ⟨b, hb⟩ : ∃ b, decide (256 < (trimN zs).length) = b := ⟨_, rfl⟩
  have hb2 : decide ((256 : Int) < ((trimN zs).length : Int)) = b := by rw [← hb]; simp; omega
  rw [hb]
  clear hb
  obtain ⟨ts, hts⟩ : ∃ ts, trimN zs = ts := ⟨_, rfl⟩
  rw [hts] at HC hl2 hb2
  clear hts
  go_enter Tryd.func64, Tryd.ntmps64
  go_wp2_with (go_at_call 49; refine (HC.out _ ((Below.refl _ _).alloc (Nat.le_refl _) _)).mono ?_; rintro e w' ⟨A2, c2, rfl, l1, l2, fr, hb⟩)
  go_ret
  exact ⟨rfl, ((Below.refl _ w).alloc (Nat.le_refl _) _).trans (hb.mono (by simp))⟩
end Go.Proofs.YtegdbcnloodljaaDoor
