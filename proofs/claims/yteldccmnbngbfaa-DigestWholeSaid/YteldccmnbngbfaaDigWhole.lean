/- The walk of the law DigestWhole. Conditions: none but how the argument reads. -/
import Derived.Test.YteldccmnbngbfaaDigAwake
import Derived.Test.YteldccmnbngbfaaSmallr
namespace Go.Proofs.Yteldccmnbngbfaa
open Go.RowKit

/-- The hash, said outright. -/
theorem wholeV_eq (neg : Bool) (V : Int) (h0 : 0 ≤ V) (h1 : V < mersenne) : insteadV (wholeN neg V) (-2) = match neg with | true => if V = 1 then -2 else -V | false => V := by
  unfold mersenne at h1
  cases neg
  · have e : wrap64 V = V := by rw [wrapI64]; omega
    simp only [wholeN, insteadV, e]
    rw [if_neg (by simp; omega)]
  · have e : wrap64 (IntKind.u64.wrap (-V)) = -V := by rw [wrapI64, wrapU64]; omega
    simp only [wholeN, insteadV, e]
    by_cases h : V = 1
    · rw [if_pos (by simp; omega), if_pos h]
    · rw [if_neg (by simp; omega), if_neg h]

theorem val_trimU (zs : List U32) : val (vals (trimU zs)) = val (vals zs) := by rw [vals_trimU, val_trimN]
theorem wholeV_sign (neg : Bool) (zs : List U32) : wholeV (negN neg (vals zs)) (vals (trimU zs)) = wholeV neg (vals zs) := by
  unfold wholeV
  rw [val_trimU]
  cases neg
  · rfl
  · by_cases h : 0 < (trimN (vals zs)).length
    · simp [negN, h]
    · have e : trimN (vals zs) = [] := List.eq_nil_of_length_eq_zero (by omega)
      have : val (vals zs) = 0 := by rw [← val_trimN, e]; rfl
      rw [this]
      simp only [negN, h, wholeN, decide_false, Bool.and_false]
      rfl

/-- What the law asks of the numbers. -/
structure WholeFacts (h n sv : Int) (sb : Bool) : Prop where
  lo : -2305843009213693951 ≤ h
  hi : h ≤ 2305843009213693951
  one : (h != -1) = true
  turn : (n == -h) = true ∨ ((n == -h) = false ∧ (h == 1) = true ∧ (n == -2) = true) ∨ ((n == -h) = false ∧ (h == 1) = false ∧ (h == -2) = true)
  small : sb = false ∨ (sb = true ∧ sv ≤ -2305843009213693951) ∨ (sb = true ∧ -2305843009213693951 < sv ∧ 2305843009213693951 ≤ sv) ∨ (sb = true ∧ -2305843009213693951 < sv ∧ sv < 2305843009213693951 ∧ (sv != -1) = false) ∨
    (sb = true ∧ -2305843009213693951 < sv ∧ sv < 2305843009213693951 ∧ (sv != -1) = true ∧ (h != sv) = false)

theorem whole_facts (neg : Bool) (zs : List U32) : WholeFacts (wholeV neg (vals zs)) (wholeV (!neg) (vals zs)) (smallF (negN neg (vals zs)) (vals (trimU zs))).1 (smallF (negN neg (vals zs)) (vals (trimU zs))).2 := by
  have v0 := val_nonneg zs
  have m0 : 0 ≤ val (vals zs) % mersenne := Int.emod_nonneg _ (by decide)
  have m1 : val (vals zs) % mersenne < mersenne := Int.emod_lt_of_pos _ (by decide)
  have hsm : ∀ s b, smallF (negN neg (vals zs)) (vals (trimU zs)) = (s, b) → b = true → s = (match neg with | true => -(val (vals zs)) | false => val (vals zs)) := by
    intro s b hs hb
    subst hb
    unfold smallF at hs
    rw [val_trimU] at hs
    split at hs
    · injection hs with _ h; cases h
    · have hz : negN neg (vals zs) = false → neg = true → val (vals zs) = 0 := by
        intro h1 h2
        subst h2
        have h3 : ¬ 0 < (trimN (vals zs)).length := by simpa [negN] using h1
        rw [← val_trimN, List.eq_nil_of_length_eq_zero (show (trimN (vals zs)).length = 0 by omega)]
        rfl
      have hp : negN neg (vals zs) = true → neg = true := by
        intro h1
        cases neg
        · simp [negN] at h1
        · rfl
      cases hb : negN neg (vals zs)
      · rw [hb] at hs
        simp only at hs
        split at hs
        · injection hs with _ h; cases h
        · injection hs with h _
          subst h
          cases neg
          · rfl
          · have := hz hb rfl
            simp only
            omega
      · rw [hb] at hs
        simp only at hs
        have := hp hb
        subst this
        split at hs
        · injection hs with _ h; cases h
        · injection hs with h _
          exact h.symm
  generalize hS : smallF (negN neg (vals zs)) (vals (trimU zs)) = S at *
  obtain ⟨s, b⟩ := S
  have hs := hsm s b rfl
  unfold wholeV
  rw [wholeV_eq _ _ m0 m1, wholeV_eq _ _ m0 m1]
  have hV : val (vals zs) < mersenne → val (vals zs) % mersenne = val (vals zs) := fun h => Int.emod_eq_of_lt v0 h
  unfold mersenne at *
  generalize val (vals zs) % 2305843009213693951 = V at *
  generalize val (vals zs) = v at *
  clear hsm hS
  cases neg
  · simp only [Bool.not_false] at *
    refine ⟨by omega, by omega, by simp; omega, ?_, ?_⟩
    · by_cases h1 : V = 1
      · right; left; simp [h1]
      · left; simp [h1]
    · cases b
      · exact .inl rfl
      · have := hs rfl
        subst this
        by_cases h2 : s < 2305843009213693951
        · have := hV h2
          right; right; right; right
          exact ⟨rfl, by omega, by omega, by rw [bne_iff_ne]; omega, by rw [bne_eq_false_iff_eq]; omega⟩
        · right; right; left
          exact ⟨rfl, by omega, by omega⟩
  · simp only [Bool.not_true] at *
    refine ⟨by split <;> omega, by split <;> omega, by split <;> simp <;> omega, ?_, ?_⟩
    · by_cases h1 : V = 1
      · right; right; simp [h1]
      · left; simp [h1]
    · cases b
      · exact .inl rfl
      · have := hs rfl
        subst this
        by_cases h2 : v < 2305843009213693951
        · have h3 := hV h2
          by_cases h4 : v = 1
          · right; right; right; left
            exact ⟨rfl, by omega, by omega, by rw [bne_eq_false_iff_eq]; omega⟩
          · right; right; right; right
            rw [if_neg (by omega)]
            exact ⟨rfl, by omega, by omega, by rw [bne_iff_ne]; omega, by rw [bne_eq_false_iff_eq]; omega⟩
        · right; left
          exact ⟨rfl, by omega⟩

theorem box_cells {w W : World} {neg : Bool} {A : Option Addr} {n c : Nat} {t : TypeId} (h : Below (w.alloc (.cells #[.bool neg, .slice A n c] t)).heap.size (w.alloc (.cells #[.bool neg, .slice A n c] t)) W) :
    W.cell? ⟨w.heap.size, 0, none⟩ = some (.bool neg) ∧ W.cell? ⟨w.heap.size, 1, none⟩ = some (.slice A n c) := by
  refine ⟨(h.cell (p := ⟨w.heap.size, 0, none⟩) (by simp)).trans (by simp), (h.cell (p := ⟨w.heap.size, 1, none⟩) (by simp)).trans (by simp)⟩

set_option maxHeartbeats 2000000 in
set_option maxRecDepth 100000 in
theorem lawWhole_any (neg : Bool) (A : Option Addr) (c : Nat) (zs : List U32) (w : World) (hr : RdI w .u32 A (vals zs)) (hl : zs.length ≤ c) (hm : c ≤ maxLen) :
    Calls Try.prog 3 #[.agg #[.bool neg, .slice A zs.length c]] w fun e w' => e = .returned (.bool true) ∧ Below w.heap.size w w' := by
  unfold maxLen at hm
  have hB : Below w.heap.size w (w.alloc (.cells #[.bool neg, .slice A zs.length c] 24)) := (Below.refl _ _).alloc (Nat.le_refl _) _
  by_cases h : zs.length ≤ 3000
  · have hf := whole_facts neg zs
    have HF := Lib.hid (fun W (hb : Below w.heap.size w W) => form_any neg A c (vals zs) W (hr.later hb) (by rw [vals_length]; exact hl) hm (by rw [vals_length]; omega))
    have HN := Lib.hid (fun W (hb : Below w.heap.size w W) => refNegate_any neg A c (vals zs) W (hr.later hb) (by rw [vals_length]; exact hl) hm (by rw [vals_length]; omega))
    have HS := Lib.hid (fun W (hb : Below w.heap.size w W) => refSmall_any neg A c zs W (hr.later hb) hl hm (by omega) (smallF (negN neg (vals zs)) (vals (trimU zs))).1 (smallF (negN neg (vals zs)) (vals (trimU zs))).2 rfl)
    have HW := Lib.hid (fun W (hb : Below w.heap.size w W) => whole_any neg A c zs W (hr.later hb) hl hm)
    have HR := Lib.hid (fun W (hb : Below w.heap.size w W) => refWhole_any neg A c zs W (hr.later hb) hl hm (by omega))
    have HV : ∀ (sg : Bool) W A' c', RdI W .u32 A' (vals (trimU zs)) → (trimU zs).length ≤ c' → c' ≤ 9223372036854775807 →
        Calls Try.prog 9 #[.agg #[.bool (negN sg (vals zs)), .slice A' (trimU zs).length c']] W fun e w' => e = .returned (.int .i64 (wholeV sg (vals zs))) ∧ Below W.heap.size W w' := by
      intro sg W A' c' h1 h2 h3
      have := whole_any (negN sg (vals zs)) A' c' (trimU zs) W h1 h2 h3
      rw [wholeV_sign] at this
      exact this
    rw [← vals_trimU, vals_length] at HF HN
    have HV1 := Lib.hid (HV neg)
    have HV2 := Lib.hid (HV (!neg))
    generalize wholeV neg (vals zs) = hh at *
    generalize wholeV (!neg) (vals zs) = nn at *
    generalize (smallF (negN neg (vals zs)) (vals (trimU zs))).1 = sv at *
    generalize (smallF (negN neg (vals zs)) (vals (trimU zs))).2 = sb at *
    generalize negN neg (vals zs) = b1 at *
    generalize negN (!neg) (vals zs) = b2 at *
    obtain ⟨ts, hts⟩ : ∃ ts, ts = trimU zs := ⟨_, rfl⟩
    rw [← hts] at HF HN HV1 HV2
    obtain ⟨lo, hi, e1, turn, small⟩ := hf
    have e2 : (hh == hh) = true := by simp
    clear HV hts
    clear hB
    have hB0 : Below w.heap.size w (w.alloc (.cells #[.bool neg, .slice A zs.length c] 24)) := (Below.refl _ _).alloc (Nat.le_refl _) _
    have hX : Below (w.alloc (.cells #[.bool neg, .slice A zs.length c] 24)).heap.size (w.alloc (.cells #[.bool neg, .slice A zs.length c] 24)) (w.alloc (.cells #[.bool neg, .slice A zs.length c] 24)) := Below.refl _ _
    go_enter Try.func3, Try.ntmps3
    go_wp2_with fail
    refine (HW.out _ hB0).mono ?_
    rintro e wa ⟨rfl, hb⟩
    replace hX := hX.trans (hb.mono hX.size)
    obtain ⟨k0, k1⟩ := box_cells hX
    have hB := hB0.trans (hX.mono hB0.size)
    clear hb
    go_wp2_with fail
    refine (HF.out _ hB).mono ?_
    rintro e wb ⟨Af, cf, he, lf1, lf2, frf, hb⟩
    rw [vals_length] at he lf1
    subst he
    replace hX := hX.trans (hb.mono hX.size)
    obtain ⟨k0, k1⟩ := box_cells hX
    have hB := hB0.trans (hX.mono hB0.size)
    clear hb
    go_wp2_with fail
    refine (HV1.out _ Af cf (frf.rd) lf1 lf2).mono ?_
    rintro e wc ⟨rfl, hb⟩
    replace hX := hX.trans (hb.mono hX.size)
    obtain ⟨k0, k1⟩ := box_cells hX
    have hB := hB0.trans (hX.mono hB0.size)
    clear hb
    go_wp2_with fail
    refine (HN.out _ hB).mono ?_
    rintro e wd ⟨An, cn, he, ln1, ln2, frn, hb⟩
    rw [vals_length] at he ln1
    subst he
    replace hX := hX.trans (hb.mono hX.size)
    obtain ⟨k0, k1⟩ := box_cells hX
    have hB := hB0.trans (hX.mono hB0.size)
    clear hb
    go_wp2_with fail
    refine (HV2.out _ An cn (frn.rd) ln1 ln2).mono ?_
    rintro e we ⟨rfl, hb⟩
    replace hX := hX.trans (hb.mono hX.size)
    obtain ⟨k0, k1⟩ := box_cells hX
    have hB := hB0.trans (hX.mono hB0.size)
    clear hb
    go_wp2_with fail
    refine (HS.out _ hB).mono ?_
    rintro e wf ⟨rfl, hb⟩
    replace hX := hX.trans (hb.mono hX.size)
    obtain ⟨k0, k1⟩ := box_cells hX
    have hB := hB0.trans (hX.mono hB0.size)
    clear hb
    clear HW HF HV1 HN HV2 HS
    rcases small with rfl | ⟨rfl, s1⟩ | ⟨rfl, s1, s2⟩ | ⟨rfl, s1, s2, s3⟩ | ⟨rfl, s1, s2, s3, s4⟩
    all_goals
      rcases turn with t1 | ⟨t1, t2, t3⟩ | ⟨t1, t2, t3⟩
      all_goals
        go_wp2_with fail
        refine (HR.out _ hB).mono ?_
        rintro e wg ⟨rfl, hb⟩
        go_wp2_with fail
        refine (awake_any _).mono ?_
        rintro e wh ⟨rfl, hb'⟩
        go_wp2
        go_ret
        have hBg := hB.trans (hb.mono hB.size)
        exact ⟨rfl, hBg.trans (hb'.mono hBg.size)⟩
  · go_enter Try.func3, Try.ntmps3
    go_wp2_with (go_at_call 8; refine (awake_any _).mono ?_; rintro e w1 ⟨rfl, hb1⟩)
    go_ret
    exact ⟨rfl, hB.trans (hb1.mono hB.size)⟩
end Go.Proofs.Yteldccmnbngbfaa
