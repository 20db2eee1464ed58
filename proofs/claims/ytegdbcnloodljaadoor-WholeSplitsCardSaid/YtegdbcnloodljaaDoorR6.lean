/- The reference's Add, Sub; kept and fits in one form (chapter 1). -/
import Derived.Test.YtegdbcnloodljaaDoorR5
import Derived.Deep.RegionHeld3
namespace Go.Proofs.YtegdbcnloodljaaDoor
set_option linter.unusedVariables false
set_option linter.unusedSimpArgs false
open Go.RowKit
set_option maxRecDepth 1000000

/-- refused, if it is too large. -/
def keepO (S : Int) : Option Int := if big S then none else some S
/-- an answer in blocks from base on. -/
def RetB (w : World) (base : Nat) (O : Option Int) (e : Ending) (w' : World) : Prop :=
  ∃ A c, e = .returned (.tuple #[.agg #[.bool (cb O), .slice A (cz O).length c], .int .i64 (ce O)]) ∧ CanAt w' base O A c ∧ Below w.heap.size w w'
theorem can_none (w : World) (base : Nat) : CanAt w base none none 0 := ⟨Nat.le_refl _, by omega, fun i hi => by simp [cz] at hi⟩
theorem CanAt.setCell {w : World} {base : Nat} {O : Option Int} {A : Option Addr} {c : Nat} (h : CanAt w base O A c) {p : Addr} (hp : p.block < base) (u : Value) : CanAt (w.setCell p u) base O A c := ⟨h.1, h.2.1, h.2.2.setCell hp u⟩
theorem cz_len {S : Int} (h : big S = false) : (cz (some S)).length ≤ 256 := by
  have h1 := nt_len (wds_w32 S.natAbs) (wds_nt S.natAbs) 256
  rw [val_wds] at h1
  rw [big, decide_eq_false_iff_not] at h
  unfold BIG at h
  rw [cz]
  omega
theorem fits_can {S : Int} {A : Option Addr} {c : Nat} {base : Nat} {w : World} (h : CanAt w base (some S) A c) :
    Calls Tryd.prog 48 #[.agg #[.bool (cb (some S)), .slice A (cz (some S)).length c]] w (RetB w base (keepO S)) := by
  refine (fits_int h.at).mono ?_
  rintro e w' ⟨rfl, hb⟩
  unfold keepO
  cases hS : big S
  · exact ⟨A, c, rfl, h.later hb, hb⟩
  · exact ⟨none, 0, rfl, can_none _ _, hb⟩
theorem kept_can {S : Int} {A : Option Addr} {c : Nat} {base : Nat} {w : World} (h : CanAt w base (some S) A c) (hm : (cz (some S)).length ≤ 1000000) :
    Calls Tryd.prog 65 #[.agg #[.bool (cb (some S)), .slice A (cz (some S)).length c]] w (RetB w base (keepO S)) := by
  have := refKept_ok (cb (some S)) A c (cz (some S)) w (cz_w32 _) h.2.2.rd h.1 h.2.1 hm
  rw [valI_c] at this
  refine this.mono ?_
  rintro e w' ⟨rfl, hb⟩
  unfold keepO
  cases hS : big S
  · exact ⟨A, c, rfl, h.later hb, hb⟩
  · exact ⟨none, 0, rfl, can_none _ _, hb⟩
theorem refForm_can (neg : Bool) (A : Option Addr) (c : Nat) (zs : List Int) (w : World) (hW : W32 zs) (hr : RdI w .u32 A zs) (hl : zs.length ≤ c) (hc : c ≤ 9223372036854775807) (hm : zs.length ≤ 1000000) :
    Calls Tryd.prog 37 #[.agg #[.bool neg, .slice A zs.length c]] w fun e w' => ∃ A c, e = .returned (.agg #[.bool (cb (some (valI neg zs))), .slice A (cz (some (valI neg zs))).length c]) ∧ CanAt w' w.heap.size (some (valI neg zs)) A c ∧ Below w.heap.size w w' :=
  (refForm_int neg A c zs w hW hr hl hc hm).mono fun e w' h => retI_can h
theorem refSum_can {X Y : Int} {A B : Option Addr} {c d : Nat} {base base' : Nat} {w : World} (h : CanAt w base (some X) A c) (h' : CanAt w base' (some Y) B d) (hm : (cz (some X)).length ≤ 400000) (hm2 : (cz (some Y)).length ≤ 400000) :
    Calls Tryd.prog 66 #[.agg #[.bool (cb (some X)), .slice A (cz (some X)).length c], .agg #[.bool (cb (some Y)), .slice B (cz (some Y)).length d]] w fun e w' => ∃ A c, e = .returned (.agg #[.bool (cb (some (X + Y))), .slice A (cz (some (X + Y))).length c]) ∧ CanAt w' w.heap.size (some (X + Y)) A c ∧ Below w.heap.size w w' := by
  have := refSum_ok (cb (some X)) (cb (some Y)) A B c d (cz (some X)) (cz (some Y)) w (cz_w32 _) (cz_w32 _) (cz_nt _) (cz_nt _) h.2.2.rd h'.2.2.rd h.1 h.2.1 h'.1 h'.2.1 hm hm2
  rw [valI_c, valI_c] at this
  exact this.mono fun e w' h => retI_can h
/-- the length of a sum's row. -/
theorem cz_len2 {S : Int} {n : Nat} (h : (S.natAbs : Int) < 4294967296 ^ n) : (cz (some S)).length ≤ n := by
  have h1 := nt_len (wds_w32 S.natAbs) (wds_nt S.natAbs) n
  rw [val_wds] at h1
  rw [cz]
  omega
theorem small_sum {X Y : Int} (h1 : big X = false) (h2 : big Y = false) : (cz (some (X + Y))).length ≤ 257 := by
  refine cz_len2 ?_
  rw [big, decide_eq_false_iff_not] at h1 h2
  unfold BIG at h1 h2
  rw [Int.pow_succ]
  omega
theorem small_prod {X Y : Int} (h1 : big X = false) (h2 : big Y = false) : (cz (some (X * Y))).length ≤ 512 := by
  refine cz_len2 ?_
  rw [big, decide_eq_false_iff_not] at h1 h2
  unfold BIG at h1 h2
  rw [show (512 : Nat) = 256 + 256 from rfl, Int.pow_add, Int.natAbs_mul, Int.natCast_mul]
  have p := pow_pos 256
  generalize (4294967296 : Int) ^ 256 = P at *
  have a : (X.natAbs : Int) * (Y.natAbs : Int) ≤ (P - 1) * (P - 1) := Int.mul_le_mul (by omega) (by omega) (by omega) (by omega)
  have : (P - 1) * (P - 1) = P * P - 2 * P + 1 := by grind
  rw [this] at a
  generalize (X.natAbs : Int) * (Y.natAbs : Int) = Q at *
  generalize P * P = R at *
  omega

set_option maxHeartbeats 4000000 in
theorem refAdd_ok (b1 b2 : Bool) (A B : Option Addr) (c d : Nat) (xs ys : List Int) (w : World) (hX : W32 xs) (hY : W32 ys) (hr : RdI w .u32 A xs) (hs : RdI w .u32 B ys) (hl : xs.length ≤ c) (hc : c ≤ 9223372036854775807) (hl2 : ys.length ≤ d) (hd : d ≤ 9223372036854775807) (hm : xs.length ≤ 400000) (hm2 : ys.length ≤ 400000) :
    Calls Tryd.prog 23 #[.agg #[.bool b1, .slice A xs.length c], .agg #[.bool b2, .slice B ys.length d]] w (RetO w (addO (valI b1 xs) (valI b2 ys))) := by
  have hw0 : Below w.heap.size w (((w.alloc (.cells #[.bool b1, .slice A xs.length c] 24)).alloc (.cells #[.bool b2, .slice B ys.length d] 24)).alloc (.cells #[.bool false, .slice none 0 0] 24)) := (((Below.refl _ _).alloc (Nat.le_refl _) _).alloc (by simp) _).alloc (by simp; omega) _
  have hz0 : Below (w.heap.size + 3) (((w.alloc (.cells #[.bool b1, .slice A xs.length c] 24)).alloc (.cells #[.bool b2, .slice B ys.length d] 24)).alloc (.cells #[.bool false, .slice none 0 0] 24)) (((w.alloc (.cells #[.bool b1, .slice A xs.length c] 24)).alloc (.cells #[.bool b2, .slice B ys.length d] 24)).alloc (.cells #[.bool false, .slice none 0 0] 24)) := Below.refl _ _
  have hL1 := fun W (hb : Below w.heap.size w W) => refLong_ok b1 A c xs W hX (hr.later hb) hl hc (by omega)
  have hL2 := fun W (hb : Below w.heap.size w W) => refLong_ok b2 B d ys W hY (hs.later hb) hl2 hd (by omega)
  have hF1 := fun W (hb : Below w.heap.size w W) => refForm_can b1 A c xs W hX (hr.later hb) hl hc (by omega)
  have hF2 := fun W (hb : Below w.heap.size w W) => refForm_can b2 B d ys W hY (hs.later hb) hl2 hd (by omega)
  generalize valI b1 xs = X at *
  generalize valI b2 ys = Y at *
  cases h1 : big X with
  | true =>
    rw [addO, h1, Bool.true_or, Bool.true_or, if_pos rfl]
    rw [h1] at hL1
    go_enter Tryd.func23, Tryd.ntmps23
    go_wp2_with fail
    go_at_call 64
    refine (hL1 _ hw0).mono ?_
    rintro e w1 ⟨rfl, hb1⟩
    have hz1 := hz0.trans (hb1.mono (by simp))
    have hB1 := hw0.trans (hb1.mono hw0.size)
    obtain ⟨k1, k2, k3, k4, k5, k6, k7, k8, k9⟩ := boxes3 w _ _ _ _ w1 hz1
    go_wp2
    exact bodyPost_ret (v := none3) (by simp [results, none3, Tryd.results23, go_sem, k5, k6, k9]) rfl ⟨none, 0, rfl, can_none _ _, (hB1.setCell (p := ⟨w.heap.size + 1 + 1, 0, none⟩) (by simp; omega) _).setCell (p := ⟨w.heap.size + 1 + 1, 1, none⟩) (by simp; omega) _⟩
  | false =>
    rw [h1] at hL1
    cases h2 : big Y with
    | true =>
      rw [addO, h1, h2, Bool.false_or, Bool.true_or, if_pos rfl]
      rw [h2] at hL2
      go_enter Tryd.func23, Tryd.ntmps23
      go_wp2_with fail
      go_at_call 64
      refine (hL1 _ hw0).mono ?_
      rintro e w1 ⟨rfl, hb1⟩
      have hz1 := hz0.trans (hb1.mono (by simp))
      have hB1 := hw0.trans (hb1.mono hw0.size)
      obtain ⟨k1, k2, k3, k4, k5, k6, k7, k8, k9⟩ := boxes3 w _ _ _ _ w1 hz1
      go_wp2_with fail
      go_at_call 64
      refine (hL2 _ hB1).mono ?_
      rintro e w2 ⟨rfl, hb2⟩
      have hz2 := hz1.trans (hb2.mono k9)
      have hB2 := hB1.trans (hb2.mono hB1.size)
      clear k1 k2 k3 k4 k5 k6 k7 k8 k9
      obtain ⟨k1, k2, k3, k4, k5, k6, k7, k8, k9⟩ := boxes3 w _ _ _ _ w2 hz2
      go_wp2
      exact bodyPost_ret (v := none3) (by simp [results, none3, Tryd.results23, go_sem, k5, k6, k9]) rfl ⟨none, 0, rfl, can_none _ _, (hB2.setCell (p := ⟨w.heap.size + 1 + 1, 0, none⟩) (by simp; omega) _).setCell (p := ⟨w.heap.size + 1 + 1, 1, none⟩) (by simp; omega) _⟩
    | false =>
      rw [h2] at hL2
      have l1 := cz_len h1
      have l2 := cz_len h2
      have l3 := small_sum h1 h2
      have hO : addO X Y = keepO (X + Y) := by rw [addO, h1, h2, Bool.false_or, Bool.false_or]; rfl
      have HKp := Lib.hid (fun (A : Option Addr) (cc base : Nat) (W : World) (h : CanAt W base (some (X + Y)) A cc) => kept_can h (by omega))
      rw [hO]
      clear hO h1 h2
      generalize keepO (X + Y) = O at *
      go_enter Tryd.func23, Tryd.ntmps23
      go_wp2_with fail
      go_at_call 64
      refine (hL1 _ hw0).mono ?_
      rintro e w1 ⟨rfl, hb1⟩
      have hz1 := hz0.trans (hb1.mono (by simp))
      have hB1 := hw0.trans (hb1.mono hw0.size)
      obtain ⟨k1, k2, k3, k4, k5, k6, k7, k8, k9⟩ := boxes3 w _ _ _ _ w1 hz1
      go_wp2_with fail
      go_at_call 64
      refine (hL2 _ hB1).mono ?_
      rintro e w2 ⟨rfl, hb2⟩
      have hz2 := hz1.trans (hb2.mono k9)
      have hB2 := hB1.trans (hb2.mono hB1.size)
      clear k1 k2 k3 k4 k5 k6 k7 k8 k9
      obtain ⟨k1, k2, k3, k4, k5, k6, k7, k8, k9⟩ := boxes3 w _ _ _ _ w2 hz2
      go_wp2_with fail
      go_region_held3 (fun W => W.cell? ⟨w.heap.size, 0, none⟩ = some (.bool b1) ∧ W.cell? ⟨w.heap.size, 1, none⟩ = some (.slice A xs.length c) ∧ W.cell? ⟨w.heap.size + 1, 0, none⟩ = some (.bool b2) ∧ W.cell? ⟨w.heap.size + 1, 1, none⟩ = some (.slice B ys.length d) ∧ w.heap.size + 3 ≤ W.heap.size) (first | exact ⟨k1, k2, k3, k4, k9⟩ | exact ⟨j1, j2, j3, j4, j9⟩ | exact ⟨i1, i2, i3, i4, i9⟩ | exact ⟨n1, n2, n3, n4, n9⟩ | exact ⟨g1, g2, g3, g4, g9⟩ | exact ⟨cell_off (cell_off g1 (by simp <;> omega)) (by simp <;> omega), cell_off (cell_off g2 (by simp <;> omega)) (by simp <;> omega), cell_off (cell_off g3 (by simp <;> omega)) (by simp <;> omega), cell_off (cell_off g4 (by simp <;> omega)) (by simp <;> omega), by simp <;> omega⟩ | go_keep) (first
        | (go_at_call 37; first
          | (refine (hF2 _ hB3).mono ?_; rintro e w4 ⟨A4, c4, rfl, hc4, b4⟩; have hc3 := hc3.later b4; have hz4 := hz3.trans (b4.mono j9); have hB4 := hB3.trans (b4.mono hB3.size); obtain ⟨i1, i2, i3, i4, i5, i6, i7, i8, i9⟩ := boxes3 w _ _ _ _ w4 hz4)
          | (refine (hF1 _ (by first | exact hB2 | exact below_drew hB2)).mono ?_; rintro e w3 ⟨A3, c3, rfl, hc3, b3⟩; have hz3 : Below (w.heap.size + 3) _ w3 := (by first | exact hz2.trans (b3.mono k9) | exact (below_drew hz2).trans (b3.mono k9)); have hB3 : Below w.heap.size w w3 := (by first | exact hB2.trans (b3.mono hB2.size) | exact (below_drew hB2).trans (b3.mono hB2.size)); obtain ⟨j1, j2, j3, j4, j5, j6, j7, j8, j9⟩ := boxes3 w _ _ _ _ w3 hz3))
        | (go_at_call 66; refine (refSum_can hc3 hc4 (by omega) (by omega)).mono ?_; rintro e w5 ⟨A5, c5, rfl, hc5, b5⟩; have hz5 := hz4.trans (b5.mono i9); have hB5 := hB4.trans (b5.mono hB4.size); have hc5 := hc5.mono (show w.heap.size + 3 ≤ _ from i9); obtain ⟨n1, n2, n3, n4, n5, n6, n7, n8, n9⟩ := boxes3 w _ _ _ _ w5 hz5)
        | (go_at_call 65; refine (HKp.out _ _ _ _ hc5).mono ?_; rintro e w6 ⟨A6, c6, rfl, hc6, b6⟩; have hz6 := hz5.trans (b6.mono n9); have hB6 := hB5.trans (b6.mono hB5.size); obtain ⟨g1, g2, g3, g4, g5, g6, g7, g8, g9⟩ := boxes3 w _ _ _ _ w6 hz6))
      all_goals
        go_wp2
        exact bodyPost_ret (v := .tuple #[.agg #[.bool (cb O), .slice A6 (cz O).length c6], .int .i64 (ce O)]) (by simp [results, Tryd.results23, go_sem, g5, g6, g7, g8, g9]) rfl ⟨_, _, rfl, ((hc6.setCell (p := ⟨w.heap.size + 1 + 1, 0, none⟩) (by simp <;> omega) _).setCell (p := ⟨w.heap.size + 1 + 1, 1, none⟩) (by simp <;> omega) _).mono (by omega), (hB6.setCell (p := ⟨w.heap.size + 1 + 1, 0, none⟩) (by simp <;> omega) _).setCell (p := ⟨w.heap.size + 1 + 1, 1, none⟩) (by simp <;> omega) _⟩
end Go.Proofs.YtegdbcnloodljaaDoor
