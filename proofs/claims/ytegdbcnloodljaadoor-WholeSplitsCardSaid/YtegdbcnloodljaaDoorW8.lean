/- whole.Add. -/
import Derived.Test.YtegdbcnloodljaaDoorW7
import Derived.BigQuiet
import Derived.Deep.QuietTactic
import Derived.Deep.RegionHeld3
namespace Go.Proofs.YtegdbcnloodljaaDoor
set_option linter.unusedVariables false
set_option linter.unusedSimpArgs false
open Go.RowKit
set_option maxRecDepth 1000000

/-- the size of a number. -/
def big (X : Int) : Bool := decide (BIG ≤ (X.natAbs : Int))
theorem big_valI {b : Bool} {zs : List Int} (h : W32 zs) : big (valI b zs) = decide (BIG ≤ val zs) := by rw [big, valI_abs h]
/-- what a sum hands back: refused, or an Int in new memory. -/
def RetSum (w : World) (O : Option Int) (e : Ending) (w' : World) : Prop :=
  (match O with
    | none => e = .returned none3
    | some S => ∃ v, e = .returned (.tuple #[v, .int .i64 0]) ∧ IntAt w' w.heap.size S v) ∧ Below w.heap.size w w'
/-- a sum, if nothing is too large. -/
def addO (X Y : Int) : Option Int := if big X || big Y || big (X + Y) then none else some (X + Y)

/-- the blocks of two Ints and of one that is to be answered, in a later world. -/
theorem boxes3 (w : World) (a0 a1 b0 b1 : Value) (W : World) (h : Below (w.heap.size + 3) (((w.alloc (.cells #[a0, a1] 24)).alloc (.cells #[b0, b1] 24)).alloc (.cells #[.bool false, .slice none 0 0] 24)) W) :
    W.cell? ⟨w.heap.size, 0, none⟩ = some a0 ∧ W.cell? ⟨w.heap.size, 1, none⟩ = some a1 ∧ W.cell? ⟨w.heap.size + 1, 0, none⟩ = some b0 ∧ W.cell? ⟨w.heap.size + 1, 1, none⟩ = some b1 ∧
    W.cell? ⟨w.heap.size + 1 + 1, 0, none⟩ = some (.bool false) ∧ W.cell? ⟨w.heap.size + 1 + 1, 1, none⟩ = some (.slice none 0 0) ∧ W.frozen? ⟨w.heap.size + 1 + 1, 0, none⟩ = false ∧ W.frozen? ⟨w.heap.size + 1 + 1, 1, none⟩ = false ∧ w.heap.size + 3 ≤ W.heap.size := by
  refine ⟨(h.cell (p := ⟨w.heap.size, 0, none⟩) (by simp)).trans (by simp [go_sem]), (h.cell (p := ⟨w.heap.size, 1, none⟩) (by simp)).trans (by simp [go_sem]), (h.cell (p := ⟨w.heap.size + 1, 0, none⟩) (by simp)).trans (by simp [go_sem]), (h.cell (p := ⟨w.heap.size + 1, 1, none⟩) (by simp)).trans (by simp [go_sem]),
    (h.cell (p := ⟨w.heap.size + 1 + 1, 0, none⟩) (by simp)).trans (by simp [go_sem]), (h.cell (p := ⟨w.heap.size + 1 + 1, 1, none⟩) (by simp)).trans (by simp [go_sem]), (h.frozen (p := ⟨w.heap.size + 1 + 1, 0, none⟩) (by simp)).trans (by simp [go_sem]), (h.frozen (p := ⟨w.heap.size + 1 + 1, 1, none⟩) (by simp)).trans (by simp [go_sem]), ?_⟩
  have := h.size
  simp at this
  omega

theorem form_int (neg : Bool) (A : Option Addr) (c : Nat) (zs : List Int) (base : Nat) (w : World) (hW : W32 zs) (hf : FrI w base .u32 A zs) (hl : zs.length ≤ c) (hc : c ≤ 9223372036854775807) (S : Int) (hS : valI neg zs = S) :
    Calls Tryd.prog 46 #[.bool neg, .slice A zs.length c] w fun e w' => ∃ b' A' n' c', e = .returned (.agg #[.bool b', .slice A' n' c']) ∧ IntAt w' base S (.agg #[.bool b', .slice A' n' c']) ∧ Below w.heap.size w w' := by
  subst hS
  refine (wform_ok neg A c zs w hf.rd hl hc).mono ?_
  rintro e w' ⟨rfl, hb⟩
  have h := intV_at (neg := neg) hW hl hc (hf.later hb)
  obtain ⟨b', A', c', zs', hv, rest⟩ := h
  rw [hv]
  exact ⟨b', A', zs'.length, c', rfl, ⟨b', A', c', zs', rfl, rest⟩, hb⟩
theorem fits_int {S : Int} {v : Value} {base : Nat} {w : World} (h : IntAt w base S v) :
    Calls Tryd.prog 48 #[v] w fun e w' => e = .returned (if big S then none3 else .tuple #[v, .int .i64 0]) ∧ Below w.heap.size w w' := by
  obtain ⟨b, A, c, zs, rfl, h2, h3, h4, h5, h6, h7, h8⟩ := h
  have := wfits_ok b A c zs w h5 h4.rd h2 h3
  rw [← h7, big_valI h5]
  by_cases hb : BIG ≤ val zs
  · rw [if_pos hb] at this; rw [decide_eq_true hb]; exact this
  · rw [if_neg hb] at this; rw [decide_eq_false hb]; exact this

theorem fits_big {S : Int} {v : Value} {base : Nat} {w : World} (h : IntAt w base S v) (hb : big S = true) :
    Calls Tryd.prog 48 #[v] w fun e w' => e = .returned (.tuple #[.agg #[.bool false, .slice none 0 0], .int .i64 3]) ∧ Below w.heap.size w w' := by
  have := fits_int h
  rw [hb, if_pos rfl] at this
  exact this
theorem fits_small {S : Int} {v : Value} {base : Nat} {w : World} (h : IntAt w base S v) (hb : big S = false) :
    Calls Tryd.prog 48 #[v] w fun e w' => e = .returned (.tuple #[v, .int .i64 0]) ∧ Below w.heap.size w w' := by
  have := fits_int h
  rw [hb, if_neg (by decide)] at this
  exact this

theorem IntAt.setCell {S : Int} {v : Value} {base : Nat} {w : World} (h : IntAt w base S v) {p : Addr} (hp : p.block < base) (u : Value) : IntAt (w.setCell p u) base S v := by
  obtain ⟨b, A, c, zs, h1, h2, h3, h4, h5⟩ := h
  exact ⟨b, A, c, zs, h1, h2, h3, h4.setCell hp u, h5⟩

set_option maxHeartbeats 8000000 in
theorem wAdd_ok (b1 b2 : Bool) (A B : Option Addr) (c d : Nat) (xs ys : List Int) (w : World) (hX : W32 xs) (hY : W32 ys) (hr : RdI w .u32 A xs) (hs : RdI w .u32 B ys) (hl : xs.length ≤ c) (hc : c ≤ 9223372036854775807) (hl2 : ys.length ≤ d) (hd : d ≤ 9223372036854775807) :
    Calls Tryd.prog 22 #[.agg #[.bool b1, .slice A xs.length c], .agg #[.bool b2, .slice B ys.length d]] w (RetSum w (addO (valI b1 xs) (valI b2 ys))) := by
  have hL1 : ∀ W, Below w.heap.size w W → Calls Tryd.prog 61 #[.agg #[.bool b1, .slice A xs.length c]] W fun e w' => e = .returned (.bool (big (valI b1 xs))) ∧ Below W.heap.size W w' := fun W hb => by
    have := wlong_ok b1 A c xs W (hr.later hb) hl hc
    rw [big_valI hX, ← show decide (256 < (trimN xs).length) = decide (BIG ≤ val xs) from by rw [Bool.eq_iff_iff]; simp only [decide_eq_true_eq]; exact long_iff hX]
    exact this
  have hL2 : ∀ W, Below w.heap.size w W → Calls Tryd.prog 61 #[.agg #[.bool b2, .slice B ys.length d]] W fun e w' => e = .returned (.bool (big (valI b2 ys))) ∧ Below W.heap.size W w' := fun W hb => by
    have := wlong_ok b2 B d ys W (hs.later hb) hl2 hd
    rw [big_valI hY, ← show decide (256 < (trimN ys).length) = decide (BIG ≤ val ys) from by rw [Bool.eq_iff_iff]; simp only [decide_eq_true_eq]; exact long_iff hY]
    exact this
  have hw0 : Below w.heap.size w (((w.alloc (.cells #[.bool b1, .slice A xs.length c] 24)).alloc (.cells #[.bool b2, .slice B ys.length d] 24)).alloc (.cells #[.bool false, .slice none 0 0] 24)) := (((Below.refl _ _).alloc (Nat.le_refl _) _).alloc (by simp) _).alloc (by simp; omega) _
  have hz0 : Below (w.heap.size + 3) (((w.alloc (.cells #[.bool b1, .slice A xs.length c] 24)).alloc (.cells #[.bool b2, .slice B ys.length d] 24)).alloc (.cells #[.bool false, .slice none 0 0] 24)) (((w.alloc (.cells #[.bool b1, .slice A xs.length c] 24)).alloc (.cells #[.bool b2, .slice B ys.length d] 24)).alloc (.cells #[.bool false, .slice none 0 0] 24)) := Below.refl _ _
  cases h1 : big (valI b1 xs) with
  | true =>
    rw [addO, h1, Bool.true_or, Bool.true_or, if_pos rfl]
    rw [h1] at hL1
    go_enter Tryd.func22, Tryd.ntmps22
    go_wp2_with fail
    go_at_call 61
    refine (hL1 _ hw0).mono ?_
    rintro e w1 ⟨rfl, hb1⟩
    have hz1 := hz0.trans (hb1.mono (by simp))
    have hB1 := hw0.trans (hb1.mono hw0.size)
    obtain ⟨k1, k2, k3, k4, k5, k6, k7, k8, k9⟩ := boxes3 w _ _ _ _ w1 hz1
    go_wp2
    exact bodyPost_ret (v := none3) (by simp [results, none3, Tryd.results22, go_sem, k5, k6, k9]) rfl ⟨rfl, (hB1.setCell (p := ⟨w.heap.size + 1 + 1, 0, none⟩) (by simp; omega) _).setCell (p := ⟨w.heap.size + 1 + 1, 1, none⟩) (by simp; omega) _⟩
  | false =>
    rw [h1] at hL1
    cases h2 : big (valI b2 ys) with
    | true =>
      rw [addO, h1, h2, Bool.false_or, Bool.true_or, if_pos rfl]
      rw [h2] at hL2
      go_enter Tryd.func22, Tryd.ntmps22
      go_wp2_with fail
      go_at_call 61
      refine (hL1 _ hw0).mono ?_
      rintro e w1 ⟨rfl, hb1⟩
      have hz1 := hz0.trans (hb1.mono (by simp))
      have hB1 := hw0.trans (hb1.mono hw0.size)
      obtain ⟨k1, k2, k3, k4, k5, k6, k7, k8, k9⟩ := boxes3 w _ _ _ _ w1 hz1
      go_wp2_with fail
      go_at_call 61
      refine (hL2 _ hB1).mono ?_
      rintro e w2 ⟨rfl, hb2⟩
      have hz2 := hz1.trans (hb2.mono k9)
      have hB2 := hB1.trans (hb2.mono hB1.size)
      clear k1 k2 k3 k4 k5 k6 k7 k8 k9
      obtain ⟨k1, k2, k3, k4, k5, k6, k7, k8, k9⟩ := boxes3 w _ _ _ _ w2 hz2
      go_wp2
      exact bodyPost_ret (v := none3) (by simp [results, none3, Tryd.results22, go_sem, k5, k6, k9]) rfl ⟨rfl, (hB2.setCell (p := ⟨w.heap.size + 1 + 1, 0, none⟩) (by simp; omega) _).setCell (p := ⟨w.heap.size + 1 + 1, 1, none⟩) (by simp; omega) _⟩
    | false =>
      rw [h2] at hL2
      have s1 : (trimN xs).length ≤ 256 := by
        have := h1; rw [big_valI hX, decide_eq_false_iff_not, ← long_iff hX] at this; omega
      have s2 : (trimN ys).length ≤ 256 := by
        have := h2; rw [big_valI hY, decide_eq_false_iff_not, ← long_iff hY] at this; omega
      have e1 : valI b1 xs = valI b1 (trimN xs) := by rw [valI, valI, val_trimN]
      have e2 : valI b2 ys = valI b2 (trimN ys) := by rw [valI, valI, val_trimN]
      rw [addO, h1, h2, Bool.false_or, Bool.false_or, e1, e2]
      have hX2 := trimN_w32 hX
      have hY2 := trimN_w32 hY
      have nX := trimN_nt xs
      have nY := trimN_nt ys
      have rX : RdI w .u32 A (trimN xs) := hr.take _
      have rY : RdI w .u32 B (trimN ys) := hs.take _
      have lX := trimN_le xs
      have lY := trimN_le ys
      have hT1 : ∀ W, Below w.heap.size w W → Calls Tryd.prog 54 #[.slice A xs.length c] W fun e w' => e = .returned (.slice A (trimN xs).length c) ∧ w' = W := fun W hb => (trim_any A c xs W (hr.later hb) hl hc).mono fun e w' h => ⟨h.1, h.2.symm⟩
      have hT2 : ∀ W, Below w.heap.size w W → Calls Tryd.prog 54 #[.slice B ys.length d] W fun e w' => e = .returned (.slice B (trimN ys).length d) ∧ w' = W := fun W hb => (trim_any B d ys W (hs.later hb) hl2 hd).mono fun e w' h => ⟨h.1, h.2.symm⟩
      generalize trimN xs = ps at *
      generalize trimN ys = qs at *
      clear e1 e2 h1 h2
      by_cases hbb : b1 = b2
      · subst hbb
        have hS : ∀ zs, val zs = val ps + val qs → valI b1 zs = valI b1 ps + valI b1 qs := by
          intro zs hz
          unfold valI
          cases b1 <;> simp only [Bool.false_eq_true, if_false, if_true] <;> omega
        obtain ⟨S, hSe⟩ : ∃ S, valI b1 ps + valI b1 qs = S := ⟨_, rfl⟩
        rw [hSe] at hS ⊢
        have x1 : (b1 == b1) = true := by simp
        clear hSe
        cases h3 : big S with
        | true =>
          rw [if_pos rfl]
          go_enter Tryd.func22, Tryd.ntmps22
          go_wp2_with fail
          go_at_call 61
          refine (hL1 _ hw0).mono ?_
          rintro e w1 ⟨rfl, hb1⟩
          have hz1 := hz0.trans (hb1.mono (by simp))
          have hB1 := hw0.trans (hb1.mono hw0.size)
          obtain ⟨k1, k2, k3, k4, k5, k6, k7, k8, k9⟩ := boxes3 w _ _ _ _ w1 hz1
          go_wp2_with fail
          go_at_call 61
          refine (hL2 _ hB1).mono ?_
          rintro e w2 ⟨rfl, hb2⟩
          have hz2 := hz1.trans (hb2.mono k9)
          have hB2 := hB1.trans (hb2.mono hB1.size)
          clear k1 k2 k3 k4 k5 k6 k7 k8 k9
          obtain ⟨k1, k2, k3, k4, k5, k6, k7, k8, k9⟩ := boxes3 w _ _ _ _ w2 hz2
          have hT1 := fun m => hT1 (w2.drewN m) (hB2.trans ⟨rfl, rfl, rfl, Nat.le_refl _, fun _ _ => rfl⟩)
          have hT2 := fun m => hT2 (w2.drewN m) (hB2.trans ⟨rfl, rfl, rfl, Nat.le_refl _, fun _ _ => rfl⟩)
          go_wp2_with fail
          go_quiet (first | (go_at_call 54; first | (with_reducible refine Calls.quiet_of_same (hT1 _)) | (with_reducible refine Calls.quiet_of_same (hT2 _))))
          have hBq : Below w.heap.size w (w2.drewN nq) := hB2.trans ⟨rfl, rfl, rfl, Nat.le_refl _, fun _ _ => rfl⟩
          have hzq : Below (w.heap.size + 3) _ (w2.drewN nq) := hz2.trans ⟨rfl, rfl, rfl, Nat.le_refl _, fun _ _ => rfl⟩
          clear hL1 hL2 hT1 hT2 hb1 hb2 hz1 hB1 k1 k2 k3 k4 k5 k6 k7 k8 k9
          obtain ⟨k1, k2, k3, k4, k5, k6, k7, k8, k9⟩ := boxes3 w _ _ _ _ (w2.drewN nq) hzq
          generalize w2.drewN nq = W at *
          go_wp2_with fail
          go_region_held3 (fun W => W.cell? ⟨w.heap.size, 0, none⟩ = some (.bool b1) ∧ W.cell? ⟨w.heap.size, 1, none⟩ = some (.slice A xs.length c) ∧ W.cell? ⟨w.heap.size + 1, 0, none⟩ = some (.bool b1) ∧ W.cell? ⟨w.heap.size + 1, 1, none⟩ = some (.slice B ys.length d) ∧ w.heap.size + 3 ≤ W.heap.size) (first | exact ⟨k1, k2, k3, k4, k9⟩ | exact ⟨j1, j2, j3, j4, j9⟩ | exact ⟨i1, i2, i3, i4, i9⟩ | exact ⟨g1, g2, g3, g4, g9⟩ | exact ⟨cell_off (cell_off g1 (by simp <;> omega)) (by simp <;> omega), cell_off (cell_off g2 (by simp <;> omega)) (by simp <;> omega), cell_off (cell_off g3 (by simp <;> omega)) (by simp <;> omega), cell_off (cell_off g4 (by simp <;> omega)) (by simp <;> omega), by simp <;> omega⟩ | go_keep) (first
            | (go_at_call 62; refine (wadd_ok A B c d ps qs _ hX2 hY2 (rX.later (by first | exact hBq | exact below_drew hBq)) (rY.later (by first | exact hBq | exact below_drew hBq)) (by omega) hc (by omega) hd (by omega) (by omega)).mono ?_; rintro e w3 ⟨zs, q1, q2, q3, A3, c3, rfl, l3, m3, f3, b3⟩; have hz3 : Below (w.heap.size + 3) _ w3 := (by first | exact hzq.trans (b3.mono k9) | exact (below_drew hzq).trans (b3.mono k9)); have hB3 : Below w.heap.size w w3 := (by first | exact hBq.trans (b3.mono hBq.size) | exact (below_drew hBq).trans (b3.mono hBq.size)); have f3 := f3.mono (show w.heap.size + 3 ≤ _ from k9); obtain ⟨j1, j2, j3, j4, j5, j6, j7, j8, j9⟩ := boxes3 w _ _ _ _ w3 hz3)
            | (go_at_call 46; refine (form_int b1 A3 c3 zs (w.heap.size + 3) _ q1 (f3.later (by first | exact Below.refl _ _ | exact below_drew (Below.refl _ _))) l3 m3 S (hS zs q2)).mono ?_; rintro e w4 ⟨b', A', n', c', rfl, hv, b4⟩; have hz4 : Below (w.heap.size + 3) _ w4 := (by first | exact hz3.trans (b4.mono j9) | exact (below_drew hz3).trans (b4.mono j9)); have hB4 : Below w.heap.size w w4 := (by first | exact hB3.trans (b4.mono hB3.size) | exact (below_drew hB3).trans (b4.mono hB3.size)); obtain ⟨i1, i2, i3, i4, i5, i6, i7, i8, i9⟩ := boxes3 w _ _ _ _ w4 hz4)
            | (go_at_call 48; refine (fits_big (hv.later (by first | exact Below.refl _ _ | exact below_drew (Below.refl _ _))) h3).mono ?_; rintro e w5 ⟨rfl, b5⟩; have hz5 : Below (w.heap.size + 3) _ w5 := (by first | exact hz4.trans (b5.mono i9) | exact (below_drew hz4).trans (b5.mono i9)); have hB5 : Below w.heap.size w w5 := (by first | exact hB4.trans (b5.mono hB4.size) | exact (below_drew hB4).trans (b5.mono hB4.size)); have hv5 := hv.later (show Below _ _ w5 by first | exact b5 | exact (below_drew (Below.refl _ _)).trans b5); obtain ⟨g1, g2, g3, g4, g5, g6, g7, g8, g9⟩ := boxes3 w _ _ _ _ w5 hz5))
          all_goals
            go_wp2
            exact bodyPost_ret (v := none3) (by simp [none3, results, Tryd.results22, go_sem, g5, g6, g7, g8, g9]) rfl ⟨rfl, (hB5.setCell (p := ⟨w.heap.size + 1 + 1, 0, none⟩) (by simp <;> omega) _).setCell (p := ⟨w.heap.size + 1 + 1, 1, none⟩) (by simp <;> omega) _⟩
        | false =>
          rw [if_neg (by decide)]
          go_enter Tryd.func22, Tryd.ntmps22
          go_wp2_with fail
          go_at_call 61
          refine (hL1 _ hw0).mono ?_
          rintro e w1 ⟨rfl, hb1⟩
          have hz1 := hz0.trans (hb1.mono (by simp))
          have hB1 := hw0.trans (hb1.mono hw0.size)
          obtain ⟨k1, k2, k3, k4, k5, k6, k7, k8, k9⟩ := boxes3 w _ _ _ _ w1 hz1
          go_wp2_with fail
          go_at_call 61
          refine (hL2 _ hB1).mono ?_
          rintro e w2 ⟨rfl, hb2⟩
          have hz2 := hz1.trans (hb2.mono k9)
          have hB2 := hB1.trans (hb2.mono hB1.size)
          clear k1 k2 k3 k4 k5 k6 k7 k8 k9
          obtain ⟨k1, k2, k3, k4, k5, k6, k7, k8, k9⟩ := boxes3 w _ _ _ _ w2 hz2
          have hT1 := fun m => hT1 (w2.drewN m) (hB2.trans ⟨rfl, rfl, rfl, Nat.le_refl _, fun _ _ => rfl⟩)
          have hT2 := fun m => hT2 (w2.drewN m) (hB2.trans ⟨rfl, rfl, rfl, Nat.le_refl _, fun _ _ => rfl⟩)
          go_wp2_with fail
          go_quiet (first | (go_at_call 54; first | (with_reducible refine Calls.quiet_of_same (hT1 _)) | (with_reducible refine Calls.quiet_of_same (hT2 _))))
          have hBq : Below w.heap.size w (w2.drewN nq) := hB2.trans ⟨rfl, rfl, rfl, Nat.le_refl _, fun _ _ => rfl⟩
          have hzq : Below (w.heap.size + 3) _ (w2.drewN nq) := hz2.trans ⟨rfl, rfl, rfl, Nat.le_refl _, fun _ _ => rfl⟩
          clear hL1 hL2 hT1 hT2 hb1 hb2 hz1 hB1 k1 k2 k3 k4 k5 k6 k7 k8 k9
          obtain ⟨k1, k2, k3, k4, k5, k6, k7, k8, k9⟩ := boxes3 w _ _ _ _ (w2.drewN nq) hzq
          generalize w2.drewN nq = W at *
          go_wp2_with fail
          go_region_held3 (fun W => W.cell? ⟨w.heap.size, 0, none⟩ = some (.bool b1) ∧ W.cell? ⟨w.heap.size, 1, none⟩ = some (.slice A xs.length c) ∧ W.cell? ⟨w.heap.size + 1, 0, none⟩ = some (.bool b1) ∧ W.cell? ⟨w.heap.size + 1, 1, none⟩ = some (.slice B ys.length d) ∧ w.heap.size + 3 ≤ W.heap.size) (first | exact ⟨k1, k2, k3, k4, k9⟩ | exact ⟨j1, j2, j3, j4, j9⟩ | exact ⟨i1, i2, i3, i4, i9⟩ | exact ⟨g1, g2, g3, g4, g9⟩ | exact ⟨cell_off (cell_off g1 (by simp <;> omega)) (by simp <;> omega), cell_off (cell_off g2 (by simp <;> omega)) (by simp <;> omega), cell_off (cell_off g3 (by simp <;> omega)) (by simp <;> omega), cell_off (cell_off g4 (by simp <;> omega)) (by simp <;> omega), by simp <;> omega⟩ | go_keep) (first
            | (go_at_call 62; refine (wadd_ok A B c d ps qs _ hX2 hY2 (rX.later (by first | exact hBq | exact below_drew hBq)) (rY.later (by first | exact hBq | exact below_drew hBq)) (by omega) hc (by omega) hd (by omega) (by omega)).mono ?_; rintro e w3 ⟨zs, q1, q2, q3, A3, c3, rfl, l3, m3, f3, b3⟩; have hz3 : Below (w.heap.size + 3) _ w3 := (by first | exact hzq.trans (b3.mono k9) | exact (below_drew hzq).trans (b3.mono k9)); have hB3 : Below w.heap.size w w3 := (by first | exact hBq.trans (b3.mono hBq.size) | exact (below_drew hBq).trans (b3.mono hBq.size)); have f3 := f3.mono (show w.heap.size + 3 ≤ _ from k9); obtain ⟨j1, j2, j3, j4, j5, j6, j7, j8, j9⟩ := boxes3 w _ _ _ _ w3 hz3)
            | (go_at_call 46; refine (form_int b1 A3 c3 zs (w.heap.size + 3) _ q1 (f3.later (by first | exact Below.refl _ _ | exact below_drew (Below.refl _ _))) l3 m3 S (hS zs q2)).mono ?_; rintro e w4 ⟨b', A', n', c', rfl, hv, b4⟩; have hz4 : Below (w.heap.size + 3) _ w4 := (by first | exact hz3.trans (b4.mono j9) | exact (below_drew hz3).trans (b4.mono j9)); have hB4 : Below w.heap.size w w4 := (by first | exact hB3.trans (b4.mono hB3.size) | exact (below_drew hB3).trans (b4.mono hB3.size)); obtain ⟨i1, i2, i3, i4, i5, i6, i7, i8, i9⟩ := boxes3 w _ _ _ _ w4 hz4)
            | (go_at_call 48; refine (fits_small (hv.later (by first | exact Below.refl _ _ | exact below_drew (Below.refl _ _))) h3).mono ?_; rintro e w5 ⟨rfl, b5⟩; have hz5 : Below (w.heap.size + 3) _ w5 := (by first | exact hz4.trans (b5.mono i9) | exact (below_drew hz4).trans (b5.mono i9)); have hB5 : Below w.heap.size w w5 := (by first | exact hB4.trans (b5.mono hB4.size) | exact (below_drew hB4).trans (b5.mono hB4.size)); have hv5 := hv.later (show Below _ _ w5 by first | exact b5 | exact (below_drew (Below.refl _ _)).trans b5); obtain ⟨g1, g2, g3, g4, g5, g6, g7, g8, g9⟩ := boxes3 w _ _ _ _ w5 hz5))
          all_goals
            go_wp2
            exact bodyPost_ret (v := .tuple #[.agg #[.bool b', .slice A' n' c'], .int .i64 0]) (by simp [results, Tryd.results22, go_sem, g5, g6, g7, g8, g9]) rfl ⟨⟨_, rfl, ((hv5.setCell (p := ⟨w.heap.size + 1 + 1, 0, none⟩) (by simp <;> omega) _).setCell (p := ⟨w.heap.size + 1 + 1, 1, none⟩) (by simp <;> omega) _).mono (by omega)⟩, (hB5.setCell (p := ⟨w.heap.size + 1 + 1, 0, none⟩) (by simp <;> omega) _).setCell (p := ⟨w.heap.size + 1 + 1, 1, none⟩) (by simp <;> omega) _⟩
      · have x1 : (b1 == b2) = false := by simpa using hbb
        have hb2 : b2 = !b1 := by cases b1 <;> cases b2 <;> simp at hbb ⊢
        obtain ⟨S, hSe⟩ : ∃ S, valI b1 ps + valI b2 qs = S := ⟨_, rfl⟩
        have HC := fun W (hb : Below w.heap.size w W) => wcompare_ok A B c d ps qs W hX2 hY2 (rX.later hb) (rY.later hb) (by omega) hc (by omega) hd
        obtain ⟨C, hC⟩ : ∃ C, cmp3 (val ps) (val qs) = C := ⟨_, rfl⟩
        rw [hC] at HC
        rw [hSe]
        by_cases hle : val qs ≤ val ps
        · have hS : ∀ zs, val zs = val ps - val qs → valI b1 zs = S := by
            intro zs hz
            rw [← hSe, hb2]
            unfold valI
            cases b1 <;> simp only [Bool.false_eq_true, if_false, if_true, Bool.not_true, Bool.not_false] <;> omega
          have hlen : qs.length ≤ ps.length := by
            rcases Nat.lt_or_ge ps.length qs.length with h | h
            · have := val_lt_len hX2 hY2 nY h; omega
            · exact h
          have hC0 : 0 ≤ C := by rw [← hC, cmp3]; split <;> (try split) <;> omega
          clear hC hSe hb2 hbb
          cases h3 : big S with
          | true =>
            rw [if_pos rfl]
            go_enter Tryd.func22, Tryd.ntmps22
            go_wp2_with fail
            go_at_call 61
            refine (hL1 _ hw0).mono ?_
            rintro e w1 ⟨rfl, hb1⟩
            have hz1 := hz0.trans (hb1.mono (by simp))
            have hB1 := hw0.trans (hb1.mono hw0.size)
            obtain ⟨k1, k2, k3, k4, k5, k6, k7, k8, k9⟩ := boxes3 w _ _ _ _ w1 hz1
            go_wp2_with fail
            go_at_call 61
            refine (hL2 _ hB1).mono ?_
            rintro e w2 ⟨rfl, hb2⟩
            have hz2 := hz1.trans (hb2.mono k9)
            have hB2 := hB1.trans (hb2.mono hB1.size)
            clear k1 k2 k3 k4 k5 k6 k7 k8 k9
            obtain ⟨k1, k2, k3, k4, k5, k6, k7, k8, k9⟩ := boxes3 w _ _ _ _ w2 hz2
            have hT1 := fun m => hT1 (w2.drewN m) (hB2.trans ⟨rfl, rfl, rfl, Nat.le_refl _, fun _ _ => rfl⟩)
            have hT2 := fun m => hT2 (w2.drewN m) (hB2.trans ⟨rfl, rfl, rfl, Nat.le_refl _, fun _ _ => rfl⟩)
            go_wp2_with fail
            go_quiet (first | (go_at_call 54; first | (with_reducible refine Calls.quiet_of_same (hT1 _)) | (with_reducible refine Calls.quiet_of_same (hT2 _))))
            have hBq : Below w.heap.size w (w2.drewN nq) := hB2.trans ⟨rfl, rfl, rfl, Nat.le_refl _, fun _ _ => rfl⟩
            have hzq : Below (w.heap.size + 3) _ (w2.drewN nq) := hz2.trans ⟨rfl, rfl, rfl, Nat.le_refl _, fun _ _ => rfl⟩
            clear hL1 hL2 hT1 hT2 hb1 hb2 hz1 hB1 k1 k2 k3 k4 k5 k6 k7 k8 k9
            obtain ⟨k1, k2, k3, k4, k5, k6, k7, k8, k9⟩ := boxes3 w _ _ _ _ (w2.drewN nq) hzq
            generalize w2.drewN nq = W at *
            go_wp2_with fail
            go_at_call 44
            refine (HC _ hBq).mono ?_
            rintro e w9 ⟨rfl, b9⟩
            have hBq := hBq.trans (b9.mono hBq.size)
            have hzq := hzq.trans (b9.mono k9)
            clear k1 k2 k3 k4 k5 k6 k7 k8 k9
            obtain ⟨k1, k2, k3, k4, k5, k6, k7, k8, k9⟩ := boxes3 w _ _ _ _ w9 hzq
            go_wp2_with fail
            go_region_held3 (fun W => W.cell? ⟨w.heap.size, 0, none⟩ = some (.bool b1) ∧ W.cell? ⟨w.heap.size, 1, none⟩ = some (.slice A xs.length c) ∧ W.cell? ⟨w.heap.size + 1, 0, none⟩ = some (.bool b2) ∧ W.cell? ⟨w.heap.size + 1, 1, none⟩ = some (.slice B ys.length d) ∧ w.heap.size + 3 ≤ W.heap.size) (first | exact ⟨k1, k2, k3, k4, k9⟩ | exact ⟨j1, j2, j3, j4, j9⟩ | exact ⟨i1, i2, i3, i4, i9⟩ | exact ⟨g1, g2, g3, g4, g9⟩ | exact ⟨cell_off (cell_off g1 (by simp <;> omega)) (by simp <;> omega), cell_off (cell_off g2 (by simp <;> omega)) (by simp <;> omega), cell_off (cell_off g3 (by simp <;> omega)) (by simp <;> omega), cell_off (cell_off g4 (by simp <;> omega)) (by simp <;> omega), by simp <;> omega⟩ | go_keep) (first
              | (go_at_call 63; refine (wsub_ok A B c d ps qs _ hX2 hY2 (rX.later (by first | exact hBq | exact below_drew hBq)) (rY.later (by first | exact hBq | exact below_drew hBq)) (by omega) hc (by omega) hd (by omega) hlen hle).mono ?_; rintro e w3 ⟨zs, q1, q2, q3, A3, c3, rfl, l3, m3, f3, b3⟩; have hz3 : Below (w.heap.size + 3) _ w3 := (by first | exact hzq.trans (b3.mono k9) | exact (below_drew hzq).trans (b3.mono k9)); have hB3 : Below w.heap.size w w3 := (by first | exact hBq.trans (b3.mono hBq.size) | exact (below_drew hBq).trans (b3.mono hBq.size)); have f3 := f3.mono (show w.heap.size + 3 ≤ _ from k9); obtain ⟨j1, j2, j3, j4, j5, j6, j7, j8, j9⟩ := boxes3 w _ _ _ _ w3 hz3)
              | (go_at_call 46; refine (form_int b1 A3 c3 zs (w.heap.size + 3) _ q1 (f3.later (by first | exact Below.refl _ _ | exact below_drew (Below.refl _ _))) l3 m3 S (hS zs q2)).mono ?_; rintro e w4 ⟨b', A', n', c', rfl, hv, b4⟩; have hz4 : Below (w.heap.size + 3) _ w4 := (by first | exact hz3.trans (b4.mono j9) | exact (below_drew hz3).trans (b4.mono j9)); have hB4 : Below w.heap.size w w4 := (by first | exact hB3.trans (b4.mono hB3.size) | exact (below_drew hB3).trans (b4.mono hB3.size)); obtain ⟨i1, i2, i3, i4, i5, i6, i7, i8, i9⟩ := boxes3 w _ _ _ _ w4 hz4)
              | (go_at_call 48; refine (fits_big (hv.later (by first | exact Below.refl _ _ | exact below_drew (Below.refl _ _))) h3).mono ?_; rintro e w5 ⟨rfl, b5⟩; have hz5 : Below (w.heap.size + 3) _ w5 := (by first | exact hz4.trans (b5.mono i9) | exact (below_drew hz4).trans (b5.mono i9)); have hB5 : Below w.heap.size w w5 := (by first | exact hB4.trans (b5.mono hB4.size) | exact (below_drew hB4).trans (b5.mono hB4.size)); have hv5 := hv.later (show Below _ _ w5 by first | exact b5 | exact (below_drew (Below.refl _ _)).trans b5); obtain ⟨g1, g2, g3, g4, g5, g6, g7, g8, g9⟩ := boxes3 w _ _ _ _ w5 hz5))
            all_goals
              go_wp2
              exact bodyPost_ret (v := none3) (by simp [none3, results, Tryd.results22, go_sem, g5, g6, g7, g8, g9]) rfl ⟨rfl, (hB5.setCell (p := ⟨w.heap.size + 1 + 1, 0, none⟩) (by simp <;> omega) _).setCell (p := ⟨w.heap.size + 1 + 1, 1, none⟩) (by simp <;> omega) _⟩
          | false =>
            rw [if_neg (by decide)]
            go_enter Tryd.func22, Tryd.ntmps22
            go_wp2_with fail
            go_at_call 61
            refine (hL1 _ hw0).mono ?_
            rintro e w1 ⟨rfl, hb1⟩
            have hz1 := hz0.trans (hb1.mono (by simp))
            have hB1 := hw0.trans (hb1.mono hw0.size)
            obtain ⟨k1, k2, k3, k4, k5, k6, k7, k8, k9⟩ := boxes3 w _ _ _ _ w1 hz1
            go_wp2_with fail
            go_at_call 61
            refine (hL2 _ hB1).mono ?_
            rintro e w2 ⟨rfl, hb2⟩
            have hz2 := hz1.trans (hb2.mono k9)
            have hB2 := hB1.trans (hb2.mono hB1.size)
            clear k1 k2 k3 k4 k5 k6 k7 k8 k9
            obtain ⟨k1, k2, k3, k4, k5, k6, k7, k8, k9⟩ := boxes3 w _ _ _ _ w2 hz2
            have hT1 := fun m => hT1 (w2.drewN m) (hB2.trans ⟨rfl, rfl, rfl, Nat.le_refl _, fun _ _ => rfl⟩)
            have hT2 := fun m => hT2 (w2.drewN m) (hB2.trans ⟨rfl, rfl, rfl, Nat.le_refl _, fun _ _ => rfl⟩)
            go_wp2_with fail
            go_quiet (first | (go_at_call 54; first | (with_reducible refine Calls.quiet_of_same (hT1 _)) | (with_reducible refine Calls.quiet_of_same (hT2 _))))
            have hBq : Below w.heap.size w (w2.drewN nq) := hB2.trans ⟨rfl, rfl, rfl, Nat.le_refl _, fun _ _ => rfl⟩
            have hzq : Below (w.heap.size + 3) _ (w2.drewN nq) := hz2.trans ⟨rfl, rfl, rfl, Nat.le_refl _, fun _ _ => rfl⟩
            clear hL1 hL2 hT1 hT2 hb1 hb2 hz1 hB1 k1 k2 k3 k4 k5 k6 k7 k8 k9
            obtain ⟨k1, k2, k3, k4, k5, k6, k7, k8, k9⟩ := boxes3 w _ _ _ _ (w2.drewN nq) hzq
            generalize w2.drewN nq = W at *
            go_wp2_with fail
            go_at_call 44
            refine (HC _ hBq).mono ?_
            rintro e w9 ⟨rfl, b9⟩
            have hBq := hBq.trans (b9.mono hBq.size)
            have hzq := hzq.trans (b9.mono k9)
            clear k1 k2 k3 k4 k5 k6 k7 k8 k9
            obtain ⟨k1, k2, k3, k4, k5, k6, k7, k8, k9⟩ := boxes3 w _ _ _ _ w9 hzq
            go_wp2_with fail
            go_region_held3 (fun W => W.cell? ⟨w.heap.size, 0, none⟩ = some (.bool b1) ∧ W.cell? ⟨w.heap.size, 1, none⟩ = some (.slice A xs.length c) ∧ W.cell? ⟨w.heap.size + 1, 0, none⟩ = some (.bool b2) ∧ W.cell? ⟨w.heap.size + 1, 1, none⟩ = some (.slice B ys.length d) ∧ w.heap.size + 3 ≤ W.heap.size) (first | exact ⟨k1, k2, k3, k4, k9⟩ | exact ⟨j1, j2, j3, j4, j9⟩ | exact ⟨i1, i2, i3, i4, i9⟩ | exact ⟨g1, g2, g3, g4, g9⟩ | exact ⟨cell_off (cell_off g1 (by simp <;> omega)) (by simp <;> omega), cell_off (cell_off g2 (by simp <;> omega)) (by simp <;> omega), cell_off (cell_off g3 (by simp <;> omega)) (by simp <;> omega), cell_off (cell_off g4 (by simp <;> omega)) (by simp <;> omega), by simp <;> omega⟩ | go_keep) (first
              | (go_at_call 63; refine (wsub_ok A B c d ps qs _ hX2 hY2 (rX.later (by first | exact hBq | exact below_drew hBq)) (rY.later (by first | exact hBq | exact below_drew hBq)) (by omega) hc (by omega) hd (by omega) hlen hle).mono ?_; rintro e w3 ⟨zs, q1, q2, q3, A3, c3, rfl, l3, m3, f3, b3⟩; have hz3 : Below (w.heap.size + 3) _ w3 := (by first | exact hzq.trans (b3.mono k9) | exact (below_drew hzq).trans (b3.mono k9)); have hB3 : Below w.heap.size w w3 := (by first | exact hBq.trans (b3.mono hBq.size) | exact (below_drew hBq).trans (b3.mono hBq.size)); have f3 := f3.mono (show w.heap.size + 3 ≤ _ from k9); obtain ⟨j1, j2, j3, j4, j5, j6, j7, j8, j9⟩ := boxes3 w _ _ _ _ w3 hz3)
              | (go_at_call 46; refine (form_int b1 A3 c3 zs (w.heap.size + 3) _ q1 (f3.later (by first | exact Below.refl _ _ | exact below_drew (Below.refl _ _))) l3 m3 S (hS zs q2)).mono ?_; rintro e w4 ⟨b', A', n', c', rfl, hv, b4⟩; have hz4 : Below (w.heap.size + 3) _ w4 := (by first | exact hz3.trans (b4.mono j9) | exact (below_drew hz3).trans (b4.mono j9)); have hB4 : Below w.heap.size w w4 := (by first | exact hB3.trans (b4.mono hB3.size) | exact (below_drew hB3).trans (b4.mono hB3.size)); obtain ⟨i1, i2, i3, i4, i5, i6, i7, i8, i9⟩ := boxes3 w _ _ _ _ w4 hz4)
              | (go_at_call 48; refine (fits_small (hv.later (by first | exact Below.refl _ _ | exact below_drew (Below.refl _ _))) h3).mono ?_; rintro e w5 ⟨rfl, b5⟩; have hz5 : Below (w.heap.size + 3) _ w5 := (by first | exact hz4.trans (b5.mono i9) | exact (below_drew hz4).trans (b5.mono i9)); have hB5 : Below w.heap.size w w5 := (by first | exact hB4.trans (b5.mono hB4.size) | exact (below_drew hB4).trans (b5.mono hB4.size)); have hv5 := hv.later (show Below _ _ w5 by first | exact b5 | exact (below_drew (Below.refl _ _)).trans b5); obtain ⟨g1, g2, g3, g4, g5, g6, g7, g8, g9⟩ := boxes3 w _ _ _ _ w5 hz5))
            all_goals
              go_wp2
              exact bodyPost_ret (v := .tuple #[.agg #[.bool b', .slice A' n' c'], .int .i64 0]) (by simp [results, Tryd.results22, go_sem, g5, g6, g7, g8, g9]) rfl ⟨⟨_, rfl, ((hv5.setCell (p := ⟨w.heap.size + 1 + 1, 0, none⟩) (by simp <;> omega) _).setCell (p := ⟨w.heap.size + 1 + 1, 1, none⟩) (by simp <;> omega) _).mono (by omega)⟩, (hB5.setCell (p := ⟨w.heap.size + 1 + 1, 0, none⟩) (by simp <;> omega) _).setCell (p := ⟨w.heap.size + 1 + 1, 1, none⟩) (by simp <;> omega) _⟩
        · have hS : ∀ zs, val zs = val qs - val ps → valI b2 zs = S := by
            intro zs hz
            rw [← hSe, hb2]
            unfold valI
            cases b1 <;> simp only [Bool.false_eq_true, if_false, if_true, Bool.not_true, Bool.not_false] <;> omega
          have hlen : ps.length ≤ qs.length := by
            rcases Nat.lt_or_ge qs.length ps.length with h | h
            · have := val_lt_len hY2 hX2 nX h; omega
            · exact h
          have hC0 : C < 0 := by rw [← hC, cmp3]; split <;> (try split) <;> omega
          clear hC hSe hb2 hbb
          cases h3 : big S with
          | true =>
            rw [if_pos rfl]
            go_enter Tryd.func22, Tryd.ntmps22
            go_wp2_with fail
            go_at_call 61
            refine (hL1 _ hw0).mono ?_
            rintro e w1 ⟨rfl, hb1⟩
            have hz1 := hz0.trans (hb1.mono (by simp))
            have hB1 := hw0.trans (hb1.mono hw0.size)
            obtain ⟨k1, k2, k3, k4, k5, k6, k7, k8, k9⟩ := boxes3 w _ _ _ _ w1 hz1
            go_wp2_with fail
            go_at_call 61
            refine (hL2 _ hB1).mono ?_
            rintro e w2 ⟨rfl, hb2⟩
            have hz2 := hz1.trans (hb2.mono k9)
            have hB2 := hB1.trans (hb2.mono hB1.size)
            clear k1 k2 k3 k4 k5 k6 k7 k8 k9
            obtain ⟨k1, k2, k3, k4, k5, k6, k7, k8, k9⟩ := boxes3 w _ _ _ _ w2 hz2
            have hT1 := fun m => hT1 (w2.drewN m) (hB2.trans ⟨rfl, rfl, rfl, Nat.le_refl _, fun _ _ => rfl⟩)
            have hT2 := fun m => hT2 (w2.drewN m) (hB2.trans ⟨rfl, rfl, rfl, Nat.le_refl _, fun _ _ => rfl⟩)
            go_wp2_with fail
            go_quiet (first | (go_at_call 54; first | (with_reducible refine Calls.quiet_of_same (hT1 _)) | (with_reducible refine Calls.quiet_of_same (hT2 _))))
            have hBq : Below w.heap.size w (w2.drewN nq) := hB2.trans ⟨rfl, rfl, rfl, Nat.le_refl _, fun _ _ => rfl⟩
            have hzq : Below (w.heap.size + 3) _ (w2.drewN nq) := hz2.trans ⟨rfl, rfl, rfl, Nat.le_refl _, fun _ _ => rfl⟩
            clear hL1 hL2 hT1 hT2 hb1 hb2 hz1 hB1 k1 k2 k3 k4 k5 k6 k7 k8 k9
            obtain ⟨k1, k2, k3, k4, k5, k6, k7, k8, k9⟩ := boxes3 w _ _ _ _ (w2.drewN nq) hzq
            generalize w2.drewN nq = W at *
            go_wp2_with fail
            go_at_call 44
            refine (HC _ hBq).mono ?_
            rintro e w9 ⟨rfl, b9⟩
            have hBq := hBq.trans (b9.mono hBq.size)
            have hzq := hzq.trans (b9.mono k9)
            clear k1 k2 k3 k4 k5 k6 k7 k8 k9
            obtain ⟨k1, k2, k3, k4, k5, k6, k7, k8, k9⟩ := boxes3 w _ _ _ _ w9 hzq
            go_wp2_with fail
            go_region_held3 (fun W => W.cell? ⟨w.heap.size, 0, none⟩ = some (.bool b1) ∧ W.cell? ⟨w.heap.size, 1, none⟩ = some (.slice A xs.length c) ∧ W.cell? ⟨w.heap.size + 1, 0, none⟩ = some (.bool b2) ∧ W.cell? ⟨w.heap.size + 1, 1, none⟩ = some (.slice B ys.length d) ∧ w.heap.size + 3 ≤ W.heap.size) (first | exact ⟨k1, k2, k3, k4, k9⟩ | exact ⟨j1, j2, j3, j4, j9⟩ | exact ⟨i1, i2, i3, i4, i9⟩ | exact ⟨g1, g2, g3, g4, g9⟩ | exact ⟨cell_off (cell_off g1 (by simp <;> omega)) (by simp <;> omega), cell_off (cell_off g2 (by simp <;> omega)) (by simp <;> omega), cell_off (cell_off g3 (by simp <;> omega)) (by simp <;> omega), cell_off (cell_off g4 (by simp <;> omega)) (by simp <;> omega), by simp <;> omega⟩ | go_keep) (first
              | (go_at_call 63; refine (wsub_ok B A d c qs ps _ hY2 hX2 (rY.later (by first | exact hBq | exact below_drew hBq)) (rX.later (by first | exact hBq | exact below_drew hBq)) (by omega) hd (by omega) hc (by omega) hlen (by omega)).mono ?_; rintro e w3 ⟨zs, q1, q2, q3, A3, c3, rfl, l3, m3, f3, b3⟩; have hz3 : Below (w.heap.size + 3) _ w3 := (by first | exact hzq.trans (b3.mono k9) | exact (below_drew hzq).trans (b3.mono k9)); have hB3 : Below w.heap.size w w3 := (by first | exact hBq.trans (b3.mono hBq.size) | exact (below_drew hBq).trans (b3.mono hBq.size)); have f3 := f3.mono (show w.heap.size + 3 ≤ _ from k9); obtain ⟨j1, j2, j3, j4, j5, j6, j7, j8, j9⟩ := boxes3 w _ _ _ _ w3 hz3)
              | (go_at_call 46; refine (form_int b2 A3 c3 zs (w.heap.size + 3) _ q1 (f3.later (by first | exact Below.refl _ _ | exact below_drew (Below.refl _ _))) l3 m3 S (hS zs q2)).mono ?_; rintro e w4 ⟨b', A', n', c', rfl, hv, b4⟩; have hz4 : Below (w.heap.size + 3) _ w4 := (by first | exact hz3.trans (b4.mono j9) | exact (below_drew hz3).trans (b4.mono j9)); have hB4 : Below w.heap.size w w4 := (by first | exact hB3.trans (b4.mono hB3.size) | exact (below_drew hB3).trans (b4.mono hB3.size)); obtain ⟨i1, i2, i3, i4, i5, i6, i7, i8, i9⟩ := boxes3 w _ _ _ _ w4 hz4)
              | (go_at_call 48; refine (fits_big (hv.later (by first | exact Below.refl _ _ | exact below_drew (Below.refl _ _))) h3).mono ?_; rintro e w5 ⟨rfl, b5⟩; have hz5 : Below (w.heap.size + 3) _ w5 := (by first | exact hz4.trans (b5.mono i9) | exact (below_drew hz4).trans (b5.mono i9)); have hB5 : Below w.heap.size w w5 := (by first | exact hB4.trans (b5.mono hB4.size) | exact (below_drew hB4).trans (b5.mono hB4.size)); have hv5 := hv.later (show Below _ _ w5 by first | exact b5 | exact (below_drew (Below.refl _ _)).trans b5); obtain ⟨g1, g2, g3, g4, g5, g6, g7, g8, g9⟩ := boxes3 w _ _ _ _ w5 hz5))
            all_goals
              go_wp2
              exact bodyPost_ret (v := none3) (by simp [none3, results, Tryd.results22, go_sem, g5, g6, g7, g8, g9]) rfl ⟨rfl, (hB5.setCell (p := ⟨w.heap.size + 1 + 1, 0, none⟩) (by simp <;> omega) _).setCell (p := ⟨w.heap.size + 1 + 1, 1, none⟩) (by simp <;> omega) _⟩
          | false =>
            rw [if_neg (by decide)]
            go_enter Tryd.func22, Tryd.ntmps22
            go_wp2_with fail
            go_at_call 61
            refine (hL1 _ hw0).mono ?_
            rintro e w1 ⟨rfl, hb1⟩
            have hz1 := hz0.trans (hb1.mono (by simp))
            have hB1 := hw0.trans (hb1.mono hw0.size)
            obtain ⟨k1, k2, k3, k4, k5, k6, k7, k8, k9⟩ := boxes3 w _ _ _ _ w1 hz1
            go_wp2_with fail
            go_at_call 61
            refine (hL2 _ hB1).mono ?_
            rintro e w2 ⟨rfl, hb2⟩
            have hz2 := hz1.trans (hb2.mono k9)
            have hB2 := hB1.trans (hb2.mono hB1.size)
            clear k1 k2 k3 k4 k5 k6 k7 k8 k9
            obtain ⟨k1, k2, k3, k4, k5, k6, k7, k8, k9⟩ := boxes3 w _ _ _ _ w2 hz2
            have hT1 := fun m => hT1 (w2.drewN m) (hB2.trans ⟨rfl, rfl, rfl, Nat.le_refl _, fun _ _ => rfl⟩)
            have hT2 := fun m => hT2 (w2.drewN m) (hB2.trans ⟨rfl, rfl, rfl, Nat.le_refl _, fun _ _ => rfl⟩)
            go_wp2_with fail
            go_quiet (first | (go_at_call 54; first | (with_reducible refine Calls.quiet_of_same (hT1 _)) | (with_reducible refine Calls.quiet_of_same (hT2 _))))
            have hBq : Below w.heap.size w (w2.drewN nq) := hB2.trans ⟨rfl, rfl, rfl, Nat.le_refl _, fun _ _ => rfl⟩
            have hzq : Below (w.heap.size + 3) _ (w2.drewN nq) := hz2.trans ⟨rfl, rfl, rfl, Nat.le_refl _, fun _ _ => rfl⟩
            clear hL1 hL2 hT1 hT2 hb1 hb2 hz1 hB1 k1 k2 k3 k4 k5 k6 k7 k8 k9
            obtain ⟨k1, k2, k3, k4, k5, k6, k7, k8, k9⟩ := boxes3 w _ _ _ _ (w2.drewN nq) hzq
            generalize w2.drewN nq = W at *
            go_wp2_with fail
            go_at_call 44
            refine (HC _ hBq).mono ?_
            rintro e w9 ⟨rfl, b9⟩
            have hBq := hBq.trans (b9.mono hBq.size)
            have hzq := hzq.trans (b9.mono k9)
            clear k1 k2 k3 k4 k5 k6 k7 k8 k9
            obtain ⟨k1, k2, k3, k4, k5, k6, k7, k8, k9⟩ := boxes3 w _ _ _ _ w9 hzq
            go_wp2_with fail
            go_region_held3 (fun W => W.cell? ⟨w.heap.size, 0, none⟩ = some (.bool b1) ∧ W.cell? ⟨w.heap.size, 1, none⟩ = some (.slice A xs.length c) ∧ W.cell? ⟨w.heap.size + 1, 0, none⟩ = some (.bool b2) ∧ W.cell? ⟨w.heap.size + 1, 1, none⟩ = some (.slice B ys.length d) ∧ w.heap.size + 3 ≤ W.heap.size) (first | exact ⟨k1, k2, k3, k4, k9⟩ | exact ⟨j1, j2, j3, j4, j9⟩ | exact ⟨i1, i2, i3, i4, i9⟩ | exact ⟨g1, g2, g3, g4, g9⟩ | exact ⟨cell_off (cell_off g1 (by simp <;> omega)) (by simp <;> omega), cell_off (cell_off g2 (by simp <;> omega)) (by simp <;> omega), cell_off (cell_off g3 (by simp <;> omega)) (by simp <;> omega), cell_off (cell_off g4 (by simp <;> omega)) (by simp <;> omega), by simp <;> omega⟩ | go_keep) (first
              | (go_at_call 63; refine (wsub_ok B A d c qs ps _ hY2 hX2 (rY.later (by first | exact hBq | exact below_drew hBq)) (rX.later (by first | exact hBq | exact below_drew hBq)) (by omega) hd (by omega) hc (by omega) hlen (by omega)).mono ?_; rintro e w3 ⟨zs, q1, q2, q3, A3, c3, rfl, l3, m3, f3, b3⟩; have hz3 : Below (w.heap.size + 3) _ w3 := (by first | exact hzq.trans (b3.mono k9) | exact (below_drew hzq).trans (b3.mono k9)); have hB3 : Below w.heap.size w w3 := (by first | exact hBq.trans (b3.mono hBq.size) | exact (below_drew hBq).trans (b3.mono hBq.size)); have f3 := f3.mono (show w.heap.size + 3 ≤ _ from k9); obtain ⟨j1, j2, j3, j4, j5, j6, j7, j8, j9⟩ := boxes3 w _ _ _ _ w3 hz3)
              | (go_at_call 46; refine (form_int b2 A3 c3 zs (w.heap.size + 3) _ q1 (f3.later (by first | exact Below.refl _ _ | exact below_drew (Below.refl _ _))) l3 m3 S (hS zs q2)).mono ?_; rintro e w4 ⟨b', A', n', c', rfl, hv, b4⟩; have hz4 : Below (w.heap.size + 3) _ w4 := (by first | exact hz3.trans (b4.mono j9) | exact (below_drew hz3).trans (b4.mono j9)); have hB4 : Below w.heap.size w w4 := (by first | exact hB3.trans (b4.mono hB3.size) | exact (below_drew hB3).trans (b4.mono hB3.size)); obtain ⟨i1, i2, i3, i4, i5, i6, i7, i8, i9⟩ := boxes3 w _ _ _ _ w4 hz4)
              | (go_at_call 48; refine (fits_small (hv.later (by first | exact Below.refl _ _ | exact below_drew (Below.refl _ _))) h3).mono ?_; rintro e w5 ⟨rfl, b5⟩; have hz5 : Below (w.heap.size + 3) _ w5 := (by first | exact hz4.trans (b5.mono i9) | exact (below_drew hz4).trans (b5.mono i9)); have hB5 : Below w.heap.size w w5 := (by first | exact hB4.trans (b5.mono hB4.size) | exact (below_drew hB4).trans (b5.mono hB4.size)); have hv5 := hv.later (show Below _ _ w5 by first | exact b5 | exact (below_drew (Below.refl _ _)).trans b5); obtain ⟨g1, g2, g3, g4, g5, g6, g7, g8, g9⟩ := boxes3 w _ _ _ _ w5 hz5))
            all_goals
              go_wp2
              exact bodyPost_ret (v := .tuple #[.agg #[.bool b', .slice A' n' c'], .int .i64 0]) (by simp [results, Tryd.results22, go_sem, g5, g6, g7, g8, g9]) rfl ⟨⟨_, rfl, ((hv5.setCell (p := ⟨w.heap.size + 1 + 1, 0, none⟩) (by simp <;> omega) _).setCell (p := ⟨w.heap.size + 1 + 1, 1, none⟩) (by simp <;> omega) _).mono (by omega)⟩, (hB5.setCell (p := ⟨w.heap.size + 1 + 1, 0, none⟩) (by simp <;> omega) _).setCell (p := ⟨w.heap.size + 1 + 1, 1, none⟩) (by simp <;> omega) _⟩
end Go.Proofs.YtegdbcnloodljaaDoor
