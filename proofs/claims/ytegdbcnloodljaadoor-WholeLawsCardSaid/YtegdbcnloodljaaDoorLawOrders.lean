/- The law WholeOrders. -/
import Derived.Test.YtegdbcnloodljaaDoorLawRests
import Derived.Deep.RegionHeld3
namespace Go.Proofs.YtegdbcnloodljaaDoor
set_option linter.unusedVariables false
set_option linter.unusedSimpArgs false
open Go.RowKit
set_option maxRecDepth 1000000

theorem cmp3_swap (x y : Int) : cmp3 y x = -(cmp3 x y) := by
  unfold cmp3
  by_cases h1 : x < y
  · rw [if_pos h1, if_neg (by omega), if_pos h1]; rfl
  · by_cases h2 : y < x
    · rw [if_pos h2, if_neg h1, if_pos h2]
    · rw [if_neg h2, if_neg h1, if_neg h1, if_neg h2]; rfl
theorem cmp3_neg (x y : Int) : cmp3 (-x) (-y) = -(cmp3 x y) := by
  rw [← cmp3_swap]; unfold cmp3
  have e1 : (-x < -y) = (y < x) := by simp only [eq_iff_iff]; omega
  have e2 : (-y < -x) = (x < y) := by simp only [eq_iff_iff]; omega
  simp only [e1, e2]
theorem cmp3_self (x : Int) : cmp3 x x = 0 := by unfold cmp3; rw [if_neg (by omega), if_neg (by omega)]
theorem cmp3_add (x y z : Int) : cmp3 (x + z) (y + z) = cmp3 x y := by
  unfold cmp3
  have e1 : (x + z < y + z) = (x < y) := by simp only [eq_iff_iff]; omega
  have e2 : (y + z < x + z) = (y < x) := by simp only [eq_iff_iff]; omega
  simp only [e1, e2]
theorem cmp3_le (x y : Int) : cmp3 x y ≤ 0 ↔ x ≤ y := by
  unfold cmp3
  split
  · omega
  · split <;> omega

theorem w32_vals (us : List U32) : W32 (vals us) := by
  intro x hx
  obtain ⟨u, _, rfl⟩ := List.mem_map.1 hx
  exact u.2
/-- of few words, nothing is too large. -/
theorem big_few {b : Bool} {zs : List Int} (h : W32 zs) (hl : zs.length ≤ 80) (b' : Bool) {ys : List Int} (h' : W32 ys) (hl' : ys.length ≤ 80) : addO (valI b zs) (valI b' ys) = some (valI b zs + valI b' ys) := by
  have h1 := val_bound h
  have h2 := val_bound h'
  have h3 := pow_mono (show zs.length ≤ 80 from hl)
  have h4 := pow_mono (show ys.length ≤ 80 from hl')
  have h5 := pow_mono (show 81 ≤ 256 by decide)
  have h6 : (4294967296 : Int) ^ 81 = 4294967296 ^ 80 * 4294967296 := Int.pow_succ _ _
  have a1 := valI_abs (b := b) h
  have a2 := valI_abs (b := b') h'
  have p := pow_pos 80
  have e : ∀ X : Int, (X.natAbs : Int) < 4294967296 ^ 80 * 4294967296 → big X = false := fun X hX => by
    rw [big, decide_eq_false_iff_not]
    unfold BIG
    omega
  rw [addO, e _ (by omega), e _ (by omega), e _ (by omega)]
  rfl

/-- the blocks of three Ints in a later world. -/
theorem boxes3p (w : World) (a0 a1 b0 b1 c0 c1 : Value) (W : World) (h : Below (w.heap.size + 3) (((w.alloc (.cells #[a0, a1] 24)).alloc (.cells #[b0, b1] 24)).alloc (.cells #[c0, c1] 24)) W) :
    W.cell? ⟨w.heap.size, 0, none⟩ = some a0 ∧ W.cell? ⟨w.heap.size, 1, none⟩ = some a1 ∧ W.cell? ⟨w.heap.size + 1, 0, none⟩ = some b0 ∧ W.cell? ⟨w.heap.size + 1, 1, none⟩ = some b1 ∧
    W.cell? ⟨w.heap.size + 1 + 1, 0, none⟩ = some c0 ∧ W.cell? ⟨w.heap.size + 1 + 1, 1, none⟩ = some c1 ∧ w.heap.size + 3 ≤ W.heap.size := by
  refine ⟨(h.cell (p := ⟨w.heap.size, 0, none⟩) (by simp)).trans (by simp [go_sem]), (h.cell (p := ⟨w.heap.size, 1, none⟩) (by simp)).trans (by simp [go_sem]), (h.cell (p := ⟨w.heap.size + 1, 0, none⟩) (by simp)).trans (by simp [go_sem]), (h.cell (p := ⟨w.heap.size + 1, 1, none⟩) (by simp)).trans (by simp [go_sem]),
    (h.cell (p := ⟨w.heap.size + 1 + 1, 0, none⟩) (by simp)).trans (by simp [go_sem]), (h.cell (p := ⟨w.heap.size + 1 + 1, 1, none⟩) (by simp)).trans (by simp [go_sem]), ?_⟩
  have := h.size
  simp at this
  omega

set_option maxHeartbeats 4000000 in
theorem lawOrders_any (b1 : Bool) (A : Option Addr) (c1 : Nat) (us : List U32) (b2 : Bool) (B : Option Addr) (c2 : Nat) (vs : List U32) (b3 : Bool) (C : Option Addr) (c3 : Nat) (ts : List U32) (w : World)
    (hr : RdI w .u32 A (vals us)) (hl : us.length ≤ c1) (hc : c1 ≤ maxLen) (hr2 : RdI w .u32 B (vals vs)) (hl2 : vs.length ≤ c2) (hc2 : c2 ≤ maxLen) (hr3 : RdI w .u32 C (vals ts)) (hl3 : ts.length ≤ c3) (hc3 : c3 ≤ maxLen) :
    Calls Tryd.prog 3 #[.agg #[.bool b1, .slice A us.length c1], .agg #[.bool b2, .slice B vs.length c2], .agg #[.bool b3, .slice C ts.length c3]] w fun e w' => e = .returned (.bool true) ∧ Below w.heap.size w w' := by
  have hX := w32_vals us
  have hY := w32_vals vs
  have hZ := w32_vals ts
  rw [← vals_length] at hl hl2 hl3 ⊢
  rw [← vals_length, ← vals_length]
  generalize vals us = xs at *
  generalize vals vs = ys at *
  generalize vals ts = zs at *
  clear us vs ts
  have hc : c1 ≤ 9223372036854775807 := hc
  have hc2 : c2 ≤ 9223372036854775807 := hc2
  have hc3 : c3 ≤ 9223372036854775807 := hc3
  obtain ⟨W3, hW3⟩ : ∃ W3, ((w.alloc (.cells #[.bool b1, .slice A xs.length c1] 24)).alloc (.cells #[.bool b2, .slice B ys.length c2] 24)).alloc (.cells #[.bool b3, .slice C zs.length c3] 24) = W3 := ⟨_, rfl⟩
  have hw3 : Below w.heap.size w W3 := by rw [← hW3]; exact (((Below.refl _ _).alloc (Nat.le_refl _) _).alloc (by simp) _).alloc (by simp; omega) _
  have hbox := fun W h => boxes3p w (.bool b1) (.slice A xs.length c1) (.bool b2) (.slice B ys.length c2) (.bool b3) (.slice C zs.length c3) W h
  rw [hW3] at hbox
  have hz : Below (w.heap.size + 3) W3 W3 := Below.refl _ _
  have hB : ∀ W, Below (w.heap.size + 3) W3 W → Below w.heap.size w W := fun W h => hw3.trans (h.mono (by omega))
  have hF1 := fun W => few_ok b1 A c1 xs.length W
  have hF2 := fun W => few_ok b2 B c2 ys.length W
  have hF3 := fun W => few_ok b3 C c3 zs.length W
  obtain ⟨j1, j2, j3, j4, j5, j6, j7⟩ := hbox W3 hz
  by_cases f1 : xs.length ≤ 80
  · by_cases f2 : ys.length ≤ 80
    · by_cases f3 : zs.length ≤ 80
      · rw [decide_eq_true f1] at hF1
        rw [decide_eq_true f2] at hF2
        rw [decide_eq_true f3] at hF3
        have rA := fun W h => hr.later (hB W h)
        have rB := fun W h => hr2.later (hB W h)
        have rC := fun W h => hr3.later (hB W h)
        have hCab := fun W h => wCompare_ok b1 b2 A B c1 c2 xs ys W hX hY (rA W h) (rB W h) hl hc hl2 hc2
        have hCba := fun W h => wCompare_ok b2 b1 B A c2 c1 ys xs W hY hX (rB W h) (rA W h) hl2 hc2 hl hc
        have hCaa := fun W h => wCompare_ok b1 b1 A A c1 c1 xs xs W hX hX (rA W h) (rA W h) hl hc hl hc
        have hCbc := fun W h => wCompare_ok b2 b3 B C c2 c3 ys zs W hY hZ (rB W h) (rC W h) hl2 hc2 hl3 hc3
        have hCac := fun W h => wCompare_ok b1 b3 A C c1 c3 xs zs W hX hZ (rA W h) (rC W h) hl hc hl3 hc3
        have hNa := fun W h => wNegate_ok b1 A c1 xs W hX (rA W h) hl hc (by omega)
        have hNb := fun W h => wNegate_ok b2 B c2 ys W hY (rB W h) hl2 hc2 (by omega)
        have hS1 := fun W h => wSum_ok b1 b3 A C c1 c3 xs zs W hX hZ (rA W h) (rC W h) hl hc hl3 hc3
        have hS2 := fun W h => wSum_ok b2 b3 B C c2 c3 ys zs W hY hZ (rB W h) (rC W h) hl2 hc2 hl3 hc3
        rw [big_few hX f1 b3 hZ f3] at hS1
        rw [big_few hY f2 b3 hZ f3] at hS2
        have kr := cmp3_range (valI b1 xs) (valI b2 ys)
        have t1 := cmp3_le (valI b1 xs) (valI b2 ys)
        have t2 := cmp3_le (valI b2 ys) (valI b3 zs)
        have t3 := cmp3_le (valI b1 xs) (valI b3 zs)
        simp only [cmp3_swap (valI b1 xs) (valI b2 ys)] at hCba
        simp only [cmp3_self] at hCaa
        generalize valI b1 xs = X at *
        generalize valI b2 ys = Y at *
        generalize valI b3 zs = Z at *
        obtain ⟨k, hk⟩ : ∃ k, cmp3 X Y = k := ⟨_, rfl⟩
        obtain ⟨k2, hk2⟩ : ∃ k, cmp3 Y Z = k := ⟨_, rfl⟩
        obtain ⟨k3, hk3⟩ : ∃ k, cmp3 X Z = k := ⟨_, rfl⟩
        rw [hk] at kr t1 hCab hCba
        rw [hk2] at t2 hCbc
        rw [hk3] at t3 hCac
        have kb : -1 ≤ k ∧ k ≤ 1 := by omega
        clear hr hr2 hr3 rA rB rC hX hY hZ kr hk2 hk3
        have eq0 : (-k != -k) = false := by simp
        have g1' : decide (k < -1) = false := by simp; omega
        have g2' : decide (1 < k) = false := by simp; omega
        have hwk : IntKind.i64.wrap (-k) = -k := by
          have : k = -1 ∨ k = 0 ∨ k = 1 := by omega
          rcases this with rfl | rfl | rfl <;> decide
        have eqk : (k == k) = true := by simp
        by_cases c1' : k ≤ 0
        · by_cases c2' : k2 ≤ 0
          · have c3' : k3 ≤ 0 := by omega
            have g3' : decide (k ≤ 0) = true := by simp; omega
            have g4' : decide (k2 ≤ 0) = true := by simp; omega
            have g5' : decide (0 < k3) = false := by simp; omega
            clear t1 t2 t3
            go_enter Tryd.func3, Tryd.ntmps3
            go_wp2_with fail
            go_at_call 11
            refine (hF1 _).mono ?_
            rintro e v1 ⟨rfl, hb1⟩
            have hz := hz.trans (hb1.mono j7)
            obtain ⟨j1, j2, j3, j4, j5, j6, j7⟩ := hbox v1 hz
            go_wp2_with fail
            go_at_call 11
            refine (hF2 _).mono ?_
            rintro e v2 ⟨rfl, hb1⟩
            have hz := hz.trans (hb1.mono j7)
            obtain ⟨j1, j2, j3, j4, j5, j6, j7⟩ := hbox v2 hz
            go_wp2_with fail
            go_at_call 11
            refine (hF3 _).mono ?_
            rintro e v3 ⟨rfl, hb1⟩
            have hz := hz.trans (hb1.mono j7)
            obtain ⟨j1, j2, j3, j4, j5, j6, j7⟩ := hbox v3 hz
            go_wp2_with fail
            go_at_call 13
            refine (hCab _ hz).mono ?_
            rintro e v4 ⟨rfl, hb1⟩
            have hz := hz.trans (hb1.mono j7)
            obtain ⟨j1, j2, j3, j4, j5, j6, j7⟩ := hbox v4 hz
            go_wp2_with fail
            go_region_held3 (fun W => W.cell? ⟨w.heap.size, 0, none⟩ = some (.bool b1) ∧ W.cell? ⟨w.heap.size, 1, none⟩ = some (.slice A xs.length c1) ∧ W.cell? ⟨w.heap.size + 1, 0, none⟩ = some (.bool b2) ∧ W.cell? ⟨w.heap.size + 1, 1, none⟩ = some (.slice B ys.length c2) ∧ W.cell? ⟨w.heap.size + 1 + 1, 0, none⟩ = some (.bool b3) ∧ W.cell? ⟨w.heap.size + 1 + 1, 1, none⟩ = some (.slice C zs.length c3) ∧ w.heap.size + 3 ≤ W.heap.size) (first | exact ⟨e1, e2, e3, e4, e5, e6, e7⟩ | exact ⟨d1, d2, d3, d4, d5, d6, d7⟩ | exact ⟨n1, n2, n3, n4, n5, n6, n7⟩ | exact ⟨m1, m2, m3, m4, m5, m6, m7⟩ | exact ⟨i1, i2, i3, i4, i5, i6, i7⟩ | exact ⟨j1, j2, j3, j4, j5, j6, j7⟩ | go_keep) (first
              | (go_at_call 14; first
                | (refine (hNb _ hzn).mono ?_; rintro e vm ⟨bm, Am, nm, cm, rfl, hvm, hb1⟩; have fn := fn.later hb1; obtain ⟨ny, rfl, lm, mm, fm, qm, -, hvy, -⟩ := hvm.get; have hzm : Below (w.heap.size + 3) W3 vm := hzn.trans (hb1.mono n7); obtain ⟨m1, m2, m3, m4, m5, m6, m7⟩ := hbox vm hzm)
                | (refine (hNa _ hzi).mono ?_; rintro e vn ⟨bn, An, nn, cn, rfl, hvn, hb1⟩; obtain ⟨nx, rfl, ln, mn, fn, qn, -, hvx, -⟩ := hvn.get; have hzn : Below (w.heap.size + 3) W3 vn := hzi.trans (hb1.mono i7); obtain ⟨n1, n2, n3, n4, n5, n6, n7⟩ := hbox vn hzn))
              | (go_at_call 13; first
                | (refine (hCaa _ hzd).mono ?_; rintro e vr ⟨rfl, hb1⟩; have hze : Below (w.heap.size + 3) W3 vr := hzd.trans (hb1.mono d7); obtain ⟨e1, e2, e3, e4, e5, e6, e7⟩ := hbox vr hze)
                | (refine (wCompare_ok bn bm An Am cn cm nx ny vm qn qm fn.rd fm.rd ln mn lm mm).mono ?_; rintro e vq ⟨hee, hb1⟩; rw [hvx, hvy, cmp3_neg, hk] at hee; subst hee; have hzd : Below (w.heap.size + 3) W3 vq := hzm.trans (hb1.mono m7); obtain ⟨d1, d2, d3, d4, d5, d6, d7⟩ := hbox vq hzd)
                | (refine (hCba _ (below_drew hz)).mono ?_; rintro e vi ⟨rfl, hb1⟩; have hzi : Below (w.heap.size + 3) W3 vi := (below_drew hz).trans (hb1.mono j7); obtain ⟨i1, i2, i3, i4, i5, i6, i7⟩ := hbox vi hzi)))
            have hz := hze
            obtain ⟨j1, j2, j3, j4, j5, j6, j7⟩ := hbox vr hz
            go_wp2_with fail
            go_at_call 13
            refine (hCbc _ hz).mono ?_
            rintro e v5 ⟨rfl, hb1⟩
            have hz := hz.trans (hb1.mono j7)
            obtain ⟨j1, j2, j3, j4, j5, j6, j7⟩ := hbox v5 hz
            go_wp2_with fail
            go_at_call 13
            refine (hCac _ hz).mono ?_
            rintro e v6 ⟨rfl, hb1⟩
            have hz := hz.trans (hb1.mono j7)
            obtain ⟨j1, j2, j3, j4, j5, j6, j7⟩ := hbox v6 hz
            go_wp2_with fail
            go_at_call 15
            refine (hS1 _ hz).mono ?_
            rintro e v7 ⟨⟨bp, Ap, np, cp, rfl, hvp⟩, hb1⟩
            have hz := hz.trans (hb1.mono j7)
            obtain ⟨j1, j2, j3, j4, j5, j6, j7⟩ := hbox v7 hz
            obtain ⟨px, rfl, lp, mp, fp, qp, -, vp, -⟩ := hvp.get
            have hbx := (Below.refl v7.heap.size v7).alloc (Nat.le_refl _) (.cells #[.bool bp, .slice Ap px.length cp] 24)
            have hz := hz.trans (hbx.mono j7)
            have cx0 : (v7.alloc (.cells #[.bool bp, .slice Ap px.length cp] 24)).cell? ⟨v7.heap.size, 0, none⟩ = some (.bool bp) := by simp [go_sem]
            have cx1 : (v7.alloc (.cells #[.bool bp, .slice Ap px.length cp] 24)).cell? ⟨v7.heap.size, 1, none⟩ = some (.slice Ap px.length cp) := by simp [go_sem]
            obtain ⟨j1, j2, j3, j4, j5, j6, j7⟩ := hbox _ hz
            have fp := fp.later hbx
            go_wp2_with fail
            go_at_call 15
            refine (hS2 _ hz).mono ?_
            rintro e v8 ⟨⟨bq, Aq, nq, cq, rfl, hvq⟩, hb1⟩
            have hz := hz.trans (hb1.mono j7)
            obtain ⟨j1, j2, j3, j4, j5, j6, j7⟩ := hbox v8 hz
            obtain ⟨py, rfl, lq, mq, fq, qq, -, vq, -⟩ := hvq.get
            have fp := fp.later hb1
            have cx0 := cell_later hb1 cx0
            have cx1 := cell_later hb1 cx1
            have hlx : v7.heap.size < v8.heap.size := World.block_lt_of_cell? _ _ cx0
            have hby := (Below.refl v8.heap.size v8).alloc (Nat.le_refl _) (.cells #[.bool bq, .slice Aq py.length cq] 24)
            have hz := hz.trans (hby.mono j7)
            have hCf := wCompare_ok bp bq Ap Aq cp cq px py _ qp qq (fp.later hby).rd (fq.later hby).rd lp mp lq mq
            rw [vp, vq, cmp3_add, hk] at hCf
            clear vp vq fp fq qp qq hvp hvq
            obtain ⟨j1, j2, j3, j4, j5, j6, j7⟩ := hbox _ hz
            go_wp2_with fail
            go_at_call 13
            refine hCf.mono ?_
            rintro e vf ⟨rfl, hb1⟩
            have hz := hz.trans (hb1.mono j7)
            go_wp2_with fail
            go_at_call 12
            refine (wawake_ok _).mono ?_
            rintro e vg ⟨rfl, hb2⟩
            go_wp2
            go_ret
            exact ⟨rfl, (hB _ hz).trans (hb2.mono (hB _ hz).size)⟩
          · clear t1 t2 t3
            go_enter Tryd.func3, Tryd.ntmps3
            go_wp2_with fail
            go_at_call 11
            refine (hF1 _).mono ?_
            rintro e v1 ⟨rfl, hb1⟩
            have hz := hz.trans (hb1.mono j7)
            obtain ⟨j1, j2, j3, j4, j5, j6, j7⟩ := hbox v1 hz
            go_wp2_with fail
            go_at_call 11
            refine (hF2 _).mono ?_
            rintro e v2 ⟨rfl, hb1⟩
            have hz := hz.trans (hb1.mono j7)
            obtain ⟨j1, j2, j3, j4, j5, j6, j7⟩ := hbox v2 hz
            go_wp2_with fail
            go_at_call 11
            refine (hF3 _).mono ?_
            rintro e v3 ⟨rfl, hb1⟩
            have hz := hz.trans (hb1.mono j7)
            obtain ⟨j1, j2, j3, j4, j5, j6, j7⟩ := hbox v3 hz
            go_wp2_with fail
            go_at_call 13
            refine (hCab _ hz).mono ?_
            rintro e v4 ⟨rfl, hb1⟩
            have hz := hz.trans (hb1.mono j7)
            obtain ⟨j1, j2, j3, j4, j5, j6, j7⟩ := hbox v4 hz
            go_wp2_with fail
            go_region_held3 (fun W => W.cell? ⟨w.heap.size, 0, none⟩ = some (.bool b1) ∧ W.cell? ⟨w.heap.size, 1, none⟩ = some (.slice A xs.length c1) ∧ W.cell? ⟨w.heap.size + 1, 0, none⟩ = some (.bool b2) ∧ W.cell? ⟨w.heap.size + 1, 1, none⟩ = some (.slice B ys.length c2) ∧ W.cell? ⟨w.heap.size + 1 + 1, 0, none⟩ = some (.bool b3) ∧ W.cell? ⟨w.heap.size + 1 + 1, 1, none⟩ = some (.slice C zs.length c3) ∧ w.heap.size + 3 ≤ W.heap.size) (first | exact ⟨e1, e2, e3, e4, e5, e6, e7⟩ | exact ⟨d1, d2, d3, d4, d5, d6, d7⟩ | exact ⟨n1, n2, n3, n4, n5, n6, n7⟩ | exact ⟨m1, m2, m3, m4, m5, m6, m7⟩ | exact ⟨i1, i2, i3, i4, i5, i6, i7⟩ | exact ⟨j1, j2, j3, j4, j5, j6, j7⟩ | go_keep) (first
              | (go_at_call 14; first
                | (refine (hNb _ hzn).mono ?_; rintro e vm ⟨bm, Am, nm, cm, rfl, hvm, hb1⟩; have fn := fn.later hb1; obtain ⟨ny, rfl, lm, mm, fm, qm, -, hvy, -⟩ := hvm.get; have hzm : Below (w.heap.size + 3) W3 vm := hzn.trans (hb1.mono n7); obtain ⟨m1, m2, m3, m4, m5, m6, m7⟩ := hbox vm hzm)
                | (refine (hNa _ hzi).mono ?_; rintro e vn ⟨bn, An, nn, cn, rfl, hvn, hb1⟩; obtain ⟨nx, rfl, ln, mn, fn, qn, -, hvx, -⟩ := hvn.get; have hzn : Below (w.heap.size + 3) W3 vn := hzi.trans (hb1.mono i7); obtain ⟨n1, n2, n3, n4, n5, n6, n7⟩ := hbox vn hzn))
              | (go_at_call 13; first
                | (refine (hCaa _ hzd).mono ?_; rintro e vr ⟨rfl, hb1⟩; have hze : Below (w.heap.size + 3) W3 vr := hzd.trans (hb1.mono d7); obtain ⟨e1, e2, e3, e4, e5, e6, e7⟩ := hbox vr hze)
                | (refine (wCompare_ok bn bm An Am cn cm nx ny vm qn qm fn.rd fm.rd ln mn lm mm).mono ?_; rintro e vq ⟨hee, hb1⟩; rw [hvx, hvy, cmp3_neg, hk] at hee; subst hee; have hzd : Below (w.heap.size + 3) W3 vq := hzm.trans (hb1.mono m7); obtain ⟨d1, d2, d3, d4, d5, d6, d7⟩ := hbox vq hzd)
                | (refine (hCba _ (below_drew hz)).mono ?_; rintro e vi ⟨rfl, hb1⟩; have hzi : Below (w.heap.size + 3) W3 vi := (below_drew hz).trans (hb1.mono j7); obtain ⟨i1, i2, i3, i4, i5, i6, i7⟩ := hbox vi hzi)))
            have hz := hze
            obtain ⟨j1, j2, j3, j4, j5, j6, j7⟩ := hbox vr hz
            go_wp2_with fail
            go_at_call 13
            refine (hCbc _ hz).mono ?_
            rintro e v5 ⟨rfl, hb1⟩
            have hz := hz.trans (hb1.mono j7)
            obtain ⟨j1, j2, j3, j4, j5, j6, j7⟩ := hbox v5 hz
            go_wp2_with fail
            go_at_call 15
            refine (hS1 _ hz).mono ?_
            rintro e v6 ⟨⟨bp, Ap, np, cp, rfl, hvp⟩, hb1⟩
            have hz := hz.trans (hb1.mono j7)
            obtain ⟨j1, j2, j3, j4, j5, j6, j7⟩ := hbox v6 hz
            obtain ⟨px, rfl, lp, mp, fp, qp, -, vp, -⟩ := hvp.get
            have hbx := (Below.refl v6.heap.size v6).alloc (Nat.le_refl _) (.cells #[.bool bp, .slice Ap px.length cp] 24)
            have hz := hz.trans (hbx.mono j7)
            have cx0 : (v6.alloc (.cells #[.bool bp, .slice Ap px.length cp] 24)).cell? ⟨v6.heap.size, 0, none⟩ = some (.bool bp) := by simp [go_sem]
            have cx1 : (v6.alloc (.cells #[.bool bp, .slice Ap px.length cp] 24)).cell? ⟨v6.heap.size, 1, none⟩ = some (.slice Ap px.length cp) := by simp [go_sem]
            obtain ⟨j1, j2, j3, j4, j5, j6, j7⟩ := hbox _ hz
            have fp := fp.later hbx
            go_wp2_with fail
            go_at_call 15
            refine (hS2 _ hz).mono ?_
            rintro e v7 ⟨⟨bq, Aq, nq, cq, rfl, hvq⟩, hb1⟩
            have hz := hz.trans (hb1.mono j7)
            obtain ⟨j1, j2, j3, j4, j5, j6, j7⟩ := hbox v7 hz
            obtain ⟨py, rfl, lq, mq, fq, qq, -, vq, -⟩ := hvq.get
            have fp := fp.later hb1
            have cx0 := cell_later hb1 cx0
            have cx1 := cell_later hb1 cx1
            have hlx : v6.heap.size < v7.heap.size := World.block_lt_of_cell? _ _ cx0
            have hby := (Below.refl v7.heap.size v7).alloc (Nat.le_refl _) (.cells #[.bool bq, .slice Aq py.length cq] 24)
            have hz := hz.trans (hby.mono j7)
            have hCf := wCompare_ok bp bq Ap Aq cp cq px py _ qp qq (fp.later hby).rd (fq.later hby).rd lp mp lq mq
            rw [vp, vq, cmp3_add, hk] at hCf
            clear vp vq fp fq qp qq hvp hvq
            obtain ⟨j1, j2, j3, j4, j5, j6, j7⟩ := hbox _ hz
            go_wp2_with fail
            go_at_call 13
            refine hCf.mono ?_
            rintro e vf ⟨rfl, hb1⟩
            have hz := hz.trans (hb1.mono j7)
            go_wp2_with fail
            go_at_call 12
            refine (wawake_ok _).mono ?_
            rintro e vg ⟨rfl, hb2⟩
            go_wp2
            go_ret
            exact ⟨rfl, (hB _ hz).trans (hb2.mono (hB _ hz).size)⟩
        · clear t1 t2 t3
          go_enter Tryd.func3, Tryd.ntmps3
          go_wp2_with fail
          go_at_call 11
          refine (hF1 _).mono ?_
          rintro e v1 ⟨rfl, hb1⟩
          have hz := hz.trans (hb1.mono j7)
          obtain ⟨j1, j2, j3, j4, j5, j6, j7⟩ := hbox v1 hz
          go_wp2_with fail
          go_at_call 11
          refine (hF2 _).mono ?_
          rintro e v2 ⟨rfl, hb1⟩
          have hz := hz.trans (hb1.mono j7)
          obtain ⟨j1, j2, j3, j4, j5, j6, j7⟩ := hbox v2 hz
          go_wp2_with fail
          go_at_call 11
          refine (hF3 _).mono ?_
          rintro e v3 ⟨rfl, hb1⟩
          have hz := hz.trans (hb1.mono j7)
          obtain ⟨j1, j2, j3, j4, j5, j6, j7⟩ := hbox v3 hz
          go_wp2_with fail
          go_at_call 13
          refine (hCab _ hz).mono ?_
          rintro e v4 ⟨rfl, hb1⟩
          have hz := hz.trans (hb1.mono j7)
          obtain ⟨j1, j2, j3, j4, j5, j6, j7⟩ := hbox v4 hz
          go_wp2_with fail
          go_region_held3 (fun W => W.cell? ⟨w.heap.size, 0, none⟩ = some (.bool b1) ∧ W.cell? ⟨w.heap.size, 1, none⟩ = some (.slice A xs.length c1) ∧ W.cell? ⟨w.heap.size + 1, 0, none⟩ = some (.bool b2) ∧ W.cell? ⟨w.heap.size + 1, 1, none⟩ = some (.slice B ys.length c2) ∧ W.cell? ⟨w.heap.size + 1 + 1, 0, none⟩ = some (.bool b3) ∧ W.cell? ⟨w.heap.size + 1 + 1, 1, none⟩ = some (.slice C zs.length c3) ∧ w.heap.size + 3 ≤ W.heap.size) (first | exact ⟨e1, e2, e3, e4, e5, e6, e7⟩ | exact ⟨d1, d2, d3, d4, d5, d6, d7⟩ | exact ⟨n1, n2, n3, n4, n5, n6, n7⟩ | exact ⟨m1, m2, m3, m4, m5, m6, m7⟩ | exact ⟨i1, i2, i3, i4, i5, i6, i7⟩ | exact ⟨j1, j2, j3, j4, j5, j6, j7⟩ | go_keep) (first
            | (go_at_call 14; first
              | (refine (hNb _ hzn).mono ?_; rintro e vm ⟨bm, Am, nm, cm, rfl, hvm, hb1⟩; have fn := fn.later hb1; obtain ⟨ny, rfl, lm, mm, fm, qm, -, hvy, -⟩ := hvm.get; have hzm : Below (w.heap.size + 3) W3 vm := hzn.trans (hb1.mono n7); obtain ⟨m1, m2, m3, m4, m5, m6, m7⟩ := hbox vm hzm)
              | (refine (hNa _ hzi).mono ?_; rintro e vn ⟨bn, An, nn, cn, rfl, hvn, hb1⟩; obtain ⟨nx, rfl, ln, mn, fn, qn, -, hvx, -⟩ := hvn.get; have hzn : Below (w.heap.size + 3) W3 vn := hzi.trans (hb1.mono i7); obtain ⟨n1, n2, n3, n4, n5, n6, n7⟩ := hbox vn hzn))
            | (go_at_call 13; first
              | (refine (hCaa _ hzd).mono ?_; rintro e vr ⟨rfl, hb1⟩; have hze : Below (w.heap.size + 3) W3 vr := hzd.trans (hb1.mono d7); obtain ⟨e1, e2, e3, e4, e5, e6, e7⟩ := hbox vr hze)
              | (refine (wCompare_ok bn bm An Am cn cm nx ny vm qn qm fn.rd fm.rd ln mn lm mm).mono ?_; rintro e vq ⟨hee, hb1⟩; rw [hvx, hvy, cmp3_neg, hk] at hee; subst hee; have hzd : Below (w.heap.size + 3) W3 vq := hzm.trans (hb1.mono m7); obtain ⟨d1, d2, d3, d4, d5, d6, d7⟩ := hbox vq hzd)
              | (refine (hCba _ (below_drew hz)).mono ?_; rintro e vi ⟨rfl, hb1⟩; have hzi : Below (w.heap.size + 3) W3 vi := (below_drew hz).trans (hb1.mono j7); obtain ⟨i1, i2, i3, i4, i5, i6, i7⟩ := hbox vi hzi)))
          have hz := hze
          obtain ⟨j1, j2, j3, j4, j5, j6, j7⟩ := hbox vr hz
          go_wp2_with fail
          go_at_call 15
          refine (hS1 _ hz).mono ?_
          rintro e v5 ⟨⟨bp, Ap, np, cp, rfl, hvp⟩, hb1⟩
          have hz := hz.trans (hb1.mono j7)
          obtain ⟨j1, j2, j3, j4, j5, j6, j7⟩ := hbox v5 hz
          obtain ⟨px, rfl, lp, mp, fp, qp, -, vp, -⟩ := hvp.get
          have hbx := (Below.refl v5.heap.size v5).alloc (Nat.le_refl _) (.cells #[.bool bp, .slice Ap px.length cp] 24)
          have hz := hz.trans (hbx.mono j7)
          have cx0 : (v5.alloc (.cells #[.bool bp, .slice Ap px.length cp] 24)).cell? ⟨v5.heap.size, 0, none⟩ = some (.bool bp) := by simp [go_sem]
          have cx1 : (v5.alloc (.cells #[.bool bp, .slice Ap px.length cp] 24)).cell? ⟨v5.heap.size, 1, none⟩ = some (.slice Ap px.length cp) := by simp [go_sem]
          obtain ⟨j1, j2, j3, j4, j5, j6, j7⟩ := hbox _ hz
          have fp := fp.later hbx
          go_wp2_with fail
          go_at_call 15
          refine (hS2 _ hz).mono ?_
          rintro e v6 ⟨⟨bq, Aq, nq, cq, rfl, hvq⟩, hb1⟩
          have hz := hz.trans (hb1.mono j7)
          obtain ⟨j1, j2, j3, j4, j5, j6, j7⟩ := hbox v6 hz
          obtain ⟨py, rfl, lq, mq, fq, qq, -, vq, -⟩ := hvq.get
          have fp := fp.later hb1
          have cx0 := cell_later hb1 cx0
          have cx1 := cell_later hb1 cx1
          have hlx : v5.heap.size < v6.heap.size := World.block_lt_of_cell? _ _ cx0
          have hby := (Below.refl v6.heap.size v6).alloc (Nat.le_refl _) (.cells #[.bool bq, .slice Aq py.length cq] 24)
          have hz := hz.trans (hby.mono j7)
          have hCf := wCompare_ok bp bq Ap Aq cp cq px py _ qp qq (fp.later hby).rd (fq.later hby).rd lp mp lq mq
          rw [vp, vq, cmp3_add, hk] at hCf
          clear vp vq fp fq qp qq hvp hvq
          obtain ⟨j1, j2, j3, j4, j5, j6, j7⟩ := hbox _ hz
          go_wp2_with fail
          go_at_call 13
          refine hCf.mono ?_
          rintro e vf ⟨rfl, hb1⟩
          have hz := hz.trans (hb1.mono j7)
          go_wp2_with fail
          go_at_call 12
          refine (wawake_ok _).mono ?_
          rintro e vg ⟨rfl, hb2⟩
          go_wp2
          go_ret
          exact ⟨rfl, (hB _ hz).trans (hb2.mono (hB _ hz).size)⟩
      · rw [decide_eq_true f1] at hF1
        rw [decide_eq_true f2] at hF2
        rw [decide_eq_false f3] at hF3
        go_enter Tryd.func3, Tryd.ntmps3
        go_wp2_with fail
        go_at_call 11
        refine (hF1 _).mono ?_
        rintro e w1 ⟨rfl, hb1⟩
        have hz := hz.trans (hb1.mono j7)
        obtain ⟨j1, j2, j3, j4, j5, j6, j7⟩ := hbox w1 hz
        go_wp2_with fail
        go_at_call 11
        refine (hF2 _).mono ?_
        rintro e w2 ⟨rfl, hb1⟩
        have hz := hz.trans (hb1.mono j7)
        obtain ⟨j1, j2, j3, j4, j5, j6, j7⟩ := hbox w2 hz
        go_wp2_with fail
        go_at_call 11
        refine (hF3 _).mono ?_
        rintro e w3 ⟨rfl, hb1⟩
        have hz := hz.trans (hb1.mono j7)
        obtain ⟨j1, j2, j3, j4, j5, j6, j7⟩ := hbox w3 hz
        go_wp2_with fail
        go_at_call 12
        refine (wawake_ok _).mono ?_
        rintro e w9 ⟨rfl, hb2⟩
        go_wp2
        go_ret
        exact ⟨rfl, (hB _ hz).trans (hb2.mono (hB _ hz).size)⟩
    · rw [decide_eq_true f1] at hF1
      rw [decide_eq_false f2] at hF2
      go_enter Tryd.func3, Tryd.ntmps3
      go_wp2_with fail
      go_at_call 11
      refine (hF1 _).mono ?_
      rintro e w1 ⟨rfl, hb1⟩
      have hz := hz.trans (hb1.mono j7)
      obtain ⟨j1, j2, j3, j4, j5, j6, j7⟩ := hbox w1 hz
      go_wp2_with fail
      go_at_call 11
      refine (hF2 _).mono ?_
      rintro e w2 ⟨rfl, hb1⟩
      have hz := hz.trans (hb1.mono j7)
      obtain ⟨j1, j2, j3, j4, j5, j6, j7⟩ := hbox w2 hz
      go_wp2_with fail
      go_at_call 12
      refine (wawake_ok _).mono ?_
      rintro e w9 ⟨rfl, hb2⟩
      go_wp2
      go_ret
      exact ⟨rfl, (hB _ hz).trans (hb2.mono (hB _ hz).size)⟩
  · rw [decide_eq_false f1] at hF1
    go_enter Tryd.func3, Tryd.ntmps3
    go_wp2_with fail
    go_at_call 11
    refine (hF1 _).mono ?_
    rintro e w1 ⟨rfl, hb1⟩
    have hz := hz.trans (hb1.mono j7)
    obtain ⟨j1, j2, j3, j4, j5, j6, j7⟩ := hbox w1 hz
    go_wp2_with fail
    go_at_call 12
    refine (wawake_ok _).mono ?_
    rintro e w9 ⟨rfl, hb2⟩
    go_wp2
    go_ret
    exact ⟨rfl, (hB _ hz).trans (hb2.mono (hB _ hz).size)⟩
end Go.Proofs.YtegdbcnloodljaaDoor
