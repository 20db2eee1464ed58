/- whole.Mul. -/
import Derived.Test.YtegdbcnloodljaaDoorM1
import Derived.Test.YtegdbcnloodljaaDoorR6
import Derived.Deep.RegionHeld3
namespace Go.Proofs.YtegdbcnloodljaaDoor
set_option linter.unusedVariables false
set_option linter.unusedSimpArgs false
open Go.RowKit
set_option maxRecDepth 1000000

/-- a product, if nothing is too large. -/
def mulO (X Y : Int) : Option Int := if big X || big Y || big (X * Y) then none else some (X * Y)
theorem mulO_keep {X Y : Int} (h1 : big X = false) (h2 : big Y = false) : mulO X Y = keepO (X * Y) := by rw [mulO, h1, h2, Bool.false_or, Bool.false_or]; rfl
theorem valI_mul (b1 b2 : Bool) (xs ys zs : List Int) (h : val zs = val xs * val ys) : valI (b1 != b2) zs = valI b1 xs * valI b2 ys := by
  unfold valI
  rw [h]
  cases b1 <;> cases b2 <;> simp [Int.neg_mul, Int.mul_neg]

theorem form_can (neg : Bool) (A : Option Addr) (c : Nat) (zs : List Int) (base : Nat) (w : World) (hW : W32 zs) (hf : FrI w base .u32 A zs) (hl : zs.length ≤ c) (hc : c ≤ 9223372036854775807) (S : Int) (hS : valI neg zs = S) :
    Calls Tryd.prog 46 #[.bool neg, .slice A zs.length c] w fun e w' => ∃ A c, e = .returned (.agg #[.bool (cb (some S)), .slice A (cz (some S)).length c]) ∧ CanAt w' base (some S) A c ∧ Below w.heap.size w w' := by
  refine (form_int neg A c zs base w hW hf hl hc S hS).mono ?_
  rintro e w' ⟨b', A', n', c', rfl, hv, hb⟩
  obtain ⟨A2, c2, hv2, hc2⟩ := hv.can
  exact ⟨A2, c2, by rw [hv2], hc2, hb⟩

set_option maxHeartbeats 8000000 in
theorem wMul_ok (b1 b2 : Bool) (A B : Option Addr) (c d : Nat) (xs ys : List Int) (w : World) (hX : W32 xs) (hY : W32 ys) (hr : RdI w .u32 A xs) (hs : RdI w .u32 B ys) (hl : xs.length ≤ c) (hc : c ≤ 9223372036854775807) (hl2 : ys.length ≤ d) (hd : d ≤ 9223372036854775807) :
    Calls Tryd.prog 27 #[.agg #[.bool b1, .slice A xs.length c], .agg #[.bool b2, .slice B ys.length d]] w (RetO w (mulO (valI b1 xs) (valI b2 ys))) := by
  have hL1 : ∀ W, Below w.heap.size w W → Calls Tryd.prog 61 #[.agg #[.bool b1, .slice A xs.length c]] W fun e w' => e = .returned (.bool (big (valI b1 xs))) ∧ Below W.heap.size W w' := fun W hb => by
    have := wlong_ok b1 A c xs W (hr.later hb) hl hc
    rw [big_valI hX, ← show decide (256 < (trimN xs).length) = decide (BIG ≤ val xs) from by rw [Bool.eq_iff_iff]; simp only [decide_eq_true_eq]; exact long_iff hX]
    exact this
  have hL2 : ∀ W, Below w.heap.size w W → Calls Tryd.prog 61 #[.agg #[.bool b2, .slice B ys.length d]] W fun e w' => e = .returned (.bool (big (valI b2 ys))) ∧ Below W.heap.size W w' := fun W hb => by
    have := wlong_ok b2 B d ys W (hs.later hb) hl2 hd
    rw [big_valI hY, ← show decide (256 < (trimN ys).length) = decide (BIG ≤ val ys) from by rw [Bool.eq_iff_iff]; simp only [decide_eq_true_eq]; exact long_iff hY]
    exact this
  have hw0 : Below w.heap.size w (((w.alloc (.cells #[.bool b1, .slice A xs.length c] 24)).alloc (.cells #[.bool b2, .slice B ys.length d] 24)).alloc (.cells #[.bool false, .slice none 0 0] 24)) := (((Below.refl _ _).alloc (Nat.le_refl _) _).alloc (by simp) _).alloc (by simp; omega) _
  have hz0 : Below (w.heap.size + 3) (((w.alloc (.cells #[.bool b1, .slice A xs.length c] 24)).alloc (.cells #[.bool b2, .slice B ys.length d] 24)).alloc (.cells #[.bool false, .slice none 0 0] 24)) (((w.alloc (.cells #[.bool b1, .slice A xs.length c] 24)).alloc (.cells #[.bool b2, .slice B ys.length d] 24)).alloc (.cells #[.bool false, .slice none 0 0] 24)) := Below.refl _ _
  have s1 : big (valI b1 xs) = false → (trimN xs).length ≤ 256 := fun h => by
    rw [big_valI hX, decide_eq_false_iff_not, ← long_iff hX] at h; omega
  have s2 : big (valI b2 ys) = false → (trimN ys).length ≤ 256 := fun h => by
    rw [big_valI hY, decide_eq_false_iff_not, ← long_iff hY] at h; omega
  have e1 : valI b1 xs = valI b1 (trimN xs) := by rw [valI, valI, val_trimN]
  have e2 : valI b2 ys = valI b2 (trimN ys) := by rw [valI, valI, val_trimN]
  have hX2 := trimN_w32 hX
  have hY2 := trimN_w32 hY
  have rX : RdI w .u32 A (trimN xs) := hr.take _
  have rY : RdI w .u32 B (trimN ys) := hs.take _
  have lX := trimN_le xs
  have lY := trimN_le ys
  have hT1 : ∀ W, Below w.heap.size w W → Calls Tryd.prog 54 #[.slice A xs.length c] W fun e w' => e = .returned (.slice A (trimN xs).length c) ∧ w' = W := fun W hb => (trim_any A c xs W (hr.later hb) hl hc).mono fun e w' h => ⟨h.1, h.2.symm⟩
  have hT2 : ∀ W, Below w.heap.size w W → Calls Tryd.prog 54 #[.slice B ys.length d] W fun e w' => e = .returned (.slice B (trimN ys).length d) ∧ w' = W := fun W hb => (trim_any B d ys W (hs.later hb) hl2 hd).mono fun e w' h => ⟨h.1, h.2.symm⟩
  have hS := fun zs h => valI_mul b1 b2 (trimN xs) (trimN ys) zs h
  rw [← e1, ← e2] at hS
  generalize trimN xs = ps at *
  generalize trimN ys = qs at *
  clear e1 e2 hr hs hX hY
  generalize valI b1 xs = X at *
  generalize valI b2 ys = Y at *
  cases h1 : big X with
  | true =>
    rw [mulO, h1, Bool.true_or, Bool.true_or, if_pos rfl]
    rw [h1] at hL1
    go_enter Tryd.func27, Tryd.ntmps27
    go_wp2_with fail
    go_at_call 61
    refine (hL1 _ hw0).mono ?_
    rintro e w1 ⟨rfl, hb1⟩
    have hz1 := hz0.trans (hb1.mono (by simp))
    have hB1 := hw0.trans (hb1.mono hw0.size)
    obtain ⟨k1, k2, k3, k4, k5, k6, k7, k8, k9⟩ := boxes3 w _ _ _ _ w1 hz1
    go_wp2
    exact bodyPost_ret (v := none3) (by simp [results, none3, Tryd.results27, go_sem, k5, k6, k9]) rfl ⟨none, 0, rfl, can_none _ _, (hB1.setCell (p := ⟨w.heap.size + 1 + 1, 0, none⟩) (by simp; omega) _).setCell (p := ⟨w.heap.size + 1 + 1, 1, none⟩) (by simp; omega) _⟩
  | false =>
    rw [h1] at hL1
    cases h2 : big Y with
    | true =>
      rw [mulO, h1, h2, Bool.false_or, Bool.true_or, if_pos rfl]
      rw [h2] at hL2
      go_enter Tryd.func27, Tryd.ntmps27
      go_wp2_with fail
      go_at_call 61
      refine (hL1 _ hw0).mono ?_
      rintro e w1 ⟨rfl, hb1⟩
      have hz1 := hz0.trans (hb1.mono (by simp))
      have hB1 := hw0.trans (hb1.mono hw0.size)
      obtain ⟨k1, k2, k3, k4, k5, k6, k7, k8, k9⟩ := boxes3 w _ _ _ _ w1 hz1
      go_wp2_with fail
      go_at_call 61
      refine (hL2 _ hB1).mono ?_
      rintro e w2 ⟨rfl, hb2⟩
      have hz2 := hz1.trans (hb2.mono k9)
      have hB2 := hB1.trans (hb2.mono hB1.size)
      clear k1 k2 k3 k4 k5 k6 k7 k8 k9
      obtain ⟨k1, k2, k3, k4, k5, k6, k7, k8, k9⟩ := boxes3 w _ _ _ _ w2 hz2
      go_wp2
      exact bodyPost_ret (v := none3) (by simp [results, none3, Tryd.results27, go_sem, k5, k6, k9]) rfl ⟨none, 0, rfl, can_none _ _, (hB2.setCell (p := ⟨w.heap.size + 1 + 1, 0, none⟩) (by simp; omega) _).setCell (p := ⟨w.heap.size + 1 + 1, 1, none⟩) (by simp; omega) _⟩
    | false =>
      rw [h2] at hL2
      have s1 := s1 h1
      have s2 := s2 h2
      rw [mulO_keep h1 h2]
      clear h1 h2
      have HS := Lib.hid hS
      generalize X * Y = S at *
      clear hS
      have HF := Lib.hid (fun (A : Option Addr) (cc base : Nat) (W : World) (h : CanAt W base (some S) A cc) => fits_can h)
      generalize hO : keepO S = O at *
      clear hO
      have hmk : ∀ W : World, (Instr.makeSlice 22 (.int .i64 ((ps.length : Int) + (qs.length : Int))) (.int .i64 ((ps.length : Int) + (qs.length : Int)))).run Tryd.prog W = .ok (.slice (some ⟨W.heap.size, 0, none⟩) (ps.length + qs.length) (ps.length + qs.length)) (W.alloc (.cells (madeCells #[.int .u32 0] (ps.length + qs.length)) 62)) := fun W => by
        have := run_make_row' (P := Tryd.prog) 22 62 _ 4 Tryd.underlying22 u32_info rfl .i64 .i64 (ps.length + qs.length) (by omega) (by omega) W
        simpa using this
      go_enter Tryd.func27, Tryd.ntmps27
      go_wp2_with fail
      go_at_call 61
      refine (hL1 _ hw0).mono ?_
      rintro e w1 ⟨rfl, hb1⟩
      have hz1 := hz0.trans (hb1.mono (by simp))
      have hB1 := hw0.trans (hb1.mono hw0.size)
      obtain ⟨k1, k2, k3, k4, k5, k6, k7, k8, k9⟩ := boxes3 w _ _ _ _ w1 hz1
      go_wp2_with fail
      go_at_call 61
      refine (hL2 _ hB1).mono ?_
      rintro e w2 ⟨rfl, hb2⟩
      have hz2 := hz1.trans (hb2.mono k9)
      have hB2 := hB1.trans (hb2.mono hB1.size)
      clear k1 k2 k3 k4 k5 k6 k7 k8 k9
      obtain ⟨k1, k2, k3, k4, k5, k6, k7, k8, k9⟩ := boxes3 w _ _ _ _ w2 hz2
      have hT1 := fun m => hT1 (w2.drewN m) (hB2.trans ⟨rfl, rfl, rfl, Nat.le_refl _, fun _ _ => rfl⟩)
      have hT2 := fun m => hT2 (w2.drewN m) (hB2.trans ⟨rfl, rfl, rfl, Nat.le_refl _, fun _ _ => rfl⟩)
      go_wp2_with fail
      go_quiet (first | (go_at_call 54; first | (with_reducible refine Calls.quiet_of_same (hT1 _)) | (with_reducible refine Calls.quiet_of_same (hT2 _))))
      have hBq : Below w.heap.size w (w2.drewN nq) := hB2.trans ⟨rfl, rfl, rfl, Nat.le_refl _, fun _ _ => rfl⟩
      have hzq : Below (w.heap.size + 3) _ (w2.drewN nq) := hz2.trans ⟨rfl, rfl, rfl, Nat.le_refl _, fun _ _ => rfl⟩
      clear hL1 hL2 hT1 hT2 hb1 hb2 hz1 hB1 k1 k2 k3 k4 k5 k6 k7 k8 k9
      generalize w2.drewN nq = W at *
      obtain ⟨k1, k2, k3, k4, k5, k6, k7, k8, k9⟩ := boxes3 w _ _ _ _ W hzq
      have hown0 := World.ownsRow_lit (base := W.heap.size) (size := 1) (e := 62) W (madeCells #[.int .u32 0] (ps.length + qs.length)) (ps.length + qs.length) (Nat.le_refl _) (by unfold maxLen; omega) (by rw [size_madeCells]; omega)
      rw [made_zeros] at hown0
      have HU := Lib.hid (rX.later hBq)
      have HV := Lib.hid (rY.later hBq)
      have HW := Lib.hid (And.intro hX2 hY2)
      have hzB : ∀ W', Below W.heap.size W W' → Below (w.heap.size + 3) _ W' := fun W' h => hzq.trans (h.mono k9)
      have hBB : ∀ W', Below W.heap.size W W' → Below w.heap.size w W' := fun W' h => hBq.trans (h.mono hBq.size)
      have hWs := hBq.size
      clear rX rY hX2 hY2
      go_wp2
      go_loopw [35] (fun iv wr => ∃ (i : Nat) (fs : List Int), iv = .int .i64 i ∧ i ≤ ps.length ∧ wr.ownsRow W.heap.size 62 1 (.slice (some ⟨W.heap.size, 0, none⟩) (ps.length + qs.length) (ps.length + qs.length)) (ps.length + qs.length) (fs.map (Value.int .u32)) ∧ Below W.heap.size W wr ∧ Hid (MulI ps qs i fs)) (fun iv _ => ps.length - (intOf iv).toNat)
      case atStart => exact ⟨0, List.replicate (ps.length + qs.length) 0, rfl, Nat.zero_le _, hown0, (Below.refl _ W).alloc (Nat.le_refl _) _, Lib.hid (mulI_start ps qs)⟩
      case round =>
        obtain ⟨i, fs, rfl, hi, hown, hbw, hT⟩ := hrel
        have hgw : W.heap.size < wr.heap.size := hown_lt hown
        by_cases hp : i < ps.length
        · obtain ⟨ba, oa, z1, hA, ez1, fz1⟩ := HU.out i hp
          have g1 : ps[i]?.getD 0 = z1 := by rw [ez1]; rfl
          have w1 := HW.out.1.getD i
          rw [g1] at w1
          have G1 := Lib.hid g1
          have hd1 := cell_later hbw fz1
          have hb1 : ba < wr.heap.size := Nat.lt_of_lt_of_le (World.block_lt_of_cell? W _ fz1) hbw.size
          clear g1 ez1 fz1
          subst hA
          go_wp2
          go_loopw [11, 42] (fun cv kv wr => ∃ (j : Nat) (cr : Int) (fs : List Int), cv = .int .u64 cr ∧ kv = .int .i64 j ∧ j ≤ qs.length ∧ 0 ≤ cr ∧ cr ≤ 4294967295 ∧ wr.ownsRow W.heap.size 62 1 (.slice (some ⟨W.heap.size, 0, none⟩) (ps.length + qs.length) (ps.length + qs.length)) (ps.length + qs.length) (fs.map (Value.int .u32)) ∧ Below W.heap.size W wr ∧ Hid (MulJ ps qs i j cr fs)) (fun _ kv _ => qs.length - (intOf kv).toNat)
          case atStart => exact ⟨0, 0, fs, rfl, rfl, Nat.zero_le _, by omega, by omega, hown, hbw, Lib.hid (mulJ_start hT.out)⟩
          case round =>
            obtain ⟨j, cr, fs, rfl, rfl, hj, hc0, hc1, hown, hbw, hJ⟩ := hrel
            have hgw : W.heap.size < wr.heap.size := hown_lt hown
            have hfl := hJ.out.2.1
            by_cases hq : j < qs.length
            · obtain ⟨bb, ob, z2, hB, ez2, fz2⟩ := HV.out j hq
              have g2 : qs[j]?.getD 0 = z2 := by rw [ez2]; rfl
              have w2 := HW.out.2.getD j
              rw [g2] at w2
              have hd2 := cell_later hbw fz2
              have hb2 : bb < wr.heap.size := Nat.lt_of_lt_of_le (World.block_lt_of_cell? W _ fz2) hbw.size
              have hij : i + j < fs.length := by omega
              obtain ⟨f, hf⟩ : ∃ f, fs[i + j]?.getD 0 = f := ⟨_, rfl⟩
              have wf := hJ.out.1.getD (i + j)
              rw [hf] at wf
              have hcl : wr.cell? ⟨W.heap.size, i + j, none⟩ = some (.int .u32 f) := by
                rw [hown.cellAt (i + j) (by omega), List.getElem?_map, List.getElem?_eq_getElem hij]
                rw [List.getElem?_eq_getElem hij] at hf
                simp only [Option.getD_some] at hf
                rw [hf]; rfl
              have hfr : wr.frozen? ⟨W.heap.size, i + j, none⟩ = false := hown.frozenAt (i + j)
              have eij : (i : Int) + (j : Int) < (ps.length : Int) + (qs.length : Int) := by omega
              obtain ⟨pq, hpq⟩ : ∃ pq, z1 * z2 = pq := ⟨_, rfl⟩
              have hpb := pq_bound w1 w2
              rw [hpq] at hpb
              have ewp : IntKind.u64.wrap (z1 * z2) = pq := by rw [wrapU64, hpq]; omega
              obtain ⟨sm, hsm⟩ : ∃ sm, (cr + (pq + f)) % 4294967296 = sm := ⟨_, rfl⟩
              obtain ⟨c2, hc2⟩ : ∃ c2, (cr + (pq + f)) / 4294967296 = c2 := ⟨_, rfl⟩
              have ew : IntKind.u32.wrap (cr + (pq + f)) = sm := by rw [wrapU32]; exact hsm
              have hr1 : 0 ≤ sm ∧ sm ≤ 4294967295 ∧ 0 ≤ c2 ∧ c2 ≤ 4294967295 := by omega
              have hJ2 := mulJ_step hJ.out hq hp G1.out g2 hf hpq (z := sm) (c' := c2) (by omega) hr1.1 hr1.2.1
              have HJ := Lib.hid hJ2
              have HR := Lib.hid hr1
              clear hJ2 hJ hr1 hsm hf hpq g2 ez2 fz2
              subst hB
              go_wp2
              go_roundw
              case rel =>
                exact ⟨j + 1, c2, fs.set (i + j) sm, rfl, by go_num, by omega, HR.out.2.2.1, HR.out.2.2.2, by rw [List.map_set]; exact (hown.stored (i + j) (.int .u32 sm)).1, hbw.setCell (p := ⟨W.heap.size, i + j, none⟩) (Nat.le_refl _) _, HJ⟩
              case measure => simp [intOf]; omega
            · have hk2 : j = qs.length := by omega
              subst hk2
              have hij : i + qs.length < fs.length := by omega
              obtain ⟨old, hcl⟩ : ∃ old, wr.cell? ⟨W.heap.size, i + qs.length, none⟩ = some old := ⟨_, by rw [hown.cellAt (i + qs.length) (by omega)]; exact List.getElem?_eq_getElem (by rw [List.length_map]; omega)⟩
              have hfr : wr.frozen? ⟨W.heap.size, i + qs.length, none⟩ = false := hown.frozenAt (i + qs.length)
              have eij : (i : Int) + (qs.length : Int) < (ps.length : Int) + (qs.length : Int) := by omega
              have ew : IntKind.u32.wrap cr = cr := by rw [wrapU32]; omega
              have HJ := Lib.hid (mulJ_end hJ.out hp hc0 hc1)
              clear hJ
              go_wp2
              go_roundw
              case rel =>
                exact ⟨i + 1, fs.set (i + qs.length) cr, by go_num, by omega, by rw [List.map_set]; exact (hown.stored (i + qs.length) (.int .u32 cr)).1, hbw.setCell (p := ⟨W.heap.size, i + qs.length, none⟩) (Nat.le_refl _) _, HJ⟩
              case measure => simp [intOf]; omega
        · have hk2 : i = ps.length := by omega
          subst hk2
          have hv := HS.out fs (mulI_done hT.out)
          have hfl := hT.out.2.1
          have f3 : FrI wr (w.heap.size + 3) .u32 (some ⟨W.heap.size, 0, none⟩) fs := (FrI.of_own (n := ps.length + qs.length) (c := ps.length + qs.length) (e := 62) hown).mono k9
          have hzr := hzB wr hbw
          have hBr := hBB wr hbw
          have HFm := Lib.hid (fun (W' : World) (h : Below wr.heap.size wr W') => form_can (b1 != b2) (some ⟨W.heap.size, 0, none⟩) (ps.length + qs.length) fs (w.heap.size + 3) W' hT.out.1 (f3.later h) (by omega) (by omega) S hv)
          simp only [hfl] at HFm
          clear hv hT f3 hown
          obtain ⟨j1, j2, j3, j4, j5, j6, j7, j8, j9⟩ := boxes3 w _ _ _ _ wr hzr
          go_wp2_with (first
            | (go_at_call 46; refine (HFm.out _ (by first | exact Below.refl _ _ | exact below_drew (Below.refl _ _))).mono ?_; rintro e w4 ⟨A4, c4, rfl, hc4, b4⟩; have hz4 : Below (w.heap.size + 3) _ w4 := (by first | exact hzr.trans (b4.mono j9) | exact (below_drew hzr).trans (b4.mono j9)); have hB4 : Below w.heap.size w w4 := (by first | exact hBr.trans (b4.mono hBr.size) | exact (below_drew hBr).trans (b4.mono hBr.size)); obtain ⟨i1, i2, i3, i4, i5, i6, i7, i8, i9⟩ := boxes3 w _ _ _ _ w4 hz4)
            | (go_at_call 48; refine (HF.out _ _ _ _ hc4).mono ?_; rintro e w6 ⟨A6, c6, rfl, hc6, b6⟩; have hz6 := hz4.trans (b6.mono i9); have hB6 := hB4.trans (b6.mono hB4.size); obtain ⟨g1, g2, g3, g4, g5, g6, g7, g8, g9⟩ := boxes3 w _ _ _ _ w6 hz6))
          exact bodyPost_ret (v := .tuple #[.agg #[.bool (cb O), .slice A6 (cz O).length c6], .int .i64 (ce O)]) (by simp [results, Tryd.results27, go_sem, g5, g6, g7, g8, g9]) rfl ⟨_, _, rfl, ((hc6.setCell (p := ⟨w.heap.size + 1 + 1, 0, none⟩) (by simp <;> omega) _).setCell (p := ⟨w.heap.size + 1 + 1, 1, none⟩) (by simp <;> omega) _).mono (by omega), (hB6.setCell (p := ⟨w.heap.size + 1 + 1, 0, none⟩) (by simp <;> omega) _).setCell (p := ⟨w.heap.size + 1 + 1, 1, none⟩) (by simp <;> omega) _⟩
end Go.Proofs.YtegdbcnloodljaaDoor
