/- whole.add: the sum of sizes. -/
import Derived.Test.YtegdbcnloodljaaDoorW4
import Derived.Deep.OwnRows
namespace Go.Proofs.YtegdbcnloodljaaDoor
set_option linter.unusedVariables false
set_option linter.unusedSimpArgs false
open Go.RowKit
set_option maxRecDepth 1000000

theorem val_take_get (zs : List Int) (k : Nat) : val (zs.take (k + 1)) = val (zs.take k) + 4294967296 ^ k * (zs[k]?.getD 0) := by
  by_cases h : k < zs.length
  · rw [val_take_succ zs k h, List.getElem?_eq_getElem h]; rfl
  · rw [List.take_of_length_le (by omega), List.take_of_length_le (by omega), List.getElem?_eq_none (by omega)]; simp
theorem val_set_take (fs : List Int) (k : Nat) (z : Int) (h : k < fs.length) : val ((fs.set k z).take (k + 1)) = val (fs.take k) + 4294967296 ^ k * z := by
  rw [val_take_succ _ k (by rw [List.length_set]; exact h), List.take_set_of_le (Nat.le_refl k), List.getElem_set_self]
theorem W32.set {fs : List Int} (h : W32 fs) (k : Nat) (z : Int) (h0 : 0 ≤ z) (h1 : z ≤ 4294967295) : W32 (fs.set k z) := by
  intro x hx
  rcases List.mem_or_eq_of_mem_set hx with hx | rfl
  · exact h x hx
  · exact ⟨h0, h1⟩
theorem W32.getD {fs : List Int} (h : W32 fs) (k : Nat) : 0 ≤ fs[k]?.getD 0 ∧ fs[k]?.getD 0 ≤ 4294967295 := by
  by_cases hk : k < fs.length
  · rw [List.getElem?_eq_getElem hk]; exact h.get k hk
  · rw [List.getElem?_eq_none (by omega)]; simp
theorem W32.zeros (n : Nat) : W32 (List.replicate n 0) := by
  intro x hx
  rw [(List.mem_replicate.1 hx).2]; simp
theorem carry_step (P V VU VV x y c z c' : Int) (h : V + P * c = VU + VV) (hz : z + 4294967296 * c' = x + y + c) : (V + P * z) + P * 4294967296 * c' = (VU + P * x) + (VV + P * y) := by
  have h2 : P * (z + 4294967296 * c') = P * (x + y + c) := by rw [hz]
  grind
theorem made_zeros (n : Nat) : (madeCells #[Value.int .u32 0] n).toList = (List.replicate n (0 : Int)).map (Value.int .u32) := by
  apply List.ext_getElem
  · simp [madeCells]
  · intro i h1 h2
    simp [madeCells, Nat.mod_one]

theorem hown_lt {w : World} {base : Nat} {e : TypeId} {g n c : Nat} {xs : List Value} (h : w.ownsRow base e 1 (.slice (some ⟨g, 0, none⟩) n c) n xs) : g < w.heap.size := by
  rcases h.2 with ⟨hv, _⟩ | ⟨g', cap, cur, hv, _, hg, _⟩
  · cases hv
  · injection hv with hA _ _
    injection hA with hA
    injection hA with hA _ _
    rw [hA]
    exact (Array.getElem?_eq_some_iff.1 hg).1

set_option maxHeartbeats 1000000 in
theorem wadd_ok (A B : Option Addr) (c d : Nat) (xs ys : List Int) (w : World) (hX : W32 xs) (hY : W32 ys) (hr : RdI w .u32 A xs) (hs : RdI w .u32 B ys) (hl : xs.length ≤ c) (hc : c ≤ 9223372036854775807) (hl2 : ys.length ≤ d) (hd : d ≤ 9223372036854775807) (hm : xs.length ≤ 1000000) (hm2 : ys.length ≤ 1000000) :
    Calls Tryd.prog 62 #[.slice A xs.length c, .slice B ys.length d] w fun e w' => ∃ zs, W32 zs ∧ val zs = val xs + val ys ∧ zs.length ≤ 1000001 ∧ RetRow w .u32 zs e w' := by
  by_cases h : xs.length < ys.length
  · have hmk : ∀ W : World, (Instr.makeSlice 22 (.int .i64 ((ys.length : Int) + 1)) (.int .i64 ((ys.length : Int) + 1))).run Tryd.prog W = .ok (.slice (some ⟨W.heap.size, 0, none⟩) (ys.length + 1) (ys.length + 1)) (W.alloc (.cells (madeCells #[.int .u32 0] (ys.length + 1)) 62)) := fun W =>
      run_make_row' (P := Tryd.prog) 22 62 _ 4 Tryd.underlying22 u32_info rfl .i64 .i64 (ys.length + 1) (by omega) (by omega) W
    have hown0 := World.ownsRow_lit (base := w.heap.size) (size := 1) (e := 62) w (madeCells #[.int .u32 0] (ys.length + 1)) (ys.length + 1) (Nat.le_refl _) (by unfold maxLen; omega) (by rw [size_madeCells]; omega)
    rw [made_zeros] at hown0
    have HU := Lib.hid hs
    have HV := Lib.hid hr
    go_enter Tryd.func62, Tryd.ntmps62
    go_wp2
    go_loopw [6, 23] (fun cv iv wr => ∃ (k : Nat) (cr : Int) (fs : List Int), cv = .int .u32 cr ∧ iv = .int .i64 k ∧ k ≤ ys.length ∧ 0 ≤ cr ∧ cr ≤ 1 ∧ fs.length = ys.length + 1 ∧ Hid (W32 fs) ∧ wr.ownsRow w.heap.size 62 1 (.slice (some ⟨w.heap.size, 0, none⟩) (ys.length + 1) (ys.length + 1)) (ys.length + 1) (fs.map (Value.int .u32)) ∧ Below w.heap.size w wr ∧ Hid (val (fs.take k) + 4294967296 ^ k * cr = val (ys.take k) + val (xs.take k))) (fun _ iv _ => ys.length - (intOf iv).toNat)
    case atStart => exact ⟨0, 0, List.replicate (ys.length + 1) 0, rfl, rfl, Nat.zero_le _, by omega, by omega, by simp, Lib.hid (W32.zeros _), hown0, (Below.refl _ w).alloc (Nat.le_refl _) _, Lib.hid (by simp [val])⟩
    case round =>
      obtain ⟨k, cr, fs, rfl, rfl, hk, hc0, hc1, hfl, hWf, hown, hbw, hT⟩ := hrel
      have hgw : w.heap.size < wr.heap.size := hown_lt hown
      by_cases hp : k < ys.length
      · obtain ⟨b1, o1, z1, hA1, hz1, hcc1⟩ := HU.out k hp
        rw [List.getElem?_eq_getElem hp] at hz1
        injection hz1 with hz1
        have hd1 := cell_later hbw hcc1
        have hb1 : b1 < wr.heap.size := Nat.lt_of_lt_of_le (World.block_lt_of_cell? w _ hcc1) hbw.size
        have hx := hY.get k hp
        rw [hz1] at hx
        have hgU : ys[k]?.getD 0 = z1 := by rw [List.getElem?_eq_getElem hp, hz1]; rfl
        have hy := hX.getD k
        have hcl := hown.cellAt k (by omega)
        have hfr := hown.frozenAt k
        have hfr2 : wr.frozen? ⟨w.heap.size, k, none⟩ = false := hfr
        obtain ⟨old, hcl2⟩ : ∃ old, wr.cell? ⟨w.heap.size, k, none⟩ = some old := ⟨_, by rw [hcl]; exact List.getElem?_eq_getElem (by rw [List.length_map]; omega)⟩
        have hvt := val_take_get xs k
        have hut := val_take_get ys k
        rw [hgU] at hut
        have hT2 := hT.out
        have hWfo := hWf.out
        clear hcl hcc1 hT
        by_cases hq : k < xs.length
        · obtain ⟨b2, o2, z2, hA2, hz2, hcc2⟩ := HV.out k hq
          have hgV : xs[k]?.getD 0 = z2 := by rw [hz2]; rfl
          rw [hgV] at hy hvt
          have hd2 := cell_later hbw hcc2
          have hb2 : b2 < wr.heap.size := Nat.lt_of_lt_of_le (World.block_lt_of_cell? w _ hcc2) hbw.size
          have HVT := Lib.hid (And.intro hvt (And.intro hut hT2))
          have HWF := Lib.hid hWfo
          have hadd := fun wx => add32_ok z1 z2 cr wx hx hy ⟨hc0, hc1⟩
          have hzz : (z1 + z2 + cr) % 4294967296 + 4294967296 * ((z1 + z2 + cr) / 4294967296) = z1 + z2 + cr := by omega
          have hr1 : 0 ≤ (z1 + z2 + cr) % 4294967296 ∧ (z1 + z2 + cr) % 4294967296 ≤ 4294967295 ∧ 0 ≤ (z1 + z2 + cr) / 4294967296 ∧ (z1 + z2 + cr) / 4294967296 ≤ 1 := by omega
          clear hcc2 hgU hgV hvt hut hT2 hWfo hz1 hz2
          generalize (z1 + z2 + cr) % 4294967296 = sm at *
          generalize (z1 + z2 + cr) / 4294967296 = c2 at *
          have HZ := Lib.hid hzz
          have HR := Lib.hid hr1
          clear hzz hr1
          subst hA1 hA2
          go_wp2_with (go_at_call 78; refine (hadd _).mono ?_; rintro e w' ⟨rfl, rfl⟩)
          go_roundw
          case rel =>
            obtain ⟨v1, v2, v3⟩ := HVT.out
            obtain ⟨r1, r2, r3, r4⟩ := HR.out
            refine ⟨k + 1, c2, fs.set k sm, rfl, by go_num, by omega, r3, r4, by rw [List.length_set]; exact hfl, Lib.hid (HWF.out.set k sm r1 r2), by rw [List.map_set]; exact (hown.stored k (.int .u32 sm)).1, hbw.setCell (p := ⟨w.heap.size, k, none⟩) (Nat.le_refl _) _, Lib.hid ?_⟩
            rw [val_set_take fs k sm (by omega), v1, v2, Int.pow_succ]
            exact carry_step _ _ _ _ _ _ _ _ _ v3 HZ.out
          case measure => simp [intOf]; omega
        · have hgV : xs[k]?.getD 0 = 0 := by rw [List.getElem?_eq_none (by omega)]; rfl
          rw [hgV] at hvt
          have HVT := Lib.hid (And.intro hvt (And.intro hut hT2))
          have HWF := Lib.hid hWfo
          have hadd := fun wx => add32_ok z1 0 cr wx hx (by omega) ⟨hc0, hc1⟩
          have hzz : (z1 + 0 + cr) % 4294967296 + 4294967296 * ((z1 + 0 + cr) / 4294967296) = z1 + 0 + cr := by omega
          have hr1 : 0 ≤ (z1 + 0 + cr) % 4294967296 ∧ (z1 + 0 + cr) % 4294967296 ≤ 4294967295 ∧ 0 ≤ (z1 + 0 + cr) / 4294967296 ∧ (z1 + 0 + cr) / 4294967296 ≤ 1 := by omega
          clear hgU hgV hvt hut hT2 hWfo hz1 hy
          generalize (z1 + 0 + cr) % 4294967296 = sm at *
          generalize (z1 + 0 + cr) / 4294967296 = c2 at *
          have HZ := Lib.hid hzz
          have HR := Lib.hid hr1
          clear hzz hr1
          subst hA1
          go_wp2_with (go_at_call 78; refine (hadd _).mono ?_; rintro e w' ⟨rfl, rfl⟩)
          go_roundw
          case rel =>
            obtain ⟨v1, v2, v3⟩ := HVT.out
            obtain ⟨r1, r2, r3, r4⟩ := HR.out
            refine ⟨k + 1, c2, fs.set k sm, rfl, by go_num, by omega, r3, r4, by rw [List.length_set]; exact hfl, Lib.hid (HWF.out.set k sm r1 r2), by rw [List.map_set]; exact (hown.stored k (.int .u32 sm)).1, hbw.setCell (p := ⟨w.heap.size, k, none⟩) (Nat.le_refl _) _, Lib.hid ?_⟩
            rw [val_set_take fs k sm (by omega), v1, v2, Int.pow_succ]
            exact carry_step _ _ _ _ _ _ _ _ _ v3 HZ.out
          case measure => simp [intOf]; omega
      · have hk2 : k = ys.length := by omega
        subst hk2
        have hcl := hown.cellAt ys.length (by omega)
        have hfr2 : wr.frozen? ⟨w.heap.size, ys.length, none⟩ = false := hown.frozenAt ys.length
        obtain ⟨old, hcl2⟩ : ∃ old, wr.cell? ⟨w.heap.size, ys.length, none⟩ = some old := ⟨_, by rw [hcl]; exact List.getElem?_eq_getElem (by rw [List.length_map]; omega)⟩
        have hv : val (fs.set ys.length cr) = val xs + val ys := by
          have h1 := val_set_take fs ys.length cr (by omega)
          rw [List.take_of_length_le (by rw [List.length_set]; omega), hT.out, List.take_of_length_le (Nat.le_refl _), List.take_of_length_le (show xs.length ≤ ys.length by omega)] at h1
          first | exact h1 | (rw [h1]; omega)
        have hst := (hown.stored ys.length (.int .u32 cr)).1
        rw [← List.map_set] at hst
        have hW9 := hWf.out.set ys.length cr hc0 (by omega)
        have hB9 := hbw.setCell (p := ⟨w.heap.size, ys.length, none⟩) (Nat.le_refl _) (.int .u32 cr)
        have H9 := Lib.hid (And.intro hv (And.intro hst (And.intro hW9 hB9)))
        have hfl9 : (fs.set ys.length cr).length = ys.length + 1 := by rw [List.length_set]; exact hfl
        clear hcl hv hst hW9 hB9 hT hWf hown
        go_wp2
        go_ret
        obtain ⟨hv, hst, hW9, hB9⟩ := H9.out
        refine ⟨_, hW9, hv, by omega, some ⟨w.heap.size, 0, none⟩, ys.length + 1, by rw [hfl9]; rfl, by omega, by omega, FrI.of_own hst, hB9⟩
  · have hmk : ∀ W : World, (Instr.makeSlice 22 (.int .i64 ((xs.length : Int) + 1)) (.int .i64 ((xs.length : Int) + 1))).run Tryd.prog W = .ok (.slice (some ⟨W.heap.size, 0, none⟩) (xs.length + 1) (xs.length + 1)) (W.alloc (.cells (madeCells #[.int .u32 0] (xs.length + 1)) 62)) := fun W =>
      run_make_row' (P := Tryd.prog) 22 62 _ 4 Tryd.underlying22 u32_info rfl .i64 .i64 (xs.length + 1) (by omega) (by omega) W
    have hown0 := World.ownsRow_lit (base := w.heap.size) (size := 1) (e := 62) w (madeCells #[.int .u32 0] (xs.length + 1)) (xs.length + 1) (Nat.le_refl _) (by unfold maxLen; omega) (by rw [size_madeCells]; omega)
    rw [made_zeros] at hown0
    have HU := Lib.hid hr
    have HV := Lib.hid hs
    go_enter Tryd.func62, Tryd.ntmps62
    go_wp2
    go_loopw [6, 23] (fun cv iv wr => ∃ (k : Nat) (cr : Int) (fs : List Int), cv = .int .u32 cr ∧ iv = .int .i64 k ∧ k ≤ xs.length ∧ 0 ≤ cr ∧ cr ≤ 1 ∧ fs.length = xs.length + 1 ∧ Hid (W32 fs) ∧ wr.ownsRow w.heap.size 62 1 (.slice (some ⟨w.heap.size, 0, none⟩) (xs.length + 1) (xs.length + 1)) (xs.length + 1) (fs.map (Value.int .u32)) ∧ Below w.heap.size w wr ∧ Hid (val (fs.take k) + 4294967296 ^ k * cr = val (xs.take k) + val (ys.take k))) (fun _ iv _ => xs.length - (intOf iv).toNat)
    case atStart => exact ⟨0, 0, List.replicate (xs.length + 1) 0, rfl, rfl, Nat.zero_le _, by omega, by omega, by simp, Lib.hid (W32.zeros _), hown0, (Below.refl _ w).alloc (Nat.le_refl _) _, Lib.hid (by simp [val])⟩
    case round =>
      obtain ⟨k, cr, fs, rfl, rfl, hk, hc0, hc1, hfl, hWf, hown, hbw, hT⟩ := hrel
      have hgw : w.heap.size < wr.heap.size := hown_lt hown
      by_cases hp : k < xs.length
      · obtain ⟨b1, o1, z1, hA1, hz1, hcc1⟩ := HU.out k hp
        rw [List.getElem?_eq_getElem hp] at hz1
        injection hz1 with hz1
        have hd1 := cell_later hbw hcc1
        have hb1 : b1 < wr.heap.size := Nat.lt_of_lt_of_le (World.block_lt_of_cell? w _ hcc1) hbw.size
        have hx := hX.get k hp
        rw [hz1] at hx
        have hgU : xs[k]?.getD 0 = z1 := by rw [List.getElem?_eq_getElem hp, hz1]; rfl
        have hy := hY.getD k
        have hcl := hown.cellAt k (by omega)
        have hfr := hown.frozenAt k
        have hfr2 : wr.frozen? ⟨w.heap.size, k, none⟩ = false := hfr
        obtain ⟨old, hcl2⟩ : ∃ old, wr.cell? ⟨w.heap.size, k, none⟩ = some old := ⟨_, by rw [hcl]; exact List.getElem?_eq_getElem (by rw [List.length_map]; omega)⟩
        have hvt := val_take_get ys k
        have hut := val_take_get xs k
        rw [hgU] at hut
        have hT2 := hT.out
        have hWfo := hWf.out
        clear hcl hcc1 hT
        by_cases hq : k < ys.length
        · obtain ⟨b2, o2, z2, hA2, hz2, hcc2⟩ := HV.out k hq
          have hgV : ys[k]?.getD 0 = z2 := by rw [hz2]; rfl
          rw [hgV] at hy hvt
          have hd2 := cell_later hbw hcc2
          have hb2 : b2 < wr.heap.size := Nat.lt_of_lt_of_le (World.block_lt_of_cell? w _ hcc2) hbw.size
          have HVT := Lib.hid (And.intro hvt (And.intro hut hT2))
          have HWF := Lib.hid hWfo
          have hadd := fun wx => add32_ok z1 z2 cr wx hx hy ⟨hc0, hc1⟩
          have hzz : (z1 + z2 + cr) % 4294967296 + 4294967296 * ((z1 + z2 + cr) / 4294967296) = z1 + z2 + cr := by omega
          have hr1 : 0 ≤ (z1 + z2 + cr) % 4294967296 ∧ (z1 + z2 + cr) % 4294967296 ≤ 4294967295 ∧ 0 ≤ (z1 + z2 + cr) / 4294967296 ∧ (z1 + z2 + cr) / 4294967296 ≤ 1 := by omega
          clear hcc2 hgU hgV hvt hut hT2 hWfo hz1 hz2
          generalize (z1 + z2 + cr) % 4294967296 = sm at *
          generalize (z1 + z2 + cr) / 4294967296 = c2 at *
          have HZ := Lib.hid hzz
          have HR := Lib.hid hr1
          clear hzz hr1
          subst hA1 hA2
          go_wp2_with (go_at_call 78; refine (hadd _).mono ?_; rintro e w' ⟨rfl, rfl⟩)
          go_roundw
          case rel =>
            obtain ⟨v1, v2, v3⟩ := HVT.out
            obtain ⟨r1, r2, r3, r4⟩ := HR.out
            refine ⟨k + 1, c2, fs.set k sm, rfl, by go_num, by omega, r3, r4, by rw [List.length_set]; exact hfl, Lib.hid (HWF.out.set k sm r1 r2), by rw [List.map_set]; exact (hown.stored k (.int .u32 sm)).1, hbw.setCell (p := ⟨w.heap.size, k, none⟩) (Nat.le_refl _) _, Lib.hid ?_⟩
            rw [val_set_take fs k sm (by omega), v1, v2, Int.pow_succ]
            exact carry_step _ _ _ _ _ _ _ _ _ v3 HZ.out
          case measure => simp [intOf]; omega
        · have hgV : ys[k]?.getD 0 = 0 := by rw [List.getElem?_eq_none (by omega)]; rfl
          rw [hgV] at hvt
          have HVT := Lib.hid (And.intro hvt (And.intro hut hT2))
          have HWF := Lib.hid hWfo
          have hadd := fun wx => add32_ok z1 0 cr wx hx (by omega) ⟨hc0, hc1⟩
          have hzz : (z1 + 0 + cr) % 4294967296 + 4294967296 * ((z1 + 0 + cr) / 4294967296) = z1 + 0 + cr := by omega
          have hr1 : 0 ≤ (z1 + 0 + cr) % 4294967296 ∧ (z1 + 0 + cr) % 4294967296 ≤ 4294967295 ∧ 0 ≤ (z1 + 0 + cr) / 4294967296 ∧ (z1 + 0 + cr) / 4294967296 ≤ 1 := by omega
          clear hgU hgV hvt hut hT2 hWfo hz1 hy
          generalize (z1 + 0 + cr) % 4294967296 = sm at *
          generalize (z1 + 0 + cr) / 4294967296 = c2 at *
          have HZ := Lib.hid hzz
          have HR := Lib.hid hr1
          clear hzz hr1
          subst hA1
          go_wp2_with (go_at_call 78; refine (hadd _).mono ?_; rintro e w' ⟨rfl, rfl⟩)
          go_roundw
          case rel =>
            obtain ⟨v1, v2, v3⟩ := HVT.out
            obtain ⟨r1, r2, r3, r4⟩ := HR.out
            refine ⟨k + 1, c2, fs.set k sm, rfl, by go_num, by omega, r3, r4, by rw [List.length_set]; exact hfl, Lib.hid (HWF.out.set k sm r1 r2), by rw [List.map_set]; exact (hown.stored k (.int .u32 sm)).1, hbw.setCell (p := ⟨w.heap.size, k, none⟩) (Nat.le_refl _) _, Lib.hid ?_⟩
            rw [val_set_take fs k sm (by omega), v1, v2, Int.pow_succ]
            exact carry_step _ _ _ _ _ _ _ _ _ v3 HZ.out
          case measure => simp [intOf]; omega
      · have hk2 : k = xs.length := by omega
        subst hk2
        have hcl := hown.cellAt xs.length (by omega)
        have hfr2 : wr.frozen? ⟨w.heap.size, xs.length, none⟩ = false := hown.frozenAt xs.length
        obtain ⟨old, hcl2⟩ : ∃ old, wr.cell? ⟨w.heap.size, xs.length, none⟩ = some old := ⟨_, by rw [hcl]; exact List.getElem?_eq_getElem (by rw [List.length_map]; omega)⟩
        have hv : val (fs.set xs.length cr) = val xs + val ys := by
          have h1 := val_set_take fs xs.length cr (by omega)
          rw [List.take_of_length_le (by rw [List.length_set]; omega), hT.out, List.take_of_length_le (Nat.le_refl _), List.take_of_length_le (show ys.length ≤ xs.length by omega)] at h1
          first | exact h1 | (rw [h1]; omega)
        have hst := (hown.stored xs.length (.int .u32 cr)).1
        rw [← List.map_set] at hst
        have hW9 := hWf.out.set xs.length cr hc0 (by omega)
        have hB9 := hbw.setCell (p := ⟨w.heap.size, xs.length, none⟩) (Nat.le_refl _) (.int .u32 cr)
        have H9 := Lib.hid (And.intro hv (And.intro hst (And.intro hW9 hB9)))
        have hfl9 : (fs.set xs.length cr).length = xs.length + 1 := by rw [List.length_set]; exact hfl
        clear hcl hv hst hW9 hB9 hT hWf hown
        go_wp2
        go_ret
        obtain ⟨hv, hst, hW9, hB9⟩ := H9.out
        refine ⟨_, hW9, hv, by omega, some ⟨w.heap.size, 0, none⟩, xs.length + 1, by rw [hfl9]; rfl, by omega, by omega, FrI.of_own hst, hB9⟩
end Go.Proofs.YtegdbcnloodljaaDoor
