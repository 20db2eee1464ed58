/- whole.sub: the difference of sizes. -/
import Derived.Test.YtegdbcnloodljaaDoorW5
namespace Go.Proofs.YtegdbcnloodljaaDoor
set_option linter.unusedVariables false
set_option linter.unusedSimpArgs false
open Go.RowKit
set_option maxRecDepth 1000000

theorem borrow_step (P V VU VV x y c z c' : Int) (h : V = VU - VV + P * c) (hz : z - 4294967296 * c' = x - y - c) : V + P * z = (VU + P * x) - (VV + P * y) + P * 4294967296 * c' := by
  have h2 : P * (z - 4294967296 * c') = P * (x - y - c) := by rw [hz]
  grind

set_option maxHeartbeats 1000000 in
theorem wsub_ok (A B : Option Addr) (c d : Nat) (xs ys : List Int) (w : World) (hX : W32 xs) (hY : W32 ys) (hr : RdI w .u32 A xs) (hs : RdI w .u32 B ys) (hl : xs.length ≤ c) (hc : c ≤ 9223372036854775807) (hl2 : ys.length ≤ d) (hd : d ≤ 9223372036854775807) (hm : xs.length ≤ 1000000) (hlen : ys.length ≤ xs.length) (hle : val ys ≤ val xs) :
    Calls Tryd.prog 63 #[.slice A xs.length c, .slice B ys.length d] w fun e w' => ∃ zs, W32 zs ∧ val zs = val xs - val ys ∧ zs.length ≤ 1000001 ∧ RetRow w .u32 zs e w' := by
  have hmk : ∀ W : World, (Instr.makeSlice 22 (.int .i64 (xs.length : Int)) (.int .i64 (xs.length : Int))).run Tryd.prog W = .ok (.slice (some ⟨W.heap.size, 0, none⟩) xs.length xs.length) (W.alloc (.cells (madeCells #[.int .u32 0] xs.length) 62)) := fun W =>
    run_make_row' (P := Tryd.prog) 22 62 _ 4 Tryd.underlying22 u32_info rfl .i64 .i64 xs.length (by omega) (by omega) W
  have hown0 := World.ownsRow_lit (base := w.heap.size) (size := 1) (e := 62) w (madeCells #[.int .u32 0] xs.length) xs.length (Nat.le_refl _) (by unfold maxLen; omega) (by rw [size_madeCells]; omega)
  rw [made_zeros] at hown0
  have HU := Lib.hid hr
  have HV := Lib.hid hs
  go_enter Tryd.func63, Tryd.ntmps63
  go_wp2
  go_loopw [6, 15] (fun cv iv wr => ∃ (k : Nat) (cr : Int) (fs : List Int), cv = .int .u32 cr ∧ iv = .int .i64 k ∧ k ≤ xs.length ∧ 0 ≤ cr ∧ cr ≤ 1 ∧ fs.length = xs.length ∧ Hid (W32 fs) ∧ wr.ownsRow w.heap.size 62 1 (.slice (some ⟨w.heap.size, 0, none⟩) xs.length xs.length) xs.length (fs.map (Value.int .u32)) ∧ Below w.heap.size w wr ∧ Hid (val (fs.take k) = val (xs.take k) - val (ys.take k) + 4294967296 ^ k * cr)) (fun _ iv _ => xs.length - (intOf iv).toNat)
  case atStart => exact ⟨0, 0, List.replicate xs.length 0, rfl, rfl, Nat.zero_le _, by omega, by omega, by simp, Lib.hid (W32.zeros _), hown0, (Below.refl _ w).alloc (Nat.le_refl _) _, Lib.hid (by simp [val])⟩
  case round =>
    obtain ⟨k, cr, fs, rfl, rfl, hk, hc0, hc1, hfl, hWf, hown, hbw, hT⟩ := hrel
    have hgw : w.heap.size < wr.heap.size := hown_lt hown
    by_cases hp : k < xs.length
    · obtain ⟨b1, o1, z1, hA1, hz1, hcc1⟩ := HU.out k hp
      rw [List.getElem?_eq_getElem hp] at hz1
      injection hz1 with hz1
      have hd1 := cell_later hbw hcc1
      have hb1 : b1 < wr.heap.size := Nat.lt_of_lt_of_le (World.block_lt_of_cell? w _ hcc1) hbw.size
      have hx := hX.get k hp
      rw [hz1] at hx
      have hgU : xs[k]?.getD 0 = z1 := by rw [List.getElem?_eq_getElem hp, hz1]; rfl
      have hy := hY.getD k
      have hcl := hown.cellAt k (by omega)
      have hfr := hown.frozenAt k
      have hfr2 : wr.frozen? ⟨w.heap.size, k, none⟩ = false := hfr
      obtain ⟨old, hcl2⟩ : ∃ old, wr.cell? ⟨w.heap.size, k, none⟩ = some old := ⟨_, by rw [hcl]; exact List.getElem?_eq_getElem (by rw [List.length_map]; omega)⟩
      have hvt := val_take_get ys k
      have hut := val_take_get xs k
      rw [hgU] at hut
      have hT2 := hT.out
      have hWfo := hWf.out
      clear hcl hcc1 hT
      by_cases hq : k < ys.length
      · obtain ⟨b2, o2, z2, hA2, hz2, hcc2⟩ := HV.out k hq
        have hgV : ys[k]?.getD 0 = z2 := by rw [hz2]; rfl
        rw [hgV] at hy hvt
        have hd2 := cell_later hbw hcc2
        have hb2 : b2 < wr.heap.size := Nat.lt_of_lt_of_le (World.block_lt_of_cell? w _ hcc2) hbw.size
        have HVT := Lib.hid (And.intro hvt (And.intro hut hT2))
        have HWF := Lib.hid hWfo
        have hadd := fun wx => sub32_ok z1 z2 cr wx hx hy ⟨hc0, hc1⟩
        have hzz : (z1 - z2 - cr) % 4294967296 - 4294967296 * (if z1 < z2 + cr then 1 else 0) = z1 - z2 - cr := by split <;> omega
        have hr1 : 0 ≤ (z1 - z2 - cr) % 4294967296 ∧ (z1 - z2 - cr) % 4294967296 ≤ 4294967295 ∧ (0 : Int) ≤ (if z1 < z2 + cr then 1 else 0) ∧ (if z1 < z2 + cr then (1 : Int) else 0) ≤ 1 := by split <;> omega
        clear hcc2 hgU hgV hvt hut hT2 hWfo hz1 hz2
        generalize (z1 - z2 - cr) % 4294967296 = sm at *
        generalize (if z1 < z2 + cr then (1 : Int) else 0) = c2 at *
        have HZ := Lib.hid hzz
        have HR := Lib.hid hr1
        clear hzz hr1
        subst hA1 hA2
        go_wp2_with (go_at_call 79; refine (hadd _).mono ?_; rintro e w' ⟨rfl, rfl⟩)
        go_roundw
        case rel =>
          obtain ⟨v1, v2, v3⟩ := HVT.out
          obtain ⟨r1, r2, r3, r4⟩ := HR.out
          refine ⟨k + 1, c2, fs.set k sm, rfl, by go_num, by omega, r3, r4, by rw [List.length_set]; exact hfl, Lib.hid (HWF.out.set k sm r1 r2), by rw [List.map_set]; exact (hown.stored k (.int .u32 sm)).1, hbw.setCell (p := ⟨w.heap.size, k, none⟩) (Nat.le_refl _) _, Lib.hid ?_⟩
          rw [val_set_take fs k sm (by omega), v1, v2, Int.pow_succ]
          exact borrow_step _ _ _ _ _ _ _ _ _ v3 HZ.out
        case measure => simp [intOf]; omega
      · have hgV : ys[k]?.getD 0 = 0 := by rw [List.getElem?_eq_none (by omega)]; rfl
        rw [hgV] at hvt
        have HVT := Lib.hid (And.intro hvt (And.intro hut hT2))
        have HWF := Lib.hid hWfo
        have hadd := fun wx => sub32_ok z1 0 cr wx hx (by omega) ⟨hc0, hc1⟩
        have hzz : (z1 - 0 - cr) % 4294967296 - 4294967296 * (if z1 < 0 + cr then 1 else 0) = z1 - 0 - cr := by split <;> omega
        have hr1 : 0 ≤ (z1 - 0 - cr) % 4294967296 ∧ (z1 - 0 - cr) % 4294967296 ≤ 4294967295 ∧ (0 : Int) ≤ (if z1 < 0 + cr then 1 else 0) ∧ (if z1 < 0 + cr then (1 : Int) else 0) ≤ 1 := by split <;> omega
        clear hgU hgV hvt hut hT2 hWfo hz1 hy
        generalize (z1 - 0 - cr) % 4294967296 = sm at *
        generalize (if z1 < 0 + cr then (1 : Int) else 0) = c2 at *
        have HZ := Lib.hid hzz
        have HR := Lib.hid hr1
        clear hzz hr1
        subst hA1
        go_wp2_with (go_at_call 79; refine (hadd _).mono ?_; rintro e w' ⟨rfl, rfl⟩)
        go_roundw
        case rel =>
          obtain ⟨v1, v2, v3⟩ := HVT.out
          obtain ⟨r1, r2, r3, r4⟩ := HR.out
          refine ⟨k + 1, c2, fs.set k sm, rfl, by go_num, by omega, r3, r4, by rw [List.length_set]; exact hfl, Lib.hid (HWF.out.set k sm r1 r2), by rw [List.map_set]; exact (hown.stored k (.int .u32 sm)).1, hbw.setCell (p := ⟨w.heap.size, k, none⟩) (Nat.le_refl _) _, Lib.hid ?_⟩
          rw [val_set_take fs k sm (by omega), v1, v2, Int.pow_succ]
          exact borrow_step _ _ _ _ _ _ _ _ _ v3 HZ.out
        case measure => simp [intOf]; omega
    · have hk2 : k = xs.length := by omega
      subst hk2
      have hv : val fs = val xs - val ys := by
        have h1 := hT.out
        rw [List.take_of_length_le (by omega), List.take_of_length_le (Nat.le_refl _), List.take_of_length_le hlen] at h1
        have h2 := val_bound hWf.out
        rw [hfl] at h2
        have hc : cr = 0 ∨ cr = 1 := by omega
        rcases hc with rfl | rfl
        · omega
        · exfalso; omega
      have H9 := Lib.hid (And.intro hv (And.intro hown (And.intro hWf.out hbw)))
      clear hv hT hWf hown
      go_wp2
      go_ret
      obtain ⟨hv, hst, hW9, hB9⟩ := H9.out
      refine ⟨_, hW9, hv, by omega, some ⟨w.heap.size, 0, none⟩, xs.length, by rw [hfl]; rfl, by omega, by omega, FrI.of_own hst, hB9⟩
end Go.Proofs.YtegdbcnloodljaaDoor
