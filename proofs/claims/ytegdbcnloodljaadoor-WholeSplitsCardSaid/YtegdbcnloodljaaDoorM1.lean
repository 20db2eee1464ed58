/- Products of words, school-wise: the plain law; the reference's times (chapter 1). -/
import Derived.Test.YtegdbcnloodljaaDoorR5
import Derived.Test.YtegdbcnloodljaaDoorW5
namespace Go.Proofs.YtegdbcnloodljaaDoor
set_option linter.unusedVariables false
set_option linter.unusedSimpArgs false
open Go.RowKit
set_option maxRecDepth 1000000

theorem val_set : ∀ (fs : List Int) (k : Nat) (z : Int), k < fs.length → val (fs.set k z) = val fs + 4294967296 ^ k * (z - fs[k]?.getD 0)
  | [], k, z, h => by simp at h
  | f :: fs, 0, z, _ => by simp [val]; omega
  | f :: fs, k + 1, z, h => by
    have ih := val_set fs k z (by simpa using h)
    rw [List.set_cons_succ, val, val, ih, Int.pow_succ, List.getElem?_cons_succ]
    grind
/-- i words of the first factor are done. -/
def MulI (xs ys : List Int) (i : Nat) (fs : List Int) : Prop :=
  W32 fs ∧ fs.length = xs.length + ys.length ∧ val fs = val (xs.take i) * val ys ∧ ∀ k, i + ys.length ≤ k → fs[k]?.getD 0 = 0
/-- and j words of the second, with a carry. -/
def MulJ (xs ys : List Int) (i j : Nat) (cr : Int) (fs : List Int) : Prop :=
  W32 fs ∧ fs.length = xs.length + ys.length ∧ val fs + 4294967296 ^ (i + j) * cr = val (xs.take i) * val ys + 4294967296 ^ i * (xs[i]?.getD 0) * val (ys.take j) ∧ ∀ k, i + ys.length ≤ k → fs[k]?.getD 0 = 0
theorem mulI_start (xs ys : List Int) : MulI xs ys 0 (List.replicate (xs.length + ys.length) 0) := by
  refine ⟨W32.zeros _, by simp, by rw [val_zeros]; simp [val], fun k _ => ?_⟩
  rw [List.getElem?_replicate]
  split <;> rfl
theorem mulJ_start {xs ys fs : List Int} {i : Nat} (h : MulI xs ys i fs) : MulJ xs ys i 0 0 fs :=
  ⟨h.1, h.2.1, by rw [h.2.2.1]; simp [val], h.2.2.2⟩
theorem mul_eq (V P Q c x T f z c' pq y : Int) (h : V + Q * P * c = T) (hp : x * y = pq) (hz : z + 4294967296 * c' = c + pq + f) : V + Q * P * (z - f) + Q * P * 4294967296 * c' = T + Q * x * (P * y) := by
  have h2 : Q * P * (z + 4294967296 * c') = Q * P * (c + pq + f) := by rw [hz]
  subst hp
  grind
theorem mulJ_step {xs ys fs : List Int} {i j : Nat} {cr x y f z c' pq : Int} (h : MulJ xs ys i j cr fs) (hj : j < ys.length) (hi : i < xs.length) (hx : xs[i]?.getD 0 = x) (hy : ys[j]?.getD 0 = y) (hf : fs[i + j]?.getD 0 = f) (hp : x * y = pq)
    (hz : z + 4294967296 * c' = cr + pq + f) (hz0 : 0 ≤ z) (hz1 : z ≤ 4294967295) : MulJ xs ys i (j + 1) c' (fs.set (i + j) z) := by
  obtain ⟨h1, h2, h3, h4⟩ := h
  refine ⟨h1.set _ _ hz0 hz1, by rw [List.length_set]; exact h2, ?_, fun k hk => ?_⟩
  · rw [val_set fs (i + j) z (by omega), hf, val_take_get ys j, hy, hx, show i + (j + 1) = i + j + 1 by omega, Int.pow_succ, Int.mul_add, ← Int.add_assoc, ← hx, ← h3, hx, Int.pow_add]
    rw [Int.pow_add] at h3
    exact mul_eq _ _ _ _ _ _ _ _ _ _ _ rfl hp hz
  · rw [List.getElem?_set_ne (by omega)]; exact h4 k hk
theorem mulJ_end {xs ys fs : List Int} {i : Nat} {cr : Int} (h : MulJ xs ys i ys.length cr fs) (hi : i < xs.length) (h0 : 0 ≤ cr) (h1' : cr ≤ 4294967295) : MulI xs ys (i + 1) (fs.set (i + ys.length) cr) := by
  obtain ⟨h1, h2, h3, h4⟩ := h
  refine ⟨h1.set _ _ h0 h1', by rw [List.length_set]; exact h2, ?_, fun k hk => ?_⟩
  · rw [val_set fs _ cr (by omega), h4 _ (Nat.le_refl _), Int.sub_zero, h3, List.take_length, val_take_get xs i, Int.add_mul]
  · rw [List.getElem?_set_ne (by omega)]; exact h4 k (by omega)
theorem mulI_done {xs ys fs : List Int} (h : MulI xs ys xs.length fs) : val fs = val xs * val ys := by
  rw [h.2.2.1, List.take_length]
theorem pq_bound {x y : Int} (hx : 0 ≤ x ∧ x ≤ 4294967295) (hy : 0 ≤ y ∧ y ≤ 4294967295) : 0 ≤ x * y ∧ x * y ≤ 18446744065119617025 := by
  refine ⟨Int.mul_nonneg hx.1 hy.1, ?_⟩
  exact Int.mul_le_mul hx.2 hy.2 hy.1 (by decide)

set_option maxHeartbeats 2000000 in
theorem refTimes_ok (A B : Option Addr) (c d : Nat) (xs ys : List Int) (w : World) (hX : W32 xs) (hY : W32 ys) (hr : RdI w .u32 A xs) (hs : RdI w .u32 B ys) (hl : xs.length ≤ c) (hc : c ≤ 9223372036854775807) (hl2 : ys.length ≤ d) (hd : d ≤ 9223372036854775807) (hm : xs.length ≤ 400000) (hm2 : ys.length ≤ 400000) :
    Calls Tryd.prog 51 #[.slice A xs.length c, .slice B ys.length d] w fun e w' => ∃ zs, W32 zs ∧ val zs = val xs * val ys ∧ zs.length ≤ xs.length + ys.length ∧ RetRow w .u32 zs e w' := by
  have hmk : ∀ W : World, (Instr.makeSlice 22 (.int .i64 ((xs.length : Int) + (ys.length : Int))) (.int .i64 ((xs.length : Int) + (ys.length : Int)))).run Tryd.prog W = .ok (.slice (some ⟨W.heap.size, 0, none⟩) (xs.length + ys.length) (xs.length + ys.length)) (W.alloc (.cells (madeCells #[.int .u32 0] (xs.length + ys.length)) 62)) := fun W => by
    have := run_make_row' (P := Tryd.prog) 22 62 _ 4 Tryd.underlying22 u32_info rfl .i64 .i64 (xs.length + ys.length) (by omega) (by omega) W
    simpa using this
  have hown0 := World.ownsRow_lit (base := w.heap.size) (size := 1) (e := 62) w (madeCells #[.int .u32 0] (xs.length + ys.length)) (xs.length + ys.length) (Nat.le_refl _) (by unfold maxLen; omega) (by rw [size_madeCells]; omega)
  rw [made_zeros] at hown0
  have HU := Lib.hid hr
  have HV := Lib.hid hs
  go_enter Tryd.func51, Tryd.ntmps51
  go_wp2
  go_loopw [6] (fun iv wr => ∃ (i : Nat) (fs : List Int), iv = .int .i64 i ∧ i ≤ xs.length ∧ wr.ownsRow w.heap.size 62 1 (.slice (some ⟨w.heap.size, 0, none⟩) (xs.length + ys.length) (xs.length + ys.length)) (xs.length + ys.length) (fs.map (Value.int .u32)) ∧ Below w.heap.size w wr ∧ Hid (MulI xs ys i fs)) (fun iv _ => xs.length - (intOf iv).toNat)
  case atStart => exact ⟨0, List.replicate (xs.length + ys.length) 0, rfl, Nat.zero_le _, hown0, (Below.refl _ w).alloc (Nat.le_refl _) _, Lib.hid (mulI_start xs ys)⟩
  case round =>
    obtain ⟨i, fs, rfl, hi, hown, hbw, hT⟩ := hrel
    have hgw : w.heap.size < wr.heap.size := hown_lt hown
    by_cases hp : i < xs.length
    · obtain ⟨ba, oa, z1, hA, ez1, fz1⟩ := HU.out i hp
      have g1 : xs[i]?.getD 0 = z1 := by rw [ez1]; rfl
      have w1 := hX.getD i
      rw [g1] at w1
      have G1 := Lib.hid g1
      clear g1 ez1
      subst hA
      go_wp2
      go_loopw [7, 8] (fun cv kv wr => ∃ (j : Nat) (cr : Int) (fs : List Int), cv = .int .u64 cr ∧ kv = .int .i64 j ∧ j ≤ ys.length ∧ 0 ≤ cr ∧ cr ≤ 4294967295 ∧ wr.ownsRow w.heap.size 62 1 (.slice (some ⟨w.heap.size, 0, none⟩) (xs.length + ys.length) (xs.length + ys.length)) (xs.length + ys.length) (fs.map (Value.int .u32)) ∧ Below w.heap.size w wr ∧ Hid (MulJ xs ys i j cr fs)) (fun _ kv _ => ys.length - (intOf kv).toNat)
      case atStart => exact ⟨0, 0, fs, rfl, rfl, Nat.zero_le _, by omega, by omega, hown, hbw, Lib.hid (mulJ_start hT.out)⟩
      case round =>
        obtain ⟨j, cr, fs, rfl, rfl, hj, hc0, hc1, hown, hbw, hJ⟩ := hrel
        have hgw : w.heap.size < wr.heap.size := hown_lt hown
        have hd1 := cell_later hbw fz1
        have hb1 : ba < wr.heap.size := Nat.lt_of_lt_of_le (World.block_lt_of_cell? w _ fz1) hbw.size
        have hfl := hJ.out.2.1
        by_cases hq : j < ys.length
        · obtain ⟨bb, ob, z2, hB, ez2, fz2⟩ := HV.out j hq
          have g2 : ys[j]?.getD 0 = z2 := by rw [ez2]; rfl
          have w2 := hY.getD j
          rw [g2] at w2
          have hd2 := cell_later hbw fz2
          have hb2 : bb < wr.heap.size := Nat.lt_of_lt_of_le (World.block_lt_of_cell? w _ fz2) hbw.size
          have hij : i + j < fs.length := by omega
          obtain ⟨f, hf⟩ : ∃ f, fs[i + j]?.getD 0 = f := ⟨_, rfl⟩
          have wf := hJ.out.1.getD (i + j)
          rw [hf] at wf
          have hcl : wr.cell? ⟨w.heap.size, i + j, none⟩ = some (.int .u32 f) := by
            rw [hown.cellAt (i + j) (by omega), List.getElem?_map, List.getElem?_eq_getElem hij]
            rw [List.getElem?_eq_getElem hij] at hf
            simp only [Option.getD_some] at hf
            rw [hf]; rfl
          have hfr : wr.frozen? ⟨w.heap.size, i + j, none⟩ = false := hown.frozenAt (i + j)
          have eij : (i : Int) + (j : Int) < (xs.length : Int) + (ys.length : Int) := by omega
          obtain ⟨pq, hpq⟩ : ∃ pq, z1 * z2 = pq := ⟨_, rfl⟩
          have hpb := pq_bound w1 w2
          rw [hpq] at hpb
          have ewp : IntKind.u64.wrap (z1 * z2) = pq := by rw [wrapU64, hpq]; omega
          obtain ⟨sm, hsm⟩ : ∃ sm, (cr + pq + f) % 4294967296 = sm := ⟨_, rfl⟩
          obtain ⟨c2, hc2⟩ : ∃ c2, (cr + pq + f) / 4294967296 = c2 := ⟨_, rfl⟩
          have ew : IntKind.u32.wrap (cr + pq + f) = sm := by rw [wrapU32]; exact hsm
          have hr1 : 0 ≤ sm ∧ sm ≤ 4294967295 ∧ 0 ≤ c2 ∧ c2 ≤ 4294967295 := by omega
          have hJ2 := mulJ_step hJ.out hq hp G1.out g2 hf hpq (z := sm) (c' := c2) (by omega) hr1.1 hr1.2.1
          have HJ := Lib.hid hJ2
          have HR := Lib.hid hr1
          clear hJ2 hJ hr1 hsm hf hpq g2 ez2 fz2
          subst hB
          go_wp2
          go_quiet (fail)
          go_wp2
          go_roundw
          case rel =>
            exact ⟨j + 1, c2, fs.set (i + j) sm, rfl, by go_num, by omega, HR.out.2.2.1, HR.out.2.2.2, by rw [List.map_set]; exact ((show (wr.drewN nq).ownsRow w.heap.size 62 1 _ _ _ from hown).stored (i + j) (.int .u32 sm)).1, (show Below w.heap.size w (wr.drewN nq) from hbw.trans ⟨rfl, rfl, rfl, Nat.le_refl _, fun _ _ => rfl⟩).setCell (p := ⟨w.heap.size, i + j, none⟩) (Nat.le_refl _) _, HJ⟩
          case measure => simp [intOf]; omega
        · have hk2 : j = ys.length := by omega
          subst hk2
          have hij : i + ys.length < fs.length := by omega
          obtain ⟨old, hcl⟩ : ∃ old, wr.cell? ⟨w.heap.size, i + ys.length, none⟩ = some old := ⟨_, by rw [hown.cellAt (i + ys.length) (by omega)]; exact List.getElem?_eq_getElem (by rw [List.length_map]; omega)⟩
          have hfr : wr.frozen? ⟨w.heap.size, i + ys.length, none⟩ = false := hown.frozenAt (i + ys.length)
          have eij : (i : Int) + (ys.length : Int) < (xs.length : Int) + (ys.length : Int) := by omega
          have ew : IntKind.u32.wrap cr = cr := by rw [wrapU32]; omega
          have HJ := Lib.hid (mulJ_end hJ.out hp hc0 hc1)
          clear hJ
          go_wp2
          go_roundw
          case rel =>
            exact ⟨i + 1, fs.set (i + ys.length) cr, by go_num, by omega, by rw [List.map_set]; exact (hown.stored (i + ys.length) (.int .u32 cr)).1, hbw.setCell (p := ⟨w.heap.size, i + ys.length, none⟩) (Nat.le_refl _) _, HJ⟩
          case measure => simp [intOf]; omega
    · have hk2 : i = xs.length := by omega
      subst hk2
      have hv := mulI_done hT.out
      have hfl := hT.out.2.1
      have HV2 := Lib.hid hv
      clear hv
      go_wp2
      go_ret
      exact ⟨fs, hT.out.1, HV2.out, by omega, _, xs.length + ys.length, by rw [hfl]; rfl, by omega, by omega, FrI.of_own (n := xs.length + ys.length) (c := xs.length + ys.length) (e := 62) hown, hbw⟩
end Go.Proofs.YtegdbcnloodljaaDoor
