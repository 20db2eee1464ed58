/- whole.divide: sizes divided. -/
import Derived.Test.YtegdbcnloodljaaDoorD2
import Derived.Test.YtegdbcnloodljaaDoorD3
import Derived.Test.YtegdbcnloodljaaDoorClone
import Derived.Test.YtegdbcnloodljaaDoorW1
import Derived.Deep.RegionHeld3
import Derived.Deep.DeepCutAuto
namespace Go.Proofs.YtegdbcnloodljaaDoor
set_option linter.unusedVariables false
set_option linter.unusedSimpArgs false
open Go.RowKit
set_option maxRecDepth 1000000

/-- what is handed back of two sizes. -/
def RetQ (w : World) (X Y : Int) (e : Ending) (w' : World) : Prop :=
  ∃ (A1 A2 : Option Addr) (c1 c2 : Nat) (qs rs : List Int), e = .returned (.tuple #[.slice A1 qs.length c1, .slice A2 rs.length c2]) ∧ qs.length ≤ c1 ∧ c1 ≤ 9223372036854775807 ∧ rs.length ≤ c2 ∧ c2 ≤ 9223372036854775807 ∧ qs.length ≤ 1000000 ∧ rs.length ≤ 1000000 ∧
    W32 qs ∧ W32 rs ∧ FrI w' w.heap.size .u32 A1 qs ∧ FrI w' w.heap.size .u32 A2 rs ∧ X = Y * val qs + val rs ∧ val rs < Y ∧ Below w.heap.size w w'

theorem fr_one (W : World) (base : Nat) (hb : base ≤ W.heap.size) (a : Int) : FrI (W.alloc (.cells #[.int .u32 a] 62)) base .u32 (some ⟨W.heap.size, 0, none⟩) [a] := by
  have h := World.ownsRow_lit (base := base) (size := 1) (e := 62) W #[.int .u32 a] 1 hb (by decide) rfl
  exact FrI.of_own (n := 1) (zs := [a]) h

theorem corI_pos {vs ws0 ws : List Int} {j : Nat} {d : Int} (hW : W32 ws0) (h : CorI vs ws0 j d true ws) : 1 ≤ d := by
  obtain ⟨g1, g2, g3, g4, g5, g6, g7, g8⟩ := h
  have g9 := g8.1 rfl
  have h7 := val_nn hW
  rcases Int.lt_or_le d 1 with h | h
  · have : d = 0 := by omega
    subst this
    rw [Int.zero_mul, Int.mul_zero] at g9
    omega
  · exact h
theorem lz_ok (y : Int) (h0 : 1 ≤ y) (h1 : y ≤ 4294967295) : ∃ k : Nat, k ≤ 31 ∧ (32 - (Lib.bitLen y.toNat : Int)) = (k : Int) ∧ (y + 1) * 2 ^ k ≤ 4294967296 := by
  obtain ⟨m, rfl⟩ := Int.eq_ofNat_of_zero_le (show 0 ≤ y by omega)
  rw [show ((m : Int)).toNat = m from rfl]
  have h2 := Any.bitLen_le32 (m : Int) (by omega) h1
  rw [show ((m : Int)).toNat = m from rfl] at h2
  have h3 : m < 2 ^ Lib.bitLen m := bitLenAux_lt 64 m (by omega)
  have h3' : 1 ≤ Lib.bitLen m ∧ m < 2 ^ Lib.bitLen m := by
    refine ⟨?_, h3⟩
    rcases Nat.eq_zero_or_pos (Lib.bitLen m) with e | e
    · rw [e] at h3; omega
    · exact e
  generalize Lib.bitLen m = L at *
  refine ⟨32 - L, by omega, by omega, ?_⟩
  have h4 : (m + 1) * 2 ^ (32 - L) ≤ 2 ^ L * 2 ^ (32 - L) := Nat.mul_le_mul_right _ h3'.2
  rw [← Nat.pow_add, show L + (32 - L) = 32 by omega] at h4
  have e : ((m : Int) + 1) * 2 ^ (32 - L) = (((m + 1) * 2 ^ (32 - L) : Nat) : Int) := by push_cast; rfl
  rw [e]
  omega
theorem norm_lt {ys : List Int} {n k : Nat} {y : Int} (hY : W32 ys) (hn : ys.length = n + 2) (hy : ys[n + 1]?.getD 0 = y) (hk : (y + 1) * 2 ^ k ≤ 4294967296) : 2 ^ k * val ys < 4294967296 ^ (n + 2) := by
  have h1 := val_cut ys (n + 1)
  rw [drop_word, hy, List.drop_eq_nil_of_le (by omega)] at h1
  have h2 := take_lt hY (n + 1)
  have hD : (0 : Int) < 2 ^ k := Int.pow_pos (by decide)
  have hP := pow_pos (n + 1)
  rw [show n + 2 = n + 1 + 1 from rfl, Int.pow_succ]
  generalize (4294967296 : Int) ^ (n + 1) = P at *
  generalize (2 : Int) ^ k = D at *
  simp only [val, Int.mul_zero, Int.add_zero] at h1
  have h3 : val ys < P * (y + 1) := by rw [h1]; grind
  have h4 : D * val ys < D * (P * (y + 1)) := Int.mul_lt_mul_of_pos_left h3 hD
  have h5 : P * ((y + 1) * D) ≤ P * 4294967296 := Int.mul_le_mul_of_nonneg_left hk (by omega)
  have e : D * (P * (y + 1)) = P * ((y + 1) * D) := by grind
  omega

theorem shift_at (A : Option Addr) (c k : Nat) (xs : List Int) (w0 w : World) (hX : W32 xs) (hr : RdI w0 .u32 A xs) (hl : xs.length ≤ c) (hc : c ≤ 9223372036854775807) (hm : xs.length ≤ 1000000) (hk : k ≤ 31) (hw : Below w0.heap.size w0 w) :
    Calls Tryd.prog 84 #[.slice A xs.length c, .int .i64 k] w fun e w' => ∃ (g : Nat) (fs : List Int), e = .returned (.slice (some ⟨g, 0, none⟩) (xs.length + 1) (xs.length + 1)) ∧ w.heap.size ≤ g ∧ g < w'.heap.size ∧ fs.length = xs.length + 1 ∧ W32 fs ∧ val fs = 2 ^ k * val xs ∧ RowU w' g fs ∧ Below w0.heap.size w0 w' ∧ Below w.heap.size w w' :=
  (shift_ok A c k xs w hX (hr.later hw) hl hc hm hk).mono fun e w' ⟨fs, he, h1, h2, h3, h4, h5⟩ => by
    obtain ⟨z, -, hz, -⟩ := h4 0 (by omega)
    exact ⟨w.heap.size, fs, he, Nat.le_refl _, World.block_lt_of_cell? _ _ hz, h1, h2, h3, h4, hw.trans (h5.mono hw.size), h5⟩

set_option maxHeartbeats 4000000 in
theorem wdivide_ok (A B : Option Addr) (c d : Nat) (xs ys : List Int) (w : World) (hX : W32 xs) (hY : W32 ys) (nX : NT xs) (nY : NT ys) (hr : RdI w .u32 A xs) (hs : RdI w .u32 B ys) (hl : xs.length ≤ c) (hc : c ≤ 9223372036854775807) (hl2 : ys.length ≤ d) (hd : d ≤ 9223372036854775807) (hm : xs.length ≤ 100000) (hm2 : ys.length ≤ 100000) (h0 : 0 < ys.length) :
    Calls Tryd.prog 69 #[.slice A xs.length c, .slice B ys.length d] w (RetQ w (val xs) (val ys)) := by
  have hcmp := wcompare_ok A B c d xs ys w hX hY hr hs hl hc hl2 hd
  have hvx := val_nn hX
  rcases Int.lt_or_le (val xs) (val ys) with hlt | hge
  · have e3 : cmp3 (val xs) (val ys) = -1 := by unfold cmp3; rw [if_pos hlt]
    rw [e3] at hcmp
    go_enter Tryd.func69, Tryd.ntmps69
    go_wp2_with (go_at_call 44; refine hcmp.mono ?_; rintro e w1 ⟨rfl, b1⟩)
    go_wp2_with fail
    go_at_call 53
    refine (clone_ok A c xs w1 (hr.later b1) (by omega) hc).mono ?_
    rintro e w2 ⟨A2, c2, rfl, l2, m2, f2, b2⟩
    go_wp2
    go_ret2
    exact ⟨none, A2, 0, c2, [], xs, rfl, Nat.le_refl _, by omega, l2, m2, by simp, by omega, W32.nil, hX, fun i hi => absurd hi (by simp), f2.mono b1.size, by simp [val], hlt, b1.trans (b2.mono b1.size)⟩
  · have hlen : ys.length ≤ xs.length := by
      have h1 := (nt_len hY nY (ys.length - 1)).1 (by omega)
      have := (nt_len hX nX (ys.length - 1)).2 (by omega)
      omega
    have e3 : 0 ≤ cmp3 (val xs) (val ys) := by unfold cmp3; rw [if_neg (by omega)]; split <;> omega
    generalize cmp3 (val xs) (val ys) = cm at *
    by_cases h1 : ys.length = 1
    · obtain ⟨y, rfl⟩ := List.length_eq_one_iff.1 h1
      have hyb := hY.head
      have hy0 : 0 < y := by
        have := (nt_len hY nY 0).1 (by simp)
        simp [val] at this; omega
      obtain ⟨b0, o0, y', rfl, hy', hyc⟩ := hs 0 (by simp)
      have hyy : y' = y := by simpa using hy'.symm
      subst hyy
      simp only [Nat.add_zero] at hyc
      simp only [List.length_singleton] at hcmp hl2
      clear hy'
      go_enter Tryd.func69, Tryd.ntmps69
      go_wp2_with (go_at_call 44; refine hcmp.mono ?_; rintro e w1 ⟨rfl, b1⟩; have hyc1 := cell_later b1 hyc; have hyl : b0 < w1.heap.size := World.block_lt_of_cell? _ _ hyc1)
      go_wp2_with fail
      go_at_call 82
      refine (short_ok A c xs y' w1 hX (hr.later b1) hl hc (by omega) hy0 hyb.2).mono ?_
      rintro e w2 ⟨A1, c1, fs, r, rfl, l1, m1, e1, wf, f1, r0, r1, hv, b2⟩
      have fr := fr_one w2 w2.heap.size (Nat.le_refl _) r
      go_wp2
      go_ret2
      exact ⟨A1, _, c1, 1, fs, [r], by rw [e1]; rfl, l1, m1, by simp, by omega, by omega, by simp, wf, W32.cons r0 (by omega) W32.nil, (f1.later ((Below.refl _ _).alloc (Nat.le_refl _) _)).mono b1.size, fr.mono (Nat.le_trans b1.size b2.size), by simp only [val]; rw [hv]; grind, by simp only [val]; omega, (b1.trans (b2.mono b1.size)).alloc (Nat.le_trans b1.size b2.size) _⟩
    · obtain ⟨n, hn⟩ : ∃ n, ys.length = n + 2 := ⟨ys.length - 2, by omega⟩
      obtain ⟨m, hm'⟩ : ∃ m, xs.length = m + (n + 2) := ⟨xs.length - (n + 2), by omega⟩
      obtain ⟨b0, o0, y, hB, hy, hyc⟩ := hs (n + 1) (by omega)
      subst hB
      have hyb := hY.getD (n + 1)
      rw [hy] at hyb
      have hyb : 0 ≤ y ∧ y ≤ 4294967295 := hyb
      have hvt := (nt_len hY nY (n + 1)).1 (by omega)
      have hvb := val_bound hY
      rw [hn] at hvb
      have hyn : ¬ (y = 0) := fun e => by
        have := (top_word (p := n + 1) hY hvb).1 (by rw [hy, Option.getD_some, e])
        omega
      obtain ⟨k, hk, hLk, hkb⟩ := lz_ok y (by omega) hyb.2
      have hnorm := norm_lt (k := k) hY hn (y := y) (by rw [hy, Option.getD_some]) hkb
      have hLZ := fun W => Tryd.bits_LeadingZeros32 y W hyb.1 hyb.2
      rw [hLk] at hLZ
      have HK := Lib.hid (And.intro hvt (And.intro hnorm hy))
      clear hvt hvb hyn hLk hkb hnorm hy
      have y1 : ((ys.length : Int) == 1) = false := by simp; omega
      have y2 : ((ys.length : Int) - 1) = ((n + 1 : Nat) : Int) := by omega
      have HN := Lib.hid (And.intro hn hm')
      have y3 : n + 1 < ys.length := by omega
      clear hn hm'
      go_enter Tryd.func69, Tryd.ntmps69
      go_wp2_with (go_at_call 44; refine hcmp.mono ?_; rintro e w1 ⟨rfl, b1⟩; have hyc1 := cell_later b1 hyc; have hyl : b0 < w1.heap.size := World.block_lt_of_cell? _ _ hyc1)
      go_upto_region 7 with (go_at_call 83; refine (hLZ _).mono ?_; rintro e w2 ⟨rfl, rfl⟩)
      have hrX := hr.later b1
      have hrY := hs.later b1
      have z1 := b1.size
      go_cut [9, 10] (fun v9 v10 wx => ∃ (gu gv : Nat) (us vf : List Int), v9 = .slice (some ⟨gu, 0, none⟩) (xs.length + 1) (xs.length + 1) ∧ v10 = .slice (some ⟨gv, 0, none⟩) ys.length (ys.length + 1) ∧ gu ≠ gv ∧ w.heap.size ≤ gu ∧ w.heap.size ≤ gv ∧ RowU wx gu us ∧ RowU wx gv vf ∧ Below w.heap.size w wx ∧ us.length = xs.length + 1 ∧ vf.length = ys.length + 1 ∧ Hid (W32 us ∧ W32 vf ∧ val us = 2 ^ k * val xs ∧ val vf = 2 ^ k * val ys))
      case first =>
        have HPK : ∀ W, Below w2.heap.size w2 W → w2.heap.size ≤ W.heap.size := fun W h => h.size
        have hlen3 : (ys.length : Int) ≤ ys.length + 1 := by omega
        have hd2 : Below w2.heap.size w2 w2.drew := below_drew (Below.refl _ _)
        have hsh := fun W (h : Below w2.heap.size w2 W) => shift_at A c k xs w2 W hX hrX hl hc (by omega) hk h
        have hsh2 := fun W (h : Below w2.heap.size w2 W) => shift_at (some ⟨b0, o0, none⟩) d k ys w2 W hY hrY hl2 hd (by omega) hk h
        go_region_held3 (fun W => w2.heap.size ≤ W.heap.size) (exact HPK _ (by repeat first | with_reducible exact Below.refl _ _ | with_reducible assumption | with_reducible refine below_drew ?_)) (first
          | (go_at_call 84; refine (hsh _ hd2).mono ?_; rintro e w3 ⟨gu, us, rfl, gu0, gu1, lu, wu, hu, Ru, H3, -⟩; have HU := Lib.hid (And.intro lu (And.intro wu hu)); clear lu wu hu hsh)
          | (go_at_call 84; refine (hsh2 _ H3).mono ?_; rintro e w4 ⟨gv, vf, rfl, gv0, gv1, lv, wv, hv, Rv, H4, H34⟩))
        all_goals
          go_wp2_with fail
          go_meet
          exact ⟨gu, gv, us, vf, rfl, rfl, Nat.ne_of_lt (Nat.lt_of_lt_of_le gu1 gv0), Nat.le_trans z1 gu0, Nat.le_trans z1 (Nat.le_trans H3.size gv0), Ru.later H34, Rv, (b1.trans (H4.mono z1)), HU.out.1, lv, Lib.hid ⟨HU.out.2.1, wv, HU.out.2.2, hv⟩⟩
      case rest =>
        obtain ⟨gu, gv, us, vf, rfl, rfl, hne, bu, bv, Ru, Rv, hB, lu, lv, HU⟩ := hcut
        obtain ⟨W8, rfl⟩ : ∃ W8, W8 = wc := ⟨wc, rfl⟩
        have hmk : ∀ W : World, (Instr.makeSlice 22 (.int .i64 ((xs.length : Int) - (ys.length : Int) + 1)) (.int .i64 ((xs.length : Int) - (ys.length : Int) + 1))).run Tryd.prog W = .ok (.slice (some ⟨W.heap.size, 0, none⟩) (m + 1) (m + 1)) (W.alloc (.cells (madeCells #[.int .u32 0] (m + 1)) 62)) := fun W => by
          rw [show ((xs.length : Int) - (ys.length : Int) + 1) = ((m + 1 : Nat) : Int) by rw [HN.out.1, HN.out.2]; omega]
          exact run_make_row' (P := Tryd.prog) 22 62 _ 4 Tryd.underlying22 u32_info rfl .i64 .i64 (m + 1) (by have := HN.out; omega) (by have := HN.out; omega) W
        have hown0 := World.ownsRow_lit (base := W8.heap.size) (size := 1) (e := 62) W8 (madeCells #[.int .u32 0] (m + 1)) (m + 1) (Nat.le_refl _) (by have := HN.out; unfold maxLen; omega) (by rw [size_madeCells]; omega)
        rw [made_zeros] at hown0
        have Rq : RowU (W8.alloc (.cells (madeCells #[.int .u32 0] (m + 1)) 62)) W8.heap.size (List.replicate (m + 1) 0) := RowU.of_fr (FrI.of_own (n := m + 1) (c := m + 1) (zs := List.replicate (m + 1) 0) hown0)
        have gu1 : gu < W8.heap.size := World.block_lt_of_cell? _ _ (Ru 0 (by omega)).choose_spec.2.1
        have gv1 : gv < W8.heap.size := World.block_lt_of_cell? _ _ (Rv 0 (by omega)).choose_spec.2.1
        replace Ru := Ru.later ((Below.refl W8.heap.size W8).alloc (Nat.le_refl _) (.cells (madeCells #[.int .u32 0] (m + 1)) 62))
        replace Rv := Rv.later ((Below.refl W8.heap.size W8).alloc (Nat.le_refl _) (.cells (madeCells #[.int .u32 0] (m + 1)) 62))
        replace hB := hB.alloc hB.size (.cells (madeCells #[.int .u32 0] (m + 1)) 62)
        obtain ⟨vs, hvs⟩ : ∃ vs, vf.take ys.length = vs := ⟨_, rfl⟩
        have hvl : vs.length = ys.length := by rw [← hvs, List.length_take]; omega
        have wvs : W32 vs := by rw [← hvs]; exact HU.out.2.1.take' _
        have hvv : val vs = 2 ^ k * val ys := by
          have h1 := val_cut vf ys.length
          have h2 := drop_zero HU.out.2.1 (p := ys.length) (by rw [HU.out.2.2.2, HN.out.1]; exact HK.out.2.1)
          rw [h2, hvs, HU.out.2.2.2] at h1
          omega
        have hDI : DivI vs (2 ^ k * val xs) (m + 1) us (List.replicate (m + 1) 0) :=
          divI_start (n := n + 1) (Int.pow_pos (by decide)) hX hY nY HU.out.1 (W32.zeros _) HN.out.1 (by rw [HN.out.2]; omega) hvv HU.out.2.2.1 (val_zeros _) (fun i => by by_cases h : i < m + 1 <;> simp [h, List.getElem?_replicate])
        have hW8 : w.heap.size ≤ W8.heap.size := by omega
        have hmb : m ≤ 100000 := by have := HN.out; omega
        have hrv := fun (W : World) (h : RowU W gv vf) => show RdI W .u32 (some ⟨gv, 0, none⟩) vs by
          have := (h.rd 0).take ys.length
          rwa [List.drop_zero, hvs] at this
        have HI := Lib.hid hDI
        have HV := Lib.hid (And.intro wvs (And.intro hvl (And.intro hvv hvs)))
        clear hown0 hDI hvs hvv wvs
        go_wp2
        go_loopw [12] (fun v12 wr => ∃ (j : Nat) (us qs : List Int), v12 = .int .i64 ((j : Int) - 1) ∧ j ≤ m + 1 ∧ RowU wr gu us ∧ RowU wr gv vf ∧ RowU wr W8.heap.size qs ∧ us.length = xs.length + 1 ∧ qs.length = m + 1 ∧ Hid (DivI vs (2 ^ k * val xs) j us qs) ∧ Below w.heap.size w wr ∧ W8.heap.size < wr.heap.size) (fun v12 _ => (intOf v12 + 1).toNat)
        case atStart => exact ⟨m + 1, us, List.replicate (m + 1) 0, (by have h9 := HN.out; refine congrArg (Value.int .i64) ?_; omega), Nat.le_refl _, Ru, Rv, Rq, lu, by simp, HI, hB, by simp⟩
        case round =>
          clear Ru Rv Rq HI hB
          obtain ⟨j', us, qs, rfl, hj', Ru, Rv, Rq, lu, lq, hI, hB, hwc⟩ := hrel
          by_cases hp : 0 < j'
          · obtain ⟨j, rfl⟩ : ∃ j, j' = j + 1 := ⟨j' - 1, by omega⟩
            have e1 : (((j + 1 : Nat) : Int) - 1) = (j : Int) := by omega
            rw [e1]
            have hjn : j + n + 2 ≤ xs.length := by have := HN.out; omega
            have hjy : j + ys.length < xs.length + 1 := by have := HN.out; omega
            have y5 : ((j : Int) + (ys.length : Int) - 1) = ((j + n + 1 : Nat) : Int) := by have := HN.out; omega
            have y6 : ((j : Int) + (ys.length : Int) - 2) = ((j + n : Nat) : Int) := by have := HN.out; omega
            have i1 : (j : Int) + (ys.length : Int) < (xs.length : Int) + 1 := by omega
            have i2 : (j : Int) + (n : Int) + 1 < (xs.length : Int) + 1 := by omega
            have i3 : (j : Int) + (n : Int) < (xs.length : Int) + 1 := by omega
            have i4 : (n : Int) + 1 < (ys.length : Int) := by omega
            have i5 : (n : Int) < (ys.length : Int) := by omega
            have i6 : (0 : Int) ≤ (j : Int) + (ys.length : Int) := by omega
            have y7 : ((ys.length : Int) - 2) = (n : Int) := by have := HN.out; omega
            obtain ⟨a2, ha2, ca2, -⟩ := Ru (j + ys.length) (by omega)
            obtain ⟨a1, ha1, ca1, -⟩ := Ru (j + n + 1) (by omega)
            obtain ⟨a0, ha0, ca0, -⟩ := Ru (j + n) (by omega)
            obtain ⟨x1, hx1, cx1, -⟩ := Rv (n + 1) (by omega)
            obtain ⟨x0, hx0, cx0, -⟩ := Rv n (by omega)
            have gu1 : gu < wr.heap.size := World.block_lt_of_cell? _ _ ca2
            have gv1 : gv < wr.heap.size := World.block_lt_of_cell? _ _ cx0
            have HG : ∀ dd, GuessOk a2 a1 a0 x1 x0 dd → val us < 4294967296 ^ (j + ys.length + 1) ∧ ∀ q, 0 ≤ q → q ≤ 4294967295 → 4294967296 ^ j * (q * val vs) ≤ val us → q ≤ dd := fun dd hG => by
              have h1 := guess_top (d := dd) (n := n) HV.out.1 hI.out.1 (HV.out.2.1.trans HN.out.1) hI.out.2.2.2.1 (by
                have e2 : j + n + 2 = j + ys.length := by rw [HN.out.1]; omega
                rw [e2, ha2, ha1, ha0, ← HV.out.2.2.2, List.getElem?_take_of_lt (by omega), List.getElem?_take_of_lt (by omega), hx1, hx0]
                exact hG)
              rwa [HV.out.2.1] at h1
            have hgb := fun W => guess_ok a2 a1 a0 x1 x0 W (by have := hI.out.1.getD (j + ys.length); rwa [ha2] at this) (by have := hI.out.1.getD (j + n + 1); rwa [ha1] at this) (by have := hI.out.1.getD (j + n); rwa [ha0] at this) (by have := HU.out.2.1.getD (n + 1); rwa [hx1] at this) (by have := HU.out.2.1.getD n; rwa [hx0] at this)
            go_upto_region 13 with fail
            go_cut [13] (fun v13 wx => ∃ dd, v13 = .int .u64 dd ∧ Hid (GuessOk a2 a1 a0 x1 x0 dd) ∧ Below wr.heap.size wr wx)
            case first =>
              have HPK : ∀ W, Below wr.heap.size wr W → (W.cell? ⟨gu, j + ys.length, none⟩ = some (.int .u32 a2) ∧ W.cell? ⟨gu, j + n + 1, none⟩ = some (.int .u32 a1) ∧ W.cell? ⟨gu, j + n, none⟩ = some (.int .u32 a0) ∧ W.cell? ⟨gv, n + 1, none⟩ = some (.int .u32 x1) ∧ W.cell? ⟨gv, n, none⟩ = some (.int .u32 x0) ∧ gu < W.heap.size ∧ gv < W.heap.size) := fun W h => ⟨cell_later h ca2, cell_later h ca1, cell_later h ca0, cell_later h cx1, cell_later h cx0, Nat.lt_of_lt_of_le gu1 h.size, Nat.lt_of_lt_of_le gv1 h.size⟩
              have hdr : Below wr.heap.size wr wr.drew := below_drew (Below.refl _ _)
              have wr1 : IntKind.i64.wrap ((j : Int) + (ys.length : Int)) = (j : Int) + (ys.length : Int) := by rw [IntKind.wrap_i64]; omega
              have wr2 : IntKind.i64.wrap ((j : Int) + (ys.length : Int) - 1) = (j : Int) + (n : Int) + 1 := by rw [IntKind.wrap_i64]; omega
              have wr3 : IntKind.i64.wrap ((j : Int) + (ys.length : Int) - 2) = (j : Int) + (n : Int) := by rw [IntKind.wrap_i64]; omega
              have wr4 : IntKind.i64.wrap ((ys.length : Int) - 1) = (n : Int) + 1 := by rw [IntKind.wrap_i64]; omega
              have wr5 : IntKind.i64.wrap ((ys.length : Int) - 2) = (n : Int) := by rw [IntKind.wrap_i64]; omega
              have t1 : ((j : Int) + (ys.length : Int)).toNat = j + ys.length := by omega
              have t2 : ((j : Int) + (n : Int) + 1).toNat = j + n + 1 := by omega
              have t3 : ((j : Int) + (n : Int)).toNat = j + n := by omega
              have t4 : ((n : Int) + 1).toNat = n + 1 := by omega
              have i7 : (0 : Int) ≤ (j : Int) + (n : Int) + 1 := by omega
              have i8 : (0 : Int) ≤ (j : Int) + (n : Int) := by omega
              have i9 : (0 : Int) ≤ (n : Int) + 1 := by omega
              have i10 : (0 : Int) ≤ (n : Int) := by omega
              clear HG ha2 ha1 ha0 hx1 hx0 Ru Rv Rq hB hI y2 y5 y6 y7
              go_region_held3 (fun W => W.cell? ⟨gu, j + ys.length, none⟩ = some (.int .u32 a2) ∧ W.cell? ⟨gu, j + n + 1, none⟩ = some (.int .u32 a1) ∧ W.cell? ⟨gu, j + n, none⟩ = some (.int .u32 a0) ∧ W.cell? ⟨gv, n + 1, none⟩ = some (.int .u32 x1) ∧ W.cell? ⟨gv, n, none⟩ = some (.int .u32 x0) ∧ gu < W.heap.size ∧ gv < W.heap.size) (exact HPK _ (by repeat first | with_reducible exact Below.refl _ _ | with_reducible assumption | with_reducible refine below_drew ?_)) (first
                | (go_at_call 85; refine (hgb _).mono ?_; rintro e w5 ⟨dd, rfl, hG, b5⟩; have H5 : Below wr.heap.size wr w5 := (by first | with_reducible exact b5 | exact hdr.trans b5); have HGd := Lib.hid hG; clear hG)
                | fail)
              all_goals
                go_wp2_with fail
                go_meet
                exact ⟨dd, rfl, HGd, H5⟩
            case rest =>
              obtain ⟨dd, rfl, hG, b5⟩ := hcut
              obtain ⟨hu1, hq1⟩ := HG dd hG.out
              have hd0 := hG.out.1
              have hd1 := hG.out.2.1
              replace Ru := Ru.later b5
              replace Rv := Rv.later b5
              replace Rq := Rq.later b5
              replace hB := hB.trans (b5.mono hB.size)
              replace hwc := Nat.lt_of_lt_of_le hwc b5.size
              have hlw : j + ys.length + 1 - j = ys.length + 1 := by omega
              have hTk := fun (W : World) (us' : List Int) (Rw : RowU W gu us') (Rvw : RowU W gv vf) (wu : W32 us') (lu' : us'.length = xs.length + 1) (d' : Int) (h0 : 0 ≤ d') (h1 : d' ≤ 4294967295) => take_ok gu j w.heap.size (xs.length + 1 - j) (ys.length + 1) us' vs (some ⟨gv, 0, none⟩) d' W wu HV.out.1 Rw bu (by rw [HV.out.2.1]; omega) (hrv W Rvw) (fun _ ad h => by injection h with h; subst h; exact Ne.symm hne) h0 h1 (by rw [HV.out.2.1]; omega) (by omega) (by rw [HV.out.2.1]; omega) (by omega) (by omega)
              have hGv := fun (W : World) (us' : List Int) (Rw : RowU W gu us') (Rvw : RowU W gv vf) (wu : W32 us') (lu' : us'.length = xs.length + 1) => give_ok gu j w.heap.size (xs.length + 1 - j) (ys.length + 1) us' vs (some ⟨gv, 0, none⟩) W wu HV.out.1 Rw bu (by rw [HV.out.2.1]; omega) (hrv W Rvw) (fun _ ad h => by injection h with h; subst h; exact Ne.symm hne) (by rw [HV.out.2.1]; omega) (by omega) (by rw [HV.out.2.1]; omega) (by omega) (by omega)
              simp only [HV.out.2.1] at hTk hGv
              have HQ := Lib.hid (And.intro hu1 hq1)
              clear HG ha2 ha1 ha0 hx1 hx0 ca2 ca1 ca0 cx1 cx0 hgb hu1 hq1
              go_wp2_with fail
              go_at_call 86
              rw [hlw]
              refine (hTk _ us Ru Rv hI.out.1 lu dd hd0 hd1).mono ?_
              rintro e w6 ⟨us1, bo, rfl, hbo, hT1, Ru1, O1, B1⟩
              have hbe : (bo != 0) = decide (bo = 1) := by rcases hbo with rfl | rfl <;> rfl
              rw [hbe]
              have HC := Lib.hid (corI_start (vs := vs) (ws0 := us) (ws := us1) (j := j) hI.out.1 (by rw [HV.out.2.1]; exact HQ.out.1) (by rw [HV.out.2.1]; exact hT1) hbo hd0 hd1 HQ.out.2)
              have Rv1 := Rv.only (Ne.symm hne) O1
              have Rq1 := Rq.only (by omega) O1
              have hB1 := hB.trans B1
              have hwc1 := Nat.lt_of_lt_of_le hwc O1.1
              clear hT1 hbe hTk Ru Rv Rq hB hwc O1 B1 hbo
              have lu1 : us1.length = us.length := HC.out.1
              go_wp2
              go_loopw [13, 14] (fun v13 v14 wr => ∃ (d' : Int) (too : Bool) (us' : List Int), v13 = .int .u64 d' ∧ v14 = .bool too ∧ RowU wr gu us' ∧ RowU wr gv vf ∧ RowU wr W8.heap.size qs ∧ us'.length = us.length ∧ 0 ≤ d' ∧ d' ≤ 4294967295 ∧ Hid (CorI vs us j d' too us') ∧ Below w.heap.size w wr ∧ W8.heap.size < wr.heap.size) (fun v13 _ _ => (intOf v13).toNat)
              case atStart => exact ⟨dd, decide (bo = 1), us1, rfl, rfl, Ru1, Rv1, Rq1, lu1, hd0, hd1, HC, hB1, hwc1⟩
              case round =>
                clear HC Ru1 Rv1 Rq1 hB1 hwc1 lu1 hd0 hd1
                obtain ⟨d', too, us', rfl, rfl, Ru, Rv, Rq, lu', hd0, hd1, hC, hB, hwc⟩ := hrel
                cases too with
                | true =>
                  have hpos := corI_pos hI.out.1 hC.out
                  have HCS := fun (ws' : List Int) (kk : Int) h hk => corI_step (ws' := ws') (k := kk) HV.out.1 hI.out.1 (by rw [HV.out.2.1]; exact HQ.out.1) hC.out h hk
                  simp only [HV.out.2.1] at HCS
                  have HCH := Lib.hid HCS
                  have wus := hC.out.2.1
                  clear HCS
                  go_wp2_with fail
                  go_at_call 87
                  rw [hlw]
                  refine (hGv _ us' Ru Rv wus (lu'.trans lu)).mono ?_
                  rintro e w7 ⟨us2, kk, rfl, hkk, hT2, Ru2, O2, B2⟩
                  have lu2 : us2.length = us.length := hT2.1.trans lu'
                  have HC2 := Lib.hid (HCH.out us2 kk hT2 hkk)
                  obtain ⟨z2, hz2, cz2, fz2⟩ := Ru2 (j + ys.length) (by omega)
                  rw [hz2, Option.getD_some] at HC2
                  have hg2 : gu < w7.heap.size := World.block_lt_of_cell? _ _ cz2
                  have Rv2 := Rv.only (Ne.symm hne) O2
                  have Rq2 := Rq.only (by omega) O2
                  have hB2 := hB.trans B2
                  have hwc2 := Nat.lt_of_lt_of_le hwc O2.1
                  clear hT2 hz2 Ru Rv Rq hB hwc O2 B2 hkk HCH hC wus hGv
                  go_wp2
                  go_roundw
                  case rel => exact ⟨d' - 1, decide (z2 ≠ 0), us2, by first | rfl | go_num, by first | rfl | exact congrArg Value.bool (by simp [bne, BEq.beq]) | exact congrArg Value.bool (by rw [Bool.eq_iff_iff]; simp), Ru2, Rv2, Rq2, lu2, by omega, by omega, HC2.out.2, hB2, hwc2⟩
                  case measure => simp [intOf]; omega
                | false =>
                  have HDI := Lib.hid (divI_step HV.out.1 hI.out (by omega) hC.out)
                  have ewd : IntKind.u32.wrap d' = d' := by rw [wrapU32]; omega
                  obtain ⟨zq, hzq, czq, fzq⟩ := Rq j (by omega)
                  have Rqs := Rq.set j (by omega) d'
                  have ijm : (j : Int) < (m : Int) + 1 := by omega
                  have hneq : W8.heap.size ≠ gu ∧ W8.heap.size ≠ gv := by omega
                  clear hC HQ hI hGv
                  go_wp2
                  go_roundw
                  case rel => exact ⟨j, us', qs.set j d', rfl, by omega, Ru.only (Ne.symm hneq.1) ((Only.refl _ _).set), Rv.only (Ne.symm hneq.2) ((Only.refl _ _).set), Rqs, by omega, by rw [List.length_set]; exact lq, HDI, hB.setCell (p := ⟨W8.heap.size, j, none⟩) hW8 _, by rw [World.size_setCell]; exact hwc⟩
                  case measure => simp [intOf]
          · have hj0 : j' = 0 := by omega
            subst hj0
            have hmk2 : ∀ W : World, (Instr.makeSlice 22 (.int .i64 (ys.length : Int)) (.int .i64 (ys.length : Int))).run Tryd.prog W = .ok (.slice (some ⟨W.heap.size, 0, none⟩) ys.length ys.length) (W.alloc (.cells (madeCells #[.int .u32 0] ys.length) 62)) := fun W =>
              run_make_row' (P := Tryd.prog) 22 62 _ 4 Tryd.underlying22 u32_info rfl .i64 .i64 ys.length (by omega) (by omega) W
            have hown0 := World.ownsRow_lit (base := wr.heap.size) (size := 1) (e := 62) wr (madeCells #[.int .u32 0] ys.length) ys.length (Nat.le_refl _) (by unfold maxLen; omega) (by rw [size_madeCells]; omega)
            rw [made_zeros] at hown0
            have Rr : RowU (wr.alloc (.cells (madeCells #[.int .u32 0] ys.length) 62)) wr.heap.size (List.replicate ys.length 0) := RowU.of_fr (FrI.of_own (n := ys.length) (c := ys.length) (zs := List.replicate ys.length 0) hown0)
            have gu1 : gu < wr.heap.size := World.block_lt_of_cell? _ _ (Ru 0 (by omega)).choose_spec.2.1
            obtain ⟨W9, hW9⟩ : ∃ W9, W9 = wr := ⟨wr, rfl⟩
            subst hW9
            replace Ru := Ru.later ((Below.refl W9.heap.size W9).alloc (Nat.le_refl _) (.cells (madeCells #[.int .u32 0] ys.length) 62))
            replace Rq := Rq.later ((Below.refl W9.heap.size W9).alloc (Nat.le_refl _) (.cells (madeCells #[.int .u32 0] ys.length) 62))
            have hB9 := hB.size
            replace hB := hB.alloc hB.size (.cells (madeCells #[.int .u32 0] ys.length) 62)
            have hDp : (0 : Int) < 2 ^ k := Int.pow_pos (by decide)
            have hEp : (0 : Int) < 2 ^ (32 - k) := Int.pow_pos (by decide)
            have hDE : (2 : Int) ^ k * 2 ^ (32 - k) = 4294967296 := by rw [← Int.pow_add, show k + (32 - k) = 32 by omega]; rfl
            have HD := Lib.hid (And.intro hDp (And.intro hEp hDE))
            have hU0 : UnsI us (2 ^ k) ys.length 0 (List.replicate ys.length 0) := ⟨by simp, W32.zeros _, by rw [val_zeros]; simp [val], fun i _ => by by_cases h : i < ys.length <;> simp [h, List.getElem?_replicate]⟩
            have HU0 := Lib.hid hU0
            clear hown0 hDp hEp hDE hU0 hmk
            go_wp2
            go_loopw [138] (fun v138 wr => ∃ (i : Nat) (rs : List Int), v138 = .int .i64 i ∧ i ≤ ys.length ∧ RowU wr gu us ∧ RowU wr W8.heap.size qs ∧ RowU wr W9.heap.size rs ∧ rs.length = ys.length ∧ Hid (UnsI us (2 ^ k) ys.length i rs) ∧ Below w.heap.size w wr) (fun v138 _ => ys.length - (intOf v138).toNat)
            case atStart => exact ⟨0, List.replicate ys.length 0, rfl, Nat.zero_le _, Ru, Rq, Rr, by simp, HU0, hB⟩
            case round =>
              clear Ru Rq Rr HU0 hB
              obtain ⟨i, rs, rfl, hi, Ru, Rq, Rr, lr, hS, hB⟩ := hrel
              by_cases hp : i < ys.length
              · obtain ⟨a, ha, ca, -⟩ := Ru i (by omega)
                obtain ⟨b, hb, cbb, -⟩ := Ru (i + 1) (by omega)
                obtain ⟨old, ho, co, fo⟩ := Rr i (by omega)
                have hab := hI.out.1.getD i
                rw [ha] at hab
                have hab : 0 ≤ a ∧ a ≤ 4294967295 := hab
                have hbb := hI.out.1.getD (i + 1)
                rw [hb] at hbb
                have hbb : 0 ≤ b ∧ b ≤ 4294967295 := hbb
                obtain ⟨U, hU⟩ : ∃ U, b * 4294967296 + a = U := ⟨_, rfl⟩
                have ewb : IntKind.u64.wrap (b * 4294967296) = b * 4294967296 := by rw [wrapU64]; omega
                have eor : bits BinOp.or IntKind.u64 (b * 4294967296) a = U := by rw [or_low2 b a hbb.1 (by omega) hab.1 hab.2, hU]
                obtain ⟨z, hz⟩ : ∃ z, U / 2 ^ k % 4294967296 = z := ⟨_, rfl⟩
                have ewz : IntKind.u32.wrap (U / 2 ^ k) = z := by rw [wrapU32]; exact hz
                have HS := Lib.hid (unsI_step (z := z) (a := a) (b := b) hS.out hp (by rw [ha, Option.getD_some]) (by rw [hb, Option.getD_some]) hab hbb HD.out.1 HD.out.2.1 HD.out.2.2 (by rw [hU]; exact hz))
                have Rrs := Rr.set i (by omega) z
                have ix : (i : Int) + 1 < (xs.length : Int) + 1 := by omega
                have iy : (i : Int) < (xs.length : Int) + 1 := by omega
                have iz : (i : Int) < (ys.length : Int) := by omega
                have hgl : gu < wr.heap.size := World.block_lt_of_cell? _ _ ca
                have hrl : W9.heap.size < wr.heap.size := World.block_lt_of_cell? _ _ co
                clear hS hU hz ha hb ho
                have hneg : W9.heap.size ≠ gu ∧ W9.heap.size ≠ W8.heap.size := by omega
                have Ru2 : RowU (wr.setCell ⟨W9.heap.size, i, none⟩ (.int .u32 z)) gu us := Ru.only (Ne.symm hneg.1) ((Only.refl _ _).set)
                have Rq2 : RowU (wr.setCell ⟨W9.heap.size, i, none⟩ (.int .u32 z)) W8.heap.size qs := Rq.only (Ne.symm hneg.2) ((Only.refl _ _).set)
                go_wp2
                go_region
                go_wp2
                go_roundw
                case rel => exact ⟨i + 1, rs.set i z, by go_num, by omega, Ru2.later (below_drew (Below.refl _ _)), Rq2.later (below_drew (Below.refl _ _)), Rrs.later (below_drew (Below.refl _ _)), by rw [List.length_set]; exact lr, HS, below_drew (hB.setCell (p := ⟨W9.heap.size, i, none⟩) hB9 _)⟩
                case measure => simp [intOf]; omega
              · have hk2 : i = ys.length := by omega
                subst hk2
                have hfin := unsI_end (xs := xs) (ys := ys) HD.out.1 HD.out.2.1 HD.out.2.2 HV.out.2.1 HV.out.1 HV.out.2.2.1 hI.out hS.out
                have wrs := hS.out.2.1
                have wqs := hI.out.2.1
                go_wp2
                go_ret2
                exact ⟨some ⟨W8.heap.size, 0, none⟩, some ⟨W9.heap.size, 0, none⟩, m + 1, ys.length, qs, rs, by rw [lq, lr]; rfl, by omega, by omega, by omega, by omega, by omega, by omega, wqs, wrs, Rq.fr hW8, Rr.fr hB9, hfin.1, hfin.2, hB⟩
end Go.Proofs.YtegdbcnloodljaaDoor
