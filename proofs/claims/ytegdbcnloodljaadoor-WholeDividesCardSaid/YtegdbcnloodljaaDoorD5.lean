/- The reference's by: sizes divided, digit by digit of two (chapter 1). -/
import Derived.Test.YtegdbcnloodljaaDoorD4
import Derived.Test.YtegdbcnloodljaaDoorR2
import Derived.Test.YtegdbcnloodljaaDoorR3
import Derived.Test.YtegdbcnloodljaaDoorR1
namespace Go.Proofs.YtegdbcnloodljaaDoor
set_option linter.unusedVariables false
set_option linter.unusedSimpArgs false
open Go.RowKit
set_option maxRecDepth 1000000

theorem or_join32' (i : Nat) (a b : Int) (ha0 : 0 ≤ a) (ha : a < 4294967296) (hb0 : 0 ≤ b) (hb : b < 4294967296) (hm : a.toNat % 2 ^ i = 0) (hl : b.toNat < 2 ^ i) : bits BinOp.or IntKind.u32 a b = a + b := by
  obtain ⟨m, rfl⟩ := Int.eq_ofNat_of_zero_le ha0
  obtain ⟨n, rfl⟩ := Int.eq_ofNat_of_zero_le hb0
  have h1 : (m : Int).toNat = m := rfl
  have h2 : (n : Int).toNat = n := rfl
  rw [h1] at hm
  rw [h2] at hl
  have := nat_join i m n hm hl
  rw [u32_or m n (by omega) (by omega), this]
  omega
theorem word_at {ws : List Int} (h : W32 ws) (p : Nat) : val ws / 4294967296 ^ p % 4294967296 = ws[p]?.getD 0 := by
  have h1 := val_cut ws p
  rw [drop_word] at h1
  have h2 := take_lt h p
  have h3 := val_nn (h.take' p)
  have h4 := h.getD p
  have h5 := pow_pos p
  rw [h1, Int.add_mul_ediv_left _ _ (by omega), Int.ediv_eq_zero_of_lt h3 h2]
  omega
theorem pow2w (j : Nat) : (2 : Int) ^ (32 * j) = 4294967296 ^ j := by rw [Int.pow_mul]; rfl
/-- a digit of two of a size. -/
theorem bit_at {ws : List Int} (h : W32 ws) (j s : Nat) (hs : s < 32) : val ws / 2 ^ (32 * j + s) % 2 = ws[j]?.getD 0 / 2 ^ s % 2 := by
  have h1 := word_at h j
  have hP := pow_pos j
  have hQ : (0 : Int) < 2 ^ s := Int.pow_pos (by decide)
  rw [Int.pow_add, pow2w, ← Int.ediv_ediv_of_nonneg (by omega)]
  generalize val ws / 4294967296 ^ j = X at *
  have e : (4294967296 : Int) = 2 ^ s * (2 * 2 ^ (31 - s)) := by
    have : (2 : Int) ^ s * (2 * 2 ^ (31 - s)) = 2 ^ (s + 1 + (31 - s)) := by rw [Int.pow_add, Int.pow_succ]; grind
    rw [this, show s + 1 + (31 - s) = 32 by omega]; rfl
  have h2 := Int.mul_ediv_add_emod X 4294967296
  rw [h1] at h2
  generalize ws[j]?.getD 0 = z at *
  generalize X / 4294967296 = q at *
  rw [← h2, e, show (2 : Int) ^ s * (2 * 2 ^ (31 - s)) * q + z = z + 2 ^ s * (2 * (2 ^ (31 - s) * q)) by grind, Int.add_mul_ediv_left _ _ (by omega)]
  omega

/-- the frame of the loop. -/
def ByI (xs ys : List Int) (k : Nat) (rs fs : List Int) : Prop :=
  W32 rs ∧ NT rs ∧ W32 fs ∧ fs.length = xs.length ∧ val rs < val ys ∧ ∃ Q, val fs = 2 ^ k * Q ∧ val xs / 2 ^ k = val ys * Q + val rs
theorem byI_start {xs ys : List Int} (hX : W32 xs) (hY : 0 < val ys) : ByI xs ys (32 * xs.length) [] (List.replicate xs.length 0) := by
  refine ⟨W32.nil, trivial, W32.zeros _, by simp, by simpa [val] using hY, 0, by rw [val_zeros]; simp, ?_⟩
  rw [pow2w, Int.ediv_eq_zero_of_lt (val_nn hX) (val_bound hX)]; simp [val]
theorem two_step {X Y Q r b : Int} {q : Nat} (h : X / 2 ^ (q + 1) = Y * Q + r) (hb : X / 2 ^ q % 2 = b) : X / 2 ^ q = Y * (2 * Q) + (2 * r + b) := by
  have hp : (0 : Int) < 2 ^ q := Int.pow_pos (by decide)
  have e : X / 2 ^ (q + 1) = X / 2 ^ q / 2 := by rw [Int.pow_succ, Int.ediv_ediv_of_nonneg (by omega)]
  rw [e] at h
  generalize X / 2 ^ q = Z at *
  have h2 := Int.mul_ediv_add_emod Z 2
  rw [h, hb] at h2
  grind
/-- a digit 0. -/
theorem byI_no {xs ys rs fs ts : List Int} {q : Nat} {b : Int} (h : ByI xs ys (q + 1) rs fs) (hb : val xs / 2 ^ q % 2 = b) (wt : W32 ts) (nt : NT ts) (ht : val ts = 2 * val rs + b) (hlt : val ts < val ys) : ByI xs ys q ts fs := by
  obtain ⟨h1, h2, h3, h4, h5, Q, h6, h7⟩ := h
  refine ⟨wt, nt, h3, h4, hlt, 2 * Q, ?_, ?_⟩
  · rw [h6, Int.pow_succ]; grind
  · rw [ht]; exact two_step h7 hb
/-- a digit 1. -/
theorem byI_yes {xs ys rs fs ts : List Int} {q j s : Nat} {b f : Int} (h : ByI xs ys (q + 1) rs fs) (hb : val xs / 2 ^ q % 2 = b) (wt : W32 ts) (nt : NT ts) (ht : val ts = 2 * val rs + b - val ys) (hlt : val ts < val ys) (hq : q = 32 * j + s) (hs : s < 32) (hj : j < xs.length) (hf : fs[j]?.getD 0 = f) : ByI xs ys q ts (fs.set j (f + 2 ^ s)) ∧ 0 ≤ f ∧ f ≤ 4294967295 ∧ bits BinOp.or IntKind.u32 f (2 ^ s) = f + 2 ^ s := by
  obtain ⟨h1, h2, h3, h4, h5, Q, h6, h7⟩ := h
  have hP := pow_pos j
  have hS : (0 : Int) < 2 ^ s := Int.pow_pos (by decide)
  have e2 : (2 : Int) ^ (q + 1) = 4294967296 ^ j * (2 ^ s * 2) := by rw [hq, Int.pow_succ, Int.pow_add, pow2w]; grind
  have hw := word_at h3 j
  rw [hf, h6, e2, Int.mul_assoc, Int.mul_ediv_cancel_left _ (by omega)] at hw
  have hfb := h3.getD j
  rw [hf] at hfb
  have e : (4294967296 : Int) = 2 ^ s * 2 * 2 ^ (31 - s) := by
    have : (2 : Int) ^ s * 2 * 2 ^ (31 - s) = 2 ^ (s + 1 + (31 - s)) := by rw [Int.pow_add, Int.pow_succ]
    rw [this, show s + 1 + (31 - s) = 32 by omega]; rfl
  have hE : (0 : Int) < 2 ^ (31 - s) := Int.pow_pos (by decide)
  obtain ⟨g, hg⟩ : ∃ g, Q % 2 ^ (31 - s) = g := ⟨_, rfl⟩
  have hfm : f = 2 ^ s * 2 * g := by
    rw [← hw, ← hg, e, Int.mul_emod_mul_of_pos _ _ (by omega)]
  have hg0 : 0 ≤ g := by rw [← hg]; exact Int.emod_nonneg _ (by omega)
  have hg1 : g < 2 ^ (31 - s) := by rw [← hg]; exact Int.emod_lt_of_pos _ hE
  have hfl : f + 2 ^ s * 2 ≤ 4294967296 := by
    rw [hfm, e]
    have : 2 ^ s * 2 * (g + 1) ≤ (2 : Int) ^ s * 2 * 2 ^ (31 - s) := Int.mul_le_mul_of_nonneg_left (by omega) (by omega)
    grind
  refine ⟨⟨wt, nt, h3.set j _ (by omega) (by omega), by rw [List.length_set]; exact h4, hlt, 2 * Q + 1, ?_, ?_⟩, hfb.1, hfb.2, ?_⟩
  · rw [val_put _ _ _ (by omega), hf, h6, e2]
    have e3 : (2 : Int) ^ q = 4294967296 ^ j * 2 ^ s := by rw [hq, Int.pow_add, pow2w]
    rw [e3]
    grind
  · have := two_step h7 hb
    rw [this, ht]; grind
  · refine or_join32' (s + 1) f (2 ^ s) hfb.1 (by omega) (by omega) (by omega) ?_ ?_
    · obtain ⟨m, rfl⟩ := Int.eq_ofNat_of_zero_le hg0
      have en : f.toNat = 2 ^ (s + 1) * m := by
        have : f = ((2 ^ (s + 1) * m : Nat) : Int) := by rw [hfm, Nat.pow_succ]; push_cast; rfl
        rw [this]; rfl
      rw [en]; exact Nat.mul_mod_right _ _
    · have en : ((2 : Int) ^ s).toNat = 2 ^ s := by
        have : (2 : Int) ^ s = ((2 ^ s : Nat) : Int) := by push_cast; rfl
        rw [this]; rfl
      rw [en, Nat.pow_succ]
      have : 0 < 2 ^ s := Nat.two_pow_pos s
      omega
theorem or_one {z : Int} (h : 0 ≤ z ∧ z ≤ 4294967295) (he : z % 2 = 0) : bits BinOp.or IntKind.u32 z 1 = z + 1 := by
  refine or_join32' 1 z 1 h.1 (by omega) (by decide) (by decide) ?_ (by decide)
  omega
theorem byI_end {xs ys rs fs : List Int} (h : ByI xs ys 0 rs fs) : val xs = val ys * val fs + val rs ∧ val rs < val ys := by
  obtain ⟨h1, h2, h3, h4, h5, Q, h6, h7⟩ := h
  rw [Int.pow_zero, Int.one_mul] at h6
  rw [Int.pow_zero, Int.ediv_one] at h7
  rw [h6]; exact ⟨h7, h5⟩
--BY--
theorem World.size_drew' (w : World) : w.drew.heap.size = w.heap.size := rfl
set_option maxHeartbeats 4000000 in
theorem refBy_ok (A B : Option Addr) (c d : Nat) (xs ys : List Int) (w : World) (hX : W32 xs) (hY : W32 ys) (nY : NT ys) (hr : RdI w .u32 A xs) (hs : RdI w .u32 B ys) (hl : xs.length ≤ c) (hc : c ≤ 9223372036854775807) (hl2 : ys.length ≤ d) (hd : d ≤ 9223372036854775807) (hm : xs.length ≤ 100000) (hm2 : ys.length ≤ 100000) (h0 : 0 < ys.length) :
    Calls Tryd.prog 70 #[.slice A xs.length c, .slice B ys.length d] w (RetQ w (val xs) (val ys)) := by
  have hmk : ∀ W : World, (Instr.makeSlice 22 (.int .i64 (xs.length : Int)) (.int .i64 (xs.length : Int))).run Tryd.prog W = .ok (.slice (some ⟨W.heap.size, 0, none⟩) xs.length xs.length) (W.alloc (.cells (madeCells #[.int .u32 0] xs.length) 62)) := fun W =>
    run_make_row' (P := Tryd.prog) 22 62 _ 4 Tryd.underlying22 u32_info rfl .i64 .i64 xs.length (by omega) (by omega) W
  have hown0 := World.ownsRow_lit (base := w.heap.size) (size := 1) (e := 62) w (madeCells #[.int .u32 0] xs.length) xs.length (Nat.le_refl _) (by unfold maxLen; omega) (by rw [size_madeCells]; omega)
  rw [made_zeros] at hown0
  have hR0 : RowU (w.alloc (.cells (madeCells #[.int .u32 0] xs.length) 62)) w.heap.size (List.replicate xs.length 0) := RowU.of_fr (FrI.of_own (n := xs.length) (c := xs.length) (zs := List.replicate xs.length 0) hown0)
  have hy0 : 0 < val ys := by
    have := (nt_len hY nY 0).1 h0
    simp at this; omega
  have HU := Lib.hid hr
  have HV := Lib.hid hs
  have HI0 := Lib.hid (byI_start hX hy0)
  have HB0 : Below w.heap.size w (w.alloc (.cells (madeCells #[.int .u32 0] xs.length) 62)) := (Below.refl _ w).alloc (Nat.le_refl _) _
  clear hown0 hy0
  go_enter Tryd.func70, Tryd.ntmps70
  go_wp2
  go_loopw [7, 8] (fun v7 v8 wr => ∃ (k : Nat) (A' : Option Addr) (cA : Nat) (rs fs : List Int), v7 = .slice A' rs.length cA ∧ v8 = .int .i64 ((k : Int) - 1) ∧ k ≤ 32 * xs.length ∧ rs.length ≤ cA ∧ cA ≤ 9223372036854775807 ∧ FrI wr (w.heap.size + 1) .u32 A' rs ∧ RowU wr w.heap.size fs ∧ rs.length ≤ ys.length ∧ Hid (ByI xs ys k rs fs) ∧ Below w.heap.size w wr ∧ w.heap.size < wr.heap.size) (fun _ v8 _ => (intOf v8 + 1).toNat)
  case atStart => exact ⟨32 * xs.length, none, 0, [], List.replicate xs.length 0, rfl, (by first | rfl | go_num), Nat.le_refl _, Nat.le_refl _, by decide, fun i hi => absurd hi (by simp), hR0, Nat.zero_le _, HI0, HB0, by simp⟩
  case round =>
    clear HI0 HB0 hR0 hmk
    obtain ⟨k, A', cA, rs, fs, rfl, rfl, hk, lA, mA, f1, Rq, lr, hI, hB, hsz⟩ := hrel
    by_cases hp : 0 < k
    · obtain ⟨q, rfl⟩ : ∃ q, k = q + 1 := ⟨k - 1, by omega⟩
      have e1 : (((q + 1 : Nat) : Int) - 1) = (q : Int) := by omega
      rw [e1]
      obtain ⟨j, s, hq, hs'⟩ : ∃ j s : Nat, q = 32 * j + s ∧ s < 32 := ⟨q / 32, q % 32, by omega, by omega⟩
      have hj : j < xs.length := by omega
      have HQ := Lib.hid hq
      obtain ⟨b1, o1, z, rfl, hz, hzc⟩ := HU.out j hj
      have hzb := hX.getD j
      rw [hz] at hzb
      have hzb : 0 ≤ z ∧ z ≤ 4294967295 := hzb
      obtain ⟨bit, hbit⟩ : ∃ bit, z / 2 ^ s % 2 = bit := ⟨_, rfl⟩
      have hbq := Lib.hid (show val xs / 2 ^ q % 2 = bit by rw [hq, bit_at hX j s hs', hz, Option.getD_some]; exact hbit)
      have hs2 : (0 : Int) < 2 ^ s := Int.pow_pos (by decide)
      have hsb := Lib.hid (show (0 : Int) < 2 ^ s ∧ (2 : Int) ^ s ≤ 2147483648 by
        refine ⟨hs2, ?_⟩
        have h1 := Nat.pow_le_pow_right (n := 2) (by decide) (show s ≤ 31 by omega)
        have e : ((2 : Int) ^ s) = ((2 ^ s : Nat) : Int) := by rw [Int.natCast_pow]; rfl
        rw [e]; omega)
      have hbb := Lib.hid (show 0 ≤ bit ∧ bit ≤ 1 by omega)
      have hand : bits BinOp.and IntKind.u32 (z / 2 ^ s) 1 = bit := by
        rw [Go.u32_and _ 1 (Int.ediv_nonneg hzb.1 (by omega)) (by have := Int.ediv_le_self (2 ^ s) hzb.1; omega) (by decide) (by decide)]
        rw [show ((1 : Int).toNat) = 1 from rfl, nat_mask1, ← hbit]
        have := Int.ediv_nonneg hzb.1 (Int.le_of_lt hs2)
        omega
      have hq1 : (q : Int) / 32 = (j : Int) := by omega
      have hq2 : (q : Int) % 32 = (s : Int) := by omega
      have hpl := refPlus_pos A' A' cA cA rs rs wr hI.out.1 hI.out.1 f1.rd f1.rd lA mA lA mA (by omega) (by omega)
      clear hq hbit hs2 hz
      go_wp2_with fail
      go_at_call 50
      refine hpl.mono ?_
      rintro e W4 ⟨zs, wz, hvz, hzl, hz0, A2, c2, rfl, l2, m2, f2, b4⟩
      have f2 := f2.mono (show w.heap.size + 1 ≤ wr.heap.size by omega)
      have Rq4 := Rq.later b4
      have hB4 := hB.trans (b4.mono hB.size)
      have hsz4 : w.heap.size < W4.heap.size := Nat.lt_of_lt_of_le hsz b4.size
      have hzc4 := cell_later hB4 hzc
      have hb1 : b1 < W4.heap.size := World.block_lt_of_cell? _ _ hzc4
      clear hpl f1 Rq hB hsz b4 hzc
      rcases (show bit = 0 ∨ bit = 1 by have := hbb.out; omega) with rfl | rfl
      · obtain ⟨W5, hW5⟩ : ∃ W5, W5 = W4 := ⟨W4, rfl⟩
        subst hW5
        have hzv := Lib.hid (show val zs = 2 * val rs + 0 by omega)
        have Rq5 := Rq4
        have hB5 := hB4
        have hsz5 := hsz4
        clear Rq4 hB4 hsz4 hvz hz0
        go_wp2_with fail
        go_at_call 49
        refine (refTrim_any A2 c2 zs W5 f2.rd l2 m2 (by omega)).mono ?_
        rintro e W6 ⟨A3, c3, rfl, l3, m3, f3, b3⟩
        have f3 := f3.mono (show w.heap.size + 1 ≤ W5.heap.size by omega)
        have wt := trimN_w32 wz
        have nt := trimN_nt zs
        have ht : val (trimN zs) = val zs := val_trimN zs
        have htl := trimN_le zs
        generalize trimN zs = ts at *
        have Rq6 := Rq5.later b3
        have hB6 := hB5.trans (b3.mono hB5.size)
        have hsz6 : w.heap.size < W6.heap.size := Nat.lt_of_lt_of_le hsz5 b3.size
        have hsi := refSize_ok A3 B c3 d ts ys W6 wt hY nt nY f3.rd (HV.out.later hB6) l3 m3 hl2 hd
        clear Rq5 hB5 b3 f2
        by_cases hge : val ys ≤ val ts
        · have hcm : 0 ≤ cmp3 (val ts) (val ys) := by unfold cmp3; rw [if_neg (by omega)]; split <;> omega
          have hlen : ys.length ≤ ts.length := by
            have h1 := (nt_len hY nY (ys.length - 1)).1 (by omega)
            have := (nt_len wt nt (ys.length - 1)).2 (by omega)
            omega
          generalize cmp3 (val ts) (val ys) = cm at *
          go_wp2_with fail
          go_at_call 67
          refine hsi.mono ?_
          rintro e W7 ⟨rfl, b7⟩
          have hB7 := hB6.trans (b7.mono hB6.size)
          have f7 := f3.later b7
          have Rq7 := Rq6.later b7
          have hsz7 : w.heap.size < W7.heap.size := Nat.lt_of_lt_of_le hsz6 b7.size
          clear hsi Rq6 hB6 f3 b7
          go_wp2_with fail
          go_at_call 80
          refine (refMinus_ok A3 B c3 d ts ys W7 wt hY f7.rd (HV.out.later hB7) l3 m3 hl2 hd (by omega) hlen hge).mono ?_
          rintro e W8 ⟨us, wu, hu, hul, A4, c4, rfl, l4, m4, f4, b4⟩
          have f4 := f4.mono (show w.heap.size + 1 ≤ W7.heap.size by omega)
          have hB8 := hB7.trans (b4.mono hB7.size)
          have Rq8 := Rq7.later b4
          have hsz8 : w.heap.size < W8.heap.size := Nat.lt_of_lt_of_le hsz7 b4.size
          clear Rq7 hB7 f7 b4
          go_wp2_with fail
          go_at_call 49
          refine (refTrim_any A4 c4 us W8 f4.rd l4 m4 (by omega)).mono ?_
          rintro e W9 ⟨A5, c5, rfl, l5, m5, f5, b5⟩
          have f5 := f5.mono (show w.heap.size + 1 ≤ W8.heap.size by omega)
          have wv := trimN_w32 wu
          have nv := trimN_nt us
          have hvv : val (trimN us) = val us := val_trimN us
          generalize trimN us = vs at *
          have hB9 := hB8.trans (b5.mono hB8.size)
          have Rq9 := Rq8.later b5
          have hsz9 : w.heap.size < W9.heap.size := Nat.lt_of_lt_of_le hsz8 b5.size
          clear Rq8 hB8 f4 b5
          obtain ⟨f, hf, cf, ff⟩ := Rq9 j (by have := hI.out.2.2.2.1; omega)
          have hlv : val vs < val ys := by have := hI.out.2.2.2.2.1; have := hbb.out; have := hzv.out; omega
          obtain ⟨hS, g0, g1, eor⟩ := byI_yes hI.out hbq.out wv nv (by have := hzv.out; omega) hlv HQ.out hs' hj (by rw [hf, Option.getD_some])
          have hvl : vs.length ≤ ys.length := by
            rcases Nat.lt_or_ge ys.length vs.length with h | h
            · have h1 := (nt_len wv nv ys.length).1 h
              have := val_bound hY
              omega
            · exact h
          have HS := Lib.hid hS
          have Rqs := Rq9.set j (by have := hI.out.2.2.2.1; omega) (f + 2 ^ s)
          have ews : IntKind.u32.wrap (2 ^ s) = 2 ^ s := by rw [wrapU32]; have := hsb.out; omega
          have ews1 : IntKind.u32.wrap (1 * 2 ^ s) = 2 ^ s := by rw [Int.one_mul]; exact ews
          clear hS hI Rq9 hlv hf hu hvv ht hge hlen wu
          go_wp2
          go_region
          all_goals
            go_wp2
            go_roundw
            case rel => exact ⟨q, A5, c5, vs, fs.set j (f + 2 ^ s), rfl, rfl, by omega, l5, m5, (f5.setCell (p := ⟨w.heap.size, j, none⟩) (by show w.heap.size < _; omega) _).later (below_drew (Below.refl _ _)), Rqs.later (below_drew (Below.refl _ _)), hvl, HS, below_drew (hB9.setCell (p := ⟨w.heap.size, j, none⟩) (Nat.le_refl _) _), by rw [World.size_drew', World.size_setCell]; exact hsz9⟩
            case measure => simp [intOf]
        · have hcm : cmp3 (val ts) (val ys) = -1 := by unfold cmp3; rw [if_pos (by omega)]
          rw [hcm] at hsi
          have hvl : ts.length ≤ ys.length := by
            rcases Nat.lt_or_ge ys.length ts.length with h | h
            · have h1 := (nt_len wt nt ys.length).1 h
              have := val_bound hY
              omega
            · exact h
          have HS := Lib.hid (byI_no hI.out hbq.out wt nt (by have := hzv.out; omega) (by omega))
          clear hI
          go_wp2_with fail
          go_at_call 67
          refine hsi.mono ?_
          rintro e W7 ⟨rfl, b7⟩
          have hB7 := hB6.trans (b7.mono hB6.size)
          have f7 := f3.later b7
          have Rq7 := Rq6.later b7
          have hsz7 : w.heap.size < W7.heap.size := Nat.lt_of_lt_of_le hsz6 b7.size
          clear hsi Rq6 hB6 f3 b7
          go_wp2
          go_roundw
          case rel => exact ⟨q, A3, c3, ts, fs, rfl, rfl, by omega, l3, m3, f7, Rq7, hvl, HS, hB7, hsz7⟩
          case measure => simp [intOf]

      · obtain ⟨g, o, x, rfl, hgB, hx, cx, fx⟩ := f2 0 hz0
        have hxb := wz.getD 0
        rw [hx] at hxb
        have hxb : 0 ≤ x ∧ x ≤ 4294967295 := hxb
        have hxe : x % 2 = 0 := by
          have h1 := drop_word zs 0
          rw [hx, Option.getD_some, List.drop_zero] at h1
          omega
        have eor1 := or_one hxb hxe
        have wz2 := wz.set 0 (x + 1) (by omega) (by omega)
        have hzv := Lib.hid (show val (zs.set 0 (x + 1)) = 2 * val rs + 1 by
          rw [val_put _ _ _ hz0, hx, Option.getD_some, hvz]; simp; omega)
        have f5 := f2.set 0 hz0 (x + 1)
        simp only [Nat.add_zero] at cx fx f5
        have hgl : g < W4.heap.size := World.block_lt_of_cell? _ _ cx
        have hz0' : (0 : Int) < (zs.length : Int) := by omega
        have Rq5 : RowU (W4.setCell ⟨g, o, none⟩ (.int .u32 (x + 1))) w.heap.size fs := Rq4.only (g := g) (by omega) ((Only.refl _ _).set)
        have hB5 : Below w.heap.size w (W4.setCell ⟨g, o, none⟩ (.int .u32 (x + 1))) := hB4.setCell (p := ⟨g, o, none⟩) (by show w.heap.size ≤ g; omega) _
        have hsz5 : w.heap.size < (W4.setCell ⟨g, o, none⟩ (.int .u32 (x + 1))).heap.size := by rw [World.size_setCell]; exact hsz4
        have hzl2 : (zs.set 0 (x + 1)).length = zs.length := List.length_set ..
        clear f2 Rq4 hB4 hsz4 hvz hx hxe wz
        go_upto_region 9 with fail
        obtain ⟨W5, hW5⟩ : ∃ W5, (W4.setCell ⟨g, o, none⟩ (.int .u32 (x + 1))) = W5 := ⟨_, rfl⟩
        rw [hW5] at f5 Rq5 hB5 hsz5 ⊢
        have f2 := f5
        have wz := wz2
        rw [← hzl2]
        rw [← hzl2] at l2 hzl
        generalize zs.set 0 (x + 1) = zs at *
        obtain ⟨A2, hA2⟩ : ∃ A2 : Option Addr, some ⟨g, o, none⟩ = A2 := ⟨_, rfl⟩
        rw [hA2] at f2 ⊢
        clear f5 wz2 hW5 hA2 cx fx hzl2 hgl hgB hzc4 hb1
        go_wp2_with fail
        go_at_call 49
        refine (refTrim_any A2 c2 zs W5 f2.rd l2 m2 (by omega)).mono ?_
        rintro e W6 ⟨A3, c3, rfl, l3, m3, f3, b3⟩
        have f3 := f3.mono (show w.heap.size + 1 ≤ W5.heap.size by omega)
        have wt := trimN_w32 wz
        have nt := trimN_nt zs
        have ht : val (trimN zs) = val zs := val_trimN zs
        have htl := trimN_le zs
        generalize trimN zs = ts at *
        have Rq6 := Rq5.later b3
        have hB6 := hB5.trans (b3.mono hB5.size)
        have hsz6 : w.heap.size < W6.heap.size := Nat.lt_of_lt_of_le hsz5 b3.size
        have hsi := refSize_ok A3 B c3 d ts ys W6 wt hY nt nY f3.rd (HV.out.later hB6) l3 m3 hl2 hd
        clear Rq5 hB5 b3 f2
        by_cases hge : val ys ≤ val ts
        · have hcm : 0 ≤ cmp3 (val ts) (val ys) := by unfold cmp3; rw [if_neg (by omega)]; split <;> omega
          have hlen : ys.length ≤ ts.length := by
            have h1 := (nt_len hY nY (ys.length - 1)).1 (by omega)
            have := (nt_len wt nt (ys.length - 1)).2 (by omega)
            omega
          generalize cmp3 (val ts) (val ys) = cm at *
          go_wp2_with fail
          go_at_call 67
          refine hsi.mono ?_
          rintro e W7 ⟨rfl, b7⟩
          have hB7 := hB6.trans (b7.mono hB6.size)
          have f7 := f3.later b7
          have Rq7 := Rq6.later b7
          have hsz7 : w.heap.size < W7.heap.size := Nat.lt_of_lt_of_le hsz6 b7.size
          clear hsi Rq6 hB6 f3 b7
          go_wp2_with fail
          go_at_call 80
          refine (refMinus_ok A3 B c3 d ts ys W7 wt hY f7.rd (HV.out.later hB7) l3 m3 hl2 hd (by omega) hlen hge).mono ?_
          rintro e W8 ⟨us, wu, hu, hul, A4, c4, rfl, l4, m4, f4, b4⟩
          have f4 := f4.mono (show w.heap.size + 1 ≤ W7.heap.size by omega)
          have hB8 := hB7.trans (b4.mono hB7.size)
          have Rq8 := Rq7.later b4
          have hsz8 : w.heap.size < W8.heap.size := Nat.lt_of_lt_of_le hsz7 b4.size
          clear Rq7 hB7 f7 b4
          go_wp2_with fail
          go_at_call 49
          refine (refTrim_any A4 c4 us W8 f4.rd l4 m4 (by omega)).mono ?_
          rintro e W9 ⟨A5, c5, rfl, l5, m5, f5, b5⟩
          have f5 := f5.mono (show w.heap.size + 1 ≤ W8.heap.size by omega)
          have wv := trimN_w32 wu
          have nv := trimN_nt us
          have hvv : val (trimN us) = val us := val_trimN us
          generalize trimN us = vs at *
          have hB9 := hB8.trans (b5.mono hB8.size)
          have Rq9 := Rq8.later b5
          have hsz9 : w.heap.size < W9.heap.size := Nat.lt_of_lt_of_le hsz8 b5.size
          clear Rq8 hB8 f4 b5
          obtain ⟨f, hf, cf, ff⟩ := Rq9 j (by have := hI.out.2.2.2.1; omega)
          have hlv : val vs < val ys := by have := hI.out.2.2.2.2.1; have := hbb.out; have := hzv.out; omega
          obtain ⟨hS, g0, g1, eor⟩ := byI_yes hI.out hbq.out wv nv (by have := hzv.out; omega) hlv HQ.out hs' hj (by rw [hf, Option.getD_some])
          have hvl : vs.length ≤ ys.length := by
            rcases Nat.lt_or_ge ys.length vs.length with h | h
            · have h1 := (nt_len wv nv ys.length).1 h
              have := val_bound hY
              omega
            · exact h
          have HS := Lib.hid hS
          have Rqs := Rq9.set j (by have := hI.out.2.2.2.1; omega) (f + 2 ^ s)
          have ews : IntKind.u32.wrap (2 ^ s) = 2 ^ s := by rw [wrapU32]; have := hsb.out; omega
          have ews1 : IntKind.u32.wrap (1 * 2 ^ s) = 2 ^ s := by rw [Int.one_mul]; exact ews
          clear hS hI Rq9 hlv hf hu hvv ht hge hlen wu
          go_wp2
          go_region
          all_goals
            go_wp2
            go_roundw
            case rel => exact ⟨q, A5, c5, vs, fs.set j (f + 2 ^ s), rfl, rfl, by omega, l5, m5, (f5.setCell (p := ⟨w.heap.size, j, none⟩) (by show w.heap.size < _; omega) _).later (below_drew (Below.refl _ _)), Rqs.later (below_drew (Below.refl _ _)), hvl, HS, below_drew (hB9.setCell (p := ⟨w.heap.size, j, none⟩) (Nat.le_refl _) _), by rw [World.size_drew', World.size_setCell]; exact hsz9⟩
            case measure => simp [intOf]
        · have hcm : cmp3 (val ts) (val ys) = -1 := by unfold cmp3; rw [if_pos (by omega)]
          rw [hcm] at hsi
          have hvl : ts.length ≤ ys.length := by
            rcases Nat.lt_or_ge ys.length ts.length with h | h
            · have h1 := (nt_len wt nt ys.length).1 h
              have := val_bound hY
              omega
            · exact h
          have HS := Lib.hid (byI_no hI.out hbq.out wt nt (by have := hzv.out; omega) (by omega))
          clear hI
          go_wp2_with fail
          go_at_call 67
          refine hsi.mono ?_
          rintro e W7 ⟨rfl, b7⟩
          have hB7 := hB6.trans (b7.mono hB6.size)
          have f7 := f3.later b7
          have Rq7 := Rq6.later b7
          have hsz7 : w.heap.size < W7.heap.size := Nat.lt_of_lt_of_le hsz6 b7.size
          clear hsi Rq6 hB6 f3 b7
          go_wp2
          go_roundw
          case rel => exact ⟨q, A3, c3, ts, fs, rfl, rfl, by omega, l3, m3, f7, Rq7, hvl, HS, hB7, hsz7⟩
          case measure => simp [intOf]

    · have hk0 : k = 0 := by omega
      subst hk0
      obtain ⟨hf1, hf2⟩ := byI_end hI.out
      have wrs := hI.out.1
      have wfs := hI.out.2.2.1
      have lfs := hI.out.2.2.2.1
      go_wp2
      go_ret2
      exact ⟨some ⟨w.heap.size, 0, none⟩, A', xs.length, cA, fs, rs, by rw [lfs]; rfl, by omega, by omega, lA, mA, by omega, by omega, wfs, wrs, Rq.fr (Nat.le_refl _), f1.mono (by omega), hf1, hf2, hB⟩
end Go.Proofs.YtegdbcnloodljaaDoor
