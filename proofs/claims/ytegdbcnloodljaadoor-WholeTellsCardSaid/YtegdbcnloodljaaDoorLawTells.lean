/- The law WholeTells. -/
import Derived.Test.YtegdbcnloodljaaDoorParT
import Derived.Test.YtegdbcnloodljaaDoorRText
import Derived.Test.YtegdbcnloodljaaDoorRSm
import Derived.Test.YtegdbcnloodljaaDoorBoxes
import Derived.Test.YtegdbcnloodljaaDoorWAwake
import Derived.Test.YtegdbcnloodljaaDoorW2
import Derived.Deep.RegionHeld3
namespace Go.Proofs.YtegdbcnloodljaaDoor
set_option linter.unusedVariables false
set_option linter.unusedSimpArgs false
open Go.RowKit
set_option maxRecDepth 1000000

theorem big_of_len {X : Int} (h : big X = true) : 256 < (cz (some X)).length := by
  have h1 := big_valI (b := cb (some X)) (cz_w32 (some X))
  rw [valI_c, h] at h1
  have h2 := long_iff (cz_w32 (some X))
  rw [trimN_of_nt (cz_w32 _) (cz_nt _)] at h2
  exact h2.2 (of_decide_eq_true h1.symm)
theorem len_of_small {X : Int} (h : big X = false) : (cz (some X)).length ≤ 256 := by
  have h1 := big_valI (b := cb (some X)) (cz_w32 (some X))
  rw [valI_c, h] at h1
  have h2 := long_iff (cz_w32 (some X))
  rw [trimN_of_nt (cz_w32 _) (cz_nt _)] at h2
  rcases Nat.lt_or_ge 256 (cz (some X)).length with h3 | h3
  · exact absurd (h2.1 h3) (of_decide_eq_false h1.symm)
  · exact h3
theorem us_w32 (us : List U32) : W32 (vals us) := by
  intro x hx
  obtain ⟨u, _, rfl⟩ := List.mem_map.1 hx
  exact u.2
/-- a text is not long. -/
theorem text_len (X : Int) (k : Nat) (h : (X.natAbs : Int) < 4294967296 ^ k) : (textL X).length ≤ 10 * k + 1 := by
  have h1 : X.natAbs < 10 ^ (10 * k) := by
    have e : ((4294967296 : Int) ^ k) = ((4294967296 ^ k : Nat) : Int) := by rw [Int.natCast_pow]; rfl
    rw [e] at h
    have h2 : X.natAbs < 4294967296 ^ k := by omega
    have h3 : (4294967296 : Nat) ^ k ≤ (10 ^ 10) ^ k := Nat.pow_le_pow_left (by decide) k
    rw [← Nat.pow_mul] at h3
    exact Nat.lt_of_lt_of_le h2 h3
  have h2 : (decB X.natAbs).length ≤ 10 * k := by
    rw [decB_any _ _ h1, List.length_map, decD]
    have := (List.dropWhile_sublist (p := (· == 0)) (l := digs X.natAbs (10 * k))).length_le
    rwa [digs_length] at this
  rw [textL]
  split
  · simp
  · split
    · simp only [List.length_cons]; omega
    · omega
theorem cmp3_self (X : Int) : cmp3 X X = 0 := by unfold cmp3; simp

/-- the words of an Int. -/
theorem field_mag (x : Bool) (A : Option Addr) (n c : Nat) (W : World) : (Instr.field 24 (.agg #[.bool x, .slice A n c]) 1).run Tryd.prog W = .ok (.slice A n c) W := by kernel_rfl

set_option maxHeartbeats 8000000 in
theorem lawTells_any (b : Bool) (A : Option Addr) (c : Nat) (us : List U32) (v : Int) (w : World) (hr : RdI w .u32 A (vals us)) (hl : us.length ≤ c) (hc : c ≤ maxLen) (hv : -9223372036854775808 ≤ v ∧ v ≤ 9223372036854775807) :
    Calls Tryd.prog 7 #[.agg #[.bool b, .slice A us.length c], .int .i64 v] w fun e w' => e = .returned (.bool true) ∧ Below w.heap.size w w' := by
  have hX := us_w32 us
  rw [← vals_length] at hl ⊢
  generalize vals us = xs at *
  have hc : c ≤ 9223372036854775807 := hc
  have hF := fun W => large_ok b A c xs.length W
  obtain ⟨W0, hW0⟩ : ∃ W0, w.alloc (.cells #[.bool b, .slice A xs.length c] 24) = W0 := ⟨_, rfl⟩
  obtain ⟨hz, Ka⟩ := bx_new w _ _ W0 hW0
  replace hr := hr.later hz
  by_cases f1 : 600 < xs.length
  · rw [decide_eq_true f1] at hF
    obtain ⟨q0, q1, f0, f1', ql⟩ := Ka
    go_enter Tryd.func7, Tryd.ntmps7
    go_wp2_with fail
    go_at_call 20
    refine (hF _).mono ?_
    rintro e w1 ⟨rfl, hb1⟩
    have hz := hz.trans (hb1.mono hz.size)
    go_wp2_with fail
    go_at_call 12
    refine (wawake_ok _).mono ?_
    rintro e w9 ⟨rfl, hb2⟩
    go_wp2
    go_ret
    exact ⟨rfl, hz.trans (hb2.mono hz.size)⟩
  · rw [decide_eq_false f1] at hF
    have hT := fun (W : World) (g : Nat) (cp : Nat) (hp : RdI W .u32 (some ⟨g, 0, none⟩) (xs ++ [77])) (lp : xs.length + 1 ≤ cp) (mp : cp ≤ 9223372036854775807) => wText_ok b (some ⟨g, 0, none⟩) cp xs W hX (rd_left hp) (by omega) mp (by omega)
    have hS := fun (W : World) (g : Nat) (cp : Nat) (hp : RdI W .u32 (some ⟨g, 0, none⟩) (xs ++ [77])) (lp : xs.length + 1 ≤ cp) (mp : cp ≤ 9223372036854775807) => wSmall_ok b (some ⟨g, 0, none⟩) cp xs W hX (rd_left hp) (by omega) mp
    have hT2 := fun (W : World) (h : RdI W .u32 A xs) => refText_ok b A c xs W hX h hl hc (by omega)
    have hS2 := fun (W : World) (h : RdI W .u32 A xs) => refSmall_ok b A c xs W hX h hl hc (by omega)
    have hFm := fun (W : World) (h : RdI W .u32 A xs) => refForm_can b A c xs W hX h hl hc (by omega)
    have hC := fun (W : World) (Ax : Option Addr) (cx : Nat) (ys : List Int) (b' : Bool) (hY : W32 ys) (hy : RdI W .u32 Ax ys) (hly : ys.length ≤ cx) (hcy : cx ≤ 9223372036854775807) (h : RdI W .u32 A xs) => wCompare_ok b' b Ax A cx c ys xs W hY hX hy h hly hcy hl hc
    have hsz : ((valI b xs).natAbs : Int) < 4294967296 ^ 600 := by
      rw [valI_abs hX]
      exact Int.lt_of_lt_of_le (val_bound hX) (pow_mono (by omega))
    generalize hXe : valI b xs = X at *
    have htl := text_len X 600 hsz
    obtain ⟨hp1, hp2⟩ := par_text X
    have hP := fun W => wParse_ok ⟨(textL X).toArray⟩ W (by show (textL X).toArray.size ≤ _; rw [List.size_toArray]; omega)
    unfold RetP at hP
    rw [hp1, hp2] at hP
    clear hp1 hp2 hsz htl
    generalize (⟨(textL X).toArray⟩ : ByteArray) = T at *
    obtain ⟨sv, hsv⟩ : ∃ sv, smV X = sv := ⟨_, rfl⟩
    obtain ⟨sb, hsb⟩ : ∃ sb, smB X = sb := ⟨_, rfl⟩
    rw [hsv, hsb] at hS hS2
    clear hsv hsb
    have hO := fun W => (wOf_ok v W hv).mono fun e w' h => retI_can h
    have hOr := fun W => (refOf_ok v W hv).mono fun e w' h => retI_can h
    have hSv := fun (W : World) (A1 : Option Addr) (d1 base : Nat) (C1 : CanAt W base (some v) A1 d1) => wSmall_ok (cb (some v)) A1 d1 (cz (some v)) W (cz_w32 _) C1.2.2.rd C1.1 C1.2.1
    rw [valI_c, (sm_yes hv).1, (sm_yes hv).2] at hSv
    go_enter Tryd.func7, Tryd.ntmps7
    obtain ⟨q0a, q1a, f0a, f1a, qla⟩ := id Ka
    go_wp2_with fail
    go_at_call 20
    refine (hF _).mono ?_
    rintro e v1 ⟨rfl, hb⟩
    clear q0a q1a f0a f1a qla
    replace hz := hz.trans (hb.mono hz.size)
    replace Ka := Ka.later hb
    replace hr := hr.later hb
    clear hb
    obtain ⟨q0a, q1a, f0a, f1a, qla⟩ := id Ka
    go_wp2_with fail
    go_at_call 21
    refine (lent_ok b A c xs _ hr hl hc (by omega)).mono ?_
    rintro e vp ⟨g, cp, rfl, lp, mp, Rp, hb⟩
    clear q0a q1a f0a f1a qla
    replace hz := hz.trans (hb.mono hz.size)
    replace Ka := Ka.later hb
    replace hr := hr.later hb
    clear hb
    obtain ⟨up, hup⟩ : ∃ u, vp.alloc (.cells #[.bool b, .slice (some ⟨g, 0, none⟩) xs.length cp] 24) = u := ⟨_, rfl⟩
    obtain ⟨hx, Kp⟩ := bx_new vp _ _ up hup
    replace hz := hz.trans (hx.mono hz.size)
    replace Ka := Ka.later hx
    replace hr := hr.later hx
    replace Rp := Rp.later hx
    clear hx
    obtain ⟨q0a, q1a, f0a, f1a, qla⟩ := id Ka
    obtain ⟨q0p, q1p, f0p, f1p, qlp⟩ := id Kp
    go_wp2_with fail
    go_at_call 19
    refine (hT _ g cp Rp lp mp).mono ?_
    rintro e v2 ⟨rfl, hb⟩
    clear q0a q1a f0a f1a qla
    clear q0p q1p f0p f1p qlp
    replace hz := hz.trans (hb.mono hz.size)
    replace Ka := Ka.later hb
    replace Kp := Kp.later hb
    replace hr := hr.later hb
    replace Rp := Rp.later hb
    clear hb
    obtain ⟨q0a, q1a, f0a, f1a, qla⟩ := id Ka
    obtain ⟨q0p, q1p, f0p, f1p, qlp⟩ := id Kp
    go_wp2_with fail
    go_at_call 34
    refine (hS _ g cp Rp lp mp).mono ?_
    rintro e v3 ⟨rfl, hb⟩
    clear q0a q1a f0a f1a qla
    clear q0p q1p f0p f1p qlp
    replace hz := hz.trans (hb.mono hz.size)
    replace Ka := Ka.later hb
    replace Kp := Kp.later hb
    replace hr := hr.later hb
    replace Rp := Rp.later hb
    clear hb
    obtain ⟨q0a, q1a, f0a, f1a, qla⟩ := id Ka
    obtain ⟨q0p, q1p, f0p, f1p, qlp⟩ := id Kp
    go_wp2_with fail
    go_at_call 35
    refine (hS2 _ hr).mono ?_
    rintro e v4 ⟨rfl, hb⟩
    clear q0a q1a f0a f1a qla
    clear q0p q1p f0p f1p qlp
    replace hz := hz.trans (hb.mono hz.size)
    replace Ka := Ka.later hb
    replace Kp := Kp.later hb
    replace hr := hr.later hb
    replace Rp := Rp.later hb
    clear hb
    obtain ⟨q0a, q1a, f0a, f1a, qla⟩ := id Ka
    obtain ⟨q0p, q1p, f0p, f1p, qlp⟩ := id Kp
    go_wp2_with fail
    go_at_call 36
    refine (hT2 _ hr).mono ?_
    rintro e v5 ⟨rfl, hb⟩
    clear q0a q1a f0a f1a qla
    clear q0p q1p f0p f1p qlp
    replace hz := hz.trans (hb.mono hz.size)
    replace Ka := Ka.later hb
    replace Kp := Kp.later hb
    replace hr := hr.later hb
    replace Rp := Rp.later hb
    clear hb
    obtain ⟨q0a, q1a, f0a, f1a, qla⟩ := id Ka
    obtain ⟨q0p, q1p, f0p, f1p, qlp⟩ := id Kp
    go_wp2_with fail
    go_at_call 31
    refine (back_ok b (some ⟨g, 0, none⟩) A cp c xs _ Rp hr lp mp hl hc (by omega)).mono ?_
    rintro e v6 ⟨rfl, hb⟩
    clear q0a q1a f0a f1a qla
    clear q0p q1p f0p f1p qlp
    replace hz := hz.trans (hb.mono hz.size)
    replace Ka := Ka.later hb
    replace Kp := Kp.later hb
    replace hr := hr.later hb
    replace Rp := Rp.later hb
    clear hb
    clear hF hT hS hS2 hT2
    obtain ⟨q0a, q1a, f0a, f1a, qla⟩ := id Ka
    go_wp2_with fail
    go_at_call 16
    refine (hP _).mono ?_
    rintro e v7 ⟨Ax, cx, rfl, Rx, hb⟩
    clear q0a q1a f0a f1a qla
    replace hz := hz.trans (hb.mono hz.size)
    replace Ka := Ka.later hb
    replace Kp := Kp.later hb
    replace hr := hr.later hb
    replace Rp := Rp.later hb
    clear hb
    have Rx0 := Rx.1
    obtain ⟨ux, hux⟩ : ∃ u, v7.alloc (.cells #[.bool (cb (keepO X)), .slice Ax (cz (keepO X)).length cx] 24) = u := ⟨_, rfl⟩
    obtain ⟨hx, Kx⟩ := bx_new v7 _ _ ux hux
    replace hz := hz.trans (hx.mono hz.size)
    replace Ka := Ka.later hx
    replace Kp := Kp.later hx
    replace hr := hr.later hx
    replace Rp := Rp.later hx
    replace Rx := Rx.later hx
    clear hx
    obtain ⟨q0a, q1a, f0a, f1a, qla⟩ := id Ka
    obtain ⟨q0x, q1x, f0x, f1x, qlx⟩ := id Kx
    go_wp2_with fail
    go_at_call 37
    refine (hFm _ hr).mono ?_
    rintro e v8 ⟨Af, cf, rfl, Rf, hb⟩
    clear q0a q1a f0a f1a qla
    clear q0x q1x f0x f1x qlx
    replace hz := hz.trans (hb.mono hz.size)
    replace Ka := Ka.later hb
    replace Kp := Kp.later hb
    replace Kx := Kx.later hb
    replace hr := hr.later hb
    replace Rp := Rp.later hb
    replace Rx := Rx.later hb
    clear hb
    have hfm := fun W => field_mag (cb (some X)) Af (cz (some X)).length cf W
    have hvc := hv
    obtain ⟨Lx, hLx⟩ : ∃ Lx, (cz (some X)).length = Lx := ⟨_, rfl⟩
    rw [hLx] at hfm ⊢
    cases hbg : big X with
    | true =>
      have hL : 256 < Lx := by rw [← hLx]; exact big_of_len hbg
      clear hC hLx hbg Rp lp mp Ka Kp Kx Rx Rx0
      go_wp2_with fail
      go_at_call 33
      refine (hO _).mono ?_
      rintro e w1 ⟨A1, d1, rfl, C1, hb⟩
      replace hz := hz.trans (hb.mono hz.size)
      clear hb
      go_wp2_with fail
      go_at_call 34
      refine (hSv _ A1 d1 _ C1).mono ?_
      rintro e w2 ⟨rfl, hb⟩
      replace hz := hz.trans (hb.mono hz.size)
      replace C1 := C1.later hb
      clear hb
      clear C1
      go_wp2_with fail
      go_at_call 33
      refine (hO _).mono ?_
      rintro e w3 ⟨A2, d2, rfl, C2, hb⟩
      replace hz := hz.trans (hb.mono hz.size)
      clear hb
      go_wp2_with fail
      go_at_call 38
      refine (hOr _).mono ?_
      rintro e w4 ⟨A3, d3, rfl, C3, hb⟩
      replace hz := hz.trans (hb.mono hz.size)
      replace C2 := C2.later hb
      clear hb
      go_wp2_with fail
      go_at_call 18
      refine (same_ok (cb (some v)) A2 A3 d2 d3 (cz (some v)) _ C2.2.2.rd C3.2.2.rd C2.1 C2.2.1 C3.1 C3.2.1).mono ?_
      rintro e w5 ⟨rfl, hb⟩
      replace hz := hz.trans (hb.mono hz.size)
      replace C2 := C2.later hb
      replace C3 := C3.later hb
      clear hb
      go_wp2_with fail
      go_at_call 12
      refine (wawake_ok _).mono ?_
      rintro e w6 ⟨rfl, hb⟩
      replace hz := hz.trans (hb.mono hz.size)
      replace C2 := C2.later hb
      replace C3 := C3.later hb
      clear hb
      go_wp2
      go_ret
      exact ⟨rfl, hz⟩
    | false =>
      have hL : Lx ≤ 256 := by rw [← hLx]; exact len_of_small hbg
      have hk : keepO X = some X := by rw [keepO, hbg]; rfl
      rw [hk] at Rx Rx0 Kx ⊢
      clear hLx hbg hk
      have hCx := fun (W : World) (hx : CanAt W v6.heap.size (some X) Ax cx) (h : RdI W .u32 A xs) => hC W Ax cx (cz (some X)) (cb (some X)) (cz_w32 _) hx.2.2.rd hx.1 hx.2.1 h
      rw [valI_c, cmp3_self] at hCx
      clear hC
      obtain ⟨q0a, q1a, f0a, f1a, qla⟩ := id Ka
      obtain ⟨q0x, q1x, f0x, f1x, qlx⟩ := id Kx
      go_wp2_with fail
      go_at_call 13
      refine (hCx _ Rx hr).mono ?_
      rintro e v9 ⟨rfl, hb⟩
      clear q0a q1a f0a f1a qla
      clear q0x q1x f0x f1x qlx
      replace hz := hz.trans (hb.mono hz.size)
      replace Ka := Ka.later hb
      replace Kp := Kp.later hb
      replace Kx := Kx.later hb
      replace hr := hr.later hb
      replace Rp := Rp.later hb
      replace Rx := Rx.later hb
      clear hb
      clear hCx Rp lp mp Ka Kp Kx Rx Rx0
      go_wp2_with fail
      go_at_call 33
      refine (hO _).mono ?_
      rintro e w1 ⟨A1, d1, rfl, C1, hb⟩
      replace hz := hz.trans (hb.mono hz.size)
      clear hb
      go_wp2_with fail
      go_at_call 34
      refine (hSv _ A1 d1 _ C1).mono ?_
      rintro e w2 ⟨rfl, hb⟩
      replace hz := hz.trans (hb.mono hz.size)
      replace C1 := C1.later hb
      clear hb
      clear C1
      go_wp2_with fail
      go_at_call 33
      refine (hO _).mono ?_
      rintro e w3 ⟨A2, d2, rfl, C2, hb⟩
      replace hz := hz.trans (hb.mono hz.size)
      clear hb
      go_wp2_with fail
      go_at_call 38
      refine (hOr _).mono ?_
      rintro e w4 ⟨A3, d3, rfl, C3, hb⟩
      replace hz := hz.trans (hb.mono hz.size)
      replace C2 := C2.later hb
      clear hb
      go_wp2_with fail
      go_at_call 18
      refine (same_ok (cb (some v)) A2 A3 d2 d3 (cz (some v)) _ C2.2.2.rd C3.2.2.rd C2.1 C2.2.1 C3.1 C3.2.1).mono ?_
      rintro e w5 ⟨rfl, hb⟩
      replace hz := hz.trans (hb.mono hz.size)
      replace C2 := C2.later hb
      replace C3 := C3.later hb
      clear hb
      go_wp2_with fail
      go_at_call 12
      refine (wawake_ok _).mono ?_
      rintro e w6 ⟨rfl, hb⟩
      replace hz := hz.trans (hb.mono hz.size)
      replace C2 := C2.later hb
      replace C3 := C3.later hb
      clear hb
      go_wp2
      go_ret
      exact ⟨rfl, hz⟩
end Go.Proofs.YtegdbcnloodljaaDoor
