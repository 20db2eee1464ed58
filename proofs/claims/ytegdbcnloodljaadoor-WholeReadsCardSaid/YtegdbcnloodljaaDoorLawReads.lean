/- The law WholeReads. -/
import Derived.Test.YtegdbcnloodljaaDoorRPar
import Derived.Test.YtegdbcnloodljaaDoorT1
import Derived.Test.YtegdbcnloodljaaDoorBoxes
import Derived.Test.YtegdbcnloodljaaDoorWAwake
import Derived.Deep.RegionHeld3
namespace Go.Proofs.YtegdbcnloodljaaDoor
set_option linter.unusedVariables false
set_option linter.unusedSimpArgs false
open Go.RowKit
set_option maxRecDepth 1000000

theorem parE_none {s : ByteArray} (h : parO s = none) : parE s ≠ 0 := by
  cases hk : okS s with
  | false => rw [(par_bad hk).2]; decide
  | true => rw [(par_good hk).2, ← (par_good hk).1, h]; decide
theorem parE_some {s : ByteArray} {X : Int} (h : parO s = some X) : parE s = 0 := by
  cases hk : okS s with
  | false => rw [(par_bad hk).1] at h; cases h
  | true => rw [(par_good hk).2, ← (par_good hk).1, h]; rfl
theorem len_of_big {X : Int} (h : big X = false) : (cz (some X)).length ≤ 256 := by
  have h1 := big_valI (b := cb (some X)) (cz_w32 (some X))
  rw [valI_c, h] at h1
  have h2 := long_iff (cz_w32 (some X))
  rw [trimN_of_nt (cz_w32 _) (cz_nt _)] at h2
  rcases Nat.lt_or_ge 256 (cz (some X)).length with h3 | h3
  · exact absurd (h2.1 h3) (of_decide_eq_false h1.symm)
  · exact h3
theorem keepO_big {X Y : Int} (h : keepO X = some Y) : big Y = false := by
  have e := keepO_some h
  rw [keepO] at h
  cases hb : big X with
  | true => rw [hb] at h; cases h
  | false => rw [e, hb]
theorem cz_short {s : ByteArray} {X : Int} (h : parO s = some X) : (cz (some X)).length ≤ 256 := by
  cases hk : okS s with
  | false => rw [(par_bad hk).1] at h; cases h
  | true => rw [(par_good hk).1] at h; exact len_of_big (keepO_big h)

set_option maxHeartbeats 8000000 in
theorem lawReads_any (s : ByteArray) (w : World) (hs : s.size ≤ maxLen) :
    Calls Tryd.prog 4 #[.string s] w fun e w' => e = .returned (.bool true) ∧ Below w.heap.size w w' := by
  by_cases f1 : 3000 < s.size
  · go_enter Tryd.func4, Tryd.ntmps4
    go_wp2_with fail
    go_at_call 12
    refine (wawake_ok _).mono ?_
    rintro e w9 ⟨rfl, hb2⟩
    go_wp2
    go_ret
    exact ⟨rfl, hb2⟩
  · have hN := parE_none (s := s)
    have hS := fun X (h : parO s = some X) => And.intro (parE_some h) (And.intro (cz_short h) (show (⟨(textL X).toArray⟩ : ByteArray) = s from ba_ext (text_par h)))
    have hP := fun W => wParse_ok s W (by omega)
    have hQ := fun W => refParse_ok s W (by omega)
    unfold RetP at hP hQ
    generalize parO s = O at *
    generalize parE s = E at *
    go_enter Tryd.func4, Tryd.ntmps4
    go_wp2_with fail
    go_at_call 16
    refine (hP _).mono ?_
    rintro e w1 ⟨Ax, cx, rfl, Rx, hb1⟩
    obtain ⟨u1, hu1⟩ : ∃ u, w1.alloc (.cells #[.bool (cb (O)), .slice Ax (cz (O)).length cx] 24) = u := ⟨_, rfl⟩
    obtain ⟨hx, hn⟩ := bx_new w1 _ _ u1 hu1
    have hz := hb1.trans (hx.mono hb1.size)
    have Rx := Rx.later hx
    have lt1 := Rx.1
    go_wp2_with fail
    go_at_call 17
    refine (hQ _).mono ?_
    rintro e w2 ⟨Ay, cy, rfl, Ry, hb2⟩
    have hz := hz.trans (hb2.mono hz.size)
    have Rx := Rx.later hb2
    have hn := hn.later hb2
    clear hu1 hb1 hb2 hx
    obtain ⟨u2, hu2⟩ : ∃ u, w2.alloc (.cells #[.bool (cb (O)), .slice Ay (cz (O)).length cy] 24) = u := ⟨_, rfl⟩
    obtain ⟨hx, hy⟩ := bx_new w2 _ _ u2 hu2
    have hz := hz.trans (hx.mono hz.size)
    have Rx := Rx.later hx
    have Ry := Ry.later hx
    have hn := hn.later hx
    clear hx
    obtain ⟨q0, q1, f0, f1, ql⟩ := hn
    obtain ⟨p0, p1, g0, g1, pl⟩ := hy
    go_wp2_with fail
    go_at_call 18
    refine (same_ok (cb O) Ax Ay cx cy (cz O) _ Rx.2.2.rd Ry.2.2.rd Rx.1 Rx.2.1 Ry.1 Ry.2.1).mono ?_
    rintro e w3 ⟨rfl, hb3⟩
    have hz := hz.trans (hb3.mono hz.size)
    have Rx := Rx.later hb3
    replace q0 := cell_later hb3 q0
    replace q1 := cell_later hb3 q1
    replace ql : w1.heap.size < w3.heap.size := World.block_lt_of_cell? _ _ q0
    clear p0 p1 g0 g1 pl f0 f1 hb3 Ry
    cases O with
    | none =>
      have hE : (E != 0) = true := by simpa using hN rfl
      clear hN hS hP hQ
      go_wp2
      go_ret
      exact ⟨rfl, hz⟩
    | some X =>
      obtain ⟨hE, hL, hT⟩ := hS X rfl
      subst hE
      have hTx := fun W (hb : Below w3.heap.size w3 W) => wText_ok (cb (some X)) Ax cx (cz (some X)) W (cz_w32 _) (Rx.later hb).2.2.rd Rx.1 Rx.2.1 (by omega)
      rw [valI_c, hT] at hTx
      clear hN hS hP hQ hT
      go_wp2_with fail
      go_at_call 19
      refine (hTx _ (Below.refl _ _)).mono ?_
      rintro e w4 ⟨rfl, hb4⟩
      have hz := hz.trans (hb4.mono hz.size)
      go_wp2_with fail
      go_at_call 12
      refine (wawake_ok _).mono ?_
      rintro e w5 ⟨rfl, hb5⟩
      go_wp2
      go_ret
      exact ⟨rfl, hz.trans (hb5.mono hz.size)⟩
end Go.Proofs.YtegdbcnloodljaaDoor
