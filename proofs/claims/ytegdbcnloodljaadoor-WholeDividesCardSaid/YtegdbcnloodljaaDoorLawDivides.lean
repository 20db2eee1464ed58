/- The law WholeDivides. -/
import Derived.Test.YtegdbcnloodljaaDoorD7
import Derived.Test.YtegdbcnloodljaaDoorW11
import Derived.Test.YtegdbcnloodljaaDoorWAwake
import Derived.Deep.RegionHeld3
namespace Go.Proofs.YtegdbcnloodljaaDoor
set_option linter.unusedVariables false
set_option linter.unusedSimpArgs false
open Go.RowKit
set_option maxRecDepth 1000000

theorem us_w32d (us : List U32) : W32 (vals us) := by
  intro x hx
  obtain ⟨u, _, rfl⟩ := List.mem_map.1 hx
  exact u.2

set_option maxHeartbeats 8000000 in
theorem lawDivides_any (b1 : Bool) (A : Option Addr) (c1 : Nat) (us : List U32) (b2 : Bool) (B : Option Addr) (c2 : Nat) (vs : List U32) (w : World)
    (hr : RdI w .u32 A (vals us)) (hl : us.length ≤ c1) (hc : c1 ≤ maxLen) (hr2 : RdI w .u32 B (vals vs)) (hl2 : vs.length ≤ c2) (hc2 : c2 ≤ maxLen) :
    Calls Tryd.prog 9 #[.agg #[.bool b1, .slice A us.length c1], .agg #[.bool b2, .slice B vs.length c2]] w fun e w' => e = .returned (.bool true) ∧ Below w.heap.size w w' := by
  have hX := us_w32d us
  have hY := us_w32d vs
  rw [← vals_length] at hl hl2 ⊢
  rw [← vals_length]
  generalize vals us = xs at *
  generalize vals vs = ys at *
  clear us vs
  have hc : c1 ≤ 9223372036854775807 := hc
  have hc2 : c2 ≤ 9223372036854775807 := hc2
  have hF1 := fun W => large_ok b1 A c1 xs.length W
  have hF2 := fun W => large_ok b2 B c2 ys.length W
  obtain ⟨W1, hW1⟩ : ∃ W1, w.alloc (.cells #[.bool b1, .slice A xs.length c1] 24) = W1 := ⟨_, rfl⟩
  obtain ⟨hz1, Ka⟩ := bx_new w _ _ W1 hW1
  obtain ⟨W0, hW0⟩ : ∃ W0, W1.alloc (.cells #[.bool b2, .slice B ys.length c2] 24) = W0 := ⟨_, rfl⟩
  obtain ⟨hz2, Kb⟩ := bx_new W1 _ _ W0 hW0
  have hs1 : W1.heap.size = w.heap.size + 1 := by rw [← hW1]; simp
  rw [hs1] at Kb
  have hz := hz1.trans (hz2.mono hz1.size)
  replace Ka := Ka.later hz2
  rw [← hW1] at hW0
  clear hz1 hz2 hs1 hW1
  replace hr := hr.later hz
  replace hr2 := hr2.later hz
  obtain ⟨q0a, q1a, f0a, f1a, qla⟩ := id Ka
  obtain ⟨q0b, q1b, f0b, f1b, qlb⟩ := id Kb
  by_cases f1 : 600 < xs.length
  · rw [decide_eq_true f1] at hF1
    go_enter Tryd.func9, Tryd.ntmps9
    go_wp2_with fail
    go_at_call 20
    refine (hF1 _).mono ?_
    rintro e w1 ⟨rfl, hb1⟩
    have hz := hz.trans (hb1.mono hz.size)
    go_wp2_with fail
    go_at_call 12
    refine (wawake_ok _).mono ?_
    rintro e w9 ⟨rfl, hb2⟩
    go_wp2
    go_ret
    exact ⟨rfl, hz.trans (hb2.mono hz.size)⟩
  · rw [decide_eq_false f1] at hF1
    by_cases f2 : 600 < ys.length
    · rw [decide_eq_true f2] at hF2
      go_enter Tryd.func9, Tryd.ntmps9
      go_wp2_with fail
      go_at_call 20
      refine (hF1 _).mono ?_
      rintro e w1 ⟨rfl, hb1⟩
      have hz := hz.trans (hb1.mono hz.size)
      have Kb := Kb.later hb1
      clear q0a q1a f0a f1a qla q0b q1b f0b f1b qlb
      obtain ⟨q0b, q1b, f0b, f1b, qlb⟩ := id Kb
      go_wp2_with fail
      go_at_call 20
      refine (hF2 _).mono ?_
      rintro e w2 ⟨rfl, hb2⟩
      have hz := hz.trans (hb2.mono hz.size)
      go_wp2_with fail
      go_at_call 12
      refine (wawake_ok _).mono ?_
      rintro e w9 ⟨rfl, hb2⟩
      go_wp2
      go_ret
      exact ⟨rfl, hz.trans (hb2.mono hz.size)⟩
    · rw [decide_eq_false f2] at hF2
      clear q0a q1a f0a f1a qla q0b q1b f0b f1b qlb
      have hD1 := fun (W : World) (g g' cp cp' : Nat) (hp : RdI W .u32 (some ⟨g, 0, none⟩) (xs ++ [77])) (lp : xs.length + 1 ≤ cp) (mp : cp ≤ 9223372036854775807) (hp' : RdI W .u32 (some ⟨g', 0, none⟩) (ys ++ [77])) (lp' : ys.length + 1 ≤ cp') (mp' : cp' ≤ 9223372036854775807) => wDivide_ok b1 b2 (some ⟨g, 0, none⟩) (some ⟨g', 0, none⟩) cp cp' xs ys W hX hY (rd_left hp) (rd_left hp') (by omega) mp (by omega) mp'
      have hD2 := fun (W : World) (h : RdI W .u32 A xs) (h' : RdI W .u32 B ys) => refDivide_ok b1 b2 A B c1 c2 xs ys W hX hY h h' hl hc hl2 hc2 (by omega) (by omega)
      unfold RetDiv at hD1 hD2
      generalize dvQ (valI b1 xs) (valI b2 ys) = Q at *
      generalize dvR (valI b1 xs) (valI b2 ys) = R at *
      generalize dvE (valI b1 xs) (valI b2 ys) = E at *
      go_enter Tryd.func9, Tryd.ntmps9
      obtain ⟨q0a, q1a, f0a, f1a, qla⟩ := id Ka
      obtain ⟨q0b, q1b, f0b, f1b, qlb⟩ := id Kb
      go_wp2_with fail
      go_at_call 20
      refine (hF1 _).mono ?_
      rintro e v1 ⟨rfl, hb⟩
      clear q0a q1a f0a f1a qla
      clear q0b q1b f0b f1b qlb
      replace hz := hz.trans (hb.mono hz.size)
      replace Ka := Ka.later hb
      replace Kb := Kb.later hb
      replace hr := hr.later hb
      replace hr2 := hr2.later hb
      clear hb
      obtain ⟨q0a, q1a, f0a, f1a, qla⟩ := id Ka
      obtain ⟨q0b, q1b, f0b, f1b, qlb⟩ := id Kb
      go_wp2_with fail
      go_at_call 20
      refine (hF2 _).mono ?_
      rintro e v2 ⟨rfl, hb⟩
      clear q0a q1a f0a f1a qla
      clear q0b q1b f0b f1b qlb
      replace hz := hz.trans (hb.mono hz.size)
      replace Ka := Ka.later hb
      replace Kb := Kb.later hb
      replace hr := hr.later hb
      replace hr2 := hr2.later hb
      clear hb
      obtain ⟨q0a, q1a, f0a, f1a, qla⟩ := id Ka
      obtain ⟨q0b, q1b, f0b, f1b, qlb⟩ := id Kb
      go_wp2_with fail
      go_at_call 21
      refine (lent_ok b1 A c1 xs _ hr hl hc (by omega)).mono ?_
      rintro e vp ⟨g, cp, rfl, lp, mp, Rp, hb⟩
      clear q0a q1a f0a f1a qla
      clear q0b q1b f0b f1b qlb
      replace hz := hz.trans (hb.mono hz.size)
      replace Ka := Ka.later hb
      replace Kb := Kb.later hb
      replace hr := hr.later hb
      replace hr2 := hr2.later hb
      clear hb
      obtain ⟨up, hup⟩ : ∃ u, vp.alloc (.cells #[.bool b1, .slice (some ⟨g, 0, none⟩) xs.length cp] 24) = u := ⟨_, rfl⟩
      obtain ⟨hx, Kp⟩ := bx_new vp _ _ up hup
      replace hz := hz.trans (hx.mono hz.size)
      replace Ka := Ka.later hx
      replace Kb := Kb.later hx
      replace hr := hr.later hx
      replace hr2 := hr2.later hx
      replace Rp := Rp.later hx
      clear hx
      obtain ⟨q0a, q1a, f0a, f1a, qla⟩ := id Ka
      obtain ⟨q0b, q1b, f0b, f1b, qlb⟩ := id Kb
      obtain ⟨q0p, q1p, f0p, f1p, qlp⟩ := id Kp
      go_wp2_with fail
      go_at_call 21
      refine (lent_ok b2 B c2 ys _ hr2 hl2 hc2 (by omega)).mono ?_
      rintro e vq ⟨g', cp', rfl, lp', mp', Rq, hb⟩
      clear q0a q1a f0a f1a qla
      clear q0b q1b f0b f1b qlb
      clear q0p q1p f0p f1p qlp
      replace hz := hz.trans (hb.mono hz.size)
      replace Ka := Ka.later hb
      replace Kb := Kb.later hb
      replace Kp := Kp.later hb
      replace hr := hr.later hb
      replace hr2 := hr2.later hb
      replace Rp := Rp.later hb
      clear hb
      obtain ⟨uq, huq⟩ : ∃ u, vq.alloc (.cells #[.bool b2, .slice (some ⟨g', 0, none⟩) ys.length cp'] 24) = u := ⟨_, rfl⟩
      obtain ⟨hx, Kq⟩ := bx_new vq _ _ uq huq
      replace hz := hz.trans (hx.mono hz.size)
      replace Ka := Ka.later hx
      replace Kb := Kb.later hx
      replace Kp := Kp.later hx
      replace hr := hr.later hx
      replace hr2 := hr2.later hx
      replace Rp := Rp.later hx
      replace Rq := Rq.later hx
      clear hx
      obtain ⟨q0a, q1a, f0a, f1a, qla⟩ := id Ka
      obtain ⟨q0b, q1b, f0b, f1b, qlb⟩ := id Kb
      obtain ⟨q0p, q1p, f0p, f1p, qlp⟩ := id Kp
      obtain ⟨q0q, q1q, f0q, f1q, qlq⟩ := id Kq
      go_wp2_with fail
      go_at_call 41
      refine (hD1 _ g g' cp cp' Rp lp mp Rq lp' mp').mono ?_
      rintro e vx ⟨Ax, cx, Ar, cr, rfl, Cx, Cr, hb⟩
      clear q0a q1a f0a f1a qla
      clear q0b q1b f0b f1b qlb
      clear q0p q1p f0p f1p qlp
      clear q0q q1q f0q f1q qlq
      replace hz := hz.trans (hb.mono hz.size)
      replace Ka := Ka.later hb
      replace Kb := Kb.later hb
      replace Kp := Kp.later hb
      replace Kq := Kq.later hb
      replace hr := hr.later hb
      replace hr2 := hr2.later hb
      replace Rp := Rp.later hb
      replace Rq := Rq.later hb
      clear hb
      clear hD1
      obtain ⟨ux, hux⟩ : ∃ u, (vx.alloc (.cells #[.bool (cb Q), .slice Ax (cz Q).length cx] 24)).alloc (.cells #[.bool (cb R), .slice Ar (cz R).length cr] 24) = u := ⟨_, rfl⟩
      obtain ⟨hx, Kx⟩ := bx_new vx (.bool (cb Q)) (.slice Ax (cz Q).length cx) _ rfl
      obtain ⟨hy, Kr⟩ := bx_new (vx.alloc (.cells #[.bool (cb Q), .slice Ax (cz Q).length cx] 24)) (.bool (cb R)) (.slice Ar (cz R).length cr) ux hux
      have hszx : (vx.alloc (.cells #[.bool (cb Q), .slice Ax (cz Q).length cx] 24)).heap.size = vx.heap.size + 1 := by simp
      rw [hszx] at Kr
      clear hszx
      replace Kx := Kx.later hy
      replace hx := hx.trans (hy.mono hx.size)
      clear hy
      replace hz := hz.trans (hx.mono hz.size)
      replace Ka := Ka.later hx
      replace Kb := Kb.later hx
      replace Kp := Kp.later hx
      replace Kq := Kq.later hx
      replace hr := hr.later hx
      replace hr2 := hr2.later hx
      replace Rp := Rp.later hx
      replace Rq := Rq.later hx
      replace Cx := Cx.later hx
      replace Cr := Cr.later hx
      clear hx
      obtain ⟨q0a, q1a, f0a, f1a, qla⟩ := id Ka
      obtain ⟨q0b, q1b, f0b, f1b, qlb⟩ := id Kb
      go_wp2_with fail
      go_at_call 42
      refine (hD2 _ hr hr2).mono ?_
      rintro e vy ⟨Ay, cy, As, cs, rfl, Cy, Cs, hb⟩
      clear q0a q1a f0a f1a qla
      clear q0b q1b f0b f1b qlb
      replace hz := hz.trans (hb.mono hz.size)
      replace Ka := Ka.later hb
      replace Kb := Kb.later hb
      replace Kp := Kp.later hb
      replace Kq := Kq.later hb
      replace Kx := Kx.later hb
      replace Kr := Kr.later hb
      replace hr := hr.later hb
      replace hr2 := hr2.later hb
      replace Rp := Rp.later hb
      replace Rq := Rq.later hb
      replace Cx := Cx.later hb
      replace Cr := Cr.later hb
      clear hb
      clear hD2
      obtain ⟨uy, huy⟩ : ∃ u, (vy.alloc (.cells #[.bool (cb Q), .slice Ay (cz Q).length cy] 24)).alloc (.cells #[.bool (cb R), .slice As (cz R).length cs] 24) = u := ⟨_, rfl⟩
      obtain ⟨hx, Ky⟩ := bx_new vy (.bool (cb Q)) (.slice Ay (cz Q).length cy) _ rfl
      obtain ⟨hy, Ks⟩ := bx_new (vy.alloc (.cells #[.bool (cb Q), .slice Ay (cz Q).length cy] 24)) (.bool (cb R)) (.slice As (cz R).length cs) uy huy
      have hszy : (vy.alloc (.cells #[.bool (cb Q), .slice Ay (cz Q).length cy] 24)).heap.size = vy.heap.size + 1 := by simp
      rw [hszy] at Ks
      clear hszy
      replace Ky := Ky.later hy
      replace hx := hx.trans (hy.mono hx.size)
      clear hy
      replace hz := hz.trans (hx.mono hz.size)
      replace Ka := Ka.later hx
      replace Kb := Kb.later hx
      replace Kp := Kp.later hx
      replace Kq := Kq.later hx
      replace Kx := Kx.later hx
      replace Kr := Kr.later hx
      replace hr := hr.later hx
      replace hr2 := hr2.later hx
      replace Rp := Rp.later hx
      replace Rq := Rq.later hx
      replace Cx := Cx.later hx
      replace Cr := Cr.later hx
      replace Cy := Cy.later hx
      replace Cs := Cs.later hx
      clear hx
      obtain ⟨q0x, q1x, f0x, f1x, qlx⟩ := id Kx
      obtain ⟨q0y, q1y, f0y, f1y, qly⟩ := id Ky
      go_wp2_with fail
      go_at_call 18
      refine (same_ok (cb Q) Ax Ay cx cy (cz Q) _ Cx.2.2.rd Cy.2.2.rd Cx.1 Cx.2.1 Cy.1 Cy.2.1).mono ?_
      rintro e v5 ⟨rfl, hb⟩
      clear q0x q1x f0x f1x qlx
      clear q0y q1y f0y f1y qly
      replace hz := hz.trans (hb.mono hz.size)
      replace Ka := Ka.later hb
      replace Kb := Kb.later hb
      replace Kp := Kp.later hb
      replace Kq := Kq.later hb
      replace Kx := Kx.later hb
      replace Kr := Kr.later hb
      replace Ky := Ky.later hb
      replace Ks := Ks.later hb
      replace hr := hr.later hb
      replace hr2 := hr2.later hb
      replace Rp := Rp.later hb
      replace Rq := Rq.later hb
      replace Cx := Cx.later hb
      replace Cr := Cr.later hb
      replace Cy := Cy.later hb
      replace Cs := Cs.later hb
      clear hb
      clear Cx Cy Kx Ky
      obtain ⟨q0r, q1r, f0r, f1r, qlr⟩ := id Kr
      obtain ⟨q0s, q1s, f0s, f1s, qls⟩ := id Ks
      go_wp2_with fail
      go_at_call 18
      refine (same_ok (cb R) Ar As cr cs (cz R) _ Cr.2.2.rd Cs.2.2.rd Cr.1 Cr.2.1 Cs.1 Cs.2.1).mono ?_
      rintro e v6 ⟨rfl, hb⟩
      clear q0r q1r f0r f1r qlr
      clear q0s q1s f0s f1s qls
      replace hz := hz.trans (hb.mono hz.size)
      replace Ka := Ka.later hb
      replace Kb := Kb.later hb
      replace Kp := Kp.later hb
      replace Kq := Kq.later hb
      replace Kr := Kr.later hb
      replace Ks := Ks.later hb
      replace hr := hr.later hb
      replace hr2 := hr2.later hb
      replace Rp := Rp.later hb
      replace Rq := Rq.later hb
      replace Cr := Cr.later hb
      replace Cs := Cs.later hb
      clear hb
      clear Cr Cs Kr Ks
      obtain ⟨q0p, q1p, f0p, f1p, qlp⟩ := id Kp
      obtain ⟨q0a, q1a, f0a, f1a, qla⟩ := id Ka
      go_wp2_with fail
      go_at_call 31
      refine (back_ok b1 (some ⟨g, 0, none⟩) A cp c1 xs _ Rp hr lp mp hl hc (by omega)).mono ?_
      rintro e v7 ⟨rfl, hb⟩
      clear q0p q1p f0p f1p qlp
      clear q0a q1a f0a f1a qla
      replace hz := hz.trans (hb.mono hz.size)
      replace Ka := Ka.later hb
      replace Kb := Kb.later hb
      replace Kp := Kp.later hb
      replace Kq := Kq.later hb
      replace hr := hr.later hb
      replace hr2 := hr2.later hb
      replace Rp := Rp.later hb
      replace Rq := Rq.later hb
      clear hb
      clear Kp Ka Rp hr
      obtain ⟨q0q, q1q, f0q, f1q, qlq⟩ := id Kq
      obtain ⟨q0b, q1b, f0b, f1b, qlb⟩ := id Kb
      go_wp2_with fail
      go_at_call 31
      refine (back_ok b2 (some ⟨g', 0, none⟩) B cp' c2 ys _ Rq hr2 lp' mp' hl2 hc2 (by omega)).mono ?_
      rintro e v8 ⟨rfl, hb⟩
      clear q0q q1q f0q f1q qlq
      clear q0b q1b f0b f1b qlb
      replace hz := hz.trans (hb.mono hz.size)
      replace Kb := Kb.later hb
      replace Kq := Kq.later hb
      replace hr2 := hr2.later hb
      replace Rq := Rq.later hb
      clear hb
      clear Kq Kb Rq hr2
      go_wp2_with fail
      go_at_call 12
      refine (wawake_ok _).mono ?_
      rintro e v9 ⟨rfl, hb⟩
      replace hz := hz.trans (hb.mono hz.size)
      clear hb
      go_wp2
      go_ret
      exact ⟨rfl, hz⟩
end Go.Proofs.YtegdbcnloodljaaDoor
