/- The law WholeLaws. -/
import Derived.Test.YtegdbcnloodljaaDoorLawOrders
import Derived.Test.YtegdbcnloodljaaDoorLawHelp
import Derived.Test.YtegdbcnloodljaaDoorR8
import Derived.Test.YtegdbcnloodljaaDoorVals
import Derived.Deep.RegionHeld3
import Derived.Deep.RegionWith
import Derived.Deep.Cut
import Derived.Deep.DeepCutAuto
namespace Go.Proofs.YtegdbcnloodljaaDoor
set_option linter.unusedVariables false
set_option linter.unusedSimpArgs false
open Go.RowKit
set_option maxRecDepth 1000000

/-- a new box of two cells. -/
theorem boxed (v : World) (a0 a1 : Value) (u : World) (h : v.alloc (.cells #[a0, a1] 24) = u) : Below v.heap.size v u ∧ u.cell? ⟨v.heap.size, 0, none⟩ = some a0 ∧ u.cell? ⟨v.heap.size, 1, none⟩ = some a1 ∧ v.heap.size < u.heap.size := by
  subst h
  refine ⟨(Below.refl _ _).alloc (Nat.le_refl _) _, by simp [go_sem], by simp [go_sem], by simp⟩
section
variable {w : World} {b1 b2 : Bool} {A B : Option Addr} {m n c d : Nat} {X Y : Int}
theorem vTimes (h : IsI w b1 A m c X) (h' : IsI w b2 B n d Y) {j k : Nat} (h1 : Sm X j) (h2 : Sm Y k) (hk : j + k ≤ 256) : Calls Tryd.prog 32 #[.agg #[.bool b1, .slice A m c], .agg #[.bool b2, .slice B n d]] w (RetCT w (X * Y) (.bool true)) := by
  obtain ⟨xs, rfl, r1, q1, l1, m1, _, v1⟩ := h
  obtain ⟨ys, rfl, r2, q2, l2, m2, _, v2⟩ := h'
  refine (wTimes_ok b1 b2 A B c d xs ys w q1 q2 r1 r2 l1 m1 l2 m2 (X * Y) ?_).mono ?_
  · rw [v1, v2, mulO, h1.big (by omega), h2.big (by omega), (h1.mul h2).big hk]; rfl
  · rintro e w' ⟨A', c', he, hc, hb⟩
    exact ⟨A', _, c', he, rfl, hc, hb⟩
theorem vSub (h : IsI w b1 A m c X) (h' : IsI w b2 B n d Y) {k : Nat} (h1 : Sm X k) (h2 : Sm Y k) (hk : k ≤ 255) : Calls Tryd.prog 25 #[.agg #[.bool b1, .slice A m c], .agg #[.bool b2, .slice B n d]] w (RetCT w (X + -Y) (.int .i64 0)) := by
  obtain ⟨xs, rfl, r1, q1, l1, m1, _, v1⟩ := h
  obtain ⟨ys, rfl, r2, q2, l2, m2, _, v2⟩ := h'
  have := wSub_ok b1 b2 A B c d xs ys w q1 q2 r1 r2 l1 m1 l2 m2
  rw [v1, v2, addO, h1.big (by omega), h2.neg.big (by omega), (h1.add h2.neg).big (by omega)] at this
  exact this.mono fun e w' h => retCT_of h
theorem vMulOne (h : IsI w b1 A m c X) (h' : IsI w b2 B n d 1) {j : Nat} (h1 : Sm X j) (hj : j ≤ 255) : Calls Tryd.prog 27 #[.agg #[.bool b1, .slice A m c], .agg #[.bool b2, .slice B n d]] w (RetCT w X (.int .i64 0)) := by
  have := vMul h h' h1 (show Sm 1 1 by unfold Sm; decide) (by omega)
  rwa [Int.mul_one] at this
theorem vAddNeg (h : IsI w b1 A m c X) (h' : IsI w b2 B n d (-X)) {j : Nat} (h1 : Sm X j) (hj : j ≤ 255) : Calls Tryd.prog 22 #[.agg #[.bool b1, .slice A m c], .agg #[.bool b2, .slice B n d]] w (RetCT w 0 (.int .i64 0)) := by
  have := vAdd h h' h1 h1.neg hj
  rwa [Int.add_right_neg] at this
/-- a box that was made ahead, in later worlds. -/
theorem old_box {W W' : World} {a0 a1 : Value} (h : Below (W.alloc (.cells #[a0, a1] 24)).heap.size (W.alloc (.cells #[a0, a1] 24)) W') : W'.cell? ⟨W.heap.size, 0, none⟩ = some a0 ∧ W'.cell? ⟨W.heap.size, 1, none⟩ = some a1 ∧ W'.frozen? ⟨W.heap.size, 0, none⟩ = false ∧ W'.frozen? ⟨W.heap.size, 1, none⟩ = false ∧ W.heap.size < W'.heap.size := by
  have hs := h.size
  simp at hs
  refine ⟨cell_later h (by simp [go_sem]), cell_later h (by simp [go_sem]), (h.frozen (p := ⟨W.heap.size, 0, none⟩) (by simp)).trans (by simp [go_sem]), (h.frozen (p := ⟨W.heap.size, 1, none⟩) (by simp)).trans (by simp [go_sem]), by omega⟩
theorem old_boxd {W W' : World} {a0 a1 : Value} (h : Below (W.alloc (.cells #[a0, a1] 24)).drew.heap.size (W.alloc (.cells #[a0, a1] 24)).drew W') : W'.cell? ⟨W.heap.size, 0, none⟩ = some a0 ∧ W'.cell? ⟨W.heap.size, 1, none⟩ = some a1 ∧ W'.frozen? ⟨W.heap.size, 0, none⟩ = false ∧ W'.frozen? ⟨W.heap.size, 1, none⟩ = false ∧ W.heap.size < W'.heap.size :=
  old_box ((below_drew (Below.refl _ _)).trans h)
end

set_option maxHeartbeats 8000000 in
theorem lawLaws_any (b1 : Bool) (A : Option Addr) (c1 : Nat) (us : List U32) (b2 : Bool) (B : Option Addr) (c2 : Nat) (vs : List U32) (b3 : Bool) (C : Option Addr) (c3 : Nat) (ts : List U32) (w : World)
    (hr : RdI w .u32 A (vals us)) (hl : us.length ≤ c1) (hc : c1 ≤ maxLen) (hr2 : RdI w .u32 B (vals vs)) (hl2 : vs.length ≤ c2) (hc2 : c2 ≤ maxLen) (hr3 : RdI w .u32 C (vals ts)) (hl3 : ts.length ≤ c3) (hc3 : c3 ≤ maxLen) :
    Calls Tryd.prog 6 #[.agg #[.bool b1, .slice A us.length c1], .agg #[.bool b2, .slice B vs.length c2], .agg #[.bool b3, .slice C ts.length c3]] w fun e w' => e = .returned (.bool true) ∧ Below w.heap.size w w' := by
  have hX := w32_vals us
  have hY := w32_vals vs
  have hZ := w32_vals ts
  rw [← vals_length] at hl hl2 hl3 ⊢
  rw [← vals_length, ← vals_length]
  generalize vals us = xs at *
  generalize vals vs = ys at *
  generalize vals ts = zs at *
  clear us vs ts
  have hc : c1 ≤ 9223372036854775807 := hc
  have hc2 : c2 ≤ 9223372036854775807 := hc2
  have hc3 : c3 ≤ 9223372036854775807 := hc3
  obtain ⟨W3, hW3⟩ : ∃ W3, ((w.alloc (.cells #[.bool b1, .slice A xs.length c1] 24)).alloc (.cells #[.bool b2, .slice B ys.length c2] 24)).alloc (.cells #[.bool b3, .slice C zs.length c3] 24) = W3 := ⟨_, rfl⟩
  have hw3 : Below w.heap.size w W3 := by rw [← hW3]; exact (((Below.refl _ _).alloc (Nat.le_refl _) _).alloc (by simp) _).alloc (by simp; omega) _
  have hbox := fun W h => boxes3p w (.bool b1) (.slice A xs.length c1) (.bool b2) (.slice B ys.length c2) (.bool b3) (.slice C zs.length c3) W h
  rw [hW3] at hbox
  have hz : Below (w.heap.size + 3) W3 W3 := Below.refl _ _
  have hB : ∀ W, Below (w.heap.size + 3) W3 W → Below w.heap.size w W := fun W h => hw3.trans (h.mono (by omega))
  have hF1 := fun W => few_ok b1 A c1 xs.length W
  have hF2 := fun W => few_ok b2 B c2 ys.length W
  have hF3 := fun W => few_ok b3 C c3 zs.length W
  obtain ⟨j1, j2, j3, j4, j5, j6, j7⟩ := hbox W3 hz
  by_cases f1 : xs.length ≤ 80
  · by_cases f2 : ys.length ≤ 80
    · by_cases f3 : zs.length ≤ 80
      · rw [decide_eq_true f1] at hF1
        rw [decide_eq_true f2] at hF2
        rw [decide_eq_true f3] at hF3
        have Ia : ∀ W, Below (w.heap.size + 3) W3 W → IsI W b1 A xs.length c1 (valI b1 xs) := fun W h => ⟨xs, rfl, hr.later (hB W h), hX, hl, hc, by omega, rfl⟩
        have Ib : ∀ W, Below (w.heap.size + 3) W3 W → IsI W b2 B ys.length c2 (valI b2 ys) := fun W h => ⟨ys, rfl, hr2.later (hB W h), hY, hl2, hc2, by omega, rfl⟩
        have Ic : ∀ W, Below (w.heap.size + 3) W3 W → IsI W b3 C zs.length c3 (valI b3 zs) := fun W h => ⟨zs, rfl, hr3.later (hB W h), hZ, hl3, hc3, by omega, rfl⟩
        have sX : Sm (valI b1 xs) 80 := (Ia _ hz).sm.mono f1
        have sY : Sm (valI b2 ys) 80 := (Ib _ hz).sm.mono f2
        have sZ : Sm (valI b3 zs) 80 := (Ic _ hz).sm.mono f3
        generalize valI b1 xs = X at *
        generalize valI b2 ys = Y at *
        generalize valI b3 zs = Z at *
        obtain ⟨S1, hS1⟩ : ∃ S, X + Y = S := ⟨_, rfl⟩
        obtain ⟨S2, hS2⟩ : ∃ S, S1 + Z = S := ⟨_, rfl⟩
        obtain ⟨BC, hBC⟩ : ∃ S, Y + Z = S := ⟨_, rfl⟩
        obtain ⟨P1, hP1⟩ : ∃ S, X * Y = S := ⟨_, rfl⟩
        obtain ⟨P2, hP2⟩ : ∃ S, S1 * Z = S := ⟨_, rfl⟩
        obtain ⟨AC, hAC⟩ : ∃ S, X * Z = S := ⟨_, rfl⟩
        obtain ⟨CB, hCB⟩ : ∃ S, Z * Y = S := ⟨_, rfl⟩
        have hS2' : X + BC = S2 := by omega
        have hP2' : AC + CB = P2 := by rw [← hP2, ← hS1, ← hAC, ← hCB, Int.add_mul, Int.mul_comm Z Y]
        have hD : S1 + -Y = X := by omega
        have s1 : Sm S1 81 := by rw [← hS1]; exact sX.add sY
        have s2 : Sm S2 82 := by rw [← hS2]; exact s1.add (sZ.mono (by omega))
        have sBC : Sm BC 81 := by rw [← hBC]; exact sY.add sZ
        have p1 : Sm P1 160 := by rw [← hP1]; exact (sX.mul sY).mono (by decide)
        have p2 : Sm P2 161 := by rw [← hP2]; exact (s1.mul sZ).mono (by decide)
        have sAC : Sm AC 160 := by rw [← hAC]; exact (sX.mul sZ).mono (by decide)
        have sCB : Sm CB 160 := by rw [← hCB]; exact (sZ.mul sY).mono (by decide)
        have sX' : Sm X 80 := sX
        have s1' : Sm 1 1 := by unfold Sm; decide
        have s1w : Sm 1 257 := s1'.mono (by omega)
        have s0 : Sm 0 1 := by unfold Sm; decide
        clear hr hr2 hr3 hX hY hZ
        have u0 := hB W3 hz
        go_enter Tryd.func6, Tryd.ntmps6
        have hc := hF1 W3
        go_wp2_with fail
        go_at_call 11
        refine hc.mono ?_
        clear hc
        rintro e v1 ⟨rfl, hb⟩
        clear j1 j2 j3 j4 j5 j6 j7
        replace hz : Below (w.heap.size + 3) W3 v1 := hz.trans (hb.mono (hbox _ hz).2.2.2.2.2.2)
        obtain ⟨j1, j2, j3, j4, j5, j6, j7⟩ := hbox v1 hz
        have hc := hF2 v1
        go_wp2_with fail
        go_at_call 11
        refine hc.mono ?_
        clear hc
        rintro e v2 ⟨rfl, hb⟩
        clear j1 j2 j3 j4 j5 j6 j7
        replace hz : Below (w.heap.size + 3) W3 v2 := hz.trans (hb.mono (hbox _ hz).2.2.2.2.2.2)
        obtain ⟨j1, j2, j3, j4, j5, j6, j7⟩ := hbox v2 hz
        have hc := hF3 v2
        go_wp2_with fail
        go_at_call 11
        refine hc.mono ?_
        clear hc
        rintro e v3 ⟨rfl, hb⟩
        clear j1 j2 j3 j4 j5 j6 j7
        replace hz : Below (w.heap.size + 3) W3 v3 := hz.trans (hb.mono (hbox _ hz).2.2.2.2.2.2)
        obtain ⟨j1, j2, j3, j4, j5, j6, j7⟩ := hbox v3 hz
        have hc := vSum (Ia _ hz) (Ib _ hz) sX sY (by omega)
        rw [hS1] at hc
        go_wp2_with fail
        go_at_call 15
        refine hc.mono ?_
        clear hc
        rintro e v4 ⟨Aab, _, cab, rfl, rfl, row, hb⟩
        clear j1 j2 j3 j4 j5 j6 j7
        replace hz : Below (w.heap.size + 3) W3 v4 := hz.trans (hb.mono (hbox _ hz).2.2.2.2.2.2)
        obtain ⟨j1, j2, j3, j4, j5, j6, j7⟩ := hbox v4 hz
        obtain ⟨uab, huab⟩ : ∃ u, v4.alloc (.cells #[.bool (cb (some S1)), .slice Aab (cz (some S1)).length cab] 24) = u := ⟨_, rfl⟩
        obtain ⟨hx, c0ab, c1ab, hltab⟩ := boxed v4 _ _ uab huab
        clear j1 j2 j3 j4 j5 j6 j7
        replace hz : Below (w.heap.size + 3) W3 uab := hz.trans (hx.mono (hbox _ hz).2.2.2.2.2.2)
        obtain ⟨j1, j2, j3, j4, j5, j6, j7⟩ := hbox uab hz
        have Iab : IsI uab (cb (some S1)) Aab (cz (some S1)).length cab S1 := (row.isI rfl (s1.mono (by omega))).later hx
        have Rab := row.later hx
        have Pab := Below.refl uab.heap.size uab
        clear hx row hltab
        have hc := vSum (Ib _ hz) (Ia _ hz) sY sX (by omega)
        rw [Int.add_comm Y X] at hc
        rw [hS1] at hc
        go_wp2_with fail
        go_at_call 15
        refine hc.mono ?_
        clear hc
        rintro e v5 ⟨Aba, _, cba, rfl, rfl, row, hb⟩
        clear j1 j2 j3 j4 j5 j6 j7
        replace hz : Below (w.heap.size + 3) W3 v5 := hz.trans (hb.mono (hbox _ hz).2.2.2.2.2.2)
        obtain ⟨j1, j2, j3, j4, j5, j6, j7⟩ := hbox v5 hz
        replace Pab := Pab.trans (hb.mono Pab.size)
        obtain ⟨uba, huba⟩ : ∃ u, v5.alloc (.cells #[.bool (cb (some S1)), .slice Aba (cz (some S1)).length cba] 24) = u := ⟨_, rfl⟩
        obtain ⟨hx, c0ba, c1ba, hltba⟩ := boxed v5 _ _ uba huba
        clear j1 j2 j3 j4 j5 j6 j7
        replace hz : Below (w.heap.size + 3) W3 uba := hz.trans (hx.mono (hbox _ hz).2.2.2.2.2.2)
        obtain ⟨j1, j2, j3, j4, j5, j6, j7⟩ := hbox uba hz
        replace Pab := Pab.trans (hx.mono Pab.size)
        have Iba : IsI uba (cb (some S1)) Aba (cz (some S1)).length cba S1 := (row.isI rfl (s1.mono (by omega))).later hx
        have Rba := row.later hx
        have Pba := Below.refl uba.heap.size uba
        clear hx row hltba
        have q0ab := cell_later Pab c0ab
        have q1ab := cell_later Pab c1ab
        have qlab : v4.heap.size < uba.heap.size := World.block_lt_of_cell? _ _ q0ab
        have hc := vSum (Iab.later Pab) (Ic _ hz) s1 (sZ.mono (by omega)) (by omega)
        rw [hS2] at hc
        go_wp2_with fail
        go_at_call 15
        refine hc.mono ?_
        clear hc
        rintro e v6 ⟨Ax, _, cx, rfl, rfl, row, hb⟩
        clear q0ab q1ab qlab
        clear j1 j2 j3 j4 j5 j6 j7
        replace hz : Below (w.heap.size + 3) W3 v6 := hz.trans (hb.mono (hbox _ hz).2.2.2.2.2.2)
        obtain ⟨j1, j2, j3, j4, j5, j6, j7⟩ := hbox v6 hz
        replace Pab := Pab.trans (hb.mono Pab.size)
        replace Pba := Pba.trans (hb.mono Pba.size)
        obtain ⟨ux, hux⟩ : ∃ u, v6.alloc (.cells #[.bool (cb (some S2)), .slice Ax (cz (some S2)).length cx] 24) = u := ⟨_, rfl⟩
        obtain ⟨hx, c0x, c1x, hltx⟩ := boxed v6 _ _ ux hux
        clear j1 j2 j3 j4 j5 j6 j7
        replace hz : Below (w.heap.size + 3) W3 ux := hz.trans (hx.mono (hbox _ hz).2.2.2.2.2.2)
        obtain ⟨j1, j2, j3, j4, j5, j6, j7⟩ := hbox ux hz
        replace Pab := Pab.trans (hx.mono Pab.size)
        replace Pba := Pba.trans (hx.mono Pba.size)
        have Ix : IsI ux (cb (some S2)) Ax (cz (some S2)).length cx S2 := (row.isI rfl (s2.mono (by omega))).later hx
        have Rx := row.later hx
        have Px := Below.refl ux.heap.size ux
        clear hx row hltx
        have hc := vSum (Ib _ hz) (Ic _ hz) sY sZ (by omega)
        rw [hBC] at hc
        go_wp2_with fail
        go_at_call 15
        refine hc.mono ?_
        clear hc
        rintro e v7 ⟨Abc, _, cbc, rfl, rfl, row, hb⟩
        clear j1 j2 j3 j4 j5 j6 j7
        replace hz : Below (w.heap.size + 3) W3 v7 := hz.trans (hb.mono (hbox _ hz).2.2.2.2.2.2)
        obtain ⟨j1, j2, j3, j4, j5, j6, j7⟩ := hbox v7 hz
        replace Pab := Pab.trans (hb.mono Pab.size)
        replace Pba := Pba.trans (hb.mono Pba.size)
        replace Px := Px.trans (hb.mono Px.size)
        obtain ⟨ubc, hubc⟩ : ∃ u, v7.alloc (.cells #[.bool (cb (some BC)), .slice Abc (cz (some BC)).length cbc] 24) = u := ⟨_, rfl⟩
        obtain ⟨hx, c0bc, c1bc, hltbc⟩ := boxed v7 _ _ ubc hubc
        clear j1 j2 j3 j4 j5 j6 j7
        replace hz : Below (w.heap.size + 3) W3 ubc := hz.trans (hx.mono (hbox _ hz).2.2.2.2.2.2)
        obtain ⟨j1, j2, j3, j4, j5, j6, j7⟩ := hbox ubc hz
        replace Pab := Pab.trans (hx.mono Pab.size)
        replace Pba := Pba.trans (hx.mono Pba.size)
        replace Px := Px.trans (hx.mono Px.size)
        have Ibc : IsI ubc (cb (some BC)) Abc (cz (some BC)).length cbc BC := (row.isI rfl (sBC.mono (by omega))).later hx
        have Rbc := row.later hx
        have Pbc := Below.refl ubc.heap.size ubc
        clear hx row hltbc
        have q0bc := cell_later Pbc c0bc
        have q1bc := cell_later Pbc c1bc
        have qlbc : v7.heap.size < ubc.heap.size := World.block_lt_of_cell? _ _ q0bc
        have hc := vSum (Ia _ hz) (Ibc.later Pbc) (sX.mono (by omega)) sBC (by omega)
        rw [hS2'] at hc
        go_wp2_with fail
        go_at_call 15
        refine hc.mono ?_
        clear hc
        rintro e v8 ⟨Ay, _, cy, rfl, rfl, row, hb⟩
        clear q0bc q1bc qlbc
        clear j1 j2 j3 j4 j5 j6 j7
        replace hz : Below (w.heap.size + 3) W3 v8 := hz.trans (hb.mono (hbox _ hz).2.2.2.2.2.2)
        obtain ⟨j1, j2, j3, j4, j5, j6, j7⟩ := hbox v8 hz
        replace Pab := Pab.trans (hb.mono Pab.size)
        replace Pba := Pba.trans (hb.mono Pba.size)
        replace Px := Px.trans (hb.mono Px.size)
        replace Pbc := Pbc.trans (hb.mono Pbc.size)
        obtain ⟨uy, huy⟩ : ∃ u, v8.alloc (.cells #[.bool (cb (some S2)), .slice Ay (cz (some S2)).length cy] 24) = u := ⟨_, rfl⟩
        obtain ⟨hx, c0y, c1y, hlty⟩ := boxed v8 _ _ uy huy
        clear j1 j2 j3 j4 j5 j6 j7
        replace hz : Below (w.heap.size + 3) W3 uy := hz.trans (hx.mono (hbox _ hz).2.2.2.2.2.2)
        obtain ⟨j1, j2, j3, j4, j5, j6, j7⟩ := hbox uy hz
        replace Pab := Pab.trans (hx.mono Pab.size)
        replace Pba := Pba.trans (hx.mono Pba.size)
        replace Px := Px.trans (hx.mono Px.size)
        replace Pbc := Pbc.trans (hx.mono Pbc.size)
        have Iy : IsI uy (cb (some S2)) Ay (cz (some S2)).length cy S2 := (row.isI rfl (s2.mono (by omega))).later hx
        have Ry := row.later hx
        have Py := Below.refl uy.heap.size uy
        clear hx row hlty
        clear c0bc c1bc Ibc Rbc Pbc
        have q0ab := cell_later Pab c0ab
        have q1ab := cell_later Pab c1ab
        have qlab : v4.heap.size < uy.heap.size := World.block_lt_of_cell? _ _ q0ab
        have q0ba := cell_later Pba c0ba
        have q1ba := cell_later Pba c1ba
        have qlba : v5.heap.size < uy.heap.size := World.block_lt_of_cell? _ _ q0ba
        have hc := same_ok (cb (some S1)) Aab Aba cab cba (cz (some S1)) _ (Rab.later Pab).2.2.rd (Rba.later Pba).2.2.rd Rab.1 Rab.2.1 Rba.1 Rba.2.1
        go_wp2_with fail
        go_at_call 18
        refine hc.mono ?_
        clear hc
        rintro e v9 ⟨rfl, hb⟩
        clear q0ab q1ab qlab q0ba q1ba qlba
        clear j1 j2 j3 j4 j5 j6 j7
        replace hz : Below (w.heap.size + 3) W3 v9 := hz.trans (hb.mono (hbox _ hz).2.2.2.2.2.2)
        obtain ⟨j1, j2, j3, j4, j5, j6, j7⟩ := hbox v9 hz
        replace Pab := Pab.trans (hb.mono Pab.size)
        replace Pba := Pba.trans (hb.mono Pba.size)
        replace Px := Px.trans (hb.mono Px.size)
        replace Py := Py.trans (hb.mono Py.size)
        have q0x := cell_later Px c0x
        have q1x := cell_later Px c1x
        have qlx : v6.heap.size < v9.heap.size := World.block_lt_of_cell? _ _ q0x
        have q0y := cell_later Py c0y
        have q1y := cell_later Py c1y
        have qly : v8.heap.size < v9.heap.size := World.block_lt_of_cell? _ _ q0y
        have hc := same_ok (cb (some S2)) Ax Ay cx cy (cz (some S2)) _ (Rx.later Px).2.2.rd (Ry.later Py).2.2.rd Rx.1 Rx.2.1 Ry.1 Ry.2.1
        go_wp2_with fail
        go_at_call 18
        refine hc.mono ?_
        clear hc
        rintro e v10 ⟨rfl, hb⟩
        clear q0x q1x qlx q0y q1y qly
        clear j1 j2 j3 j4 j5 j6 j7
        replace hz : Below (w.heap.size + 3) W3 v10 := hz.trans (hb.mono (hbox _ hz).2.2.2.2.2.2)
        obtain ⟨j1, j2, j3, j4, j5, j6, j7⟩ := hbox v10 hz
        replace Pab := Pab.trans (hb.mono Pab.size)
        replace Pba := Pba.trans (hb.mono Pba.size)
        replace Px := Px.trans (hb.mono Px.size)
        replace Py := Py.trans (hb.mono Py.size)
        clear c0ba c1ba Iba Rba Pba
        clear c0x c1x Ix Rx Px
        clear c0y c1y Iy Ry Py
        have hc := vTimes (Ia _ hz) (Ib _ hz) sX sY (by omega)
        rw [hP1] at hc
        go_wp2_with fail
        go_at_call 32
        refine hc.mono ?_
        clear hc
        rintro e v11 ⟨Am, _, cm, rfl, rfl, row, hb⟩
        clear j1 j2 j3 j4 j5 j6 j7
        replace hz : Below (w.heap.size + 3) W3 v11 := hz.trans (hb.mono (hbox _ hz).2.2.2.2.2.2)
        obtain ⟨j1, j2, j3, j4, j5, j6, j7⟩ := hbox v11 hz
        replace Pab := Pab.trans (hb.mono Pab.size)
        obtain ⟨um, hum⟩ : ∃ u, v11.alloc (.cells #[.bool (cb (some P1)), .slice Am (cz (some P1)).length cm] 24) = u := ⟨_, rfl⟩
        obtain ⟨hx, c0m, c1m, hltm⟩ := boxed v11 _ _ um hum
        clear j1 j2 j3 j4 j5 j6 j7
        replace hz : Below (w.heap.size + 3) W3 um := hz.trans (hx.mono (hbox _ hz).2.2.2.2.2.2)
        obtain ⟨j1, j2, j3, j4, j5, j6, j7⟩ := hbox um hz
        replace Pab := Pab.trans (hx.mono Pab.size)
        have Im : IsI um (cb (some P1)) Am (cz (some P1)).length cm P1 := (row.isI rfl (p1.mono (by omega))).later hx
        have Rm := row.later hx
        have Pm := Below.refl um.heap.size um
        clear hx row hltm
        have hc := vTimes (Ib _ hz) (Ia _ hz) sY sX (by omega)
        rw [Int.mul_comm Y X] at hc
        rw [hP1] at hc
        go_wp2_with fail
        go_at_call 32
        refine hc.mono ?_
        clear hc
        rintro e v12 ⟨An, _, cn, rfl, rfl, row, hb⟩
        clear j1 j2 j3 j4 j5 j6 j7
        replace hz : Below (w.heap.size + 3) W3 v12 := hz.trans (hb.mono (hbox _ hz).2.2.2.2.2.2)
        obtain ⟨j1, j2, j3, j4, j5, j6, j7⟩ := hbox v12 hz
        replace Pab := Pab.trans (hb.mono Pab.size)
        replace Pm := Pm.trans (hb.mono Pm.size)
        obtain ⟨un, hun⟩ : ∃ u, v12.alloc (.cells #[.bool (cb (some P1)), .slice An (cz (some P1)).length cn] 24) = u := ⟨_, rfl⟩
        obtain ⟨hx, c0n, c1n, hltn⟩ := boxed v12 _ _ un hun
        clear j1 j2 j3 j4 j5 j6 j7
        replace hz : Below (w.heap.size + 3) W3 un := hz.trans (hx.mono (hbox _ hz).2.2.2.2.2.2)
        obtain ⟨j1, j2, j3, j4, j5, j6, j7⟩ := hbox un hz
        replace Pab := Pab.trans (hx.mono Pab.size)
        replace Pm := Pm.trans (hx.mono Pm.size)
        have In : IsI un (cb (some P1)) An (cz (some P1)).length cn P1 := (row.isI rfl (p1.mono (by omega))).later hx
        have Rn := row.later hx
        have Pn := Below.refl un.heap.size un
        clear hx row hltn
        have q0ab := cell_later Pab c0ab
        have q1ab := cell_later Pab c1ab
        have qlab : v4.heap.size < un.heap.size := World.block_lt_of_cell? _ _ q0ab
        have hc := vTimes (Iab.later Pab) (Ic _ hz) s1 sZ (by omega)
        rw [hP2] at hc
        go_wp2_with fail
        go_at_call 32
        refine hc.mono ?_
        clear hc
        rintro e v13 ⟨Al, _, cl, rfl, rfl, row, hb⟩
        clear q0ab q1ab qlab
        clear j1 j2 j3 j4 j5 j6 j7
        replace hz : Below (w.heap.size + 3) W3 v13 := hz.trans (hb.mono (hbox _ hz).2.2.2.2.2.2)
        obtain ⟨j1, j2, j3, j4, j5, j6, j7⟩ := hbox v13 hz
        replace Pab := Pab.trans (hb.mono Pab.size)
        replace Pm := Pm.trans (hb.mono Pm.size)
        replace Pn := Pn.trans (hb.mono Pn.size)
        obtain ⟨ul, hul⟩ : ∃ u, v13.alloc (.cells #[.bool (cb (some P2)), .slice Al (cz (some P2)).length cl] 24) = u := ⟨_, rfl⟩
        obtain ⟨hx, c0l, c1l, hltl⟩ := boxed v13 _ _ ul hul
        clear j1 j2 j3 j4 j5 j6 j7
        replace hz : Below (w.heap.size + 3) W3 ul := hz.trans (hx.mono (hbox _ hz).2.2.2.2.2.2)
        obtain ⟨j1, j2, j3, j4, j5, j6, j7⟩ := hbox ul hz
        replace Pab := Pab.trans (hx.mono Pab.size)
        replace Pm := Pm.trans (hx.mono Pm.size)
        replace Pn := Pn.trans (hx.mono Pn.size)
        have Il : IsI ul (cb (some P2)) Al (cz (some P2)).length cl P2 := (row.isI rfl (p2.mono (by omega))).later hx
        have Rl := row.later hx
        have Pl := Below.refl ul.heap.size ul
        clear hx row hltl
        have hc := vTimes (Ia _ hz) (Ic _ hz) sX sZ (by omega)
        rw [hAC] at hc
        go_wp2_with fail
        go_at_call 32
        refine hc.mono ?_
        clear hc
        rintro e v14 ⟨Aac, _, cac, rfl, rfl, row, hb⟩
        clear j1 j2 j3 j4 j5 j6 j7
        replace hz : Below (w.heap.size + 3) W3 v14 := hz.trans (hb.mono (hbox _ hz).2.2.2.2.2.2)
        obtain ⟨j1, j2, j3, j4, j5, j6, j7⟩ := hbox v14 hz
        replace Pab := Pab.trans (hb.mono Pab.size)
        replace Pm := Pm.trans (hb.mono Pm.size)
        replace Pn := Pn.trans (hb.mono Pn.size)
        replace Pl := Pl.trans (hb.mono Pl.size)
        obtain ⟨uac, huac⟩ : ∃ u, v14.alloc (.cells #[.bool (cb (some AC)), .slice Aac (cz (some AC)).length cac] 24) = u := ⟨_, rfl⟩
        obtain ⟨hx, c0ac, c1ac, hltac⟩ := boxed v14 _ _ uac huac
        clear j1 j2 j3 j4 j5 j6 j7
        replace hz : Below (w.heap.size + 3) W3 uac := hz.trans (hx.mono (hbox _ hz).2.2.2.2.2.2)
        obtain ⟨j1, j2, j3, j4, j5, j6, j7⟩ := hbox uac hz
        replace Pab := Pab.trans (hx.mono Pab.size)
        replace Pm := Pm.trans (hx.mono Pm.size)
        replace Pn := Pn.trans (hx.mono Pn.size)
        replace Pl := Pl.trans (hx.mono Pl.size)
        have Iac : IsI uac (cb (some AC)) Aac (cz (some AC)).length cac AC := (row.isI rfl (sAC.mono (by omega))).later hx
        have Rac := row.later hx
        have Pac := Below.refl uac.heap.size uac
        clear hx row hltac
        have hc := vTimes (Ic _ hz) (Ib _ hz) sZ sY (by omega)
        rw [hCB] at hc
        go_wp2_with fail
        go_at_call 32
        refine hc.mono ?_
        clear hc
        rintro e v15 ⟨Acb, _, ccb, rfl, rfl, row, hb⟩
        clear j1 j2 j3 j4 j5 j6 j7
        replace hz : Below (w.heap.size + 3) W3 v15 := hz.trans (hb.mono (hbox _ hz).2.2.2.2.2.2)
        obtain ⟨j1, j2, j3, j4, j5, j6, j7⟩ := hbox v15 hz
        replace Pab := Pab.trans (hb.mono Pab.size)
        replace Pm := Pm.trans (hb.mono Pm.size)
        replace Pn := Pn.trans (hb.mono Pn.size)
        replace Pl := Pl.trans (hb.mono Pl.size)
        replace Pac := Pac.trans (hb.mono Pac.size)
        obtain ⟨ucb, hucb⟩ : ∃ u, v15.alloc (.cells #[.bool (cb (some CB)), .slice Acb (cz (some CB)).length ccb] 24) = u := ⟨_, rfl⟩
        obtain ⟨hx, c0cb, c1cb, hltcb⟩ := boxed v15 _ _ ucb hucb
        clear j1 j2 j3 j4 j5 j6 j7
        replace hz : Below (w.heap.size + 3) W3 ucb := hz.trans (hx.mono (hbox _ hz).2.2.2.2.2.2)
        obtain ⟨j1, j2, j3, j4, j5, j6, j7⟩ := hbox ucb hz
        replace Pab := Pab.trans (hx.mono Pab.size)
        replace Pm := Pm.trans (hx.mono Pm.size)
        replace Pn := Pn.trans (hx.mono Pn.size)
        replace Pl := Pl.trans (hx.mono Pl.size)
        replace Pac := Pac.trans (hx.mono Pac.size)
        have Icb : IsI ucb (cb (some CB)) Acb (cz (some CB)).length ccb CB := (row.isI rfl (sCB.mono (by omega))).later hx
        have Rcb := row.later hx
        have Pcb := Below.refl ucb.heap.size ucb
        clear hx row hltcb
        have q0ac := cell_later Pac c0ac
        have q1ac := cell_later Pac c1ac
        have qlac : v14.heap.size < ucb.heap.size := World.block_lt_of_cell? _ _ q0ac
        have q0cb := cell_later Pcb c0cb
        have q1cb := cell_later Pcb c1cb
        have qlcb : v15.heap.size < ucb.heap.size := World.block_lt_of_cell? _ _ q0cb
        have hc := vSum (Iac.later Pac) (Icb.later Pcb) sAC sCB (by omega)
        rw [hP2'] at hc
        go_wp2_with fail
        go_at_call 15
        refine hc.mono ?_
        clear hc
        rintro e v16 ⟨Azz, _, czz, rfl, rfl, row, hb⟩
        clear q0ac q1ac qlac q0cb q1cb qlcb
        clear j1 j2 j3 j4 j5 j6 j7
        replace hz : Below (w.heap.size + 3) W3 v16 := hz.trans (hb.mono (hbox _ hz).2.2.2.2.2.2)
        obtain ⟨j1, j2, j3, j4, j5, j6, j7⟩ := hbox v16 hz
        replace Pab := Pab.trans (hb.mono Pab.size)
        replace Pm := Pm.trans (hb.mono Pm.size)
        replace Pn := Pn.trans (hb.mono Pn.size)
        replace Pl := Pl.trans (hb.mono Pl.size)
        replace Pac := Pac.trans (hb.mono Pac.size)
        replace Pcb := Pcb.trans (hb.mono Pcb.size)
        obtain ⟨uzz, huzz⟩ : ∃ u, v16.alloc (.cells #[.bool (cb (some P2)), .slice Azz (cz (some P2)).length czz] 24) = u := ⟨_, rfl⟩
        obtain ⟨hx, c0zz, c1zz, hltzz⟩ := boxed v16 _ _ uzz huzz
        clear j1 j2 j3 j4 j5 j6 j7
        replace hz : Below (w.heap.size + 3) W3 uzz := hz.trans (hx.mono (hbox _ hz).2.2.2.2.2.2)
        obtain ⟨j1, j2, j3, j4, j5, j6, j7⟩ := hbox uzz hz
        replace Pab := Pab.trans (hx.mono Pab.size)
        replace Pm := Pm.trans (hx.mono Pm.size)
        replace Pn := Pn.trans (hx.mono Pn.size)
        replace Pl := Pl.trans (hx.mono Pl.size)
        replace Pac := Pac.trans (hx.mono Pac.size)
        replace Pcb := Pcb.trans (hx.mono Pcb.size)
        have Izz : IsI uzz (cb (some P2)) Azz (cz (some P2)).length czz P2 := (row.isI rfl (p2.mono (by omega))).later hx
        have Rzz := row.later hx
        have Pzz := Below.refl uzz.heap.size uzz
        clear hx row hltzz
        clear c0ac c1ac Iac Rac Pac
        clear c0cb c1cb Icb Rcb Pcb
        have q0m := cell_later Pm c0m
        have q1m := cell_later Pm c1m
        have qlm : v11.heap.size < uzz.heap.size := World.block_lt_of_cell? _ _ q0m
        have q0n := cell_later Pn c0n
        have q1n := cell_later Pn c1n
        have qln : v12.heap.size < uzz.heap.size := World.block_lt_of_cell? _ _ q0n
        have hc := same_ok (cb (some P1)) Am An cm cn (cz (some P1)) _ (Rm.later Pm).2.2.rd (Rn.later Pn).2.2.rd Rm.1 Rm.2.1 Rn.1 Rn.2.1
        go_wp2_with fail
        go_at_call 18
        refine hc.mono ?_
        clear hc
        rintro e v17 ⟨rfl, hb⟩
        clear q0m q1m qlm q0n q1n qln
        clear j1 j2 j3 j4 j5 j6 j7
        replace hz : Below (w.heap.size + 3) W3 v17 := hz.trans (hb.mono (hbox _ hz).2.2.2.2.2.2)
        obtain ⟨j1, j2, j3, j4, j5, j6, j7⟩ := hbox v17 hz
        replace Pab := Pab.trans (hb.mono Pab.size)
        replace Pm := Pm.trans (hb.mono Pm.size)
        replace Pn := Pn.trans (hb.mono Pn.size)
        replace Pl := Pl.trans (hb.mono Pl.size)
        replace Pzz := Pzz.trans (hb.mono Pzz.size)
        have q0l := cell_later Pl c0l
        have q1l := cell_later Pl c1l
        have qll : v13.heap.size < v17.heap.size := World.block_lt_of_cell? _ _ q0l
        have q0zz := cell_later Pzz c0zz
        have q1zz := cell_later Pzz c1zz
        have qlzz : v16.heap.size < v17.heap.size := World.block_lt_of_cell? _ _ q0zz
        have hc := same_ok (cb (some P2)) Al Azz cl czz (cz (some P2)) _ (Rl.later Pl).2.2.rd (Rzz.later Pzz).2.2.rd Rl.1 Rl.2.1 Rzz.1 Rzz.2.1
        go_wp2_with fail
        go_at_call 18
        refine hc.mono ?_
        clear hc
        rintro e v18 ⟨rfl, hb⟩
        clear q0l q1l qll q0zz q1zz qlzz
        clear j1 j2 j3 j4 j5 j6 j7
        replace hz : Below (w.heap.size + 3) W3 v18 := hz.trans (hb.mono (hbox _ hz).2.2.2.2.2.2)
        obtain ⟨j1, j2, j3, j4, j5, j6, j7⟩ := hbox v18 hz
        replace Pab := Pab.trans (hb.mono Pab.size)
        replace Pm := Pm.trans (hb.mono Pm.size)
        replace Pn := Pn.trans (hb.mono Pn.size)
        replace Pl := Pl.trans (hb.mono Pl.size)
        replace Pzz := Pzz.trans (hb.mono Pzz.size)
        clear c0m c1m Im Rm Pm
        clear c0n c1n In Rn Pn
        clear c0l c1l Il Rl Pl
        clear c0zz c1zz Izz Rzz Pzz
        have q0ab := cell_later Pab c0ab
        have q1ab := cell_later Pab c1ab
        have qlab : v4.heap.size < v18.heap.size := World.block_lt_of_cell? _ _ q0ab
        have hc := vSub (Iab.later Pab) (Ib _ hz) s1 (sY.mono (by omega)) (by omega)
        rw [hD] at hc
        go_wp2_with fail
        go_at_call 25
        refine hc.mono ?_
        clear hc
        rintro e v19 ⟨Ad, _, cd, rfl, rfl, row, hb⟩
        clear q0ab q1ab qlab
        clear j1 j2 j3 j4 j5 j6 j7
        replace hz : Below (w.heap.size + 3) W3 v19 := hz.trans (hb.mono (hbox _ hz).2.2.2.2.2.2)
        obtain ⟨j1, j2, j3, j4, j5, j6, j7⟩ := hbox v19 hz
        replace Pab := Pab.trans (hb.mono Pab.size)
        obtain ⟨ud, hud⟩ : ∃ u, v19.alloc (.cells #[.bool (cb (some X)), .slice Ad (cz (some X)).length cd] 24) = u := ⟨_, rfl⟩
        obtain ⟨hx, c0d, c1d, hltd⟩ := boxed v19 _ _ ud hud
        clear j1 j2 j3 j4 j5 j6 j7
        replace hz : Below (w.heap.size + 3) W3 ud := hz.trans (hx.mono (hbox _ hz).2.2.2.2.2.2)
        obtain ⟨j1, j2, j3, j4, j5, j6, j7⟩ := hbox ud hz
        replace Pab := Pab.trans (hx.mono Pab.size)
        have Id : IsI ud (cb (some X)) Ad (cz (some X)).length cd X := (row.isI rfl (sX'.mono (by omega))).later hx
        have Rd := row.later hx
        have Pd := Below.refl ud.heap.size ud
        clear hx row hltd
        clear c0ab c1ab Iab Rab Pab
        go_upto_region 19 with fail
        have HPK : ∀ W, Below ud.heap.size ud W → (W.cell? ⟨w.heap.size, 0, none⟩ = some (.bool b1) ∧ W.cell? ⟨w.heap.size, 1, none⟩ = some (.slice A xs.length c1) ∧ w.heap.size + 3 ≤ W.heap.size) := fun W h => by
          obtain ⟨d1, d2, d3, d4, d5, d6, d7⟩ := hbox W (hz.trans (h.mono j7))
          exact ⟨d1, d2, d7⟩
        have hD0 : Below ud.heap.size ud ud.drew := below_drew (Below.refl _ _)
        have hD1 : Below ud.heap.size ud (ud.alloc (.cells #[.bool false, .slice none 0 0] 24)).drew := below_drew ((Below.refl _ _).alloc (Nat.le_refl _) _)
        have hD2 : Below ud.heap.size ud ud := Below.refl _ _
        have hzu : ∀ W, Below ud.heap.size ud W → Below (w.heap.size + 3) W3 W := fun W h => hz.trans (h.mono j7)
        go_cut [26, 27] (fun sa sb wx => ∃ (nb : Nat) (Ar : Option Addr) (cr : Nat), sa = .pointer (some ⟨nb, 0, none⟩) ∧ sb = .int .i64 0 ∧ nb < wx.heap.size ∧ Below ud.heap.size ud wx ∧ wx.cell? ⟨nb, 0, none⟩ = some (.bool (cb (some X))) ∧ wx.cell? ⟨nb, 1, none⟩ = some (.slice Ar (cz (some X)).length cr) ∧ IsI wx (cb (some X)) Ar (cz (some X)).length cr X)
        case first =>
          go_region_held3 (fun W => W.cell? ⟨w.heap.size, 0, none⟩ = some (.bool b1) ∧ W.cell? ⟨w.heap.size, 1, none⟩ = some (.slice A xs.length c1) ∧ w.heap.size + 3 ≤ W.heap.size) (first | with_reducible exact HPK _ H2 | with_reducible exact HPK _ H1 | with_reducible exact HPK _ hD0 | with_reducible exact HPK _ hD1 | with_reducible exact HPK _ H1a | with_reducible exact HPK _ H2a | with_reducible exact HPK _ hD2 | with_reducible exact HPK _ ((H2.setCell (p := ⟨ud.heap.size, 0, none⟩) (Nat.le_refl _) _).setCell (p := ⟨ud.heap.size, 1, none⟩) (Nat.le_refl _) _) | with_reducible exact HPK _ ((H2.setCell (p := ⟨va.heap.size, 0, none⟩) H1.size _).setCell (p := ⟨va.heap.size, 1, none⟩) H1.size _) | with_reducible exact HPK _ (H2.alloc H2.size _)) (first
            | (go_at_call 33; refine (vOf 1 _ (by omega)).mono ?_; rintro e va ⟨Ao, _, co, rfl, rfl, ro, hba⟩; have H1 : Below ud.heap.size ud va := (by first | with_reducible exact hD0.trans (hba.mono hD0.size) | with_reducible exact hD1.trans (hba.mono hD1.size) | with_reducible exact hba); have H1a := H1.alloc H1.size (.cells #[.bool false, .slice none 0 0] 24); have Io := ro.isI rfl s1w; first | (have hob := old_boxd (W := ud) (W' := va) (a0 := .bool false) (a1 := .slice none 0 0) (by with_reducible exact hba)) | (have hob := old_box (W := ud) (W' := va) (a0 := .bool false) (a1 := .slice none 0 0) (by with_reducible exact hba)) | skip)
            | (go_at_call 27; refine (vMulOne (Ia _ (by first | with_reducible exact hzu _ hD0 | with_reducible exact hzu _ hD1 | with_reducible exact hzu _ H1 | with_reducible exact hzu _ H1a | with_reducible exact hzu _ hD2)) (by first | with_reducible exact Io | exact Io.later ((Below.refl _ _).alloc (Nat.le_refl _) _)) sX (by omega)).mono ?_; rintro e vb ⟨Ar, _, cr, rfl, rfl, rr, hbb⟩; have H2 : Below ud.heap.size ud vb := (by first | with_reducible exact H1.trans (hbb.mono H1.size) | with_reducible exact H1a.trans (hbb.mono H1a.size)); have H2a := H2.alloc H2.size (.cells #[.bool false, .slice none 0 0] 24); first | (obtain ⟨o1, o2, o3, o4, o6⟩ := hob; have o1 := cell_later hbb o1; have o2 := cell_later hbb o2; have o3 := frozen_later o3 o6 hbb; have o4 := frozen_later o4 o6 hbb; have o5 := Nat.lt_of_lt_of_le o6 hbb.size) | (have hob2 := old_box (W := va) (W' := vb) (a0 := .bool false) (a1 := .slice none 0 0) (by with_reducible exact hbb); obtain ⟨o1, o2, o3, o4, o5⟩ := hob2) | skip))
          all_goals (go_wp2_with fail; go_meet)
          all_goals first
            | exact ⟨vb.heap.size, Ar, cr, rfl, rfl, by simp, H2.alloc H2.size _, by simp [go_sem], by simp [go_sem], (rr.isI rfl (sX.mono (by omega))).later ((Below.refl _ _).alloc (Nat.le_refl _) _)⟩
            | exact ⟨ud.heap.size, Ar, cr, rfl, rfl, by simpa using o5, (H2.setCell (p := ⟨ud.heap.size, 0, none⟩) (Nat.le_refl _) _).setCell (p := ⟨ud.heap.size, 1, none⟩) (Nat.le_refl _) _, (two_cells o1 o2).1, (two_cells o1 o2).2, (rr.two ud.heap.size o6 _ _).isI rfl (sX.mono (by omega))⟩
            | exact ⟨va.heap.size, Ar, cr, rfl, rfl, by simpa using o5, (H2.setCell (p := ⟨va.heap.size, 0, none⟩) H1.size _).setCell (p := ⟨va.heap.size, 1, none⟩) H1.size _, (two_cells o1 o2).1, (two_cells o1 o2).2, (rr.two va.heap.size (by simp) _ _).isI rfl (sX.mono (by omega))⟩
            | (trace_state; sorry)
        case rest =>
        clear HPK hD0 hD1 hD2 hzu
        obtain ⟨nb26, Ar26, cr26, rfl, rfl, hnb, hcB, e0, e1, I26⟩ := hcut
        obtain ⟨wone, hwe⟩ : ∃ u, u = wc := ⟨_, rfl⟩
        subst hwe
        clear j1 j2 j3 j4 j5 j6 j7
        replace hz : Below (w.heap.size + 3) W3 wone := hz.trans (hcB.mono (hbox _ hz).2.2.2.2.2.2)
        obtain ⟨j1, j2, j3, j4, j5, j6, j7⟩ := hbox wone hz
        replace Pd := Pd.trans (hcB.mono Pd.size)
        clear hcB
        have c0one := e0
        have c1one := e1
        have Ione := I26
        have Rone := True.intro
        have Pone := Below.refl wone.heap.size wone
        clear e0 e1 I26 hnb
        go_upto_region 20 with fail
        have HPK : ∀ W, Below wone.heap.size wone W → (W.cell? ⟨w.heap.size, 0, none⟩ = some (.bool b1) ∧ W.cell? ⟨w.heap.size, 1, none⟩ = some (.slice A xs.length c1) ∧ w.heap.size + 3 ≤ W.heap.size) := fun W h => by
          obtain ⟨d1, d2, d3, d4, d5, d6, d7⟩ := hbox W (hz.trans (h.mono j7))
          exact ⟨d1, d2, d7⟩
        have hD0 : Below wone.heap.size wone wone.drew := below_drew (Below.refl _ _)
        have hD1 : Below wone.heap.size wone (wone.alloc (.cells #[.bool false, .slice none 0 0] 24)).drew := below_drew ((Below.refl _ _).alloc (Nat.le_refl _) _)
        have hD2 : Below wone.heap.size wone wone := Below.refl _ _
        have hzu : ∀ W, Below wone.heap.size wone W → Below (w.heap.size + 3) W3 W := fun W h => hz.trans (h.mono j7)
        go_cut [28, 29] (fun sa sb wx => ∃ (nb : Nat) (Ar : Option Addr) (cr : Nat), sa = .pointer (some ⟨nb, 0, none⟩) ∧ sb = .int .i64 0 ∧ nb < wx.heap.size ∧ Below wone.heap.size wone wx ∧ wx.cell? ⟨nb, 0, none⟩ = some (.bool (cb (some 0))) ∧ wx.cell? ⟨nb, 1, none⟩ = some (.slice Ar (cz (some 0)).length cr) ∧ IsI wx (cb (some 0)) Ar (cz (some 0)).length cr 0)
        case first =>
          go_region_held3 (fun W => W.cell? ⟨w.heap.size, 0, none⟩ = some (.bool b1) ∧ W.cell? ⟨w.heap.size, 1, none⟩ = some (.slice A xs.length c1) ∧ w.heap.size + 3 ≤ W.heap.size) (first | with_reducible exact HPK _ H2 | with_reducible exact HPK _ H1 | with_reducible exact HPK _ hD0 | with_reducible exact HPK _ hD1 | with_reducible exact HPK _ H1a | with_reducible exact HPK _ H2a | with_reducible exact HPK _ hD2 | with_reducible exact HPK _ ((H2.setCell (p := ⟨wone.heap.size, 0, none⟩) (Nat.le_refl _) _).setCell (p := ⟨wone.heap.size, 1, none⟩) (Nat.le_refl _) _) | with_reducible exact HPK _ ((H2.setCell (p := ⟨va.heap.size, 0, none⟩) H1.size _).setCell (p := ⟨va.heap.size, 1, none⟩) H1.size _) | with_reducible exact HPK _ (H2.alloc H2.size _)) (first
            | (go_at_call 14; refine (vNegate (Ia _ (by first | with_reducible exact hzu _ hD0 | with_reducible exact hzu _ hD1 | with_reducible exact hzu _ H1 | with_reducible exact hzu _ H1a | with_reducible exact hzu _ hD2))).mono ?_; rintro e va ⟨Ao, _, co, rfl, rfl, ro, hba⟩; have H1 : Below wone.heap.size wone va := (by first | with_reducible exact hD0.trans (hba.mono hD0.size) | with_reducible exact hD1.trans (hba.mono hD1.size) | with_reducible exact hba); have H1a := H1.alloc H1.size (.cells #[.bool false, .slice none 0 0] 24); have Io := ro.isI rfl (sX.neg.mono (by omega)); first | (have hob := old_boxd (W := wone) (W' := va) (a0 := .bool false) (a1 := .slice none 0 0) (by with_reducible exact hba)) | (have hob := old_box (W := wone) (W' := va) (a0 := .bool false) (a1 := .slice none 0 0) (by with_reducible exact hba)) | skip)
            | (go_at_call 22; refine (vAddNeg (Ia _ (by first | with_reducible exact hzu _ hD0 | with_reducible exact hzu _ hD1 | with_reducible exact hzu _ H1 | with_reducible exact hzu _ H1a | with_reducible exact hzu _ hD2)) (by first | with_reducible exact Io | exact Io.later ((Below.refl _ _).alloc (Nat.le_refl _) _)) sX (by omega)).mono ?_; rintro e vb ⟨Ar, _, cr, rfl, rfl, rr, hbb⟩; have H2 : Below wone.heap.size wone vb := (by first | with_reducible exact H1.trans (hbb.mono H1.size) | with_reducible exact H1a.trans (hbb.mono H1a.size)); have H2a := H2.alloc H2.size (.cells #[.bool false, .slice none 0 0] 24); first | (obtain ⟨o1, o2, o3, o4, o6⟩ := hob; have o1 := cell_later hbb o1; have o2 := cell_later hbb o2; have o3 := frozen_later o3 o6 hbb; have o4 := frozen_later o4 o6 hbb; have o5 := Nat.lt_of_lt_of_le o6 hbb.size) | (have hob2 := old_box (W := va) (W' := vb) (a0 := .bool false) (a1 := .slice none 0 0) (by with_reducible exact hbb); obtain ⟨o1, o2, o3, o4, o5⟩ := hob2) | skip))
          all_goals (go_wp2_with fail; go_meet)
          all_goals first
            | exact ⟨vb.heap.size, Ar, cr, rfl, rfl, by simp, H2.alloc H2.size _, by simp [go_sem], by simp [go_sem], (rr.isI rfl (s0.mono (by omega))).later ((Below.refl _ _).alloc (Nat.le_refl _) _)⟩
            | exact ⟨wone.heap.size, Ar, cr, rfl, rfl, by simpa using o5, (H2.setCell (p := ⟨wone.heap.size, 0, none⟩) (Nat.le_refl _) _).setCell (p := ⟨wone.heap.size, 1, none⟩) (Nat.le_refl _) _, (two_cells o1 o2).1, (two_cells o1 o2).2, (rr.two wone.heap.size o6 _ _).isI rfl (s0.mono (by omega))⟩
            | exact ⟨va.heap.size, Ar, cr, rfl, rfl, by simpa using o5, (H2.setCell (p := ⟨va.heap.size, 0, none⟩) H1.size _).setCell (p := ⟨va.heap.size, 1, none⟩) H1.size _, (two_cells o1 o2).1, (two_cells o1 o2).2, (rr.two va.heap.size (by simp) _ _).isI rfl (s0.mono (by omega))⟩
            | (trace_state; sorry)
        case rest =>
        clear HPK hD0 hD1 hD2 hzu
        obtain ⟨nb28, Ar28, cr28, rfl, rfl, hnb, hcB, e0, e1, I28⟩ := hcut
        obtain ⟨wnone, hwe⟩ : ∃ u, u = wc := ⟨_, rfl⟩
        subst hwe
        clear j1 j2 j3 j4 j5 j6 j7
        replace hz : Below (w.heap.size + 3) W3 wnone := hz.trans (hcB.mono (hbox _ hz).2.2.2.2.2.2)
        obtain ⟨j1, j2, j3, j4, j5, j6, j7⟩ := hbox wnone hz
        replace Pd := Pd.trans (hcB.mono Pd.size)
        replace Pone := Pone.trans (hcB.mono Pone.size)
        clear hcB
        have c0none := e0
        have c1none := e1
        have Inone := I28
        have Rnone := True.intro
        have Pnone := Below.refl wnone.heap.size wnone
        clear e0 e1 I28 hnb
        have hcz : cz (some 0) = [] := rfl
        have hcb : cb (some 0) = false := rfl
        rw [hcz] at c1none
        rw [hcb] at c0none
        have q0d := cell_later Pd c0d
        have q1d := cell_later Pd c1d
        have qld : v19.heap.size < wnone.heap.size := World.block_lt_of_cell? _ _ q0d
        have hc := vCompare (Id.later Pd) (Ia _ hz)
        go_wp2_with fail
        go_at_call 13
        refine hc.mono ?_
        clear hc
        rintro e v20 ⟨he, hb⟩
        clear q0d q1d qld
        clear j1 j2 j3 j4 j5 j6 j7
        replace hz : Below (w.heap.size + 3) W3 v20 := hz.trans (hb.mono (hbox _ hz).2.2.2.2.2.2)
        obtain ⟨j1, j2, j3, j4, j5, j6, j7⟩ := hbox v20 hz
        replace Pd := Pd.trans (hb.mono Pd.size)
        replace Pone := Pone.trans (hb.mono Pone.size)
        replace Pnone := Pnone.trans (hb.mono Pnone.size)
        rw [cmp3_self] at he
        subst he
        have q0one := cell_later Pone c0one
        have q1one := cell_later Pone c1one
        have qlone : nb26 < v20.heap.size := World.block_lt_of_cell? _ _ q0one
        have hc := vCompare (Ione.later Pone) (Ia _ hz)
        go_wp2_with fail
        go_at_call 13
        refine hc.mono ?_
        clear hc
        rintro e v21 ⟨he, hb⟩
        clear q0one q1one qlone
        clear j1 j2 j3 j4 j5 j6 j7
        replace hz : Below (w.heap.size + 3) W3 v21 := hz.trans (hb.mono (hbox _ hz).2.2.2.2.2.2)
        obtain ⟨j1, j2, j3, j4, j5, j6, j7⟩ := hbox v21 hz
        replace Pd := Pd.trans (hb.mono Pd.size)
        replace Pone := Pone.trans (hb.mono Pone.size)
        replace Pnone := Pnone.trans (hb.mono Pnone.size)
        rw [cmp3_self] at he
        subst he
        have q0none := cell_later Pnone c0none
        have q1none := cell_later Pnone c1none
        have qlnone : nb28 < v21.heap.size := World.block_lt_of_cell? _ _ q0none
        go_wp2_with fail
        go_at_call 12
        refine (wawake_ok _).mono ?_
        rintro e vg ⟨rfl, hb2⟩
        go_wp2
        go_ret
        exact ⟨rfl, (hB _ hz).trans (hb2.mono (hB _ hz).size)⟩
      · rw [decide_eq_true f1] at hF1
        rw [decide_eq_true f2] at hF2
        rw [decide_eq_false f3] at hF3
        go_enter Tryd.func6, Tryd.ntmps6
        go_wp2_with fail
        go_at_call 11
        refine (hF1 _).mono ?_
        rintro e w1 ⟨rfl, hb1⟩
        have hz := hz.trans (hb1.mono j7)
        obtain ⟨j1, j2, j3, j4, j5, j6, j7⟩ := hbox w1 hz
        go_wp2_with fail
        go_at_call 11
        refine (hF2 _).mono ?_
        rintro e w2 ⟨rfl, hb1⟩
        have hz := hz.trans (hb1.mono j7)
        obtain ⟨j1, j2, j3, j4, j5, j6, j7⟩ := hbox w2 hz
        go_wp2_with fail
        go_at_call 11
        refine (hF3 _).mono ?_
        rintro e w3 ⟨rfl, hb1⟩
        have hz := hz.trans (hb1.mono j7)
        obtain ⟨j1, j2, j3, j4, j5, j6, j7⟩ := hbox w3 hz
        go_wp2_with fail
        go_at_call 12
        refine (wawake_ok _).mono ?_
        rintro e w9 ⟨rfl, hb2⟩
        go_wp2
        go_ret
        exact ⟨rfl, (hB _ hz).trans (hb2.mono (hB _ hz).size)⟩
    · rw [decide_eq_true f1] at hF1
      rw [decide_eq_false f2] at hF2
      go_enter Tryd.func6, Tryd.ntmps6
      go_wp2_with fail
      go_at_call 11
      refine (hF1 _).mono ?_
      rintro e w1 ⟨rfl, hb1⟩
      have hz := hz.trans (hb1.mono j7)
      obtain ⟨j1, j2, j3, j4, j5, j6, j7⟩ := hbox w1 hz
      go_wp2_with fail
      go_at_call 11
      refine (hF2 _).mono ?_
      rintro e w2 ⟨rfl, hb1⟩
      have hz := hz.trans (hb1.mono j7)
      obtain ⟨j1, j2, j3, j4, j5, j6, j7⟩ := hbox w2 hz
      go_wp2_with fail
      go_at_call 12
      refine (wawake_ok _).mono ?_
      rintro e w9 ⟨rfl, hb2⟩
      go_wp2
      go_ret
      exact ⟨rfl, (hB _ hz).trans (hb2.mono (hB _ hz).size)⟩
  · rw [decide_eq_false f1] at hF1
    go_enter Tryd.func6, Tryd.ntmps6
    go_wp2_with fail
    go_at_call 11
    refine (hF1 _).mono ?_
    rintro e w1 ⟨rfl, hb1⟩
    have hz := hz.trans (hb1.mono j7)
    obtain ⟨j1, j2, j3, j4, j5, j6, j7⟩ := hbox w1 hz
    go_wp2_with fail
    go_at_call 12
    refine (wawake_ok _).mono ?_
    rintro e w9 ⟨rfl, hb2⟩
    go_wp2
    go_ret
    exact ⟨rfl, (hB _ hz).trans (hb2.mono (hB _ hz).size)⟩
end Go.Proofs.YtegdbcnloodljaaDoor
