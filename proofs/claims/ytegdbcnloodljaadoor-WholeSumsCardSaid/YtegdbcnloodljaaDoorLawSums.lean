/- The law WholeSums. -/
import Derived.Test.YtegdbcnloodljaaDoorLawOrders
import Derived.Test.YtegdbcnloodljaaDoorLawHelp
import Derived.Test.YtegdbcnloodljaaDoorR9
import Derived.Deep.RegionHeld3
namespace Go.Proofs.YtegdbcnloodljaaDoor
set_option linter.unusedVariables false
set_option linter.unusedSimpArgs false
open Go.RowKit
set_option maxRecDepth 1000000

theorem rd_left {w : World} {k : IntKind} {A : Option Addr} {xs ys : List Int} (h : RdI w k A (xs ++ ys)) : RdI w k A xs := by
  have := h.take xs.length
  rwa [List.take_left] at this
/-- a box of two cells. -/
def Bx (n : Nat) (a0 a1 : Value) (W : World) : Prop := W.cell? ⟨n, 0, none⟩ = some a0 ∧ W.cell? ⟨n, 1, none⟩ = some a1 ∧ W.frozen? ⟨n, 0, none⟩ = false ∧ W.frozen? ⟨n, 1, none⟩ = false ∧ n < W.heap.size
theorem Bx.later {n : Nat} {a0 a1 : Value} {W W' : World} (h : Bx n a0 a1 W) (hb : Below W.heap.size W W') : Bx n a0 a1 W' := by
  obtain ⟨h1, h2, h3, h4, h5⟩ := h
  exact ⟨cell_later hb h1, cell_later hb h2, frozen_later h3 h5 hb, frozen_later h4 h5 hb, Nat.lt_of_lt_of_le h5 hb.size⟩
theorem Bx.set {n : Nat} {a0 a1 : Value} {W : World} (h : Bx n a0 a1 W) (x y : Value) : Bx n x y ((W.setCell ⟨n, 0, none⟩ x).setCell ⟨n, 1, none⟩ y) := by
  obtain ⟨h1, h2, h3, h4, h5⟩ := h
  obtain ⟨t1, t2⟩ := two_cells (x := x) (y := y) h1 h2
  refine ⟨t1, t2, ?_, ?_, by simpa using h5⟩
  all_goals (rw [World.frozen?_setCell, World.frozen?_setCell]; assumption)
theorem Bx.off {n m : Nat} {a0 a1 : Value} {W : World} (h : Bx n a0 a1 W) (hne : m ≠ n) (x y : Value) : Bx n a0 a1 ((W.setCell ⟨m, 0, none⟩ x).setCell ⟨m, 1, none⟩ y) := by
  obtain ⟨h1, h2, h3, h4, h5⟩ := h
  refine ⟨cell_off (cell_off h1 hne) hne, cell_off (cell_off h2 hne) hne, ?_, ?_, by simpa using h5⟩
  all_goals (rw [World.frozen?_setCell, World.frozen?_setCell]; assumption)
theorem Bx.but {n k : Nat} {a0 a1 : Value} {A : Option Addr} {W W' : World} (h : Bx n a0 a1 W) (hb : But A k W W') (hne : 0 < k → ∀ ad, A = some ad → ad.block ≠ n) (hs : W.heap.size ≤ W'.heap.size) : Bx n a0 a1 W' := by
  obtain ⟨h1, h2, h3, h4, h5⟩ := h
  have e0 := hb n hne h5 0
  have e1 := hb n hne h5 1
  exact ⟨e0.1.trans h1, e1.1.trans h2, e0.2.trans h3, e1.2.trans h4, Nat.lt_of_lt_of_le h5 hs⟩
theorem bx_new (v : World) (a0 a1 : Value) (u : World) (h : v.alloc (.cells #[a0, a1] 24) = u) : Below v.heap.size v u ∧ Bx v.heap.size a0 a1 u := by
  subst h
  refine ⟨(Below.refl _ _).alloc (Nat.le_refl _) _, by simp [go_sem], by simp [go_sem], by simp [go_sem], by simp [go_sem], by simp⟩

set_option maxHeartbeats 8000000 in
theorem lawSums_any (b1 : Bool) (A : Option Addr) (c1 : Nat) (us : List U32) (b2 : Bool) (B : Option Addr) (c2 : Nat) (vs : List U32) (w : World)
    (hr : RdI w .u32 A (vals us)) (hl : us.length ≤ c1) (hc : c1 ≤ maxLen) (hr2 : RdI w .u32 B (vals vs)) (hl2 : vs.length ≤ c2) (hc2 : c2 ≤ maxLen) :
    Calls Tryd.prog 5 #[.agg #[.bool b1, .slice A us.length c1], .agg #[.bool b2, .slice B vs.length c2]] w fun e w' => e = .returned (.bool true) ∧ Below w.heap.size w w' := by
  have hX := w32_vals us
  have hY := w32_vals vs
  rw [← vals_length] at hl hl2 ⊢
  rw [← vals_length]
  generalize vals us = xs at *
  generalize vals vs = ys at *
  clear us vs
  have hc : c1 ≤ 9223372036854775807 := hc
  have hc2 : c2 ≤ 9223372036854775807 := hc2
  obtain ⟨W2, hW2⟩ : ∃ W2, (w.alloc (.cells #[.bool b1, .slice A xs.length c1] 24)).alloc (.cells #[.bool b2, .slice B ys.length c2] 24) = W2 := ⟨_, rfl⟩
  have hw2 : Below w.heap.size w W2 := by rw [← hW2]; exact ((Below.refl _ _).alloc (Nat.le_refl _) _).alloc (by simp) _
  have hs2 : W2.heap.size = w.heap.size + 2 := by rw [← hW2]; simp
  have hbox := fun W h => boxes2p w (.bool b1) (.slice A xs.length c1) (.bool b2) (.slice B ys.length c2) W h
  rw [hW2] at hbox
  have hz : Below (w.heap.size + 2) W2 W2 := Below.refl _ _
  have hB : ∀ W, Below (w.heap.size + 2) W2 W → Below w.heap.size w W := fun W h => hw2.trans (h.mono (by omega))
  have hF1 := fun W => large_ok b1 A c1 xs.length W
  have hF2 := fun W => large_ok b2 B c2 ys.length W
  obtain ⟨j1, j2, j3, j4, j5⟩ := hbox W2 hz
  by_cases f1 : 600 < xs.length
  · rw [decide_eq_true f1] at hF1
    go_enter Tryd.func5, Tryd.ntmps5
    go_wp2_with fail
    go_at_call 20
    refine (hF1 _).mono ?_
    rintro e w1 ⟨rfl, hb1⟩
    have hz := hz.trans (hb1.mono j5)
    go_wp2_with fail
    go_at_call 12
    refine (wawake_ok _).mono ?_
    rintro e w9 ⟨rfl, hb2⟩
    go_wp2
    go_ret
    exact ⟨rfl, (hB _ hz).trans (hb2.mono (hB _ hz).size)⟩
  by_cases f2 : 600 < ys.length
  · rw [decide_eq_false f1] at hF1
    rw [decide_eq_true f2] at hF2
    go_enter Tryd.func5, Tryd.ntmps5
    go_wp2_with fail
    go_at_call 20
    refine (hF1 _).mono ?_
    rintro e w1 ⟨rfl, hb1⟩
    have hz := hz.trans (hb1.mono j5)
    obtain ⟨j1, j2, j3, j4, j5⟩ := hbox w1 hz
    go_wp2_with fail
    go_at_call 20
    refine (hF2 _).mono ?_
    rintro e w2 ⟨rfl, hb1⟩
    have hz := hz.trans (hb1.mono j5)
    go_wp2_with fail
    go_at_call 12
    refine (wawake_ok _).mono ?_
    rintro e w9 ⟨rfl, hb2⟩
    go_wp2
    go_ret
    exact ⟨rfl, (hB _ hz).trans (hb2.mono (hB _ hz).size)⟩
  rw [decide_eq_false f1] at hF1
  rw [decide_eq_false f2] at hF2
  have hm1 : xs.length ≤ 1000000 := by omega
  have hm2 : ys.length ≤ 1000000 := by omega
  have hm3 : xs.length ≤ 400000 := by omega
  have hm4 : ys.length ≤ 400000 := by omega
  have cAdd := fun (W : World) (gp gq : Nat) (cp cq : Nat) (hp : RdI W .u32 (some ⟨gp, 0, none⟩) (xs ++ [77])) (hq : RdI W .u32 (some ⟨gq, 0, none⟩) (ys ++ [77])) (lp : xs.length + 1 ≤ cp) (mp : cp ≤ 9223372036854775807) (lq : ys.length + 1 ≤ cq) (mq : cq ≤ 9223372036854775807) => (wAdd_ok b1 b2 (some ⟨gp, 0, none⟩) (some ⟨gq, 0, none⟩) cp cq xs ys W hX hY (rd_left hp) (rd_left hq) (by omega) mp (by omega) mq).mono fun e w' h => retO_of h
  have cSub := fun (W : World) (gp gq : Nat) (cp cq : Nat) (hp : RdI W .u32 (some ⟨gp, 0, none⟩) (xs ++ [77])) (hq : RdI W .u32 (some ⟨gq, 0, none⟩) (ys ++ [77])) (lp : xs.length + 1 ≤ cp) (mp : cp ≤ 9223372036854775807) (lq : ys.length + 1 ≤ cq) (mq : cq ≤ 9223372036854775807) => wSub_ok b1 b2 (some ⟨gp, 0, none⟩) (some ⟨gq, 0, none⟩) cp cq xs ys W hX hY (rd_left hp) (rd_left hq) (by omega) mp (by omega) mq
  have cMul := fun (W : World) (gp gq : Nat) (cp cq : Nat) (hp : RdI W .u32 (some ⟨gp, 0, none⟩) (xs ++ [77])) (hq : RdI W .u32 (some ⟨gq, 0, none⟩) (ys ++ [77])) (lp : xs.length + 1 ≤ cp) (mp : cp ≤ 9223372036854775807) (lq : ys.length + 1 ≤ cq) (mq : cq ≤ 9223372036854775807) => wMul_ok b1 b2 (some ⟨gp, 0, none⟩) (some ⟨gq, 0, none⟩) cp cq xs ys W hX hY (rd_left hp) (rd_left hq) (by omega) mp (by omega) mq
  have cCmp := fun (W : World) (gp gq : Nat) (cp cq : Nat) (hp : RdI W .u32 (some ⟨gp, 0, none⟩) (xs ++ [77])) (hq : RdI W .u32 (some ⟨gq, 0, none⟩) (ys ++ [77])) (lp : xs.length + 1 ≤ cp) (mp : cp ≤ 9223372036854775807) (lq : ys.length + 1 ≤ cq) (mq : cq ≤ 9223372036854775807) => wCompare_ok b1 b2 (some ⟨gp, 0, none⟩) (some ⟨gq, 0, none⟩) cp cq xs ys W hX hY (rd_left hp) (rd_left hq) (by omega) mp (by omega) mq
  have cNeg := fun (W : World) (gp : Nat) (cp : Nat) (hp : RdI W .u32 (some ⟨gp, 0, none⟩) (xs ++ [77])) (lp : xs.length + 1 ≤ cp) (mp : cp ≤ 9223372036854775807) => (wNegate_ok b1 (some ⟨gp, 0, none⟩) cp xs W hX (rd_left hp) (by omega) mp hm1).mono fun e w' h => retI_can h
  have dAdd := fun (W : World) (h : Below (w.heap.size + 2) W2 W) => refAdd_ok b1 b2 A B c1 c2 xs ys W hX hY (hr.later (hB W h)) (hr2.later (hB W h)) hl hc hl2 hc2 hm3 hm4
  have dSub := fun (W : World) (h : Below (w.heap.size + 2) W2 W) => refSub_ok b1 b2 A B c1 c2 xs ys W hX hY (hr.later (hB W h)) (hr2.later (hB W h)) hl hc hl2 hc2 hm3 hm4
  have dMul := fun (W : World) (h : Below (w.heap.size + 2) W2 W) => refMul_ok b1 b2 A B c1 c2 xs ys W hX hY (hr.later (hB W h)) (hr2.later (hB W h)) hl hc hl2 hc2 hm3 hm4
  have dCmp := fun (W : World) (h : Below (w.heap.size + 2) W2 W) => refCompare_ok b1 b2 A B c1 c2 xs ys W hX hY (hr.later (hB W h)) (hr2.later (hB W h)) hl hc hl2 hc2 hm3 hm4
  have dNeg := fun (W : World) (h : Below (w.heap.size + 2) W2 W) => (refNegate_int b1 A c1 xs W hX (hr.later (hB W h)) hl hc hm1).mono fun e w' h => retI_can h
  have dLa := fun (W : World) (h : Below (w.heap.size + 2) W2 W) => lent_ok b1 A c1 xs W (hr.later (hB W h)) hl hc hm1
  have dLb := fun (W : World) (h : Below (w.heap.size + 2) W2 W) => lent_ok b2 B c2 ys W (hr2.later (hB W h)) hl2 hc2 hm2
  have dBa := fun (W : World) (h : Below (w.heap.size + 2) W2 W) (gp cp : Nat) (hp : RdI W .u32 (some ⟨gp, 0, none⟩) (xs ++ [77])) (lp : xs.length + 1 ≤ cp) (mp : cp ≤ 9223372036854775807) => back_ok b1 (some ⟨gp, 0, none⟩) A cp c1 xs W hp (hr.later (hB W h)) lp mp hl hc hm1
  have dBb := fun (W : World) (h : Below (w.heap.size + 2) W2 W) (gp cp : Nat) (hp : RdI W .u32 (some ⟨gp, 0, none⟩) (ys ++ [77])) (lp : ys.length + 1 ≤ cp) (mp : cp ≤ 9223372036854775807) => back_ok b2 (some ⟨gp, 0, none⟩) B cp c2 ys W hp (hr2.later (hB W h)) lp mp hl2 hc2 hm2
  generalize addO (valI b1 xs) (valI b2 ys) = O1 at *
  generalize addO (valI b1 xs) (-(valI b2 ys)) = O2 at *
  generalize mulO (valI b1 xs) (valI b2 ys) = O3 at *
  generalize (some (-(valI b1 xs)) : Option Int) = O4 at *
  generalize cmp3 (valI b1 xs) (valI b2 ys) = K at *
  have q1 : (ce O1 == ce O1) = true := by simp
  have q2 : (ce O2 == ce O2) = true := by simp
  have q3 : (ce O3 == ce O3) = true := by simp
  have q4 : (K == K) = true := by simp
  clear hX hY hr hr2 hm1 hm2 hm3 hm4
  go_enter Tryd.func5, Tryd.ntmps5
  go_wp2_with fail
  go_at_call 20
  refine (hF1 _).mono ?_
  rintro e z1 ⟨rfl, hb⟩
  clear j1 j2 j3 j4 j5
  replace hz : Below (w.heap.size + 2) W2 z1 := hz.trans (hb.mono (hbox _ hz).2.2.2.2)
  obtain ⟨j1, j2, j3, j4, j5⟩ := hbox z1 hz
  clear hb
  go_wp2_with fail
  go_at_call 20
  refine (hF2 _).mono ?_
  rintro e z2 ⟨rfl, hb⟩
  clear j1 j2 j3 j4 j5
  replace hz : Below (w.heap.size + 2) W2 z2 := hz.trans (hb.mono (hbox _ hz).2.2.2.2)
  obtain ⟨j1, j2, j3, j4, j5⟩ := hbox z2 hz
  clear hb
  go_wp2_with fail
  go_at_call 21
  refine (dLa _ hz).mono ?_
  rintro e vp ⟨gp, cp, rfl, lp, mp, Rp, hb⟩
  clear j1 j2 j3 j4 j5
  replace hz : Below (w.heap.size + 2) W2 vp := hz.trans (hb.mono (hbox _ hz).2.2.2.2)
  obtain ⟨j1, j2, j3, j4, j5⟩ := hbox vp hz
  clear hb
  obtain ⟨up, hup⟩ : ∃ u, vp.alloc (.cells #[.bool b1, .slice (some ⟨gp, 0, none⟩) xs.length cp] 24) = u := ⟨_, rfl⟩
  obtain ⟨hx, hn⟩ := bx_new vp _ _ up hup
  clear j1 j2 j3 j4 j5
  replace hz : Below (w.heap.size + 2) W2 up := hz.trans (hx.mono (hbox _ hz).2.2.2.2)
  obtain ⟨j1, j2, j3, j4, j5⟩ := hbox up hz
  clear hx
  have c0p := hn.1
  have c1p := hn.2.1
  have Pp := Below.refl up.heap.size up
  clear hn
  replace Rp := Rp.later (show Below vp.heap.size vp up from by rw [← hup]; exact (Below.refl _ _).alloc (Nat.le_refl _) _)
  have zw : w.heap.size + 2 ≤ up.heap.size := j5
  go_wp2_with fail
  go_at_call 21
  refine (dLb _ hz).mono ?_
  rintro e vq ⟨gq, cq, rfl, lq, mq, Rq, hb⟩
  clear j1 j2 j3 j4 j5
  replace hz : Below (w.heap.size + 2) W2 vq := hz.trans (hb.mono (hbox _ hz).2.2.2.2)
  obtain ⟨j1, j2, j3, j4, j5⟩ := hbox vq hz
  replace Pp := Pp.trans (hb.mono Pp.size)
  clear hb
  obtain ⟨uq, huq⟩ : ∃ u, vq.alloc (.cells #[.bool b2, .slice (some ⟨gq, 0, none⟩) ys.length cq] 24) = u := ⟨_, rfl⟩
  obtain ⟨hx, hn⟩ := bx_new vq _ _ uq huq
  clear j1 j2 j3 j4 j5
  replace hz : Below (w.heap.size + 2) W2 uq := hz.trans (hx.mono (hbox _ hz).2.2.2.2)
  obtain ⟨j1, j2, j3, j4, j5⟩ := hbox uq hz
  replace Pp := Pp.trans (hx.mono Pp.size)
  clear hx
  have c0q := hn.1
  have c1q := hn.2.1
  have Pq := Below.refl uq.heap.size uq
  clear hn
  replace Rq := Rq.later (show Below vq.heap.size vq uq from by rw [← huq]; exact (Below.refl _ _).alloc (Nat.le_refl _) _)
  have zp := Pp.size
  have zq := Pq.size
  have q0p := cell_later Pp c0p
  have q1p := cell_later Pp c1p
  have qlp : vp.heap.size < uq.heap.size := World.block_lt_of_cell? _ _ q0p
  have q0q := cell_later Pq c0q
  have q1q := cell_later Pq c1q
  have qlq : vq.heap.size < uq.heap.size := World.block_lt_of_cell? _ _ q0q
  go_wp2_with fail
  go_at_call 22
  refine (cAdd _ gp gq cp cq (Rp.later Pp) (Rq.later Pq) lp mp lq mq).mono ?_
  rintro e vx ⟨Ax, cx, rfl, Rx, hb⟩
  clear q0p q1p qlp
  clear q0q q1q qlq
  clear j1 j2 j3 j4 j5
  replace hz : Below (w.heap.size + 2) W2 vx := hz.trans (hb.mono (hbox _ hz).2.2.2.2)
  obtain ⟨j1, j2, j3, j4, j5⟩ := hbox vx hz
  replace Pp := Pp.trans (hb.mono Pp.size)
  replace Pq := Pq.trans (hb.mono Pq.size)
  clear hb
  have zx : uq.heap.size ≤ vx.heap.size := Pq.size
  have bk1 := can_block Rx
  obtain ⟨ux, hux⟩ : ∃ u, vx.alloc (.cells #[.bool (cb O1), .slice Ax (cz O1).length cx] 24) = u := ⟨_, rfl⟩
  obtain ⟨hx, hn⟩ := bx_new vx _ _ ux hux
  clear j1 j2 j3 j4 j5
  replace hz : Below (w.heap.size + 2) W2 ux := hz.trans (hx.mono (hbox _ hz).2.2.2.2)
  obtain ⟨j1, j2, j3, j4, j5⟩ := hbox ux hz
  replace Pp := Pp.trans (hx.mono Pp.size)
  replace Pq := Pq.trans (hx.mono Pq.size)
  replace Rx := Rx.later hx
  clear hx
  have Kx := hn
  clear hn
  go_wp2_with fail
  go_at_call 23
  refine (dAdd _ hz).mono ?_
  rintro e vy ⟨Ay, cy, rfl, Ry, hb⟩
  clear j1 j2 j3 j4 j5
  replace hz : Below (w.heap.size + 2) W2 vy := hz.trans (hb.mono (hbox _ hz).2.2.2.2)
  obtain ⟨j1, j2, j3, j4, j5⟩ := hbox vy hz
  replace Pp := Pp.trans (hb.mono Pp.size)
  replace Pq := Pq.trans (hb.mono Pq.size)
  replace Kx := Kx.later hb
  replace Rx := Rx.later hb
  clear hb
  have zy : vx.heap.size < vy.heap.size := by obtain ⟨_, _, _, _, ql⟩ := Kx; exact ql
  obtain ⟨uy, huy⟩ : ∃ u, vy.alloc (.cells #[.bool (cb O1), .slice Ay (cz O1).length cy] 24) = u := ⟨_, rfl⟩
  obtain ⟨hx, hn⟩ := bx_new vy _ _ uy huy
  clear j1 j2 j3 j4 j5
  replace hz : Below (w.heap.size + 2) W2 uy := hz.trans (hx.mono (hbox _ hz).2.2.2.2)
  obtain ⟨j1, j2, j3, j4, j5⟩ := hbox uy hz
  replace Pp := Pp.trans (hx.mono Pp.size)
  replace Pq := Pq.trans (hx.mono Pq.size)
  replace Kx := Kx.later hx
  replace Rx := Rx.later hx
  replace Ry := Ry.later hx
  clear hx
  have Ky := hn
  clear hn
  obtain ⟨q0x, q1x, f0x, f1x, qlx⟩ := Kx
  have Kx : Bx vx.heap.size _ _ _ := ⟨q0x, q1x, f0x, f1x, qlx⟩
  obtain ⟨q0y, q1y, f0y, f1y, qly⟩ := Ky
  have Ky : Bx vy.heap.size _ _ _ := ⟨q0y, q1y, f0y, f1y, qly⟩
  go_wp2_with fail
  go_at_call 18
  refine (same_ok (cb O1) Ax Ay cx cy (cz O1) _ Rx.2.2.rd Ry.2.2.rd Rx.1 Rx.2.1 Ry.1 Ry.2.1).mono ?_
  rintro e z7 ⟨rfl, hb⟩
  clear q0x q1x qlx f0x f1x
  clear q0y q1y qly f0y f1y
  clear j1 j2 j3 j4 j5
  replace hz : Below (w.heap.size + 2) W2 z7 := hz.trans (hb.mono (hbox _ hz).2.2.2.2)
  obtain ⟨j1, j2, j3, j4, j5⟩ := hbox z7 hz
  replace Pp := Pp.trans (hb.mono Pp.size)
  replace Pq := Pq.trans (hb.mono Pq.size)
  replace Kx := Kx.later hb
  replace Ky := Ky.later hb
  replace Rx := Rx.later hb
  replace Ry := Ry.later hb
  clear hb
  have hkx : 0 < (cz O1).length → ∀ ad, Ax = some ad → ad.block ≠ vx.heap.size := fun h0 ad ha => by have := (bk1 h0 ad ha).2; omega
  have hky : 0 < (cz O1).length → ∀ ad, Ax = some ad → ad.block ≠ vy.heap.size := fun h0 ad ha => by have := (bk1 h0 ad ha).2; omega
  obtain ⟨q0x, q1x, f0x, f1x, qlx⟩ := Kx
  have Kx : Bx vx.heap.size _ _ _ := ⟨q0x, q1x, f0x, f1x, qlx⟩
  have hbk := can_block Rx
  go_wp2_with fail
  go_at_call 24
  refine (spoil_ok (cb O1) Ax cx (cz O1) _ _ Rx.2.2 (by omega) Rx.1 Rx.2.1).mono ?_
  rintro e z8 ⟨rfl, hbs, hbt⟩
  clear q0x q1x qlx f0x f1x
  clear j1 j2 j3 j4 j5
  replace hz : Below (w.heap.size + 2) W2 z8 := hz.trans (hbs.mono (by omega))
  obtain ⟨j1, j2, j3, j4, j5⟩ := hbox z8 hz
  replace Pp := Pp.trans (hbs.mono (by omega))
  replace Pq := Pq.trans (hbs.mono (by omega))
  replace Kx := Kx.but hbt (fun h0 ad ha => by have := hkx h0 ad ha; omega) hbs.size
  replace Ky := Ky.but hbt (fun h0 ad ha => by have := hky h0 ad ha; omega) hbs.size
  clear hbs hbt hbk
  clear bk1 hkx hky Rx Ry
  have zc : vx.heap.size < z8.heap.size := Kx.2.2.2.2
  have zd : vy.heap.size < z8.heap.size := Ky.2.2.2.2
  have ze : up.heap.size ≤ z8.heap.size := Pp.size
  have zf : uq.heap.size ≤ z8.heap.size := Pq.size
  have hsz := Nat.le_refl z8.heap.size
  have q0p := cell_later Pp c0p
  have q1p := cell_later Pp c1p
  have qlp : vp.heap.size < z8.heap.size := World.block_lt_of_cell? _ _ q0p
  have q0q := cell_later Pq c0q
  have q1q := cell_later Pq c1q
  have qlq : vq.heap.size < z8.heap.size := World.block_lt_of_cell? _ _ q0q
  go_wp2_with fail
  go_at_call 25
  refine (cSub _ gp gq cp cq (Rp.later Pp) (Rq.later Pq) lp mp lq mq).mono ?_
  rintro e z9 ⟨Ax, cx, rfl, Rx, hb⟩
  clear q0p q1p qlp
  clear q0q q1q qlq
  clear j1 j2 j3 j4 j5
  replace hz : Below (w.heap.size + 2) W2 z9 := hz.trans (hb.mono (hbox _ hz).2.2.2.2)
  obtain ⟨j1, j2, j3, j4, j5⟩ := hbox z9 hz
  replace Pp := Pp.trans (hb.mono Pp.size)
  replace Pq := Pq.trans (hb.mono Pq.size)
  replace Kx := Kx.later hb
  replace Ky := Ky.later hb
  replace hsz := Nat.le_trans hsz hb.size
  clear hb
  have bk := can_block Rx
  obtain ⟨z10, hz10⟩ : ∃ u, (z9.setCell ⟨vx.heap.size, 0, none⟩ (.bool (cb O2))).setCell ⟨vx.heap.size, 1, none⟩ (.slice Ax (cz O2).length cx) = u := ⟨_, rfl⟩
  obtain ⟨q0, q1, f0, f1, ql⟩ := Kx
  have BO : Bx vx.heap.size _ _ _ := ⟨q0, q1, f0, f1, ql⟩
  replace Kx := BO.set (.bool (cb O2)) (.slice Ax (cz O2).length cx)
  rw [hz10] at Kx
  replace Ky := Ky.off (m := vx.heap.size) (by omega) (.bool (cb O2)) (.slice Ax (cz O2).length cx)
  rw [hz10] at Ky
  replace Pp := (Pp.setCell (p := ⟨vx.heap.size, 0, none⟩) (by show _ ≤ vx.heap.size; omega) (.bool (cb O2))).setCell (p := ⟨vx.heap.size, 1, none⟩) (by show _ ≤ vx.heap.size; omega) (.slice Ax (cz O2).length cx)
  rw [hz10] at Pp
  replace Pq := (Pq.setCell (p := ⟨vx.heap.size, 0, none⟩) (by show _ ≤ vx.heap.size; omega) (.bool (cb O2))).setCell (p := ⟨vx.heap.size, 1, none⟩) (by show _ ≤ vx.heap.size; omega) (.slice Ax (cz O2).length cx)
  rw [hz10] at Pq
  replace hz := (hz.setCell (p := ⟨vx.heap.size, 0, none⟩) (by show _ ≤ vx.heap.size; omega) (.bool (cb O2))).setCell (p := ⟨vx.heap.size, 1, none⟩) (by show _ ≤ vx.heap.size; omega) (.slice Ax (cz O2).length cx)
  rw [hz10] at hz
  replace Rx := Rx.two (vx.heap.size) (by omega) (.bool (cb O2)) (.slice Ax (cz O2).length cx)
  rw [hz10] at Rx
  replace hsz : z8.heap.size ≤ z10.heap.size := by rw [← hz10]; simpa using hsz
  clear j1 j2 j3 j4 j5
  obtain ⟨j1, j2, j3, j4, j5⟩ := hbox z10 hz
  have zg : vy.heap.size < z10.heap.size := Ky.2.2.2.2
  go_wp2_with fail
  go_at_call 26
  refine (dSub _ hz).mono ?_
  rintro e z11 ⟨Ay, cy, rfl, Ry, hb⟩
  clear q0 q1 f0 f1 ql BO
  clear j1 j2 j3 j4 j5
  replace hz : Below (w.heap.size + 2) W2 z11 := hz.trans (hb.mono (hbox _ hz).2.2.2.2)
  obtain ⟨j1, j2, j3, j4, j5⟩ := hbox z11 hz
  replace Pp := Pp.trans (hb.mono Pp.size)
  replace Pq := Pq.trans (hb.mono Pq.size)
  replace Kx := Kx.later hb
  replace Ky := Ky.later hb
  replace Rx := Rx.later hb
  replace hsz := Nat.le_trans hsz hb.size
  clear hb
  obtain ⟨z12, hz12⟩ : ∃ u, (z11.setCell ⟨vy.heap.size, 0, none⟩ (.bool (cb O2))).setCell ⟨vy.heap.size, 1, none⟩ (.slice Ay (cz O2).length cy) = u := ⟨_, rfl⟩
  obtain ⟨q0, q1, f0, f1, ql⟩ := Ky
  have BO : Bx vy.heap.size _ _ _ := ⟨q0, q1, f0, f1, ql⟩
  replace Ky := BO.set (.bool (cb O2)) (.slice Ay (cz O2).length cy)
  rw [hz12] at Ky
  replace Kx := Kx.off (m := vy.heap.size) (by omega) (.bool (cb O2)) (.slice Ay (cz O2).length cy)
  rw [hz12] at Kx
  replace Pp := (Pp.setCell (p := ⟨vy.heap.size, 0, none⟩) (by show _ ≤ vy.heap.size; omega) (.bool (cb O2))).setCell (p := ⟨vy.heap.size, 1, none⟩) (by show _ ≤ vy.heap.size; omega) (.slice Ay (cz O2).length cy)
  rw [hz12] at Pp
  replace Pq := (Pq.setCell (p := ⟨vy.heap.size, 0, none⟩) (by show _ ≤ vy.heap.size; omega) (.bool (cb O2))).setCell (p := ⟨vy.heap.size, 1, none⟩) (by show _ ≤ vy.heap.size; omega) (.slice Ay (cz O2).length cy)
  rw [hz12] at Pq
  replace hz := (hz.setCell (p := ⟨vy.heap.size, 0, none⟩) (by show _ ≤ vy.heap.size; omega) (.bool (cb O2))).setCell (p := ⟨vy.heap.size, 1, none⟩) (by show _ ≤ vy.heap.size; omega) (.slice Ay (cz O2).length cy)
  rw [hz12] at hz
  replace Rx := Rx.two (vy.heap.size) (by omega) (.bool (cb O2)) (.slice Ay (cz O2).length cy)
  rw [hz12] at Rx
  replace Ry := Ry.two (vy.heap.size) (by omega) (.bool (cb O2)) (.slice Ay (cz O2).length cy)
  rw [hz12] at Ry
  replace hsz : z8.heap.size ≤ z12.heap.size := by rw [← hz12]; simpa using hsz
  clear j1 j2 j3 j4 j5
  obtain ⟨j1, j2, j3, j4, j5⟩ := hbox z12 hz
  obtain ⟨q0x, q1x, f0x, f1x, qlx⟩ := Kx
  have Kx : Bx vx.heap.size _ _ _ := ⟨q0x, q1x, f0x, f1x, qlx⟩
  obtain ⟨q0y, q1y, f0y, f1y, qly⟩ := Ky
  have Ky : Bx vy.heap.size _ _ _ := ⟨q0y, q1y, f0y, f1y, qly⟩
  go_wp2_with fail
  go_at_call 18
  refine (same_ok (cb O2) Ax Ay cx cy (cz O2) _ Rx.2.2.rd Ry.2.2.rd Rx.1 Rx.2.1 Ry.1 Ry.2.1).mono ?_
  rintro e z13 ⟨rfl, hb⟩
  clear q0x q1x qlx f0x f1x
  clear q0y q1y qly f0y f1y
  clear q0 q1 f0 f1 ql BO
  clear j1 j2 j3 j4 j5
  replace hz : Below (w.heap.size + 2) W2 z13 := hz.trans (hb.mono (hbox _ hz).2.2.2.2)
  obtain ⟨j1, j2, j3, j4, j5⟩ := hbox z13 hz
  replace Pp := Pp.trans (hb.mono Pp.size)
  replace Pq := Pq.trans (hb.mono Pq.size)
  replace Kx := Kx.later hb
  replace Ky := Ky.later hb
  replace Rx := Rx.later hb
  replace Ry := Ry.later hb
  replace hsz := Nat.le_trans hsz hb.size
  clear hb
  have hkx : 0 < (cz O2).length → ∀ ad, Ax = some ad → ad.block ≠ vx.heap.size := fun h0 ad ha => by have := (bk h0 ad ha).1; omega
  have hky : 0 < (cz O2).length → ∀ ad, Ax = some ad → ad.block ≠ vy.heap.size := fun h0 ad ha => by have := (bk h0 ad ha).1; omega
  obtain ⟨q0x, q1x, f0x, f1x, qlx⟩ := Kx
  have Kx : Bx vx.heap.size _ _ _ := ⟨q0x, q1x, f0x, f1x, qlx⟩
  have hbk := can_block Rx
  go_wp2_with fail
  go_at_call 24
  refine (spoil_ok (cb O2) Ax cx (cz O2) _ _ Rx.2.2 (by omega) Rx.1 Rx.2.1).mono ?_
  rintro e z14 ⟨rfl, hbs, hbt⟩
  clear q0x q1x qlx f0x f1x
  clear j1 j2 j3 j4 j5
  replace hz : Below (w.heap.size + 2) W2 z14 := hz.trans (hbs.mono (by omega))
  obtain ⟨j1, j2, j3, j4, j5⟩ := hbox z14 hz
  replace Pp := Pp.trans (hbs.mono (by omega))
  replace Pq := Pq.trans (hbs.mono (by omega))
  replace Kx := Kx.but hbt (fun h0 ad ha => by have := hkx h0 ad ha; omega) hbs.size
  replace Ky := Ky.but hbt (fun h0 ad ha => by have := hky h0 ad ha; omega) hbs.size
  clear hbs hbt hbk
  clear hsz zc zd ze zf bk hkx hky Rx
  clear Ry zg
  have zc : vx.heap.size < z14.heap.size := Kx.2.2.2.2
  have zd : vy.heap.size < z14.heap.size := Ky.2.2.2.2
  have ze : up.heap.size ≤ z14.heap.size := Pp.size
  have zf : uq.heap.size ≤ z14.heap.size := Pq.size
  have hsz := Nat.le_refl z14.heap.size
  have q0p := cell_later Pp c0p
  have q1p := cell_later Pp c1p
  have qlp : vp.heap.size < z14.heap.size := World.block_lt_of_cell? _ _ q0p
  have q0q := cell_later Pq c0q
  have q1q := cell_later Pq c1q
  have qlq : vq.heap.size < z14.heap.size := World.block_lt_of_cell? _ _ q0q
  go_wp2_with fail
  go_at_call 27
  refine (cMul _ gp gq cp cq (Rp.later Pp) (Rq.later Pq) lp mp lq mq).mono ?_
  rintro e z15 ⟨Ax, cx, rfl, Rx, hb⟩
  clear q0p q1p qlp
  clear q0q q1q qlq
  clear j1 j2 j3 j4 j5
  replace hz : Below (w.heap.size + 2) W2 z15 := hz.trans (hb.mono (hbox _ hz).2.2.2.2)
  obtain ⟨j1, j2, j3, j4, j5⟩ := hbox z15 hz
  replace Pp := Pp.trans (hb.mono Pp.size)
  replace Pq := Pq.trans (hb.mono Pq.size)
  replace Kx := Kx.later hb
  replace Ky := Ky.later hb
  replace hsz := Nat.le_trans hsz hb.size
  clear hb
  have bk := can_block Rx
  obtain ⟨z16, hz16⟩ : ∃ u, (z15.setCell ⟨vx.heap.size, 0, none⟩ (.bool (cb O3))).setCell ⟨vx.heap.size, 1, none⟩ (.slice Ax (cz O3).length cx) = u := ⟨_, rfl⟩
  obtain ⟨q0, q1, f0, f1, ql⟩ := Kx
  have BO : Bx vx.heap.size _ _ _ := ⟨q0, q1, f0, f1, ql⟩
  replace Kx := BO.set (.bool (cb O3)) (.slice Ax (cz O3).length cx)
  rw [hz16] at Kx
  replace Ky := Ky.off (m := vx.heap.size) (by omega) (.bool (cb O3)) (.slice Ax (cz O3).length cx)
  rw [hz16] at Ky
  replace Pp := (Pp.setCell (p := ⟨vx.heap.size, 0, none⟩) (by show _ ≤ vx.heap.size; omega) (.bool (cb O3))).setCell (p := ⟨vx.heap.size, 1, none⟩) (by show _ ≤ vx.heap.size; omega) (.slice Ax (cz O3).length cx)
  rw [hz16] at Pp
  replace Pq := (Pq.setCell (p := ⟨vx.heap.size, 0, none⟩) (by show _ ≤ vx.heap.size; omega) (.bool (cb O3))).setCell (p := ⟨vx.heap.size, 1, none⟩) (by show _ ≤ vx.heap.size; omega) (.slice Ax (cz O3).length cx)
  rw [hz16] at Pq
  replace hz := (hz.setCell (p := ⟨vx.heap.size, 0, none⟩) (by show _ ≤ vx.heap.size; omega) (.bool (cb O3))).setCell (p := ⟨vx.heap.size, 1, none⟩) (by show _ ≤ vx.heap.size; omega) (.slice Ax (cz O3).length cx)
  rw [hz16] at hz
  replace Rx := Rx.two (vx.heap.size) (by omega) (.bool (cb O3)) (.slice Ax (cz O3).length cx)
  rw [hz16] at Rx
  replace hsz : z14.heap.size ≤ z16.heap.size := by rw [← hz16]; simpa using hsz
  clear j1 j2 j3 j4 j5
  obtain ⟨j1, j2, j3, j4, j5⟩ := hbox z16 hz
  have zg : vy.heap.size < z16.heap.size := Ky.2.2.2.2
  go_wp2_with fail
  go_at_call 28
  refine (dMul _ hz).mono ?_
  rintro e z17 ⟨Ay, cy, rfl, Ry, hb⟩
  clear q0 q1 f0 f1 ql BO
  clear j1 j2 j3 j4 j5
  replace hz : Below (w.heap.size + 2) W2 z17 := hz.trans (hb.mono (hbox _ hz).2.2.2.2)
  obtain ⟨j1, j2, j3, j4, j5⟩ := hbox z17 hz
  replace Pp := Pp.trans (hb.mono Pp.size)
  replace Pq := Pq.trans (hb.mono Pq.size)
  replace Kx := Kx.later hb
  replace Ky := Ky.later hb
  replace Rx := Rx.later hb
  replace hsz := Nat.le_trans hsz hb.size
  clear hb
  obtain ⟨z18, hz18⟩ : ∃ u, (z17.setCell ⟨vy.heap.size, 0, none⟩ (.bool (cb O3))).setCell ⟨vy.heap.size, 1, none⟩ (.slice Ay (cz O3).length cy) = u := ⟨_, rfl⟩
  obtain ⟨q0, q1, f0, f1, ql⟩ := Ky
  have BO : Bx vy.heap.size _ _ _ := ⟨q0, q1, f0, f1, ql⟩
  replace Ky := BO.set (.bool (cb O3)) (.slice Ay (cz O3).length cy)
  rw [hz18] at Ky
  replace Kx := Kx.off (m := vy.heap.size) (by omega) (.bool (cb O3)) (.slice Ay (cz O3).length cy)
  rw [hz18] at Kx
  replace Pp := (Pp.setCell (p := ⟨vy.heap.size, 0, none⟩) (by show _ ≤ vy.heap.size; omega) (.bool (cb O3))).setCell (p := ⟨vy.heap.size, 1, none⟩) (by show _ ≤ vy.heap.size; omega) (.slice Ay (cz O3).length cy)
  rw [hz18] at Pp
  replace Pq := (Pq.setCell (p := ⟨vy.heap.size, 0, none⟩) (by show _ ≤ vy.heap.size; omega) (.bool (cb O3))).setCell (p := ⟨vy.heap.size, 1, none⟩) (by show _ ≤ vy.heap.size; omega) (.slice Ay (cz O3).length cy)
  rw [hz18] at Pq
  replace hz := (hz.setCell (p := ⟨vy.heap.size, 0, none⟩) (by show _ ≤ vy.heap.size; omega) (.bool (cb O3))).setCell (p := ⟨vy.heap.size, 1, none⟩) (by show _ ≤ vy.heap.size; omega) (.slice Ay (cz O3).length cy)
  rw [hz18] at hz
  replace Rx := Rx.two (vy.heap.size) (by omega) (.bool (cb O3)) (.slice Ay (cz O3).length cy)
  rw [hz18] at Rx
  replace Ry := Ry.two (vy.heap.size) (by omega) (.bool (cb O3)) (.slice Ay (cz O3).length cy)
  rw [hz18] at Ry
  replace hsz : z14.heap.size ≤ z18.heap.size := by rw [← hz18]; simpa using hsz
  clear j1 j2 j3 j4 j5
  obtain ⟨j1, j2, j3, j4, j5⟩ := hbox z18 hz
  obtain ⟨q0x, q1x, f0x, f1x, qlx⟩ := Kx
  have Kx : Bx vx.heap.size _ _ _ := ⟨q0x, q1x, f0x, f1x, qlx⟩
  obtain ⟨q0y, q1y, f0y, f1y, qly⟩ := Ky
  have Ky : Bx vy.heap.size _ _ _ := ⟨q0y, q1y, f0y, f1y, qly⟩
  go_wp2_with fail
  go_at_call 18
  refine (same_ok (cb O3) Ax Ay cx cy (cz O3) _ Rx.2.2.rd Ry.2.2.rd Rx.1 Rx.2.1 Ry.1 Ry.2.1).mono ?_
  rintro e z19 ⟨rfl, hb⟩
  clear q0x q1x qlx f0x f1x
  clear q0y q1y qly f0y f1y
  clear q0 q1 f0 f1 ql BO
  clear j1 j2 j3 j4 j5
  replace hz : Below (w.heap.size + 2) W2 z19 := hz.trans (hb.mono (hbox _ hz).2.2.2.2)
  obtain ⟨j1, j2, j3, j4, j5⟩ := hbox z19 hz
  replace Pp := Pp.trans (hb.mono Pp.size)
  replace Pq := Pq.trans (hb.mono Pq.size)
  replace Kx := Kx.later hb
  replace Ky := Ky.later hb
  replace Rx := Rx.later hb
  replace Ry := Ry.later hb
  replace hsz := Nat.le_trans hsz hb.size
  clear hb
  have hkx : 0 < (cz O3).length → ∀ ad, Ax = some ad → ad.block ≠ vx.heap.size := fun h0 ad ha => by have := (bk h0 ad ha).1; omega
  have hky : 0 < (cz O3).length → ∀ ad, Ax = some ad → ad.block ≠ vy.heap.size := fun h0 ad ha => by have := (bk h0 ad ha).1; omega
  obtain ⟨q0x, q1x, f0x, f1x, qlx⟩ := Kx
  have Kx : Bx vx.heap.size _ _ _ := ⟨q0x, q1x, f0x, f1x, qlx⟩
  have hbk := can_block Rx
  go_wp2_with fail
  go_at_call 24
  refine (spoil_ok (cb O3) Ax cx (cz O3) _ _ Rx.2.2 (by omega) Rx.1 Rx.2.1).mono ?_
  rintro e z20 ⟨rfl, hbs, hbt⟩
  clear q0x q1x qlx f0x f1x
  clear j1 j2 j3 j4 j5
  replace hz : Below (w.heap.size + 2) W2 z20 := hz.trans (hbs.mono (by omega))
  obtain ⟨j1, j2, j3, j4, j5⟩ := hbox z20 hz
  replace Pp := Pp.trans (hbs.mono (by omega))
  replace Pq := Pq.trans (hbs.mono (by omega))
  replace Kx := Kx.but hbt (fun h0 ad ha => by have := hkx h0 ad ha; omega) hbs.size
  replace Ky := Ky.but hbt (fun h0 ad ha => by have := hky h0 ad ha; omega) hbs.size
  clear hbs hbt hbk
  clear hsz zc zd ze zf bk hkx hky Rx
  clear Ry zg
  have zc : vx.heap.size < z20.heap.size := Kx.2.2.2.2
  have zd : vy.heap.size < z20.heap.size := Ky.2.2.2.2
  have ze : up.heap.size ≤ z20.heap.size := Pp.size
  have zf : uq.heap.size ≤ z20.heap.size := Pq.size
  have hsz := Nat.le_refl z20.heap.size
  have q0p := cell_later Pp c0p
  have q1p := cell_later Pp c1p
  have qlp : vp.heap.size < z20.heap.size := World.block_lt_of_cell? _ _ q0p
  go_wp2_with fail
  go_at_call 14
  refine (cNeg _ gp cp (Rp.later Pp) lp mp).mono ?_
  rintro e z21 ⟨Ax, cx, rfl, Rx, hb⟩
  clear q0p q1p qlp
  clear j1 j2 j3 j4 j5
  replace hz : Below (w.heap.size + 2) W2 z21 := hz.trans (hb.mono (hbox _ hz).2.2.2.2)
  obtain ⟨j1, j2, j3, j4, j5⟩ := hbox z21 hz
  replace Pp := Pp.trans (hb.mono Pp.size)
  replace Pq := Pq.trans (hb.mono Pq.size)
  replace Kx := Kx.later hb
  replace Ky := Ky.later hb
  replace hsz := Nat.le_trans hsz hb.size
  clear hb
  have bk := can_block Rx
  obtain ⟨z22, hz22⟩ : ∃ u, (z21.setCell ⟨vx.heap.size, 0, none⟩ (.bool (cb O4))).setCell ⟨vx.heap.size, 1, none⟩ (.slice Ax (cz O4).length cx) = u := ⟨_, rfl⟩
  obtain ⟨q0, q1, f0, f1, ql⟩ := Kx
  have BO : Bx vx.heap.size _ _ _ := ⟨q0, q1, f0, f1, ql⟩
  replace Kx := BO.set (.bool (cb O4)) (.slice Ax (cz O4).length cx)
  rw [hz22] at Kx
  replace Ky := Ky.off (m := vx.heap.size) (by omega) (.bool (cb O4)) (.slice Ax (cz O4).length cx)
  rw [hz22] at Ky
  replace Pp := (Pp.setCell (p := ⟨vx.heap.size, 0, none⟩) (by show _ ≤ vx.heap.size; omega) (.bool (cb O4))).setCell (p := ⟨vx.heap.size, 1, none⟩) (by show _ ≤ vx.heap.size; omega) (.slice Ax (cz O4).length cx)
  rw [hz22] at Pp
  replace Pq := (Pq.setCell (p := ⟨vx.heap.size, 0, none⟩) (by show _ ≤ vx.heap.size; omega) (.bool (cb O4))).setCell (p := ⟨vx.heap.size, 1, none⟩) (by show _ ≤ vx.heap.size; omega) (.slice Ax (cz O4).length cx)
  rw [hz22] at Pq
  replace hz := (hz.setCell (p := ⟨vx.heap.size, 0, none⟩) (by show _ ≤ vx.heap.size; omega) (.bool (cb O4))).setCell (p := ⟨vx.heap.size, 1, none⟩) (by show _ ≤ vx.heap.size; omega) (.slice Ax (cz O4).length cx)
  rw [hz22] at hz
  replace Rx := Rx.two (vx.heap.size) (by omega) (.bool (cb O4)) (.slice Ax (cz O4).length cx)
  rw [hz22] at Rx
  replace hsz : z20.heap.size ≤ z22.heap.size := by rw [← hz22]; simpa using hsz
  clear j1 j2 j3 j4 j5
  obtain ⟨j1, j2, j3, j4, j5⟩ := hbox z22 hz
  have HPK : ∀ W, Below z22.heap.size z22 W → (W.cell? ⟨vx.heap.size, 0, none⟩ = some (.bool (cb O4)) ∧ W.cell? ⟨vx.heap.size, 1, none⟩ = some (.slice Ax (cz O4).length cx) ∧ vx.heap.size < W.heap.size ∧ W.cell? ⟨w.heap.size, 0, none⟩ = some (.bool b1) ∧ W.cell? ⟨w.heap.size, 1, none⟩ = some (.slice A xs.length c1) ∧ W.cell? ⟨w.heap.size + 1, 0, none⟩ = some (.bool b2) ∧ W.cell? ⟨w.heap.size + 1, 1, none⟩ = some (.slice B ys.length c2) ∧ w.heap.size + 2 ≤ W.heap.size ∧ W.cell? ⟨vp.heap.size, 0, none⟩ = some (.bool b1) ∧ W.cell? ⟨vp.heap.size, 1, none⟩ = some (.slice (some ⟨gp, 0, none⟩) xs.length cp) ∧ vp.heap.size < W.heap.size ∧ W.cell? ⟨vq.heap.size, 0, none⟩ = some (.bool b2) ∧ W.cell? ⟨vq.heap.size, 1, none⟩ = some (.slice (some ⟨gq, 0, none⟩) ys.length cq) ∧ vq.heap.size < W.heap.size) := fun W h => by
    obtain ⟨a0, a1, _, _, al⟩ := Kx.later h
    obtain ⟨d1, d2, d3, d4, d5⟩ := hbox W (hz.trans (h.mono j5))
    have e0 := cell_later (Pp.trans (h.mono Pp.size)) c0p
    have e1 := cell_later (Pp.trans (h.mono Pp.size)) c1p
    have e2 := cell_later (Pq.trans (h.mono Pq.size)) c0q
    have e3 := cell_later (Pq.trans (h.mono Pq.size)) c1q
    exact ⟨a0, a1, al, d1, d2, d3, d4, d5, e0, e1, World.block_lt_of_cell? _ _ e0, e2, e3, World.block_lt_of_cell? _ _ e2⟩
  go_wp2_with fail
  go_region_held3 (fun W => W.cell? ⟨vx.heap.size, 0, none⟩ = some (.bool (cb O4)) ∧ W.cell? ⟨vx.heap.size, 1, none⟩ = some (.slice Ax (cz O4).length cx) ∧ vx.heap.size < W.heap.size ∧ W.cell? ⟨w.heap.size, 0, none⟩ = some (.bool b1) ∧ W.cell? ⟨w.heap.size, 1, none⟩ = some (.slice A xs.length c1) ∧ W.cell? ⟨w.heap.size + 1, 0, none⟩ = some (.bool b2) ∧ W.cell? ⟨w.heap.size + 1, 1, none⟩ = some (.slice B ys.length c2) ∧ w.heap.size + 2 ≤ W.heap.size ∧ W.cell? ⟨vp.heap.size, 0, none⟩ = some (.bool b1) ∧ W.cell? ⟨vp.heap.size, 1, none⟩ = some (.slice (some ⟨gp, 0, none⟩) xs.length cp) ∧ vp.heap.size < W.heap.size ∧ W.cell? ⟨vq.heap.size, 0, none⟩ = some (.bool b2) ∧ W.cell? ⟨vq.heap.size, 1, none⟩ = some (.slice (some ⟨gq, 0, none⟩) ys.length cq) ∧ vq.heap.size < W.heap.size) (first | exact HPK _ H4 | exact HPK _ H3 | exact HPK _ H2 | exact HPK _ H1 | exact HPK _ (below_drew (Below.refl _ _)) | exact HPK _ (Below.refl _ _) | go_keep) (first
    | (go_at_call 29; refine (dNeg _ (by first | exact hz | exact below_drew hz)).mono ?_; rintro e y1 ⟨An, cn, rfl, Rn, hb⟩; have H1 : Below z22.heap.size z22 y1 := (by first | exact hb | exact (below_drew (Below.refl _ _)).trans hb))
    | (go_at_call 18; refine (same_ok (cb O4) Ax An cx cn (cz O4) y1 (Rx.later H1).2.2.rd Rn.2.2.rd Rx.1 Rx.2.1 Rn.1 Rn.2.1).mono ?_; rintro e y2 ⟨rfl, hb⟩; have H2 := H1.trans (hb.mono H1.size))
    | (go_at_call 13; refine (cCmp y2 gp gq cp cq (Rp.later (Pp.trans (H2.mono Pp.size))) (Rq.later (Pq.trans (H2.mono Pq.size))) lp mp lq mq).mono ?_; rintro e y3 ⟨rfl, hb⟩; have H3 := H2.trans (hb.mono H2.size))
    | (go_at_call 30; refine (dCmp y3 (hz.trans (H3.mono j5))).mono ?_; rintro e y4 ⟨rfl, hb⟩; have H4 := H3.trans (hb.mono H3.size)))
  clear HPK q0 q1 f0 f1 ql BO
  clear j1 j2 j3 j4 j5
  replace hz : Below (w.heap.size + 2) W2 y4 := hz.trans (H4.mono (hbox _ hz).2.2.2.2)
  obtain ⟨j1, j2, j3, j4, j5⟩ := hbox y4 hz
  replace Pp := Pp.trans (H4.mono Pp.size)
  replace Pq := Pq.trans (H4.mono Pq.size)
  replace Kx := Kx.later H4
  replace Ky := Ky.later H4
  replace Rx := Rx.later H4
  replace hsz := Nat.le_trans hsz H4.size
  clear H1 H2 H3 H4 Rn
  have hkx : 0 < (cz O4).length → ∀ ad, Ax = some ad → ad.block ≠ vx.heap.size := fun h0 ad ha => by have := (bk h0 ad ha).1; omega
  have hky : 0 < (cz O4).length → ∀ ad, Ax = some ad → ad.block ≠ vy.heap.size := fun h0 ad ha => by have := (bk h0 ad ha).1; omega
  obtain ⟨q0x, q1x, f0x, f1x, qlx⟩ := Kx
  have Kx : Bx vx.heap.size _ _ _ := ⟨q0x, q1x, f0x, f1x, qlx⟩
  have hbk := can_block Rx
  go_wp2_with fail
  go_at_call 24
  refine (spoil_ok (cb O4) Ax cx (cz O4) _ _ Rx.2.2 (by omega) Rx.1 Rx.2.1).mono ?_
  rintro e z23 ⟨rfl, hbs, hbt⟩
  clear q0x q1x qlx f0x f1x
  clear j1 j2 j3 j4 j5
  replace hz : Below (w.heap.size + 2) W2 z23 := hz.trans (hbs.mono (by omega))
  obtain ⟨j1, j2, j3, j4, j5⟩ := hbox z23 hz
  replace Pp := Pp.trans (hbs.mono (by omega))
  replace Pq := Pq.trans (hbs.mono (by omega))
  replace Kx := Kx.but hbt (fun h0 ad ha => by have := hkx h0 ad ha; omega) hbs.size
  replace Ky := Ky.but hbt (fun h0 ad ha => by have := hky h0 ad ha; omega) hbs.size
  clear hbs hbt hbk
  clear hsz zc zd ze zf bk hkx hky Rx
  have q0p := cell_later Pp c0p
  have q1p := cell_later Pp c1p
  have qlp : vp.heap.size < z23.heap.size := World.block_lt_of_cell? _ _ q0p
  go_wp2_with fail
  go_at_call 31
  refine (dBa _ hz gp cp (Rp.later Pp) lp mp).mono ?_
  rintro e z24 ⟨rfl, hb⟩
  clear q0p q1p qlp
  clear j1 j2 j3 j4 j5
  replace hz : Below (w.heap.size + 2) W2 z24 := hz.trans (hb.mono (hbox _ hz).2.2.2.2)
  obtain ⟨j1, j2, j3, j4, j5⟩ := hbox z24 hz
  replace Pp := Pp.trans (hb.mono Pp.size)
  replace Pq := Pq.trans (hb.mono Pq.size)
  replace Kx := Kx.later hb
  replace Ky := Ky.later hb
  clear hb
  have q0q := cell_later Pq c0q
  have q1q := cell_later Pq c1q
  have qlq : vq.heap.size < z24.heap.size := World.block_lt_of_cell? _ _ q0q
  go_wp2_with fail
  go_at_call 31
  refine (dBb _ hz gq cq (Rq.later Pq) lq mq).mono ?_
  rintro e z25 ⟨rfl, hb⟩
  clear q0q q1q qlq
  clear j1 j2 j3 j4 j5
  replace hz : Below (w.heap.size + 2) W2 z25 := hz.trans (hb.mono (hbox _ hz).2.2.2.2)
  obtain ⟨j1, j2, j3, j4, j5⟩ := hbox z25 hz
  replace Pp := Pp.trans (hb.mono Pp.size)
  replace Pq := Pq.trans (hb.mono Pq.size)
  replace Kx := Kx.later hb
  replace Ky := Ky.later hb
  clear hb
  go_wp2_with fail
  go_at_call 12
  refine (wawake_ok _).mono ?_
  rintro e vg ⟨rfl, hb2⟩
  go_wp2
  go_ret
  exact ⟨rfl, (hB _ hz).trans (hb2.mono (hB _ hz).size)⟩
end Go.Proofs.YtegdbcnloodljaaDoor
