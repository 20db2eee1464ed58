/- Joined by a program: Pe7. -/
import Derived.Test.YtjndbcnmmnkilaaGreatDoorPF14
namespace Go.Proofs.YtjndbcnmmnkilaaGreatDoor
set_option linter.unusedVariables false
set_option linter.unusedSimpArgs false
set_option maxRecDepth 1000000
set_option maxHeartbeats 16000000
section
open Go.RowKit
open List (length_append length_cons length_nil length_singleton)
section
variable {wB nB gB : ByteArray → Bool} {nO : ByteArray → Option (List Int)} {e : Int} 
theorem run_callP (f : FuncId) (fn : Func) (h : Tryz.prog.funcs[f]? = some fn) (h1 : (fn.name == "runtime.NumGoroutine") = false) (h2 : fn.body.isNone = false) (args : Array Value) (W : World) : (callFunc f args).run Tryz.prog W = .ok (.enter f args) W := by
 exact lv48
theorem stAt_of {w : World} {b : Nat} {cs : Array Value} {L : List ByteArray} {t : TypeId} (h : w.heap[b]? = some (.cells cs t)) (hc : cs.toList = L.map Value.string) : StAt w (some ⟨b, 0, none⟩) L := fun i s hi => by
 refine ⟨_, 0, rfl, ?_⟩
 rw [Nat.zero_add]
 exact cell_of_row _ _ i _ _ _ h |>.trans (by rw [← Array.getElem?_toList, hc, List.getElem?_map, hi]; rfl)
theorem pOr_ok (hD : Deps wB nB gB nO) (hC : Cst wB) (D : Nat) (HAs : ∀ k, k ≤ D → PA e (Pp nB gB nO e k)) : CN e 179 (fun l => s_or (Pp nB gB nO e D) l) := by
 intro X l w hP0 hne
 obtain ⟨R, hR⟩ : ∃ R, s_or (Pp nB gB nO e D) l = R := ⟨_, rfl⟩
 simp only [hR] at hne ⊢
 have hmf : ∀ (fn : Fn) (first cap : Array Value) (w : World), (Instr.makeFunc fn first cap).run Tryz.prog w = .ok (.func fn first cap) w := fun _ _ _ _ => rfl
 have hne2 : (((fun k => (Pp nB gB nO e k).qand) D l).bind fun n l => (fun k => (Pp nB gB nO e k).qorL) D n l) ≠ .oof := by intro h; exact hne (hR.symm.trans h)
 have hR2 : (((fun k => (Pp nB gB nO e k).qand) D l).bind fun n l => (fun k => (Pp nB gB nO e k).qorL) D n l) = R := hR
 have hXl := hP0.lt
 have hk0 : Kp w.heap.size X w w := Kp.refl _ _ _
 have hz0 := hk0.size
 go_enter Tryz.func179, Tryz.ntmps179
 go_upto_region 1 with fail
 generalize hG : w.alloc zN = w1 at *
 obtain ⟨hb1, hxR_1, _⟩ := nb hG
 clear hG
 obtain ⟨hk1, _, _⟩ := kd hk0 hb1
 have hP1 := hP0.later hb1
 go_wp2_with fail
 generalize hG : w1.alloc (.cells #[.string ⟨#[111, 114]⟩] 9) = w2 at *
 obtain ⟨hb2, hxg_2, _⟩ := nb hG
 clear hG
 obtain ⟨hk2, _, _⟩ := kd hk1 hb2
 have hP2 := hP1.later hb2
 have hxR_2 := kb hb2 hxR_1
 have hst : StAt w2 (some ⟨w1.heap.size, 0, none⟩) [⟨#[111, 114]⟩] := stAt_of hxg_2 rfl
 have hLq : LeftEq e 45 [⟨#[111, 114]⟩] (fun s l => isW e s l) (fun k => (Pp nB gB nO e k).qand) (fun k => (Pp nB gB nO e k).qorL) := ⟨fun n l => rfl, fun k n l => by show s_orL e (Pp nB gB nO e k) n l = _; unfold s_orL; simp⟩
 have hokq : ∀ s l, s ∈ [⟨#[111, 114]⟩] → sameB wB (hd e l) s = (fun s l => isW e s l) s l := by
  intro s l hs; simp only [List.mem_cons, List.not_mem_nil, or_false] at hs
  rcases hs with rfl
  ·exact sameW hC.w_or e l
 go_at_call 241
 refine (leftO_ok hD 45 _ _ _ _ hLq hokq 242 D X l w2 (run_callP _ _ Tryz.func242 lq15 lq15 _) (fun k hk => (HAs k hk).pand) ⟨by decide, by decide⟩ lq16 w1.heap.size 1 hst rfl lq16 lq17 lq17 hP2 hne2).mono ?_
 rw [hR2]
 clear hR2 hne2 hLq hokq hst
 rintro E w3 hE
 rcases hE with ⟨cc, aa, hv, rfl, hq⟩ | ⟨T1, l1, A1, c1, K1, d1, hv, rfl, hP3, hF1_3, hq⟩
 ·exact lv70
 have HV := Lh hv
 clear hv
 have hF1_3 := hF1_3.intoN (P := Nn) (lo := w.heap.size + 1) (x := X) lq17 lq17
 obtain ⟨hk3, _, _⟩ := kc hk2 hq
 have hxR_3 := kx hq hxR_2
 unfold ndV
 have HE := Lh (show _ ∧ _ ∧ _ from ⟨hk3, hP3, hF1_3⟩)
 obtain ⟨k0, k1, k2, k3, k4, k5⟩ := bx_cells hxR_3
 have z := Lib.frozen_of_heap hxR_3
 obtain ⟨r0, r1, r2, r3, r4, r5⟩ := bp hxR_3 (.int .i64 T1.kind) (.int .i64 T1.pos) (.string T1.text) (.bool T1.neg) (.slice A1 T1.mag.length c1) (.slice K1 T1.kids.length d1)
 clear hxR_3 hF1_3 hk3 hP3
 go_wp2_with fail
 refine bodyPost_ret (v := ndV T1 A1 c1 K1 d1) (by simp [results, Tryz.results179, go_sem, r0, r1, r2, r3, r4, r5, ndV]) rfl ?_
 exact lv75
theorem pAnd_ok (hD : Deps wB nB gB nO) (hC : Cst wB) (D : Nat) (HAs : ∀ k, k ≤ D → PA e (Pp nB gB nO e k)) : CN e 242 (fun l => s_and (Pp nB gB nO e D) l) := by
 intro X l w hP0 hne
 obtain ⟨R, hR⟩ : ∃ R, s_and (Pp nB gB nO e D) l = R := ⟨_, rfl⟩
 simp only [hR] at hne ⊢
 have hmf : ∀ (fn : Fn) (first cap : Array Value) (w : World), (Instr.makeFunc fn first cap).run Tryz.prog w = .ok (.func fn first cap) w := fun _ _ _ _ => rfl
 have hne2 : (((fun k => (Pp nB gB nO e k).qnot) D l).bind fun n l => (fun k => (Pp nB gB nO e k).qandL) D n l) ≠ .oof := by intro h; exact hne (hR.symm.trans h)
 have hR2 : (((fun k => (Pp nB gB nO e k).qnot) D l).bind fun n l => (fun k => (Pp nB gB nO e k).qandL) D n l) = R := hR
 have hXl := hP0.lt
 have hk0 : Kp w.heap.size X w w := Kp.refl _ _ _
 have hz0 := hk0.size
 go_enter Tryz.func242, Tryz.ntmps242
 go_upto_region 1 with fail
 generalize hG : w.alloc zN = w1 at *
 obtain ⟨hb1, hxR_1, _⟩ := nb hG
 clear hG
 obtain ⟨hk1, _, _⟩ := kd hk0 hb1
 have hP1 := hP0.later hb1
 go_wp2_with fail
 generalize hG : w1.alloc (.cells #[.string ⟨#[97, 110, 100]⟩] 9) = w2 at *
 obtain ⟨hb2, hxg_2, _⟩ := nb hG
 clear hG
 obtain ⟨hk2, _, _⟩ := kd hk1 hb2
 have hP2 := hP1.later hb2
 have hxR_2 := kb hb2 hxR_1
 have hst : StAt w2 (some ⟨w1.heap.size, 0, none⟩) [⟨#[97, 110, 100]⟩] := stAt_of hxg_2 rfl
 have hLq : LeftEq e 46 [⟨#[97, 110, 100]⟩] (fun s l => isW e s l) (fun k => (Pp nB gB nO e k).qnot) (fun k => (Pp nB gB nO e k).qandL) := ⟨fun n l => rfl, fun k n l => by show s_andL e (Pp nB gB nO e k) n l = _; unfold s_andL; simp⟩
 have hokq : ∀ s l, s ∈ [⟨#[97, 110, 100]⟩] → sameB wB (hd e l) s = (fun s l => isW e s l) s l := by
  intro s l hs; simp only [List.mem_cons, List.not_mem_nil, or_false] at hs
  rcases hs with rfl
  ·exact sameW hC.w_and e l
 go_at_call 241
 refine (leftO_ok hD 46 _ _ _ _ hLq hokq 283 D X l w2 (run_callP _ _ Tryz.func283 lq15 lq15 _) (fun k hk => (HAs k hk).pnot) ⟨by decide, by decide⟩ lq16 w1.heap.size 1 hst rfl lq16 lq17 lq17 hP2 hne2).mono ?_
 rw [hR2]
 clear hR2 hne2 hLq hokq hst
 rintro E w3 hE
 rcases hE with ⟨cc, aa, hv, rfl, hq⟩ | ⟨T1, l1, A1, c1, K1, d1, hv, rfl, hP3, hF1_3, hq⟩
 ·exact lv70
 have HV := Lh hv
 clear hv
 have hF1_3 := hF1_3.intoN (P := Nn) (lo := w.heap.size + 1) (x := X) lq17 lq17
 obtain ⟨hk3, _, _⟩ := kc hk2 hq
 have hxR_3 := kx hq hxR_2
 unfold ndV
 have HE := Lh (show _ ∧ _ ∧ _ from ⟨hk3, hP3, hF1_3⟩)
 obtain ⟨k0, k1, k2, k3, k4, k5⟩ := bx_cells hxR_3
 have z := Lib.frozen_of_heap hxR_3
 obtain ⟨r0, r1, r2, r3, r4, r5⟩ := bp hxR_3 (.int .i64 T1.kind) (.int .i64 T1.pos) (.string T1.text) (.bool T1.neg) (.slice A1 T1.mag.length c1) (.slice K1 T1.kids.length d1)
 clear hxR_3 hF1_3 hk3 hP3
 go_wp2_with fail
 refine bodyPost_ret (v := ndV T1 A1 c1 K1 d1) (by simp [results, Tryz.results242, go_sem, r0, r1, r2, r3, r4, r5, ndV]) rfl ?_
 exact lv75
theorem pTerm_ok (hD : Deps wB nB gB nO) (hC : Cst wB) (D : Nat) (HAs : ∀ k, k ≤ D → PA e (Pp nB gB nO e k)) : CN e 339 (fun l => s_row (Pp nB gB nO e D) 0 l) := by
 intro X l w hP0 hne
 obtain ⟨R, hR⟩ : ∃ R, s_row (Pp nB gB nO e D) 0 l = R := ⟨_, rfl⟩
 simp only [hR] at hne ⊢
 have hmf : ∀ (fn : Fn) (first cap : Array Value) (w : World), (Instr.makeFunc fn first cap).run Tryz.prog w = .ok (.func fn first cap) w := fun _ _ _ _ => rfl
 have hne2 : (((fun k => (Pp nB gB nO e k).qminus) D l).bind fun n l => (fun k => (Pp nB gB nO e k).qrowL 0) D n l) ≠ .oof := by intro h; exact hne (hR.symm.trans h)
 have hR2 : (((fun k => (Pp nB gB nO e k).qminus) D l).bind fun n l => (fun k => (Pp nB gB nO e k).qrowL 0) D n l) = R := hR
 have hXl := hP0.lt
 have hk0 : Kp w.heap.size X w w := Kp.refl _ _ _
 have hz0 := hk0.size
 go_enter Tryz.func339, Tryz.ntmps339
 go_upto_region 1 with fail
 generalize hG : w.alloc zN = w1 at *
 obtain ⟨hb1, hxR_1, _⟩ := nb hG
 clear hG
 obtain ⟨hk1, _, _⟩ := kd hk0 hb1
 have hP1 := hP0.later hb1
 go_wp2_with fail
 generalize hG : w1.alloc (.cells #[.string ⟨#[42]⟩, .string ⟨#[47, 47]⟩, .string ⟨#[37]⟩] 9) = w2 at *
 obtain ⟨hb2, hxg_2, _⟩ := nb hG
 clear hG
 obtain ⟨hk2, _, _⟩ := kd hk1 hb2
 have hP2 := hP1.later hb2
 have hxR_2 := kb hb2 hxR_1
 have hst : StAt w2 (some ⟨w1.heap.size, 0, none⟩) [⟨#[42]⟩, ⟨#[47, 47]⟩, ⟨#[37]⟩] := stAt_of hxg_2 rfl
 have hLq : LeftEq e 49 [⟨#[42]⟩, ⟨#[47, 47]⟩, ⟨#[37]⟩] (fun s l => isS e s l) (fun k => (Pp nB gB nO e k).qminus) (fun k => (Pp nB gB nO e k).qrowL 0) := ⟨fun n l => rfl, fun k n l => by show s_rowL e (Pp nB gB nO e k) 0 n l = _; unfold s_rowL; simp [opsOf]⟩
 have hokq : ∀ s l, s ∈ [⟨#[42]⟩, ⟨#[47, 47]⟩, ⟨#[37]⟩] → sameB wB (hd e l) s = (fun s l => isS e s l) s l := by
  intro s l hs; simp only [List.mem_cons, List.not_mem_nil, or_false] at hs
  rcases hs with rfl | rfl | rfl
  ·exact sameS hC.s_2a e l
  ·exact sameS hC.s_2f2f e l
  ·exact sameS hC.s_25 e l
 go_at_call 241
 refine (leftB_ok hD 49 _ _ _ _ hLq hokq 340 D X l w2 (run_callP _ _ Tryz.func340 lq15 lq15 _) (fun k hk => (HAs k hk).pminus) ⟨by decide, by decide⟩ lq16 w1.heap.size 3 hst rfl lq16 lq17 lq17 hP2 hne2).mono ?_
 rw [hR2]
 clear hR2 hne2 hLq hokq hst
 rintro E w3 hE
 rcases hE with ⟨cc, aa, hv, rfl, hq⟩ | ⟨T1, l1, A1, c1, K1, d1, hv, rfl, hP3, hF1_3, hq⟩
 ·exact lv70
 have HV := Lh hv
 clear hv
 have hF1_3 := hF1_3.intoN (P := Nn) (lo := w.heap.size + 1) (x := X) lq17 lq17
 obtain ⟨hk3, _, _⟩ := kc hk2 hq
 have hxR_3 := kx hq hxR_2
 unfold ndV
 have HE := Lh (show _ ∧ _ ∧ _ from ⟨hk3, hP3, hF1_3⟩)
 obtain ⟨k0, k1, k2, k3, k4, k5⟩ := bx_cells hxR_3
 have z := Lib.frozen_of_heap hxR_3
 obtain ⟨r0, r1, r2, r3, r4, r5⟩ := bp hxR_3 (.int .i64 T1.kind) (.int .i64 T1.pos) (.string T1.text) (.bool T1.neg) (.slice A1 T1.mag.length c1) (.slice K1 T1.kids.length d1)
 clear hxR_3 hF1_3 hk3 hP3
 go_wp2_with fail
 refine bodyPost_ret (v := ndV T1 A1 c1 K1 d1) (by simp [results, Tryz.results339, go_sem, r0, r1, r2, r3, r4, r5, ndV]) rfl ?_
 exact lv75
theorem pSum_ok (hD : Deps wB nB gB nO) (hC : Cst wB) (D : Nat) (HAs : ∀ k, k ≤ D → PA e (Pp nB gB nO e k)) : CN e 338 (fun l => s_row (Pp nB gB nO e D) 1 l) := by
 intro X l w hP0 hne
 obtain ⟨R, hR⟩ : ∃ R, s_row (Pp nB gB nO e D) 1 l = R := ⟨_, rfl⟩
 simp only [hR] at hne ⊢
 have hmf : ∀ (fn : Fn) (first cap : Array Value) (w : World), (Instr.makeFunc fn first cap).run Tryz.prog w = .ok (.func fn first cap) w := fun _ _ _ _ => rfl
 have hne2 : (((fun k => (Pp nB gB nO e k).qrow 0) D l).bind fun n l => (fun k => (Pp nB gB nO e k).qrowL 1) D n l) ≠ .oof := by intro h; exact hne (hR.symm.trans h)
 have hR2 : (((fun k => (Pp nB gB nO e k).qrow 0) D l).bind fun n l => (fun k => (Pp nB gB nO e k).qrowL 1) D n l) = R := hR
 have hXl := hP0.lt
 have hk0 : Kp w.heap.size X w w := Kp.refl _ _ _
 have hz0 := hk0.size
 go_enter Tryz.func338, Tryz.ntmps338
 go_upto_region 1 with fail
 generalize hG : w.alloc zN = w1 at *
 obtain ⟨hb1, hxR_1, _⟩ := nb hG
 clear hG
 obtain ⟨hk1, _, _⟩ := kd hk0 hb1
 have hP1 := hP0.later hb1
 go_wp2_with fail
 generalize hG : w1.alloc (.cells #[.string ⟨#[43]⟩, .string ⟨#[45]⟩] 9) = w2 at *
 obtain ⟨hb2, hxg_2, _⟩ := nb hG
 clear hG
 obtain ⟨hk2, _, _⟩ := kd hk1 hb2
 have hP2 := hP1.later hb2
 have hxR_2 := kb hb2 hxR_1
 have hst : StAt w2 (some ⟨w1.heap.size, 0, none⟩) [⟨#[43]⟩, ⟨#[45]⟩] := stAt_of hxg_2 rfl
 have hLq : LeftEq e 49 [⟨#[43]⟩, ⟨#[45]⟩] (fun s l => isS e s l) (fun k => (Pp nB gB nO e k).qrow 0) (fun k => (Pp nB gB nO e k).qrowL 1) := ⟨fun n l => rfl, fun k n l => by show s_rowL e (Pp nB gB nO e k) 1 n l = _; unfold s_rowL; simp [opsOf]⟩
 have hokq : ∀ s l, s ∈ [⟨#[43]⟩, ⟨#[45]⟩] → sameB wB (hd e l) s = (fun s l => isS e s l) s l := by
  intro s l hs; simp only [List.mem_cons, List.not_mem_nil, or_false] at hs
  rcases hs with rfl | rfl
  ·exact sameS hC.s_2b e l
  ·exact sameS hC.s_2d e l
 go_at_call 241
 refine (leftB_ok hD 49 _ _ _ _ hLq hokq 339 D X l w2 (run_callP _ _ Tryz.func339 lq15 lq15 _) (fun k hk => (HAs k hk).pterm) ⟨by decide, by decide⟩ lq16 w1.heap.size 2 hst rfl lq16 lq17 lq17 hP2 hne2).mono ?_
 rw [hR2]
 clear hR2 hne2 hLq hokq hst
 rintro E w3 hE
 rcases hE with ⟨cc, aa, hv, rfl, hq⟩ | ⟨T1, l1, A1, c1, K1, d1, hv, rfl, hP3, hF1_3, hq⟩
 ·exact lv70
 have HV := Lh hv
 clear hv
 have hF1_3 := hF1_3.intoN (P := Nn) (lo := w.heap.size + 1) (x := X) lq17 lq17
 obtain ⟨hk3, _, _⟩ := kc hk2 hq
 have hxR_3 := kx hq hxR_2
 unfold ndV
 have HE := Lh (show _ ∧ _ ∧ _ from ⟨hk3, hP3, hF1_3⟩)
 obtain ⟨k0, k1, k2, k3, k4, k5⟩ := bx_cells hxR_3
 have z := Lib.frozen_of_heap hxR_3
 obtain ⟨r0, r1, r2, r3, r4, r5⟩ := bp hxR_3 (.int .i64 T1.kind) (.int .i64 T1.pos) (.string T1.text) (.bool T1.neg) (.slice A1 T1.mag.length c1) (.slice K1 T1.kids.length d1)
 clear hxR_3 hF1_3 hk3 hP3
 go_wp2_with fail
 refine bodyPost_ret (v := ndV T1 A1 c1 K1 d1) (by simp [results, Tryz.results338, go_sem, r0, r1, r2, r3, r4, r5, ndV]) rfl ?_
 exact lv75
theorem pBoth_ok (hD : Deps wB nB gB nO) (hC : Cst wB) (D : Nat) (HAs : ∀ k, k ≤ D → PA e (Pp nB gB nO e k)) : CN e 337 (fun l => s_row (Pp nB gB nO e D) 2 l) := by
 intro X l w hP0 hne
 obtain ⟨R, hR⟩ : ∃ R, s_row (Pp nB gB nO e D) 2 l = R := ⟨_, rfl⟩
 simp only [hR] at hne ⊢
 have hmf : ∀ (fn : Fn) (first cap : Array Value) (w : World), (Instr.makeFunc fn first cap).run Tryz.prog w = .ok (.func fn first cap) w := fun _ _ _ _ => rfl
 have hne2 : (((fun k => (Pp nB gB nO e k).qrow 1) D l).bind fun n l => (fun k => (Pp nB gB nO e k).qrowL 2) D n l) ≠ .oof := by intro h; exact hne (hR.symm.trans h)
 have hR2 : (((fun k => (Pp nB gB nO e k).qrow 1) D l).bind fun n l => (fun k => (Pp nB gB nO e k).qrowL 2) D n l) = R := hR
 have hXl := hP0.lt
 have hk0 : Kp w.heap.size X w w := Kp.refl _ _ _
 have hz0 := hk0.size
 go_enter Tryz.func337, Tryz.ntmps337
 go_upto_region 1 with fail
 generalize hG : w.alloc zN = w1 at *
 obtain ⟨hb1, hxR_1, _⟩ := nb hG
 clear hG
 obtain ⟨hk1, _, _⟩ := kd hk0 hb1
 have hP1 := hP0.later hb1
 go_wp2_with fail
 generalize hG : w1.alloc (.cells #[.string ⟨#[38]⟩] 9) = w2 at *
 obtain ⟨hb2, hxg_2, _⟩ := nb hG
 clear hG
 obtain ⟨hk2, _, _⟩ := kd hk1 hb2
 have hP2 := hP1.later hb2
 have hxR_2 := kb hb2 hxR_1
 have hst : StAt w2 (some ⟨w1.heap.size, 0, none⟩) [⟨#[38]⟩] := stAt_of hxg_2 rfl
 have hLq : LeftEq e 49 [⟨#[38]⟩] (fun s l => isS e s l) (fun k => (Pp nB gB nO e k).qrow 1) (fun k => (Pp nB gB nO e k).qrowL 2) := ⟨fun n l => rfl, fun k n l => by show s_rowL e (Pp nB gB nO e k) 2 n l = _; unfold s_rowL; simp [opsOf]⟩
 have hokq : ∀ s l, s ∈ [⟨#[38]⟩] → sameB wB (hd e l) s = (fun s l => isS e s l) s l := by
  intro s l hs; simp only [List.mem_cons, List.not_mem_nil, or_false] at hs
  rcases hs with rfl
  ·exact sameS hC.s_26 e l
 go_at_call 241
 refine (leftB_ok hD 49 _ _ _ _ hLq hokq 338 D X l w2 (run_callP _ _ Tryz.func338 lq15 lq15 _) (fun k hk => (HAs k hk).psum) ⟨by decide, by decide⟩ lq16 w1.heap.size 1 hst rfl lq16 lq17 lq17 hP2 hne2).mono ?_
 rw [hR2]
 clear hR2 hne2 hLq hokq hst
 rintro E w3 hE
 rcases hE with ⟨cc, aa, hv, rfl, hq⟩ | ⟨T1, l1, A1, c1, K1, d1, hv, rfl, hP3, hF1_3, hq⟩
 ·exact lv70
 have HV := Lh hv
 clear hv
 have hF1_3 := hF1_3.intoN (P := Nn) (lo := w.heap.size + 1) (x := X) lq17 lq17
 obtain ⟨hk3, _, _⟩ := kc hk2 hq
 have hxR_3 := kx hq hxR_2
 unfold ndV
 have HE := Lh (show _ ∧ _ ∧ _ from ⟨hk3, hP3, hF1_3⟩)
 obtain ⟨k0, k1, k2, k3, k4, k5⟩ := bx_cells hxR_3
 have z := Lib.frozen_of_heap hxR_3
 obtain ⟨r0, r1, r2, r3, r4, r5⟩ := bp hxR_3 (.int .i64 T1.kind) (.int .i64 T1.pos) (.string T1.text) (.bool T1.neg) (.slice A1 T1.mag.length c1) (.slice K1 T1.kids.length d1)
 clear hxR_3 hF1_3 hk3 hP3
 go_wp2_with fail
 refine bodyPost_ret (v := ndV T1 A1 c1 K1 d1) (by simp [results, Tryz.results337, go_sem, r0, r1, r2, r3, r4, r5, ndV]) rfl ?_
 exact lv75
theorem pXor_ok (hD : Deps wB nB gB nO) (hC : Cst wB) (D : Nat) (HAs : ∀ k, k ≤ D → PA e (Pp nB gB nO e k)) : CN e 334 (fun l => s_row (Pp nB gB nO e D) 3 l) := by
 intro X l w hP0 hne
 obtain ⟨R, hR⟩ : ∃ R, s_row (Pp nB gB nO e D) 3 l = R := ⟨_, rfl⟩
 simp only [hR] at hne ⊢
 have hmf : ∀ (fn : Fn) (first cap : Array Value) (w : World), (Instr.makeFunc fn first cap).run Tryz.prog w = .ok (.func fn first cap) w := fun _ _ _ _ => rfl
 have hne2 : (((fun k => (Pp nB gB nO e k).qrow 2) D l).bind fun n l => (fun k => (Pp nB gB nO e k).qrowL 3) D n l) ≠ .oof := by intro h; exact hne (hR.symm.trans h)
 have hR2 : (((fun k => (Pp nB gB nO e k).qrow 2) D l).bind fun n l => (fun k => (Pp nB gB nO e k).qrowL 3) D n l) = R := hR
 have hXl := hP0.lt
 have hk0 : Kp w.heap.size X w w := Kp.refl _ _ _
 have hz0 := hk0.size
 go_enter Tryz.func334, Tryz.ntmps334
 go_upto_region 1 with fail
 generalize hG : w.alloc zN = w1 at *
 obtain ⟨hb1, hxR_1, _⟩ := nb hG
 clear hG
 obtain ⟨hk1, _, _⟩ := kd hk0 hb1
 have hP1 := hP0.later hb1
 go_wp2_with fail
 generalize hG : w1.alloc (.cells #[.string ⟨#[94]⟩] 9) = w2 at *
 obtain ⟨hb2, hxg_2, _⟩ := nb hG
 clear hG
 obtain ⟨hk2, _, _⟩ := kd hk1 hb2
 have hP2 := hP1.later hb2
 have hxR_2 := kb hb2 hxR_1
 have hst : StAt w2 (some ⟨w1.heap.size, 0, none⟩) [⟨#[94]⟩] := stAt_of hxg_2 rfl
 have hLq : LeftEq e 49 [⟨#[94]⟩] (fun s l => isS e s l) (fun k => (Pp nB gB nO e k).qrow 2) (fun k => (Pp nB gB nO e k).qrowL 3) := ⟨fun n l => rfl, fun k n l => by show s_rowL e (Pp nB gB nO e k) 3 n l = _; unfold s_rowL; simp [opsOf]⟩
 have hokq : ∀ s l, s ∈ [⟨#[94]⟩] → sameB wB (hd e l) s = (fun s l => isS e s l) s l := by
  intro s l hs; simp only [List.mem_cons, List.not_mem_nil, or_false] at hs
  rcases hs with rfl
  ·exact sameS hC.s_5e e l
 go_at_call 241
 refine (leftB_ok hD 49 _ _ _ _ hLq hokq 337 D X l w2 (run_callP _ _ Tryz.func337 lq15 lq15 _) (fun k hk => (HAs k hk).pboth) ⟨by decide, by decide⟩ lq16 w1.heap.size 1 hst rfl lq16 lq17 lq17 hP2 hne2).mono ?_
 rw [hR2]
 clear hR2 hne2 hLq hokq hst
 rintro E w3 hE
 rcases hE with ⟨cc, aa, hv, rfl, hq⟩ | ⟨T1, l1, A1, c1, K1, d1, hv, rfl, hP3, hF1_3, hq⟩
 ·exact lv70
 have HV := Lh hv
 clear hv
 have hF1_3 := hF1_3.intoN (P := Nn) (lo := w.heap.size + 1) (x := X) lq17 lq17
 obtain ⟨hk3, _, _⟩ := kc hk2 hq
 have hxR_3 := kx hq hxR_2
 unfold ndV
 have HE := Lh (show _ ∧ _ ∧ _ from ⟨hk3, hP3, hF1_3⟩)
 obtain ⟨k0, k1, k2, k3, k4, k5⟩ := bx_cells hxR_3
 have z := Lib.frozen_of_heap hxR_3
 obtain ⟨r0, r1, r2, r3, r4, r5⟩ := bp hxR_3 (.int .i64 T1.kind) (.int .i64 T1.pos) (.string T1.text) (.bool T1.neg) (.slice A1 T1.mag.length c1) (.slice K1 T1.kids.length d1)
 clear hxR_3 hF1_3 hk3 hP3
 go_wp2_with fail
 refine bodyPost_ret (v := ndV T1 A1 c1 K1 d1) (by simp [results, Tryz.results334, go_sem, r0, r1, r2, r3, r4, r5, ndV]) rfl ?_
 exact lv75
theorem pBits_ok (hD : Deps wB nB gB nO) (hC : Cst wB) (D : Nat) (HAs : ∀ k, k ≤ D → PA e (Pp nB gB nO e k)) : CN e 328 (fun l => s_row (Pp nB gB nO e D) 4 l) := by
 intro X l w hP0 hne
 obtain ⟨R, hR⟩ : ∃ R, s_row (Pp nB gB nO e D) 4 l = R := ⟨_, rfl⟩
 simp only [hR] at hne ⊢
 have hmf : ∀ (fn : Fn) (first cap : Array Value) (w : World), (Instr.makeFunc fn first cap).run Tryz.prog w = .ok (.func fn first cap) w := fun _ _ _ _ => rfl
 have hne2 : (((fun k => (Pp nB gB nO e k).qrow 3) D l).bind fun n l => (fun k => (Pp nB gB nO e k).qrowL 4) D n l) ≠ .oof := by intro h; exact hne (hR.symm.trans h)
 have hR2 : (((fun k => (Pp nB gB nO e k).qrow 3) D l).bind fun n l => (fun k => (Pp nB gB nO e k).qrowL 4) D n l) = R := hR
 have hXl := hP0.lt
 have hk0 : Kp w.heap.size X w w := Kp.refl _ _ _
 have hz0 := hk0.size
 go_enter Tryz.func328, Tryz.ntmps328
 go_upto_region 1 with fail
 generalize hG : w.alloc zN = w1 at *
 obtain ⟨hb1, hxR_1, _⟩ := nb hG
 clear hG
 obtain ⟨hk1, _, _⟩ := kd hk0 hb1
 have hP1 := hP0.later hb1
 go_wp2_with fail
 generalize hG : w1.alloc (.cells #[.string ⟨#[124]⟩] 9) = w2 at *
 obtain ⟨hb2, hxg_2, _⟩ := nb hG
 clear hG
 obtain ⟨hk2, _, _⟩ := kd hk1 hb2
 have hP2 := hP1.later hb2
 have hxR_2 := kb hb2 hxR_1
 have hst : StAt w2 (some ⟨w1.heap.size, 0, none⟩) [⟨#[124]⟩] := stAt_of hxg_2 rfl
 have hLq : LeftEq e 49 [⟨#[124]⟩] (fun s l => isS e s l) (fun k => (Pp nB gB nO e k).qrow 3) (fun k => (Pp nB gB nO e k).qrowL 4) := ⟨fun n l => rfl, fun k n l => by show s_rowL e (Pp nB gB nO e k) 4 n l = _; unfold s_rowL; simp [opsOf]⟩
 have hokq : ∀ s l, s ∈ [⟨#[124]⟩] → sameB wB (hd e l) s = (fun s l => isS e s l) s l := by
  intro s l hs; simp only [List.mem_cons, List.not_mem_nil, or_false] at hs
  rcases hs with rfl
  ·exact sameS hC.s_7c e l
 go_at_call 241
 refine (leftB_ok hD 49 _ _ _ _ hLq hokq 334 D X l w2 (run_callP _ _ Tryz.func334 lq15 lq15 _) (fun k hk => (HAs k hk).pxor) ⟨by decide, by decide⟩ lq16 w1.heap.size 1 hst rfl lq16 lq17 lq17 hP2 hne2).mono ?_
 rw [hR2]
 clear hR2 hne2 hLq hokq hst
 rintro E w3 hE
 rcases hE with ⟨cc, aa, hv, rfl, hq⟩ | ⟨T1, l1, A1, c1, K1, d1, hv, rfl, hP3, hF1_3, hq⟩
 ·exact lv70
 have HV := Lh hv
 clear hv
 have hF1_3 := hF1_3.intoN (P := Nn) (lo := w.heap.size + 1) (x := X) lq17 lq17
 obtain ⟨hk3, _, _⟩ := kc hk2 hq
 have hxR_3 := kx hq hxR_2
 unfold ndV
 have HE := Lh (show _ ∧ _ ∧ _ from ⟨hk3, hP3, hF1_3⟩)
 obtain ⟨k0, k1, k2, k3, k4, k5⟩ := bx_cells hxR_3
 have z := Lib.frozen_of_heap hxR_3
 obtain ⟨r0, r1, r2, r3, r4, r5⟩ := bp hxR_3 (.int .i64 T1.kind) (.int .i64 T1.pos) (.string T1.text) (.bool T1.neg) (.slice A1 T1.mag.length c1) (.slice K1 T1.kids.length d1)
 clear hxR_3 hF1_3 hk3 hP3
 go_wp2_with fail
 refine bodyPost_ret (v := ndV T1 A1 c1 K1 d1) (by simp [results, Tryz.results328, go_sem, r0, r1, r2, r3, r4, r5, ndV]) rfl ?_
 exact lv75
end
end
end Go.Proofs.YtjndbcnmmnkilaaGreatDoor
