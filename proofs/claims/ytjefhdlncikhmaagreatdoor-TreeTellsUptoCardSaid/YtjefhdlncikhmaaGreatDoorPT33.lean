/- Joined by a program: Wr6g, Wr6, Frm0, FrmS1, FrmS2, FrmS3. -/
import Derived.Test.YtjefhdlncikhmaaGreatDoorPT29
import Derived.Test.YtjefhdlncikhmaaGreatDoorPT30
import Derived.Test.YtjefhdlncikhmaaGreatDoorPT31
import Derived.Test.YtjefhdlncikhmaaGreatDoorPT32
namespace Go.Proofs.YtjefhdlncikhmaaGreatDoor
set_option linter.unusedVariables false
set_option linter.unusedSimpArgs false
set_option maxRecDepth 1000000
set_option maxHeartbeats 16000000
section
open Go.RowKit
open List (length_append length_cons length_nil length_singleton)
theorem wl21 (D : Nat) (w0 : World) (X dep : Nat) (hdp : dep + (D + 1) ≤ 1000000) (hL : LOk D w0 X) (T : Nd) (hk : T.kind = 21) (hT : St T) (hD : T.depth ≤ D + 1) (hWt : T.weight ≤ 1000000) : FSays 47 w0 X dep (fun t => t.lin dep) T := by
 intro A c K d l0 w hN hBs hW hlen
 have hdm : dep ≤ 1000000 := by omega
 have hst := (st_at hk (tx := .non) (fm := .tri) rfl lq28 lq28 lq28).symm.trans hT
 have htr : tryL T.kids = true := (Bool.and_eq_true _ _ ▸ hst).2
 simp only [tryL, Bool.and_eq_true, decide_eq_true_eq] at htr
 obtain ⟨⟨h2, hbl⟩, hca⟩ := htr
 obtain ⟨t0, hg0⟩ : ∃ t0, T.kids[0]? = some t0 := ⟨_, gEo⟩
 rw [take_one hg0] at hbl
 have hb0 : Sh.block.ev Nd.right t0 = true := by simpa using hbl
 obtain ⟨b, off, A0, c0', K0, d0, hKe0, hC0, hN0⟩ := hN.kid hg0
 rw [Nat.zero_mul, Nat.add_zero] at hC0
 subst hKe0
 have hdd := wKM hD hWt t0 (mog hg0)
 have HF0 := Lh (wInner_ok D w0 X dep lq29 hL t0 (blk_of hb0) lq29 hdd.2)
 have HN0 := Lh hN0
 have HXA := Lh (fun (p : Nd) (hp : p ∈ T.kids.drop 1) => wExcept_ok D w0 X dep hdp hL p (catch_all _ hca p hp).1 (catch_all _ hca p hp).2 (by have := (wKM hD hWt p (List.mem_of_mem_drop hp)).1; omega) (wKM hD hWt p (List.mem_of_mem_drop hp)).2)
 have hkd := hN.parts.2.2.2.2.1
 have hgm : gy (T.kids.map Nd.lin) 0 (dep + 1) = t0.lin (dep + 1) := by
  unfold gy
  simp [List.getD, hg0]
 have i0 : (0 : Int) < (T.kids.length : Int) := by omega
 have i0' : 0 < T.kids.length := by omega
 have i1 : (1 : Int) ≤ (T.kids.length : Int) := by omega
 have i2 : (1 : Int) ≤ (d : Int) := by omega
 have i3 : (T.kids.length : Int) ≤ (d : Int) := by omega
 have i4 : ¬ d = 1 := by omega
 have hlen : l0.length + (T.lin dep).length ≤ 1000000000000 := hlen
 have hts : T.lin dep = padL dep ++ [116, 114, 121] ++ [58, 10] ++ t0.lin (dep + 1) ++ ((T.kids.drop 1).map Nd.lin).flatMap (fun y => y dep) := by rw [lin_eq]; simp [linOf, hk, hgm]
 rw [hts] at hlen
 have HTX := Lh hts
 have HLN := Lh hlen
 obtain ⟨z15, z16, z17, z18, z20⟩ := kz5 hk 15 16 17 18 20 rfl
 have z21 : (T.kind == 21) = true := by rw [hk]; rfl
 obtain ⟨hm1, hm2, hrm, hw32, hk1, hk2, hk64, ha64, hts', hKs⟩ := hN.parts
 have hk2' := hk2
 unfold maxLen at hm2 hk2 hts'
 obtain ⟨hk64a, hk64b⟩ := hk64
 obtain ⟨ha64a, ha64b⟩ := ha64
 have hB0 : w0.heap.size ≤ w.heap.size := hBs.size
 have hbX : X < w.heap.size := WrT.lt hW
 have hK0 : WK w0.heap.size X w (w.alloc (bx T.kind T A c (some ⟨b, off, none⟩) d)) := (WK.refl _ _ _).alloc hB0 _
 have hWb := hW.alloc (bx T.kind T A c (some ⟨b, off, none⟩) d)
 have hBb : Below w0.heap.size w0 (w.alloc (bx T.kind T A c (some ⟨b, off, none⟩) d)) := hBs.trans hK0.b
 have hbx := heap_alloc_new w (bx T.kind T A c (some ⟨b, off, none⟩) d)
 have hsg : (w.alloc (bx T.kind T A c (some ⟨b, off, none⟩) d)).heap.size = w.heap.size + 1 := by simp
 have HK := Lh hKs
 clear hKs hN hlen hT hD hWt hrm hw32 hk hts hst h2 hbl hca hg0 hb0 hN0 hdd hgm hL
 obtain ⟨c0, c1, c2, c3, c4, c5⟩ := (cells_box hbx).box
 have hlb := blt c0
 obtain ⟨n00, n01, n02, n03, n04, n05⟩ := hC0.later hBb
 have hlk0 := blt n00
 have hlX := WrT.lt hWb
 unfold ndV
 go_enter Tryz.func47, Tryz.ntmps47
 go_wp2_with fail
 have hWa := hWb.alloc (.cells #[.string { data := #[116, 114, 121] }] 9)
 have hKa := hK0.alloc (Nat.le_trans hB0 hK0.b.size) (.cells #[.string { data := #[116, 114, 121] }] 9)
 have hbxa := (Lib.alloc_old _ (.cells #[.string { data := #[116, 114, 121] }] 9) _ hlb).trans hbx
 have hlta : X < w.heap.size + 1 := lq17
 go_at_call 80
 refine (wHead_ok w0.heap.size X dep _ ([116, 114, 121]) [⟨#[116, 114, 121]⟩] 1 _ _ hWa rfl (.inr ⟨w.heap.size + 1, rfl, by omega, lq19⟩) rfl lq28 hdm lq6 (Nat.le_trans hB0 hKa.b.size)).mono ?_
 rintro e w_1 ⟨rfl, hW_1, hk_1⟩
 have hK_1 := hKa.trans hk_1
 have hbx := box_keep hk_1 hbxa hbX
 have hB_1 : Below w0.heap.size w0 w_1 := hBs.trans hK_1.b
 obtain ⟨c0, c1, c2, c3, c4, c5⟩ := (cells_box hbx).box
 have hlb := blt c0
 obtain ⟨n00, n01, n02, n03, n04, n05⟩ := hC0.later hB_1
 have hlk0 := blt n00
 have hlX := WrT.lt hW_1
 go_wp2_with fail
 have hI := HF0.out A0 c0' K0 d0 _ _ HN0.out hB_1 hW_1 lq8
 unfold ndV at hI
 go_at_call 82
 refine hI.mono ?_
 rintro e w_2 ⟨rfl, hW_2, hk_2⟩
 have hK_2 := hK_1.trans hk_2
 have hbx := box_keep hk_2 hbx hbX
 clear hI
 have hB_2 : Below w0.heap.size w0 w_2 := hBs.trans hK_2.b
 obtain ⟨c0, c1, c2, c3, c4, c5⟩ := (cells_box hbx).box
 have hlb := blt c0
 obtain ⟨n00, n01, n02, n03, n04, n05⟩ := hC0.later hB_2
 have hlk0 := blt n00
 have hlX := WrT.lt hW_2
 have HW7 := Lh hW_2
 have HK7 := Lh hK_2
 go_wp2_with fail
 go_loopw [153] (fun iv wr => ∃ k : Nat, iv = .int .i64 k ∧ k ≤ T.kids.length - 1 ∧ Hid (WrT w0.heap.size X dep (l0 ++ padL dep ++ [116, 114, 121] ++ [58, 10] ++ t0.lin (dep + 1) ++ (((T.kids.drop 1).take k).map Nd.lin).flatMap (fun y => y dep)) wr) ∧ Hid (WK w0.heap.size X w wr)) (fun iv _ => T.kids.length - 1 - (intOf iv).toNat)
 case atStart => exact ⟨0, rfl, Nat.zero_le _, Lh (HW7.out.eq lq30), HK7⟩
 case round =>
  obtain ⟨k, rfl, hk, hR, hbr⟩ := hrel
  by_cases hkl : k < T.kids.length - 1
  ·have u1 : decide ((k : Int) < ((T.kids.length - 1 : Nat) : Int)) = true := dTo; have u2 : decide (k < T.kids.length - 1) = true := dTr hkl; have u3 : decide ((k : Int) < (T.kids.length : Int) - 1) = true := dTo; obtain ⟨t, ht⟩ : ∃ t, T.kids[k + 1]? = some t := ⟨_, gEo⟩; obtain ⟨b2, off2, A', c', K', d', hKe, hC, hNt⟩ := HK.out.kid ht; injection hKe with hKe
   injection hKe with e1 e2
   subst e1 e2; rw [Nat.zero_add, show off + (k + 1) * 6 = off + 6 + k * 6 by omega] at hC; have hbw : Below w0.heap.size w0 wr := hBs.trans hbr.out.b; obtain ⟨m0, m1, m2, m3, m4, m5⟩ := hC.later hbw; have hbn := blt m0; have hXw : X < wr.heap.size := hR.out.lt; have htd : (T.kids.drop 1)[k]? = some t := by rw [List.getElem?_drop, show 1 + k = k + 1 by omega]; exact ht
   have hst := flat_lin_take htd dep; have hle := flat_lin_le (T.kids.drop 1) (k + 1) dep; have hbt := (Below.refl wr.heap.size wr).alloc (Nat.le_refl _) (.cells #[.int .i64 t.kind, .int .i64 t.pos, .string t.text, .bool t.neg, .slice A' t.mag.length c', .slice K' t.kids.length d'] 27); have hkt : WK w0.heap.size X wr (wr.alloc (.cells #[.int .i64 t.kind, .int .i64 t.pos, .string t.text, .bool t.neg, .slice A' t.mag.length c', .slice K' t.kids.length d'] 27)) := (WK.refl _ _ _).alloc hbw.size _
   have hRt := hR.out.alloc (.cells #[.int .i64 t.kind, .int .i64 t.pos, .string t.text, .bool t.neg, .slice A' t.mag.length c', .slice K' t.kids.length d'] 27); obtain ⟨z0, z1, z2, z3, z4, z5⟩ := (cells_box (heap_alloc_new wr (.cells #[.int .i64 t.kind, .int .i64 t.pos, .string t.text, .bool t.neg, .slice A' t.mag.length c', .slice K' t.kids.length d'] 27))).box
   have hI := HXA.out t (mog htd) A' c' K' d' _ _ hNt (hbw.trans (hbt.mono hbw.size)) hRt (by have h := HLN.out; rw [hst, length_append] at hle; show _ + (t.lin dep).length ≤ _; (try simp only [length_append, length_cons, length_nil] at h); (try simp only [length_append, length_cons, length_nil]); omega); unfold ndV at hI; have HST := Lh hst; have HKT := Lh hkt; clear hC hNt ht hst hle hbt hkt hRt hbw htd; go_wp2_with fail
   go_at_call 87
   refine hI.mono ?_
   rintro e w3 ⟨rfl, hw3, hk3⟩; clear hI; go_wp2_with fail
   go_roundw
   case rel => exact ⟨k + 1, by go_num, by omega, Lh (hw3.eq (by rw [HST.out, ← List.append_assoc])), Lh (hbr.out.trans (HKT.out.trans hk3))⟩
   case measure => simp [intOf]; omega
  ·have u1 : decide ((k : Int) < ((T.kids.length - 1 : Nat) : Int)) = false := dFo; have u2 : decide (k < T.kids.length - 1) = false := dFa hkl; have u3 : decide ((k : Int) < (T.kids.length : Int) - 1) = false := dFo; have hR2 := hR.out; rw [List.take_of_length_le lq20] at hR2; have HR2 := Lh hR2; clear hR2; go_wp2_with fail
   ((try simp only [Exit.inBlock, Exit.then]); first | refine bodyPost_end (results_none rfl _ _ _) rfl ?_ | refine bodyPost_ret (results_none rfl _ _ _) rfl ?_)
   exact ⟨rfl, HR2.out.eq (by show _ = l0 ++ T.lin dep; rw [HTX.out]; simp only [List.append_assoc]), hbr.out⟩
theorem wSimple_ok (D : Nat) (w0 : World) (X dep : Nat) (hdp : dep + (D + 1) ≤ 1000000) (T : Nd) (hT : St T) (hk : 3 ≤ T.kind ∧ T.kind ≤ 14) (hD : T.depth ≤ D + 1) (hWt : T.weight ≤ 1000000) : FSays 88 w0 X dep simpL T := by
 have : T.kind = 3 ∨ T.kind = 4 ∨ T.kind = 5 ∨ T.kind = 6 ∨ T.kind = 7 ∨ T.kind = 8 ∨ T.kind = 9 ∨ T.kind = 10 ∨ T.kind = 11 ∨ T.kind = 12 ∨ T.kind = 13 ∨ T.kind = 14 := by omega
 rcases this with hk | hk | hk | hk | hk | hk | hk | hk | hk | hk | hk | hk
 ·exact ws3 D w0 X dep hdp T hk hT hD hWt
 ·exact ws4 D w0 X dep hdp T hk hT hD hWt
 ·exact ws5 D w0 X dep hdp T hk hT hD hWt
 ·exact ws6 D w0 X dep hdp T hk hT hD hWt
 ·exact ws7 D w0 X dep hdp T hk hT hD hWt
 ·exact ws8 D w0 X dep hdp T hk hT hD hWt
 ·exact ws9 D w0 X dep hdp T hk hT hD hWt
 ·exact ws10 D w0 X dep hdp T hk hT hD hWt
 ·exact ws11 D w0 X dep hdp T hk hT hD hWt
 ·exact ws12 D w0 X dep hdp T hk hT hD hWt
 ·exact ws13 D w0 X dep hdp T hk hT hD hWt
 ·exact ws14 D w0 X dep hdp T hk hT hD hWt
theorem wLine_step (D : Nat) (w0 : World) (X : Nat) (hL : LOk D w0 X) : LOk (D + 1) w0 X := by
 intro dep hdp T hT hD hWt
 have hr : 3 ≤ T.kind ∧ T.kind ≤ 21 ∧ ¬ T.kind = 19 := by
  simp only [St, Sh.ev, Bool.and_eq_true, decide_eq_true_eq, Bool.not_eq_true', beq_eq_false_iff_ne, ne_eq] at hT; exact ⟨hT.1.1.1, hT.1.1.2, hT.1.2⟩
 by_cases hs : T.kind ≤ 14
 ·exact wl_simple D w0 X dep hdp T (wSimple_ok D w0 X dep hdp T hT ⟨hr.1, hs⟩ hD hWt) ⟨hr.1, hs⟩
 by_cases h15 : T.kind = 15
 ·by_cases hq : ∀ t, T.kids[2]? = some t → t.kind = 0
  ·exact wl15z D w0 X dep hdp hL T h15 hT hq hD hWt
  ·refine wl15b D w0 X dep hdp hL T h15 hT (fun t ht h0 => hq (fun t' ht' => ?_)) hD hWt
   rw [ht] at ht'; injection ht' with e; rw [← e]; exact h0
 by_cases h16 : T.kind = 16
 ·exact wl16 D w0 X dep hdp hL T h16 hT hD hWt
 by_cases h17 : T.kind = 17
 ·exact wl17 D w0 X dep hdp hL T h17 hT hD hWt
 by_cases h18 : T.kind = 18
 ·exact wl18 D w0 X dep hdp hL T h18 hT hD hWt
 by_cases h20 : T.kind = 20
 ·by_cases hq : ∀ t, T.kids[0]? = some t → t.kind = 0
  ·exact wl20z D w0 X dep hdp hL T h20 hT hq hD hWt
  ·refine wl20e D w0 X dep hdp hL T h20 hT (fun t ht h0 => hq (fun t' ht' => ?_)) hD hWt
   rw [ht] at ht'; injection ht' with e; rw [← e]; exact h0
 exact wl21 D w0 X dep hdp hL T lq29 hT hD hWt
theorem wLine_ok (w0 : World) (X : Nat) : ∀ D, LOk D w0 X := by
 intro D
 induction D with
 | zero => intro dep _ T _ hD; rw [T.depth_eq] at hD; omega
 | succ D ih => exact wLine_step D w0 X ih
structure Up (w0 : World) (P : Nat) (w W : World) : Prop where
 b0 : Below w0.heap.size w0 w
 p0 : w0.heap.size ≤ P
 p1 : P ≤ w.heap.size
 b : Below w.heap.size w W
 s : w.heap.size + 1 ≤ W.heap.size
 c0 : W.cell? ⟨w.heap.size, 0, none⟩ = some .nilFunc
 c1 : W.cell? ⟨w.heap.size, 1, none⟩ = some .nilFunc
 f0 : W.frozen? ⟨w.heap.size, 0, none⟩ = false
 f1 : W.frozen? ⟨w.heap.size, 1, none⟩ = false
section
variable {w0 w W W' : World} {P : Nat}
theorem Up.call (h : Up w0 P w W) (hb : Below W.heap.size W W') : Up w0 P w W' :=
 have hl : w.heap.size < W.heap.size := h.s
 ⟨h.b0, h.p0, h.p1, h.b.trans (hb.mono h.b.size), Nat.le_trans h.s hb.size, cLt hb h.c0, cLt hb h.c1, (hb.frozen (p := ⟨w.heap.size, 0, none⟩) hl).trans h.f0, (hb.frozen (p := ⟨w.heap.size, 1, none⟩) hl).trans h.f1⟩
theorem Up.alloc (h : Up w0 P w W) (o : Obj) : Up w0 P w (W.alloc o) := h.call ((Below.refl _ _).alloc (Nat.le_refl _) o)
theorem Up.start (h0 : Below w0.heap.size w0 w) (hp0 : w0.heap.size ≤ P) (hp1 : P ≤ w.heap.size) : Up w0 P w (w.alloc (.cells #[.nilFunc, .nilFunc] 71)) :=
 have h := heap_alloc_new w (.cells #[.nilFunc, .nilFunc] 71)
 ⟨h0, hp0, hp1, (Below.refl _ _).alloc (Nat.le_refl _) _, by simp, cell_of_row _ _ 0 _ _ _ h, cell_of_row _ _ 1 _ _ _ h, Lib.frozen_of_heap h 0, Lib.frozen_of_heap h 1⟩
theorem Up.q (h : Up w0 P w W) : ∀ k, (k = w.heap.size ∨ k = P) → k < W.heap.size := fun k hk => by have := h.s; have := h.p1; omega
theorem Up.tabs (h : Up w0 P w W) (hT : Lib.Utf8Tabs 0 1 w0) : TabsQ (fun k => k = w.heap.size ∨ k = P) W := tabsQ_of hT (h.b0.trans (h.b.mono h.b0.size)) (fun k hk => by have := h.p0; have := h.b0.size; omega)
theorem Up.lt (h : Up w0 P w W) : w.heap.size < W.heap.size := h.s
end
def FormR (D : Nat) (tx : Tx) (fm : Fm) (P : Nat) (w : World) (e : Ending) (w' : World) : Prop :=
 ∃ (f1 : FuncId) (c1 : Array Value) (f2 : FuncId) (c2 : Array Value), e = .returned (.agg #[.func (.func f1) #[] c1, .func (.func f2) #[] c2]) ∧ w.heap.size < w'.heap.size ∧ TextOkQ (fun k => k = w.heap.size ∨ k = P) w' (.func (.func f1) #[] c1) tx.ev ∧ ShapeOkQ (fun k => k = w.heap.size ∨ k = P) (D + 1) w' (.func (.func f2) #[] c2) (fm.ev Nd.right) ∧ Below w.heap.size w w'
def FormS (D : Nat) (tx : Tx) (fm : Fm) (w : World) (e : Ending) (w' : World) : Prop :=
 ∃ (Q : Nat → Prop) (f1 : FuncId) (c1 : Array Value) (f2 : FuncId) (c2 : Array Value), e = .returned (.agg #[.func (.func f1) #[] c1, .func (.func f2) #[] c2]) ∧ (∀ k, Q k → w.heap.size ≤ k ∧ k < w'.heap.size) ∧ TextOkQ Q w' (.func (.func f1) #[] c1) tx.ev ∧ ShapeOkQ Q (D + 1) w' (.func (.func f2) #[] c2) (fm.ev Nd.right) ∧ Below w.heap.size w w'
theorem FormR.put {D : Nat} {tx : Tx} {fm : Fm} {w0 w W : World} {P : Nat} {f1 f2 : FuncId} {c1 c2 : Array Value} (hU : Up w0 P w W) (h1 : TextOkQ (fun k => k = w.heap.size ∨ k = P) W (.func (.func f1) #[] c1) tx.ev) (h2 : ShapeOkQ (fun k => k = w.heap.size ∨ k = P) (D + 1) W (.func (.func f2) #[] c2) (fm.ev Nd.right)) :
  FormR D tx fm P w (.returned (.agg #[.func (.func f1) #[] c1, .func (.func f2) #[] c2])) ((W.setCell ⟨w.heap.size, 0, none⟩ (.func (.func f1) #[] c1)).setCell ⟨w.heap.size, 1, none⟩ (.func (.func f2) #[] c2)) :=
 ⟨f1, c1, f2, c2, rfl, by have := hU.s; simp; omega, (h1.set (.inl rfl) _).set (.inl rfl) _, (h2.set (.inl rfl) _).set (.inl rfl) _, (hU.b.setCell (p := ⟨w.heap.size, 0, none⟩) (Nat.le_refl _) _).setCell (p := ⟨w.heap.size, 1, none⟩) (Nat.le_refl _) _⟩
theorem FormR.toS {D : Nat} {tx : Tx} {fm : Fm} {w : World} {e : Ending} {w' : World} (h : FormR D tx fm w.heap.size w e w') : FormS D tx fm w e w' := by
 obtain ⟨f1, c1, f2, c2, he, hs, h1, h2, hb⟩ := h
 exact ⟨_, f1, c1, f2, c2, he, fun k hk => by omega, h1, h2, hb⟩
section
variable (D : Nat) (hRi : RightOk D) (w0 w : World) (P : Nat) (hT : Lib.Utf8Tabs 0 1 w0) (h0 : Below w0.heap.size w0 w) (hp0 : w0.heap.size ≤ P) (hp1 : P ≤ w.heap.size)
include D hRi w0 w P hT h0 hp0 hp1
theorem fm1 :
  Calls Tryz.prog 44 #[.int .i64 1] w (FormR D .non (.row [(.of 2)]) P w) := by
 have _ := w0
 have hU := Up.start h0 hp0 hp1
 go_enter Tryz.func44, Tryz.ntmps44
 go_wp2_with fail
 go_at_call 61
 refine (textQ_ok (w := w) (Q := (fun k => k = w.heap.size ∨ k = P)) (fun k hk => by have := hU.p1; omega) signsL 8 _ _ rfl lq28 lq28 rfl).mono ?_
 rintro e w0t ⟨⟨vt, rfl, hvt⟩, hbt⟩
 have hU := (hU.alloc _).call hbt
 obtain ⟨gt, cpt, hve, _⟩ := id hvt
 subst hve
 go_wp2_with fail
 go_at_call 64
 refine (ofQ_ok (D := D) hRi hU.q (hU.tabs hT) 2).mono ?_
 rintro e w1 ⟨⟨v1, rfl, hv1⟩, hb1⟩
 have hvt := hvt.later hb1
 have hU := hU.call hb1
 obtain ⟨g1, cp1, hve, _⟩ := id hv1
 subst hve
 go_wp2_with fail
 have hS := shapesQ_one hU.q hv1 69
 try rw [show (w.alloc (.cells #[.nilFunc, .nilFunc] 71)).heap.size = w.heap.size + 1 by simp] at hS
 have hvt := hvt.later ((Below.refl _ _).alloc (Nat.le_refl _) (.cells #[.func (.func g1) #[] cp1] 69))
 have hv1 := hv1.later ((Below.refl _ _).alloc (Nat.le_refl _) (.cells #[.func (.func g1) #[] cp1] 69))
 have hU := hU.alloc (.cells #[.func (.func g1) #[] cp1] 69)
 go_at_call 63
 refine (kidsQ_ok (D := D) hU.q [Sh.ev Nd.right (.of 2)] 1 _ rfl hS lq24).mono ?_
 exact lv134
theorem fm2 :
  Calls Tryz.prog 44 #[.int .i64 2] w (FormR D .non (.some 0 .stmt) P w) := by
 have _ := w0
 have hU := Up.start h0 hp0 hp1
 go_enter Tryz.func44, Tryz.ntmps44
 go_wp2_with fail
 go_at_call 61
 refine (textQ_ok (w := w) (Q := (fun k => k = w.heap.size ∨ k = P)) (fun k hk => by have := hU.p1; omega) signsL 8 _ _ rfl lq28 lq28 rfl).mono ?_
 rintro e w0t ⟨⟨vt, rfl, hvt⟩, hbt⟩
 have hU := (hU.alloc _).call hbt
 obtain ⟨gt, cpt, hve, _⟩ := id hvt
 subst hve
 go_wp2_with fail
 go_at_call 65
 refine (someQ_ok (D := D) hU.q _ _ 0 (qStmt hRi (hU.tabs hT)) lq28).mono ?_
 exact lv138
theorem fm3 :
  Calls Tryz.prog 44 #[.int .i64 3] w (FormR D .non (.row [.expr]) P w) := by
 have _ := w0
 have hU := Up.start h0 hp0 hp1
 go_enter Tryz.func44, Tryz.ntmps44
 go_wp2_with fail
 go_at_call 61
 refine (textQ_ok (w := w) (Q := (fun k => k = w.heap.size ∨ k = P)) (fun k hk => by have := hU.p1; omega) signsL 8 _ _ rfl lq28 lq28 rfl).mono ?_
 rintro e w0t ⟨⟨vt, rfl, hvt⟩, hbt⟩
 have hU := (hU.alloc _).call hbt
 obtain ⟨gt, cpt, hve, _⟩ := id hvt
 subst hve
 go_wp2_with fail
 have hS := shapesQ_one hU.q (qExpr hRi (hU.tabs hT)) 69
 try rw [show (w.alloc (.cells #[.nilFunc, .nilFunc] 71)).heap.size = w.heap.size + 1 by simp] at hS
 have hvt := hvt.later ((Below.refl _ _).alloc (Nat.le_refl _) (.cells #[.func (.func 67) #[] #[]] 69))
 have hU := hU.alloc (.cells #[.func (.func 67) #[] #[]] 69)
 go_at_call 63
 refine (kidsQ_ok (D := D) hU.q [Sh.ev Nd.right .expr] 1 _ rfl hS lq24).mono ?_
 exact lv138
theorem fm4 :
  Calls Tryz.prog 44 #[.int .i64 4] w (FormR D .non (.row [.target, .expr]) P w) := by
 have _ := w0
 have hU := Up.start h0 hp0 hp1
 go_enter Tryz.func44, Tryz.ntmps44
 go_wp2_with fail
 go_at_call 61
 refine (textQ_ok (w := w) (Q := (fun k => k = w.heap.size ∨ k = P)) (fun k hk => by have := hU.p1; omega) signsL 8 _ _ rfl lq28 lq28 rfl).mono ?_
 rintro e w0t ⟨⟨vt, rfl, hvt⟩, hbt⟩
 have hU := (hU.alloc _).call hbt
 obtain ⟨gt, cpt, hve, _⟩ := id hvt
 subst hve
 go_wp2_with fail
 have hS := shapesQ_two hU.q (qTarget hRi (hU.tabs hT)) (qExpr hRi (hU.tabs hT)) 69
 try rw [show (w.alloc (.cells #[.nilFunc, .nilFunc] 71)).heap.size = w.heap.size + 1 by simp] at hS
 have hvt := hvt.later ((Below.refl _ _).alloc (Nat.le_refl _) (.cells #[.func (.func 68) #[] #[], .func (.func 67) #[] #[]] 69))
 have hU := hU.alloc (.cells #[.func (.func 68) #[] #[], .func (.func 67) #[] #[]] 69)
 go_at_call 63
 refine (kidsQ_ok (D := D) hU.q [Sh.ev Nd.right .target, Sh.ev Nd.right .expr] 2 _ rfl hS lq24).mono ?_
 exact lv138
theorem fm5 :
  Calls Tryz.prog 44 #[.int .i64 5] w (FormR D .non (.row [(.of 23), .expr]) P w) := by
 have _ := w0
 have hU := Up.start h0 hp0 hp1
 go_enter Tryz.func44, Tryz.ntmps44
 go_wp2_with fail
 go_at_call 61
 refine (textQ_ok (w := w) (Q := (fun k => k = w.heap.size ∨ k = P)) (fun k hk => by have := hU.p1; omega) signsL 8 _ _ rfl lq28 lq28 rfl).mono ?_
 rintro e w0t ⟨⟨vt, rfl, hvt⟩, hbt⟩
 have hU := (hU.alloc _).call hbt
 obtain ⟨gt, cpt, hve, _⟩ := id hvt
 subst hve
 go_wp2_with fail
 go_at_call 64
 refine (ofQ_ok (D := D) hRi hU.q (hU.tabs hT) 23).mono ?_
 rintro e w1 ⟨⟨v1, rfl, hv1⟩, hb1⟩
 have hvt := hvt.later hb1
 have hU := hU.call hb1
 obtain ⟨g1, cp1, hve, _⟩ := id hv1
 subst hve
 go_wp2_with fail
 have hS := shapesQ_two hU.q hv1 (qExpr hRi (hU.tabs hT)) 69
 try rw [show (w.alloc (.cells #[.nilFunc, .nilFunc] 71)).heap.size = w.heap.size + 1 by simp] at hS
 have hvt := hvt.later ((Below.refl _ _).alloc (Nat.le_refl _) (.cells #[.func (.func g1) #[] cp1, .func (.func 67) #[] #[]] 69))
 have hv1 := hv1.later ((Below.refl _ _).alloc (Nat.le_refl _) (.cells #[.func (.func g1) #[] cp1, .func (.func 67) #[] #[]] 69))
 have hU := hU.alloc (.cells #[.func (.func g1) #[] cp1, .func (.func 67) #[] #[]] 69)
 go_at_call 63
 refine (kidsQ_ok (D := D) hU.q [Sh.ev Nd.right (.of 23), Sh.ev Nd.right .expr] 2 _ rfl hS lq24).mono ?_
 exact lv134
theorem fm6 :
  Calls Tryz.prog 44 #[.int .i64 6] w (FormR D (.words signsL) (.row [.target, .expr]) P w) := by
 have _ := w0
 have hU := Up.start h0 hp0 hp1
 go_enter Tryz.func44, Tryz.ntmps44
 go_wp2_with fail
 go_at_call 61
 refine (textQ_ok (w := w) (Q := (fun k => k = w.heap.size ∨ k = P)) (fun k hk => by have := hU.p1; omega) signsL 8 _ _ rfl lq28 lq28 rfl).mono ?_
 rintro e w0t ⟨⟨vt, rfl, hvt⟩, hbt⟩
 have hU := (hU.alloc _).call hbt
 obtain ⟨gt, cpt, hve, _⟩ := id hvt
 subst hve
 go_wp2_with fail
 have hS := shapesQ_two hU.q (qTarget hRi (hU.tabs hT)) (qExpr hRi (hU.tabs hT)) 69
 try rw [show (w.alloc (.cells #[.nilFunc, .nilFunc] 71)).heap.size = w.heap.size + 1 by simp] at hS
 have hvt := hvt.later ((Below.refl _ _).alloc (Nat.le_refl _) (.cells #[.func (.func 68) #[] #[], .func (.func 67) #[] #[]] 69))
 have hU := hU.alloc (.cells #[.func (.func 68) #[] #[], .func (.func 67) #[] #[]] 69)
 go_at_call 63
 refine (kidsQ_ok (D := D) hU.q [Sh.ev Nd.right .target, Sh.ev Nd.right .expr] 2 _ rfl hS lq24).mono ?_
 rintro e w1 ⟨⟨v1, rfl, hv1⟩, hb1⟩
 have hvt := hvt.later hb1
 have hU := hU.call hb1
 obtain ⟨g1, cp1, hve, _⟩ := id hv1
 subst hve
 obtain ⟨_, _, _, _, hsz, r0, r1, z0, z1⟩ := id hU
 go_wp2
 exact bodyPost_ret (v := .agg #[.func (.func gt) #[] cpt, .func (.func g1) #[] cp1]) lq15 rfl (FormR.put hU hvt hv1)
end

section
variable (D : Nat) (hRi : RightOk D) (w0 w : World) (P : Nat) (hT : Lib.Utf8Tabs 0 1 w0) (h0 : Below w0.heap.size w0 w) (hp0 : w0.heap.size ≤ P) (hp1 : P ≤ w.heap.size)
include D hRi w0 w P hT h0 hp0 hp1
theorem fm7 :
  Calls Tryz.prog 44 #[.int .i64 7] w (FormR D .non (.row [.target]) P w) := by
 have _ := w0
 have hU := Up.start h0 hp0 hp1
 go_enter Tryz.func44, Tryz.ntmps44
 go_wp2_with fail
 go_at_call 61
 refine (textQ_ok (w := w) (Q := (fun k => k = w.heap.size ∨ k = P)) (fun k hk => by have := hU.p1; omega) signsL 8 _ _ rfl lq28 lq28 rfl).mono ?_
 rintro e w0t ⟨⟨vt, rfl, hvt⟩, hbt⟩
 have hU := (hU.alloc _).call hbt
 obtain ⟨gt, cpt, hve, _⟩ := id hvt
 subst hve
 go_wp2_with fail
 have hS := shapesQ_one hU.q (qTarget hRi (hU.tabs hT)) 69
 try rw [show (w.alloc (.cells #[.nilFunc, .nilFunc] 71)).heap.size = w.heap.size + 1 by simp] at hS
 have hvt := hvt.later ((Below.refl _ _).alloc (Nat.le_refl _) (.cells #[.func (.func 68) #[] #[]] 69))
 have hU := hU.alloc (.cells #[.func (.func 68) #[] #[]] 69)
 go_at_call 63
 refine (kidsQ_ok (D := D) hU.q [Sh.ev Nd.right .target] 1 _ rfl hS lq24).mono ?_
 exact lv138
theorem fm8 :
  Calls Tryz.prog 44 #[.int .i64 8] w (FormR D .non (.row []) P w) := by
 have _ := h0
 have _ := hp0
 have _ := hp1
 have _ := hRi
 have _ := w0
 have _ := hT
 exact lv90
theorem fm9 :
  Calls Tryz.prog 44 #[.int .i64 9] w (FormR D .non (.row []) P w) := by
 have _ := h0
 have _ := hp0
 have _ := hp1
 have _ := hRi
 have _ := w0
 have _ := hT
 exact lv90
theorem fm10 :
  Calls Tryz.prog 44 #[.int .i64 10] w (FormR D .non (.row []) P w) := by
 have _ := h0
 have _ := hp0
 have _ := hp1
 have _ := hRi
 have _ := w0
 have _ := hT
 exact lv90
theorem fm11 :
  Calls Tryz.prog 44 #[.int .i64 11] w (FormR D .non (.row [(.or2 .none .expr)]) P w) := by
 have _ := w0
 have hU := Up.start h0 hp0 hp1
 go_enter Tryz.func44, Tryz.ntmps44
 go_wp2_with fail
 go_at_call 61
 refine (textQ_ok (w := w) (Q := (fun k => k = w.heap.size ∨ k = P)) (fun k hk => by have := hU.p1; omega) signsL 8 _ _ rfl lq28 lq28 rfl).mono ?_
 rintro e w0t ⟨⟨vt, rfl, hvt⟩, hbt⟩
 have hU := (hU.alloc _).call hbt
 obtain ⟨gt, cpt, hve, _⟩ := id hvt
 subst hve
 go_wp2_with fail
 have hS := shapesQ_two hU.q qNone (qExpr hRi (hU.tabs hT)) 69
 try rw [show (w.alloc (.cells #[.nilFunc, .nilFunc] 71)).heap.size = w.heap.size + 1 by simp] at hS
 have hvt := hvt.later ((Below.refl _ _).alloc (Nat.le_refl _) (.cells #[.func (.func 70) #[] #[], .func (.func 67) #[] #[]] 69))
 have hU := hU.alloc (.cells #[.func (.func 70) #[] #[], .func (.func 67) #[] #[]] 69)
 go_at_call 69
 refine (or2Q_ok (D := D) hU.q .none .expr _ hS).mono ?_
 rintro e w1 ⟨⟨v1, rfl, hv1⟩, hb1⟩
 have hvt := hvt.later hb1
 have hU := hU.call hb1
 obtain ⟨g1, cp1, hve, _⟩ := id hv1
 subst hve
 go_wp2_with fail
 have hS := shapesQ_one hU.q hv1 69
 try rw [show (w.alloc (.cells #[.nilFunc, .nilFunc] 71)).heap.size = w.heap.size + 1 by simp] at hS
 exact lv95
theorem fm12 :
  Calls Tryz.prog 44 #[.int .i64 12] w (FormR D .non (.row [(.or2 .none .expr)]) P w) := by
 have _ := w0
 have hU := Up.start h0 hp0 hp1
 go_enter Tryz.func44, Tryz.ntmps44
 go_wp2_with fail
 go_at_call 61
 refine (textQ_ok (w := w) (Q := (fun k => k = w.heap.size ∨ k = P)) (fun k hk => by have := hU.p1; omega) signsL 8 _ _ rfl lq28 lq28 rfl).mono ?_
 rintro e w0t ⟨⟨vt, rfl, hvt⟩, hbt⟩
 have hU := (hU.alloc _).call hbt
 obtain ⟨gt, cpt, hve, _⟩ := id hvt
 subst hve
 go_wp2_with fail
 have hS := shapesQ_two hU.q qNone (qExpr hRi (hU.tabs hT)) 69
 try rw [show (w.alloc (.cells #[.nilFunc, .nilFunc] 71)).heap.size = w.heap.size + 1 by simp] at hS
 have hvt := hvt.later ((Below.refl _ _).alloc (Nat.le_refl _) (.cells #[.func (.func 70) #[] #[], .func (.func 67) #[] #[]] 69))
 have hU := hU.alloc (.cells #[.func (.func 70) #[] #[], .func (.func 67) #[] #[]] 69)
 go_at_call 69
 refine (or2Q_ok (D := D) hU.q .none .expr _ hS).mono ?_
 rintro e w1 ⟨⟨v1, rfl, hv1⟩, hb1⟩
 have hvt := hvt.later hb1
 have hU := hU.call hb1
 obtain ⟨g1, cp1, hve, _⟩ := id hv1
 subst hve
 go_wp2_with fail
 have hS := shapesQ_one hU.q hv1 69
 try rw [show (w.alloc (.cells #[.nilFunc, .nilFunc] 71)).heap.size = w.heap.size + 1 by simp] at hS
 exact lv95
end

section
variable (D : Nat) (hRi : RightOk D) (w0 w : World) (P : Nat) (hT : Lib.Utf8Tabs 0 1 w0) (h0 : Below w0.heap.size w0 w) (hp0 : w0.heap.size ≤ P) (hp1 : P ≤ w.heap.size)
include D hRi w0 w P hT h0 hp0 hp1
theorem fm13 :
  Calls Tryz.prog 44 #[.int .i64 13] w (FormR D .non (.some 1 (.of 31)) P w) := by
 have _ := hRi
 have _ := hT
 have _ := h0
 have _ := hp0
 have _ := hp1
 have _ := w0
 exact lv66
theorem fm14 :
  Calls Tryz.prog 44 #[.int .i64 14] w (FormR D .non (.some 1 (.of 31)) P w) := by
 have _ := hRi
 have _ := hT
 have _ := h0
 have _ := hp0
 have _ := hp1
 have _ := w0
 exact lv66
theorem fm15 :
  Calls Tryz.prog 44 #[.int .i64 15] w (FormR D .non (.row [.expr, .block, (.or2 .none .block)]) P w) := by
 have _ := w0
 have hU := Up.start h0 hp0 hp1
 go_enter Tryz.func44, Tryz.ntmps44
 go_wp2_with fail
 go_at_call 61
 refine (textQ_ok (w := w) (Q := (fun k => k = w.heap.size ∨ k = P)) (fun k hk => by have := hU.p1; omega) signsL 8 _ _ rfl lq28 lq28 rfl).mono ?_
 rintro e w0t ⟨⟨vt, rfl, hvt⟩, hbt⟩
 have hU := (hU.alloc _).call hbt
 obtain ⟨gt, cpt, hve, _⟩ := id hvt
 subst hve
 go_wp2_with fail
 have hS := shapesQ_two hU.q qNone (qBlock hRi (hU.tabs hT)) 69
 try rw [show (w.alloc (.cells #[.nilFunc, .nilFunc] 71)).heap.size = w.heap.size + 1 by simp] at hS
 have hvt := hvt.later ((Below.refl _ _).alloc (Nat.le_refl _) (.cells #[.func (.func 70) #[] #[], .func (.func 71) #[] #[]] 69))
 have hU := hU.alloc (.cells #[.func (.func 70) #[] #[], .func (.func 71) #[] #[]] 69)
 go_at_call 69
 refine (or2Q_ok (D := D) hU.q .none .block _ hS).mono ?_
 rintro e w1 ⟨⟨v1, rfl, hv1⟩, hb1⟩
 have hvt := hvt.later hb1
 have hU := hU.call hb1
 obtain ⟨g1, cp1, hve, _⟩ := id hv1
 subst hve
 go_wp2_with fail
 have hS := shapesQ_three hU.q (qExpr hRi (hU.tabs hT)) (qBlock hRi (hU.tabs hT)) hv1 69
 try rw [show (w.alloc (.cells #[.nilFunc, .nilFunc] 71)).heap.size = w.heap.size + 1 by simp] at hS
 have hvt := hvt.later ((Below.refl _ _).alloc (Nat.le_refl _) (.cells #[.func (.func 67) #[] #[], .func (.func 71) #[] #[], .func (.func g1) #[] cp1] 69))
 have hv1 := hv1.later ((Below.refl _ _).alloc (Nat.le_refl _) (.cells #[.func (.func 67) #[] #[], .func (.func 71) #[] #[], .func (.func g1) #[] cp1] 69))
 have hU := hU.alloc (.cells #[.func (.func 67) #[] #[], .func (.func 71) #[] #[], .func (.func g1) #[] cp1] 69)
 go_at_call 63
 refine (kidsQ_ok (D := D) hU.q [Sh.ev Nd.right .expr, Sh.ev Nd.right .block, Sh.ev Nd.right (.or2 .none .block)] 3 _ rfl hS lq24).mono ?_
 exact lv134
theorem fm16 :
  Calls Tryz.prog 44 #[.int .i64 16] w (FormR D .non (.row [.expr, .block]) P w) := by
 have _ := w0
 have hU := Up.start h0 hp0 hp1
 go_enter Tryz.func44, Tryz.ntmps44
 go_wp2_with fail
 go_at_call 61
 refine (textQ_ok (w := w) (Q := (fun k => k = w.heap.size ∨ k = P)) (fun k hk => by have := hU.p1; omega) signsL 8 _ _ rfl lq28 lq28 rfl).mono ?_
 rintro e w0t ⟨⟨vt, rfl, hvt⟩, hbt⟩
 have hU := (hU.alloc _).call hbt
 obtain ⟨gt, cpt, hve, _⟩ := id hvt
 subst hve
 go_wp2_with fail
 have hS := shapesQ_two hU.q (qExpr hRi (hU.tabs hT)) (qBlock hRi (hU.tabs hT)) 69
 try rw [show (w.alloc (.cells #[.nilFunc, .nilFunc] 71)).heap.size = w.heap.size + 1 by simp] at hS
 have hvt := hvt.later ((Below.refl _ _).alloc (Nat.le_refl _) (.cells #[.func (.func 67) #[] #[], .func (.func 71) #[] #[]] 69))
 have hU := hU.alloc (.cells #[.func (.func 67) #[] #[], .func (.func 71) #[] #[]] 69)
 go_at_call 63
 refine (kidsQ_ok (D := D) hU.q [Sh.ev Nd.right .expr, Sh.ev Nd.right .block] 2 _ rfl hS lq24).mono ?_
 exact lv138
theorem fm17 :
  Calls Tryz.prog 44 #[.int .i64 17] w (FormR D .non (.row [.targets, .expr, .block]) P w) := by
 have _ := w0
 have hU := Up.start h0 hp0 hp1
 go_enter Tryz.func44, Tryz.ntmps44
 go_wp2_with fail
 go_at_call 61
 refine (textQ_ok (w := w) (Q := (fun k => k = w.heap.size ∨ k = P)) (fun k hk => by have := hU.p1; omega) signsL 8 _ _ rfl lq28 lq28 rfl).mono ?_
 rintro e w0t ⟨⟨vt, rfl, hvt⟩, hbt⟩
 have hU := (hU.alloc _).call hbt
 obtain ⟨gt, cpt, hve, _⟩ := id hvt
 subst hve
 go_wp2_with fail
 have hS := shapesQ_three hU.q (qTargets hRi (hU.tabs hT)) (qExpr hRi (hU.tabs hT)) (qBlock hRi (hU.tabs hT)) 69
 try rw [show (w.alloc (.cells #[.nilFunc, .nilFunc] 71)).heap.size = w.heap.size + 1 by simp] at hS
 have hvt := hvt.later ((Below.refl _ _).alloc (Nat.le_refl _) (.cells #[.func (.func 72) #[] #[], .func (.func 67) #[] #[], .func (.func 71) #[] #[]] 69))
 have hU := hU.alloc (.cells #[.func (.func 72) #[] #[], .func (.func 67) #[] #[], .func (.func 71) #[] #[]] 69)
 go_at_call 63
 refine (kidsQ_ok (D := D) hU.q [Sh.ev Nd.right .targets, Sh.ev Nd.right .expr, Sh.ev Nd.right .block] 3 _ rfl hS lq24).mono ?_
 exact lv138
theorem fm18 :
  Calls Tryz.prog 44 #[.int .i64 18] w (FormR D .name .dfn P w) := by
 have _ := w0
 have hU := Up.start h0 hp0 hp1
 go_enter Tryz.func44, Tryz.ntmps44
 go_wp2_with fail
 go_at_call 61
 refine (textQ_ok (w := w) (Q := (fun k => k = w.heap.size ∨ k = P)) (fun k hk => by have := hU.p1; omega) signsL 8 _ _ rfl lq28 lq28 rfl).mono ?_
 rintro e w0t ⟨⟨vt, rfl, hvt⟩, hbt⟩
 have hU := (hU.alloc _).call hbt
 obtain ⟨gt, cpt, hve, _⟩ := id hvt
 subst hve
 obtain ⟨_, _, _, _, hsz, r0, r1, z0, z1⟩ := id hU
 go_wp2
 exact bodyPost_ret (v := .agg #[.func (.func 73) #[] #[], .func (.func 74) #[] #[]]) lq15 rfl (FormR.put hU textQ_name (qDef hRi (hU.tabs hT)))
end

end
end Go.Proofs.YtjefhdlncikhmaaGreatDoor
