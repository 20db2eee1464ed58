/- Joined by a program: Wr6a, Wr6e, SmL, Frm0, FrmS1, FrmE1, FrmA, Rgt, SmR. -/
import Derived.Test.YtjndbcnmmnkilaaGreatDoorPF47
namespace Go.Proofs.YtjndbcnmmnkilaaGreatDoor
set_option linter.unusedVariables false
set_option linter.unusedSimpArgs false
set_option maxRecDepth 1000000
set_option maxHeartbeats 16000000
section
open Go.RowKit
open List (length_append length_cons length_nil length_singleton)
theorem ws4 (D : Nat) (w0 : World) (X dep : Nat) (hdp : dep + (D + 1) ≤ 1000000) (T : Nd) (hk : T.kind = 4) (hT : StW T) (hD : T.dep ≤ D + 1) (hWt : T.weight ≤ 1000000) : FSays 163 w0 X dep simpL T := by
 intro A c K d l0 w hN hBs hW hlen
 have hdm : dep ≤ 1000000 := by omega
 have hst : (Tx.non.ev T.text && noNumB T && rowB T.kids [Sh.ev Nd.right .target, Sh.ev Nd.right .expr]) = true := by
  rw [← show _ = (Tx.non.ev T.text && noNumB T && rowB T.kids [Sh.ev Nd.right .target, Sh.ev Nd.right .expr]) from st_at hk (tx := .non) (fm := .row [.target, .expr]) rfl lq16 lq16 lq16]; exact hT
 have hro : rowB T.kids [Sh.ev Nd.right .target, Sh.ev Nd.right .expr] = true := (Bool.and_eq_true _ _ ▸ hst).2
 have hlen3 : T.kids.length = 2 := row_len hro
 obtain ⟨t0, t1, hks⟩ := kids_2 (l := T.kids) hlen3
 rw [hks] at hro
 simp only [rowB, Bool.and_eq_true, Bool.and_true] at hro
 obtain ⟨r0, r1⟩ := hro
 have hg0 : T.kids[0]? = some t0 := by rw [hks]; rfl
 obtain ⟨b, off, A0, c0', K0, d0, hKe0, hC0, hN0⟩ := hN.kid hg0
 have hd0 : t0.dep ≤ D ∧ t0.weight ≤ 1000000 := wKM hD hWt t0 (mog hg0)
 have hg1 : T.kids[1]? = some t1 := by rw [hks]; rfl
 obtain ⟨b1, off1, A1, c1', K1, d1, hKe1, hC1, hN1⟩ := hN.kid hg1
 have hd1 : t1.dep ≤ D ∧ t1.weight ≤ 1000000 := wKM hD hWt t1 (mog hg1)
 rw [Nat.zero_mul, Nat.add_zero] at hC0
 subst hKe0
 injection hKe1 with e1
 injection e1 with e1 e2
 subst e1 e2
 rw [show 1 * 6 = 6 from rfl] at hC1
 have HF0 := Lh (wTargets_ok D w0 X dep (wExpr_ok w0 X dep D lq17) t0 (ev_tgt r0).te hd0.1 hd0.2)
 have HN0 := Lh hN0
 have i0 : (0 : Int) < (T.kids.length : Int) := by omega
 have i0' : 0 < T.kids.length := by omega
 have HF1 := Lh (wExpr_ok w0 X dep D lq17 t1 (ev_ex r1) hd1.1 hd1.2)
 have HN1 := Lh hN1
 have i1 : (1 : Int) < (T.kids.length : Int) := by omega
 have i1' : 1 < T.kids.length := by omega
 have hlen : l0.length + (simpL T).length ≤ 1000000000000 := hlen
 have hts : simpL T = t0.txt ++ [32, 61, 32] ++ t1.txt := by simp [simpL, hk, hks, kdq]
 rw [hts] at hlen
 have HTX := Lh hts
 have HLN := Lh hlen
 have z3 : (T.kind == 3) = false := by rw [hk]; rfl
 have z4 : (T.kind == 4) = true := by rw [hk]; rfl
 obtain ⟨z5, z6, z7, z8, z9, z10, z11, z12⟩ := kz8 hk 5 6 7 8 9 10 11 12 rfl
 obtain ⟨z13, z14⟩ := kz2 hk 13 14 rfl
 obtain ⟨hm1, hm2, hrm, hw32, hk1, hk2, hk64, ha64, hts', hKs⟩ := hN.parts
 have hk2' := hk2
 unfold maxLen at hm2 hk2 hts'
 obtain ⟨hk64a, hk64b⟩ := hk64
 obtain ⟨ha64a, ha64b⟩ := ha64
 have hB0 : w0.heap.size ≤ w.heap.size := hBs.size
 have hbX : X < w.heap.size := WrT.lt hW
 have hK0 : WK w0.heap.size X w (w.alloc (.cells #[.int .i64 T.kind, .int .i64 T.pos, .string T.text, .bool T.neg, .slice A T.mag.length c, .slice (some ⟨b, off, none⟩) T.kids.length d] 29)) := (WK.refl _ _ _).alloc hB0 _
 have hWb := hW.alloc (.cells #[.int .i64 T.kind, .int .i64 T.pos, .string T.text, .bool T.neg, .slice A T.mag.length c, .slice (some ⟨b, off, none⟩) T.kids.length d] 29)
 have hBb : Below w0.heap.size w0 (w.alloc (.cells #[.int .i64 T.kind, .int .i64 T.pos, .string T.text, .bool T.neg, .slice A T.mag.length c, .slice (some ⟨b, off, none⟩) T.kids.length d] 29)) := hBs.trans hK0.b
 have hbx := heap_alloc_new w (.cells #[.int .i64 T.kind, .int .i64 T.pos, .string T.text, .bool T.neg, .slice A T.mag.length c, .slice (some ⟨b, off, none⟩) T.kids.length d] 29)
 have hsg : (w.alloc (.cells #[.int .i64 T.kind, .int .i64 T.pos, .string T.text, .bool T.neg, .slice A T.mag.length c, .slice (some ⟨b, off, none⟩) T.kids.length d] 29)).heap.size = w.heap.size + 1 := by simp
 clear hKs hN hlen hT hD hWt hrm hw32 hk hts hst hlen3 hks hg0 hN0 hd0 r0 hg1 hN1 hd1 r1
 obtain ⟨c0, c1, c2, c3, c4, c5⟩ := (cells_box hbx).box
 have hlb := blt c0
 obtain ⟨n00, n01, n02, n03, n04, n05⟩ := hC0.later hBb
 have hlk0 := blt n00
 obtain ⟨n10, n11, n12, n13, n14, n15⟩ := hC1.later hBb
 have hlk1 := blt n10
 have hlX := WrT.lt hWb
 unfold ndV
 go_enter Tryz.func163, Tryz.ntmps163
 go_wp2_with fail
 have hI := HF0.out A0 c0' K0 d0 _ _ HN0.out hBb hWb lq2
 unfold ndV at hI
 go_at_call 158
 refine hI.mono ?_
 rintro e w_1 ⟨rfl, hW_1, hk_1⟩
 have hK_1 := hK0.trans hk_1
 have hbx := box_keep hk_1 hbx hbX
 clear hI
 have hB_1 : Below w0.heap.size w0 w_1 := hBs.trans hK_1.b
 obtain ⟨c0, c1, c2, c3, c4, c5⟩ := (cells_box hbx).box
 have hlb := blt c0
 obtain ⟨n00, n01, n02, n03, n04, n05⟩ := hC0.later hB_1
 have hlk0 := blt n00
 obtain ⟨n10, n11, n12, n13, n14, n15⟩ := hC1.later hB_1
 have hlk1 := blt n10
 have hlX := WrT.lt hW_1
 go_wp2_with fail
 have hWa := hW_1.alloc (.cells #[.string { data := #[32, 61, 32] }] 9)
 have hKa := hK_1.alloc (Nat.le_trans hB0 hK_1.b.size) (.cells #[.string { data := #[32, 61, 32] }] 9)
 have hbxa := (Lib.alloc_old _ (.cells #[.string { data := #[32, 61, 32] }] 9) _ hlb).trans hbx
 go_at_call 159
 refine (wSayT_ok w0.heap.size X dep _ ([32, 61, 32]) [⟨#[32, 61, 32]⟩] 1 _ _ hWa rfl (WrT.lt hW_1) (heap_alloc_new _ _) rfl lq16 lq2 (Nat.le_trans hB0 hKa.b.size)).mono ?_
 rintro e w_2 ⟨rfl, hW_2, hk_2⟩
 have hK_2 := hKa.trans hk_2
 have hbx := box_keep hk_2 hbxa hbX
 have hB_2 : Below w0.heap.size w0 w_2 := hBs.trans hK_2.b
 obtain ⟨c0, c1, c2, c3, c4, c5⟩ := (cells_box hbx).box
 have hlb := blt c0
 obtain ⟨n00, n01, n02, n03, n04, n05⟩ := hC0.later hB_2
 have hlk0 := blt n00
 obtain ⟨n10, n11, n12, n13, n14, n15⟩ := hC1.later hB_2
 have hlk1 := blt n10
 have hlX := WrT.lt hW_2
 go_wp2_with fail
 have hI := HF1.out A1 c1' K1 d1 _ _ HN1.out hB_2 hW_2 lq2
 unfold ndV at hI
 go_at_call 156
 refine hI.mono ?_
 rintro e w_3 ⟨rfl, hW_3, hk_3⟩
 have hK_3 := hK_2.trans hk_3
 have hbx := box_keep hk_3 hbx hbX
 clear hI
 have hB_3 : Below w0.heap.size w0 w_3 := hBs.trans hK_3.b
 obtain ⟨c0, c1, c2, c3, c4, c5⟩ := (cells_box hbx).box
 have hlb := blt c0
 obtain ⟨n00, n01, n02, n03, n04, n05⟩ := hC0.later hB_3
 have hlk0 := blt n00
 obtain ⟨n10, n11, n12, n13, n14, n15⟩ := hC1.later hB_3
 have hlk1 := blt n10
 have hlX := WrT.lt hW_3
 go_wp2_with fail
 ((try simp only [Exit.inBlock, Exit.then]); first | refine bodyPost_end (results_none rfl _ _ _) rfl ?_ | refine bodyPost_ret (results_none rfl _ _ _) rfl ?_)
 exact ⟨rfl, hW_3.eq (by show _ = l0 ++ simpL T; rw [HTX.out]; try simp only [List.append_assoc, List.append_nil, List.nil_append, List.cons_append, List.singleton_append]), hK_3⟩
theorem wl_simple (D : Nat) (w0 : World) (X dep : Nat) (hdp : dep + (D + 1) ≤ 1000000) (T : Nd) (hS : FSays 163 w0 X dep simpL T) (hk : 3 ≤ T.kind ∧ T.kind ≤ 14) : FSays 81 w0 X dep (fun t => t.lin dep) T := by
 intro A c K d l0 w hN hBs hW hlen
 have hdm : dep ≤ 1000000 := by omega
 have hlen : l0.length + (T.lin dep).length ≤ 1000000000000 := hlen
 have hts : T.lin dep = padL dep ++ simpL T ++ [10] := lin_simp hk dep
 rw [hts] at hlen
 have HTX := Lh hts
 have HLN := Lh hlen
 have HS := Lh hS
 have HNT := Lh hN
 have z15 : (T.kind == 15) = false := bFo
 have z16 : (T.kind == 16) = false := bFo
 have z17 : (T.kind == 17) = false := bFo
 have z18 : (T.kind == 18) = false := bFo
 have z20 : (T.kind == 20) = false := bFo
 have z21 : (T.kind == 21) = false := bFo
 obtain ⟨hm1, hm2, hrm, hw32, hk1, hk2, hk64, ha64, hts', hKs⟩ := hN.parts
 have hk2' := hk2
 unfold maxLen at hm2 hk2 hts'
 obtain ⟨hk64a, hk64b⟩ := hk64
 obtain ⟨ha64a, ha64b⟩ := ha64
 have hB0 : w0.heap.size ≤ w.heap.size := hBs.size
 have hbX : X < w.heap.size := WrT.lt hW
 have hK0 : WK w0.heap.size X w (w.alloc (.cells #[.int .i64 T.kind, .int .i64 T.pos, .string T.text, .bool T.neg, .slice A T.mag.length c, .slice K T.kids.length d] 29)) := (WK.refl _ _ _).alloc hB0 _
 have hWb := hW.alloc (.cells #[.int .i64 T.kind, .int .i64 T.pos, .string T.text, .bool T.neg, .slice A T.mag.length c, .slice K T.kids.length d] 29)
 have hBb : Below w0.heap.size w0 (w.alloc (.cells #[.int .i64 T.kind, .int .i64 T.pos, .string T.text, .bool T.neg, .slice A T.mag.length c, .slice K T.kids.length d] 29)) := hBs.trans hK0.b
 have hbx := heap_alloc_new w (.cells #[.int .i64 T.kind, .int .i64 T.pos, .string T.text, .bool T.neg, .slice A T.mag.length c, .slice K T.kids.length d] 29)
 have hsg : (w.alloc (.cells #[.int .i64 T.kind, .int .i64 T.pos, .string T.text, .bool T.neg, .slice A T.mag.length c, .slice K T.kids.length d] 29)).heap.size = w.heap.size + 1 := by simp
 clear hKs hN hlen hrm hw32 hk hts hS
 obtain ⟨c0, c1, c2, c3, c4, c5⟩ := (cells_box hbx).box
 have hlb := blt c0
 have hlX := WrT.lt hWb
 unfold ndV
 go_enter Tryz.func81, Tryz.ntmps81
 go_wp2_with fail
 go_at_call 155
 refine (wHead_ok w0.heap.size X dep _ [] [] 0 none _ hWb rfl (.inl rfl) rfl lq16 hdm (by have h := HLN.out; have hpl := padL_len dep; (try simp only [length_append, length_cons, length_nil, length_singleton] at h); (try simp only [length_append, length_cons, length_nil, length_singleton]); omega) (Nat.le_trans hB0 hK0.b.size)).mono ?_
 rintro e w_1 ⟨rfl, hW_1, hk_1⟩
 have hK_1 := hK0.trans hk_1
 have hbx := box_keep hk_1 hbx hbX
 have hB_1 : Below w0.heap.size w0 w_1 := hBs.trans hK_1.b
 obtain ⟨c0, c1, c2, c3, c4, c5⟩ := (cells_box hbx).box
 have hlb := blt c0
 have hlX := WrT.lt hW_1
 go_wp2_with fail
 have hI := HS.out A c K d _ _ HNT.out hB_1 hW_1 lq2
 unfold ndV at hI
 go_at_call 163
 refine hI.mono ?_
 rintro e w_2 ⟨rfl, hW_2, hk_2⟩
 have hK_2 := hK_1.trans hk_2
 have hbx := box_keep hk_2 hbx hbX
 clear hI
 have hB_2 : Below w0.heap.size w0 w_2 := hBs.trans hK_2.b
 obtain ⟨c0, c1, c2, c3, c4, c5⟩ := (cells_box hbx).box
 have hlb := blt c0
 have hlX := WrT.lt hW_2
 go_wp2_with fail
 have hWa := hW_2.alloc (.cells #[.string { data := #[10] }] 9)
 have hKa := hK_2.alloc (Nat.le_trans hB0 hK_2.b.size) (.cells #[.string { data := #[10] }] 9)
 have hbxa := (Lib.alloc_old _ (.cells #[.string { data := #[10] }] 9) _ hlb).trans hbx
 go_at_call 159
 refine (wSayT_ok w0.heap.size X dep _ ([10]) [⟨#[10]⟩] 1 _ _ hWa rfl (WrT.lt hW_2) (heap_alloc_new _ _) rfl lq16 lq2 (Nat.le_trans hB0 hKa.b.size)).mono ?_
 rintro e w_3 ⟨rfl, hW_3, hk_3⟩
 have hK_3 := hKa.trans hk_3
 have hbx := box_keep hk_3 hbxa hbX
 have hB_3 : Below w0.heap.size w0 w_3 := hBs.trans hK_3.b
 obtain ⟨c0, c1, c2, c3, c4, c5⟩ := (cells_box hbx).box
 have hlb := blt c0
 have hlX := WrT.lt hW_3
 go_wp2_with fail
 ((try simp only [Exit.inBlock, Exit.then]); first | refine bodyPost_end (results_none rfl _ _ _) rfl ?_ | refine bodyPost_ret (results_none rfl _ _ _) rfl ?_)
 exact ⟨rfl, hW_3.eq (by show _ = l0 ++ T.lin dep; rw [HTX.out]; try simp only [List.append_assoc, List.append_nil, List.nil_append, List.cons_append, List.singleton_append]), hK_3⟩
theorem wLine_ok (w0 : World) (X : Nat) : ∀ D, D ≤ 1000000 → LOk D w0 X := by
 intro D hDD dep hdp T hT hD hWt
 have hr : 3 ≤ T.kind ∧ T.kind ≤ 21 ∧ ¬ T.kind = 19 := by
  simp only [StW, Sh.ev, Bool.and_eq_true, decide_eq_true_eq, Bool.not_eq_true', beq_eq_false_iff_ne, ne_eq] at hT; exact ⟨hT.1.1.1, hT.1.1.2, hT.1.2⟩
 cases D with
 | zero => rw [T.dep_eq] at hD; omega
 | succ D =>
  rcases Nd.smk_kind (Nd.dep_sm hD hDD) with h | h | h | h
  ·omega
  ·omega
  ·exact wl_simple D w0 X dep hdp T (ws4 D w0 X dep hdp T h hT hD hWt) lq17
  ·omega
structure Up (w0 : World) (P : Nat) (w W : World) : Prop where
 b0 : Below w0.heap.size w0 w
 p0 : w0.heap.size ≤ P
 p1 : P ≤ w.heap.size
 b : Below w.heap.size w W
 s : w.heap.size + 1 ≤ W.heap.size
 c0 : W.cell? ⟨w.heap.size, 0, none⟩ = some .nilFunc
 c1 : W.cell? ⟨w.heap.size, 1, none⟩ = some .nilFunc
 f0 : W.frozen? ⟨w.heap.size, 0, none⟩ = false
 f1 : W.frozen? ⟨w.heap.size, 1, none⟩ = false
section
variable {w0 w W W' : World} {P : Nat}
theorem Up.call (h : Up w0 P w W) (hb : Below W.heap.size W W') : Up w0 P w W' :=
 have hl : w.heap.size < W.heap.size := h.s
 ⟨h.b0, h.p0, h.p1, h.b.trans (hb.mono h.b.size), Nat.le_trans h.s hb.size, cLt hb h.c0, cLt hb h.c1, (hb.frozen (p := ⟨w.heap.size, 0, none⟩) hl).trans h.f0, (hb.frozen (p := ⟨w.heap.size, 1, none⟩) hl).trans h.f1⟩
theorem Up.alloc (h : Up w0 P w W) (o : Obj) : Up w0 P w (W.alloc o) := h.call ((Below.refl _ _).alloc (Nat.le_refl _) o)
theorem Up.start (h0 : Below w0.heap.size w0 w) (hp0 : w0.heap.size ≤ P) (hp1 : P ≤ w.heap.size) : Up w0 P w (w.alloc (.cells #[.nilFunc, .nilFunc] 103)) :=
 have h := heap_alloc_new w (.cells #[.nilFunc, .nilFunc] 103)
 ⟨h0, hp0, hp1, (Below.refl _ _).alloc (Nat.le_refl _) _, by simp, cell_of_row _ _ 0 _ _ _ h, cell_of_row _ _ 1 _ _ _ h, Lib.frozen_of_heap h 0, Lib.frozen_of_heap h 1⟩
theorem Up.q (h : Up w0 P w W) : ∀ k, (k = w.heap.size ∨ k = P) → k < W.heap.size := fun k hk => by have := h.s; have := h.p1; omega
theorem Up.tabs (h : Up w0 P w W) (hT : Lib.Utf8Tabs 0 1 w0) : TabsQ (fun k => k = w.heap.size ∨ k = P) W := tabsQ_of hT (h.b0.trans (h.b.mono h.b0.size)) (fun k hk => by have := h.p0; have := h.b0.size; omega)
theorem Up.lt (h : Up w0 P w W) : w.heap.size < W.heap.size := h.s
end
def FormR (D : Nat) (tx : Tx) (fm : Fm) (P : Nat) (w : World) (e : Ending) (w' : World) : Prop :=
 ∃ (f1 : FuncId) (c1 : Array Value) (f2 : FuncId) (c2 : Array Value), e = .returned (.agg #[.func (.func f1) #[] c1, .func (.func f2) #[] c2]) ∧ w.heap.size < w'.heap.size ∧ TextOkQ (fun k => k = w.heap.size ∨ k = P) w' (.func (.func f1) #[] c1) tx.ev ∧ ShapeOkQ (fun k => k = w.heap.size ∨ k = P) (D + 1) w' (.func (.func f2) #[] c2) (fm.ev Nd.right) ∧ Below w.heap.size w w'
def FormS (D : Nat) (tx : Tx) (fm : Fm) (w : World) (e : Ending) (w' : World) : Prop :=
 ∃ (Q : Nat → Prop) (f1 : FuncId) (c1 : Array Value) (f2 : FuncId) (c2 : Array Value), e = .returned (.agg #[.func (.func f1) #[] c1, .func (.func f2) #[] c2]) ∧ (∀ k, Q k → w.heap.size ≤ k ∧ k < w'.heap.size) ∧ TextOkQ Q w' (.func (.func f1) #[] c1) tx.ev ∧ ShapeOkQ Q (D + 1) w' (.func (.func f2) #[] c2) (fm.ev Nd.right) ∧ Below w.heap.size w w'
theorem FormR.put {D : Nat} {tx : Tx} {fm : Fm} {w0 w W : World} {P : Nat} {f1 f2 : FuncId} {c1 c2 : Array Value} (hU : Up w0 P w W) (h1 : TextOkQ (fun k => k = w.heap.size ∨ k = P) W (.func (.func f1) #[] c1) tx.ev) (h2 : ShapeOkQ (fun k => k = w.heap.size ∨ k = P) (D + 1) W (.func (.func f2) #[] c2) (fm.ev Nd.right)) :
  FormR D tx fm P w (.returned (.agg #[.func (.func f1) #[] c1, .func (.func f2) #[] c2])) ((W.setCell ⟨w.heap.size, 0, none⟩ (.func (.func f1) #[] c1)).setCell ⟨w.heap.size, 1, none⟩ (.func (.func f2) #[] c2)) :=
 ⟨f1, c1, f2, c2, rfl, by have := hU.s; simp; omega, (h1.set (.inl rfl) _).set (.inl rfl) _, (h2.set (.inl rfl) _).set (.inl rfl) _, (hU.b.setCell (p := ⟨w.heap.size, 0, none⟩) (Nat.le_refl _) _).setCell (p := ⟨w.heap.size, 1, none⟩) (Nat.le_refl _) _⟩
theorem FormR.toS {D : Nat} {tx : Tx} {fm : Fm} {w : World} {e : Ending} {w' : World} (h : FormR D tx fm w.heap.size w e w') : FormS D tx fm w e w' := by
 obtain ⟨f1, c1, f2, c2, he, hs, h1, h2, hb⟩ := h
 exact ⟨_, f1, c1, f2, c2, he, fun k hk => by omega, h1, h2, hb⟩
section
variable (D : Nat) (hRi : RightOk D) (w0 w : World) (P : Nat) (hT : Lib.Utf8Tabs 0 1 w0) (h0 : Below w0.heap.size w0 w) (hp0 : w0.heap.size ≤ P) (hp1 : P ≤ w.heap.size)
include D hRi w0 w P hT h0 hp0 hp1
theorem fm1 :
  Calls Tryz.prog 78 #[.int .i64 1] w (FormR D .non (.row [(.of 2)]) P w) := by
 have _ := w0
 have hU := Up.start h0 hp0 hp1
 go_enter Tryz.func78, Tryz.ntmps78
 go_wp2_with fail
 go_at_call 136
 refine (textQ_ok (w := w) (Q := (fun k => k = w.heap.size ∨ k = P)) (fun k hk => by have := hU.p1; omega) signsL 8 _ _ rfl lq16 lq16 rfl).mono ?_
 rintro e w0t ⟨⟨vt, rfl, hvt⟩, hbt⟩
 have hU := (hU.alloc _).call hbt
 obtain ⟨gt, cpt, hve, _⟩ := id hvt
 subst hve
 go_wp2_with fail
 go_at_call 139
 refine (ofQ_ok (D := D) hRi hU.q (hU.tabs hT) 2).mono ?_
 rintro e w1 ⟨⟨v1, rfl, hv1⟩, hb1⟩
 have hvt := hvt.later hb1
 have hU := hU.call hb1
 obtain ⟨g1, cp1, hve, _⟩ := id hv1
 subst hve
 go_wp2_with fail
 have hS := shapesQ_one hU.q hv1 101
 try rw [show (w.alloc (.cells #[.nilFunc, .nilFunc] 103)).heap.size = w.heap.size + 1 by simp] at hS
 have hvt := hvt.later ((Below.refl _ _).alloc (Nat.le_refl _) (.cells #[.func (.func g1) #[] cp1] 101))
 have hv1 := hv1.later ((Below.refl _ _).alloc (Nat.le_refl _) (.cells #[.func (.func g1) #[] cp1] 101))
 have hU := hU.alloc (.cells #[.func (.func g1) #[] cp1] 101)
 go_at_call 138
 refine (kidsQ_ok (D := D) hU.q [Sh.ev Nd.right (.of 2)] 1 _ rfl hS lq13).mono ?_
 rintro e w2 ⟨⟨v2, rfl, hv2⟩, hb2⟩
 have hvt := hvt.later hb2
 have hv1 := hv1.later hb2
 have hU := hU.call hb2
 obtain ⟨g2, cp2, hve, _⟩ := id hv2
 subst hve
 obtain ⟨_, _, _, _, hsz, r0, r1, z0, z1⟩ := id hU
 go_wp2
 exact bodyPost_ret (v := .agg #[.func (.func 137) #[] #[], .func (.func g2) #[] cp2]) (by simp [results, Tryz.results78, go_sem, r0, r1, z0, z1]) rfl (FormR.put hU textQ_non hv2)
theorem fm2 :
  Calls Tryz.prog 78 #[.int .i64 2] w (FormR D .non (.some 0 .stmt) P w) := by
 have _ := w0
 have hU := Up.start h0 hp0 hp1
 go_enter Tryz.func78, Tryz.ntmps78
 go_wp2_with fail
 go_at_call 136
 refine (textQ_ok (w := w) (Q := (fun k => k = w.heap.size ∨ k = P)) (fun k hk => by have := hU.p1; omega) signsL 8 _ _ rfl lq16 lq16 rfl).mono ?_
 rintro e w0t ⟨⟨vt, rfl, hvt⟩, hbt⟩
 have hU := (hU.alloc _).call hbt
 obtain ⟨gt, cpt, hve, _⟩ := id hvt
 subst hve
 go_wp2_with fail
 go_at_call 140
 refine (someQ_ok (D := D) hU.q _ _ 0 (qStmt hRi (hU.tabs hT)) lq16).mono ?_
 exact lv25
theorem fm4 :
  Calls Tryz.prog 78 #[.int .i64 4] w (FormR D .non (.row [.target, .expr]) P w) := by
 have _ := w0
 have hU := Up.start h0 hp0 hp1
 go_enter Tryz.func78, Tryz.ntmps78
 go_wp2_with fail
 go_at_call 136
 refine (textQ_ok (w := w) (Q := (fun k => k = w.heap.size ∨ k = P)) (fun k hk => by have := hU.p1; omega) signsL 8 _ _ rfl lq16 lq16 rfl).mono ?_
 rintro e w0t ⟨⟨vt, rfl, hvt⟩, hbt⟩
 have hU := (hU.alloc _).call hbt
 obtain ⟨gt, cpt, hve, _⟩ := id hvt
 subst hve
 go_wp2_with fail
 have hS := shapesQ_two hU.q (qTarget hRi (hU.tabs hT)) (qExpr hRi (hU.tabs hT)) 101
 try rw [show (w.alloc (.cells #[.nilFunc, .nilFunc] 103)).heap.size = w.heap.size + 1 by simp] at hS
 have hvt := hvt.later ((Below.refl _ _).alloc (Nat.le_refl _) (.cells #[.func (.func 143) #[] #[], .func (.func 142) #[] #[]] 101))
 have hU := hU.alloc (.cells #[.func (.func 143) #[] #[], .func (.func 142) #[] #[]] 101)
 go_at_call 138
 refine (kidsQ_ok (D := D) hU.q [Sh.ev Nd.right .target, Sh.ev Nd.right .expr] 2 _ rfl hS lq13).mono ?_
 exact lv25
end

theorem fm31 (D : Nat) (hRi : RightOk D) (w0 w : World) (P : Nat) (hT : Lib.Utf8Tabs 0 1 w0) (h0 : Below w0.heap.size w0 w) (hp0 : w0.heap.size ≤ P) (hp1 : P ≤ w.heap.size) :
  Calls Tryz.prog 154 #[.int .i64 31] w (FormR D .name (.row []) P w) := by
 have hU := Up.start h0 hp0 hp1
 go_enter Tryz.func154, Tryz.ntmps154
 go_wp2_with fail
 go_at_call 138
 refine (kidsQ_ok (D := D) hU.q [] 0 _ rfl (shapesQ_nil D _ none) lq13).mono ?_
 rintro e w1 ⟨⟨v1, rfl, hv1⟩, hb1⟩
 have hU := hU.call hb1
 obtain ⟨g1, cp1, hve, _⟩ := id hv1
 subst hve
 obtain ⟨_, _, _, _, hsz, r0, r1, z0, z1⟩ := id hU
 go_wp2
 exact bodyPost_ret (v := .agg #[.func (.func 148) #[] #[], .func (.func g1) #[] cp1]) (by simp [results, Tryz.results154, go_sem, r0, r1, z0, z1]) rfl (FormR.put hU textQ_name hv1)
theorem stmt_expr (D : Nat) (tx : Tx) (fm : Fm) (k : Int) (w : World) (HE : ∀ W, Below w.heap.size w W → Calls Tryz.prog 154 #[.int .i64 k] W (FormR D tx fm w.heap.size W)) (z1 : (k == 1) = false) (z2 : (k == 2) = false) (z3 : (k == 3) = false) (z4 : (k == 4) = false) (z5 : (k == 5) = false) (z6 : (k == 6) = false) (z7 : (k == 7) = false) (z8 : (k == 8) = false) (z9 : (k == 9) = false) (z10 : (k == 10) = false) (z11 : (k == 11) = false) (z12 : (k == 12) = false) (z13 : (k == 13) = false) (z14 : (k == 14) = false) (z15 : (k == 15) = false) (z16 : (k == 16) = false) (z17 : (k == 17) = false) (z18 : (k == 18) = false) (z19 : (k == 19) = false) (z20 : (k == 20) = false) (z21 : (k == 21) = false) (z22 : (k == 22) = false) (z23 : (k == 23) = false) :
  Calls Tryz.prog 78 #[.int .i64 k] w (FormS D tx fm w) := by
 have hU := Up.start (Below.refl w.heap.size w) (Nat.le_refl _) (Nat.le_refl _)
 have HE := Lh HE
 go_enter Tryz.func78, Tryz.ntmps78
 go_wp2_with fail
 go_at_call 136
 refine (textQ_ok (w := w) (Q := (fun k => k = w.heap.size ∨ k = w.heap.size)) (fun k hk => by omega) signsL 8 _ _ rfl lq16 lq16 rfl).mono ?_
 rintro e w0t ⟨⟨vt, rfl, hvt⟩, hbt⟩
 have hU := (hU.alloc _).call hbt
 obtain ⟨gt, cpt, hve, _⟩ := id hvt
 subst hve
 go_wp2_with fail
 go_at_call 154
 refine (HE.out _ hU.b).mono ?_
 rintro e w1 ⟨f1, c1, f2, c2, rfl, hs1, ht1, hf1, hb1⟩
 have hs0 := hU.s
 have hU := hU.call hb1
 obtain ⟨_, _, _, _, hsz, r0, r1, x0, x1⟩ := id hU
 have hbz : Below w.heap.size w ((w1.setCell ⟨w.heap.size, 0, none⟩ (.func (.func f1) #[] c1)).setCell ⟨w.heap.size, 1, none⟩ (.func (.func f2) #[] c2)) := (hU.b.setCell (p := ⟨w.heap.size, 0, none⟩) (Nat.le_refl _) _).setCell (p := ⟨w.heap.size, 1, none⟩) (Nat.le_refl _) _
 have HZ : FormS D tx fm w (.returned (.agg #[.func (.func f1) #[] c1, .func (.func f2) #[] c2])) ((w1.setCell ⟨w.heap.size, 0, none⟩ (.func (.func f1) #[] c1)).setCell ⟨w.heap.size, 1, none⟩ (.func (.func f2) #[] c2)) :=
  ⟨_, f1, c1, f2, c2, rfl, fun k hk => ⟨by omega, by simp; omega⟩, (ht1.set (.inr rfl) _).set (.inr rfl) _, (hf1.set (.inr rfl) _).set (.inr rfl) _, hbz⟩
 clear hs1 hs0 ht1 hf1 hbz
 go_wp2
 exact bodyPost_ret (v := .agg #[.func (.func f1) #[] c1, .func (.func f2) #[] c2]) (by simp [results, Tryz.results78, go_sem, r0, r1, x0, x1]) rfl HZ
theorem run_eqIn_func (d : Nat) (W : World) (fn : Fn) (a b : Array Value) : (Op.equalIn (d + 1) 101 (.func fn a b) .nilFunc).run Tryz.prog W = .ok false W := by
 have hu := run_underlying Tryz.underlying101
 unfold Op.equalIn
 simp [go_sem, hu]
theorem run_funcEq (W : World) (fn : Fn) (a b : Array Value) : (binOp .eql 101 (.func fn a b) .nilFunc).run Tryz.prog W = .ok (.bool false) W := by
 have h := run_eqIn_func 9999 W fn a b
 simp [binOp, Op.equal, go_sem, show Op.maxDepth = 9999 + 1 from rfl, h]
theorem form_box (w : World) (a b : Value) (t : TypeId) : (w.alloc (.cells #[a, b] t)).cell? ⟨w.heap.size, 0, none⟩ = some a ∧ (w.alloc (.cells #[a, b] t)).cell? ⟨w.heap.size, 1, none⟩ = some b :=
 have h := heap_alloc_new w (.cells #[a, b] t)
 ⟨cell_of_row _ _ 0 _ _ _ h, cell_of_row _ _ 1 _ _ _ h⟩
theorem right_some (D : Nat) (tx : Tx) (fm : Fm) (T : Nd) (A : Option Addr) (c : Nat) (K : Option Addr) (d : Nat) (w : World) (hD : T.dep ≤ D + 1) (hW : T.weight ≤ 1048576) (hN : NodeAt w T A c K d) (HS : ∀ W, Below w.heap.size w W → Calls Tryz.prog 78 #[.int .i64 T.kind] W (FormS D tx fm W)) (t n k : Bool) (ht : tx.ev T.text = t) (hn : (if T.kind = 32 then numB T else noNumB T) = n) (hk : fm.ev Nd.right T = k) :
  Calls Tryz.prog 42 #[ndV T A c K d] w fun e w' => e = .returned (.bool (t && n && k)) ∧ Below w.heap.size w w' := by
 have htx : T.text.size ≤ 1048576 := by have := T.weight_eq; omega
 have HS := Lh HS
 have HTx := Lh ht
 have HKx := Lh hk
 have HN := Lh hN
 have HD := Lh hD
 have HW := Lh hW
 have HL := Lh htx
 have HNo := Lh (fun W (hb : Below w.heap.size w W) => by
  have := tNoNum_ok T A c K d W (hN.later hb); unfold ndV at this
  exact this)
 have HNu := Lh (fun W (hb : Below w.heap.size w W) => tNumber_ok T.neg A c T.mag W (hN.parts.2.2.1.later hb) hN.parts.1 hN.parts.2.1)
 obtain ⟨hm1, hm2, hrm, hw32, hk1, hk2, hk64, ha64, hts, hKs⟩ := hN.parts
 unfold maxLen at hm2 hk2 hts
 obtain ⟨hk64a, hk64b⟩ := hk64
 obtain ⟨ha64a, ha64b⟩ := ha64
 have hb1 := (Below.refl w.heap.size w).alloc (Nat.le_refl _) (.cells #[.int .i64 T.kind, .int .i64 T.pos, .string T.text, .bool T.neg, .slice A T.mag.length c, .slice K T.kids.length d] 29)
 obtain ⟨c0, c1, c2, c3, c4, c5⟩ := (cellsN_new w T A c K d 29).box
 have hEq := run_funcEq
 have HB1 := Lh hb1
 clear hKs hN hD hW ht hk htx
 unfold ndV
 have hsz1 : w.heap.size < (w.alloc (.cells #[.int .i64 T.kind, .int .i64 T.pos, .string T.text, .bool T.neg, .slice A T.mag.length c, .slice K T.kids.length d] 29)).heap.size := by simp
 cases t
 ·go_enter Tryz.func42, Tryz.ntmps42
  go_wp2_with (first | (go_at_call 78; refine (HS.out _ hb1).mono ?_; rintro e w3 ⟨Q, f1, x1, f2, x2, rfl, hq, htq, hsq, hb3⟩; obtain ⟨p0, p1, p2, p3, p4, p5⟩ := cl6 hb3 c0 c1 c2 c3 c4 c5; have hl3 := blt p0; have hb4 := (Below.refl w3.heap.size w3).alloc (Nat.le_refl _) (.cells #[.func (.func f1) #[] x1, .func (.func f2) #[] x2] 103); have htq4 := htq.later hb4; have hsq4 := hsq.later hb4; obtain ⟨F0, F1⟩ := form_box w3 (.func (.func f1) #[] x1) (.func (.func f2) #[] x2) 103; obtain ⟨q0, q1, q2, q3, q4, q5⟩ := cl6 hb4 p0 p1 p2 p3 p4 p5; have hw3 := hb1.trans (hb3.mono hb1.size); have hw4 := hw3.trans (hb4.mono hw3.size); obtain ⟨f1', x1', e1, hr1, ht1⟩ := htq4; injection e1 with e1 e2 e3; injection e1 with e1; subst e1 e3; have HT1 := ht1 _ (KeepsQ.below (Below.refl _ _)) T.text HL.out; rw [HTx.out] at HT1; have HT1 := Lh HT1; obtain ⟨f2', x2', e1, hr2, hs2⟩ := hsq4; injection e1 with e1 e2 e3; injection e1 with e1; subst e1 e3; have HS2 := Lh hs2; clear ht1 hs2 htq hsq) | (with_reducible refine HT1.out.mono ?_; rintro e w5 ⟨rfl, hb5⟩; obtain ⟨G0, G1⟩ := cl2 hb5 F0 F1; have hgl := blt G0; obtain ⟨r0, r1, r2, r3, r4, r5⟩ := cl6 hb5 q0 q1 q2 q3 q4 q5; have hl5 := blt r0; have hw5 := hw4.trans (hb5.mono hw4.size)))
  go_ret; exact ⟨rfl, hw5⟩
 ·by_cases h32 : T.kind = 32
  ·have e1 : (T.kind == 32) = true := by simpa using h32
   rw [if_pos h32] at hn; have HNB := Lh (show numL T.neg T.mag = n from hn); clear h32 hn
   cases n
   ·go_enter Tryz.func42, Tryz.ntmps42
    go_wp2_with (first | (go_at_call 78; refine (HS.out _ hb1).mono ?_; rintro e w3 ⟨Q, f1, x1, f2, x2, rfl, hq, htq, hsq, hb3⟩; obtain ⟨p0, p1, p2, p3, p4, p5⟩ := cl6 hb3 c0 c1 c2 c3 c4 c5; have hl3 := blt p0; have hb4 := (Below.refl w3.heap.size w3).alloc (Nat.le_refl _) (.cells #[.func (.func f1) #[] x1, .func (.func f2) #[] x2] 103); have htq4 := htq.later hb4; have hsq4 := hsq.later hb4; obtain ⟨F0, F1⟩ := form_box w3 (.func (.func f1) #[] x1) (.func (.func f2) #[] x2) 103; obtain ⟨q0, q1, q2, q3, q4, q5⟩ := cl6 hb4 p0 p1 p2 p3 p4 p5; have hw3 := hb1.trans (hb3.mono hb1.size); have hw4 := hw3.trans (hb4.mono hw3.size); obtain ⟨f1', x1', e1, hr1, ht1⟩ := htq4; injection e1 with e1 e2 e3; injection e1 with e1; subst e1 e3; have HT1 := ht1 _ (KeepsQ.below (Below.refl _ _)) T.text HL.out; rw [HTx.out] at HT1; have HT1 := Lh HT1; obtain ⟨f2', x2', e1, hr2, hs2⟩ := hsq4; injection e1 with e1 e2 e3; injection e1 with e1; subst e1 e3; have HS2 := Lh hs2; clear ht1 hs2 htq hsq) | (with_reducible refine HT1.out.mono ?_; rintro e w5 ⟨rfl, hb5⟩; obtain ⟨G0, G1⟩ := cl2 hb5 F0 F1; have hgl := blt G0; obtain ⟨r0, r1, r2, r3, r4, r5⟩ := cl6 hb5 q0 q1 q2 q3 q4 q5; have hl5 := blt r0; have hw5 := hw4.trans (hb5.mono hw4.size)) | (go_at_call 79; refine (HNu.out _ hw5).mono ?_; rintro e w6 ⟨he6, hb6⟩; rw [HNB.out] at he6; subst he6; have J1 := cLt hb6 G1; have hjl := blt J1; obtain ⟨s0, s1, s2, s3, s4, s5⟩ := cl6 hb6 r0 r1 r2 r3 r4 r5; have hl6 := blt s0; have hw6 := hw5.trans (hb6.mono hw5.size); have hI := HS2.out w6 (KeepsQ.below (hb5.trans (hb6.mono hb5.size))) T A c K d HD.out HW.out (HN.out.later hw6); rw [HKx.out] at hI; unfold ndV at hI; have HI := Lh hI; clear hI))
    go_ret; exact ⟨rfl, hw6⟩
   ·cases k
    ·exact lv2
    ·exact lv2
  ·have e1 : (T.kind == 32) = false := by simpa using h32
   rw [if_neg h32] at hn; have HNB := Lh (show _ = n from hn); clear h32 hn
   cases n
   ·go_enter Tryz.func42, Tryz.ntmps42
    go_wp2_with (first | (go_at_call 78; refine (HS.out _ hb1).mono ?_; rintro e w3 ⟨Q, f1, x1, f2, x2, rfl, hq, htq, hsq, hb3⟩; obtain ⟨p0, p1, p2, p3, p4, p5⟩ := cl6 hb3 c0 c1 c2 c3 c4 c5; have hl3 := blt p0; have hb4 := (Below.refl w3.heap.size w3).alloc (Nat.le_refl _) (.cells #[.func (.func f1) #[] x1, .func (.func f2) #[] x2] 103); have htq4 := htq.later hb4; have hsq4 := hsq.later hb4; obtain ⟨F0, F1⟩ := form_box w3 (.func (.func f1) #[] x1) (.func (.func f2) #[] x2) 103; obtain ⟨q0, q1, q2, q3, q4, q5⟩ := cl6 hb4 p0 p1 p2 p3 p4 p5; have hw3 := hb1.trans (hb3.mono hb1.size); have hw4 := hw3.trans (hb4.mono hw3.size); obtain ⟨f1', x1', e1, hr1, ht1⟩ := htq4; injection e1 with e1 e2 e3; injection e1 with e1; subst e1 e3; have HT1 := ht1 _ (KeepsQ.below (Below.refl _ _)) T.text HL.out; rw [HTx.out] at HT1; have HT1 := Lh HT1; obtain ⟨f2', x2', e1, hr2, hs2⟩ := hsq4; injection e1 with e1 e2 e3; injection e1 with e1; subst e1 e3; have HS2 := Lh hs2; clear ht1 hs2 htq hsq) | (with_reducible refine HT1.out.mono ?_; rintro e w5 ⟨rfl, hb5⟩; obtain ⟨G0, G1⟩ := cl2 hb5 F0 F1; have hgl := blt G0; obtain ⟨r0, r1, r2, r3, r4, r5⟩ := cl6 hb5 q0 q1 q2 q3 q4 q5; have hl5 := blt r0; have hw5 := hw4.trans (hb5.mono hw4.size)) | (go_at_call 80; refine (HNo.out _ hw5).mono ?_; rintro e w6 ⟨he6, hb6⟩; rw [HNB.out] at he6; subst he6; have J1 := cLt hb6 G1; have hjl := blt J1; obtain ⟨s0, s1, s2, s3, s4, s5⟩ := cl6 hb6 r0 r1 r2 r3 r4 r5; have hl6 := blt s0; have hw6 := hw5.trans (hb6.mono hw5.size); have hI := HS2.out w6 (KeepsQ.below (hb5.trans (hb6.mono hb5.size))) T A c K d HD.out HW.out (HN.out.later hw6); rw [HKx.out] at hI; unfold ndV at hI; have HI := Lh hI; clear hI))
    go_ret; exact ⟨rfl, hw6⟩
   ·cases k
    ·exact lv3
    ·exact lv3
theorem formsS (D : Nat) (hRi : RightOk D) (k : Int) (hk : k = 1 ∨ k = 2 ∨ k = 4 ∨ k = 31) (tx : Tx) (fm : Fm) (w : World) (hT : Lib.Utf8Tabs 0 1 w) (h : formOf k = some (tx, fm)) : Calls Tryz.prog 78 #[.int .i64 k] w (FormS D tx fm w) := by
 rcases hk with rfl | rfl | rfl | rfl
 ·cases h
  exact (fm1 D hRi w w w.heap.size hT (Below.refl _ _) (Nat.le_refl _) (Nat.le_refl _)).mono fun e w' h => h.toS
 ·cases h
  exact (fm2 D hRi w w w.heap.size hT (Below.refl _ _) (Nat.le_refl _) (Nat.le_refl _)).mono fun e w' h => h.toS
 ·cases h
  exact (fm4 D hRi w w w.heap.size hT (Below.refl _ _) (Nat.le_refl _) (Nat.le_refl _)).mono fun e w' h => h.toS
 ·cases h
  refine stmt_expr D _ _ 31 w (fun W hb => fm31 D hRi w W w.heap.size hT hb (Nat.le_refl _) hb.size) ?_ ?_ ?_ ?_ ?_ ?_ ?_ ?_ ?_ ?_ ?_ ?_ ?_ ?_ ?_ ?_ ?_ ?_ ?_ ?_ ?_ ?_ ?_ <;> rfl
theorem right_okS : ∀ D, D ≤ 1000000 → RightOk D := by
 intro D
 induction D with
 | zero => intro _ T A c K d W hD; rw [T.dep_eq] at hD; omega
 | succ D ih =>
  intro hDD T A c K d W hD hW hN hT; have hs := Nd.smk_kind (Nd.dep_sm hD hDD)
  cases hf : formOf T.kind with
  | none => rcases hs with h | h | h | h <;> rw [h] at hf <;> cases hf
  | some x =>
   obtain ⟨tx, fm⟩ := x; have := right_some D tx fm T A c K d W hD hW hN (fun W' hb => formsS D (ih lq17) T.kind hs tx fm W' (Utf8Tabs_below hT hb) hf) _ _ _ rfl rfl rfl; rw [right_eq, hf]; exact this
end
end Go.Proofs.YtjndbcnmmnkilaaGreatDoor
