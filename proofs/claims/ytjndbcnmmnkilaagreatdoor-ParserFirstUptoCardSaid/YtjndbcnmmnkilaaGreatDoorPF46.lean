/- Joined by a program: Wr2, Shp7, Fq, Q2, Num, Wr3a, Wr3c. -/
import Derived.Test.YtjndbcnmmnkilaaGreatDoorPF45
namespace Go.Proofs.YtjndbcnmmnkilaaGreatDoor
set_option linter.unusedVariables false
set_option linter.unusedSimpArgs false
set_option maxRecDepth 1000000
set_option maxHeartbeats 16000000
section
open Go.RowKit
open List (length_append length_cons length_nil length_singleton)
def WrT (B X dep : Nat) (l : List UInt8) (w : World) : Prop := Wr B X dep (Lib.byteCells l) w
section
variable {B X dep : Nat} {l : List UInt8} {w : World} (h : WrT B X dep l w)
include B X dep l w h
theorem WrT.lt : X < w.heap.size := Wr.lt h
theorem WrT.le : B ≤ X := Wr.le h
theorem WrT.alloc (o : Obj) : WrT B X dep l (w.alloc o) := Wr.alloc h o
end
theorem WrT.later {B X dep : Nat} {l : List UInt8} {w w' : World} (h : WrT B X dep l w) (hb : Below w.heap.size w w') : WrT B X dep l w' := Wr.later h hb
theorem WrT.eq {B X dep : Nat} {l l' : List UInt8} {w : World} (h : WrT B X dep l w) (e : l = l') : WrT B X dep l' w := e ▸ h
theorem strCells_flat (L : List ByteArray) : L.flatMap Lib.strCells = Lib.byteCells (L.flatMap fun s => s.data.toList) := by
 induction L with
 | nil => rfl
 | cons a r ih =>
  rw [List.flatMap_cons, List.flatMap_cons, ih, byteCells_append]
  rfl
theorem totalS_flat (L : List ByteArray) : totalS L = (L.flatMap fun s => s.data.toList).length := by
 induction L with
 | nil => rfl
 | cons a r ih => rw [totalS, List.flatMap_cons, length_append, ih]; simp
theorem wSayT_ok (B X dep : Nat) (l p : List UInt8) (L : List ByteArray) (n g : Nat) (w : World) (h : WrT B X dep l w) (hn : L.length = n) (hgX : X < g) (hg : w.heap[g]? = some (.cells (L.map Value.string).toArray 9 (0, 0))) (hp : (L.flatMap fun s => s.data.toList) = p) (hnm : n ≤ 1000) (hlen : l.length + p.length ≤ 1000000000000) (hBw : B ≤ w.heap.size) :
  Calls Tryz.prog 159 #[.pointer (some ⟨X, 0, none⟩), .slice (some ⟨g, 0, none⟩) n n] w fun e w' => e = .returned (.tuple #[]) ∧ WrT B X dep (l ++ p) w' ∧ WK B X w w' := by
 refine (wSay_ok B X dep _ L n n _ w h hn (.inr ⟨g, rfl, by omega, hg⟩) (Nat.le_refl _) lq13 (by rw [Lib.byteCells_length, totalS_flat, hp]; omega) hBw).mono ?_
 rintro e w' ⟨rfl, hw, hk⟩
 refine ⟨rfl, ?_, hk⟩
 unfold WrT
 rw [byteCells_append, ← hp, ← strCells_flat]
 exact hw
theorem box_keep {B X n : Nat} {w w' : World} {cs : Array Value} (hk : WK B X w w') (h : w.heap[n]? = some (.cells cs 29 (0, 0))) (hn : X < n) : w'.heap[n]? = some (.cells cs 29 (0, 0)) :=
 hk.k n _ h (fun e => by injection e; omega) (fun c fz e => by injection e with _ e _; exact absurd e lq16)
theorem cells_box {w : World} {n : Nat} {T : Nd} {A : Option Addr} {c : Nat} {K : Option Addr} {d : Nat} {t : TypeId} (h : w.heap[n]? = some (.cells #[.int .i64 T.kind, .int .i64 T.pos, .string T.text, .bool T.neg, .slice A T.mag.length c, .slice K T.kids.length d] t (0, 0))) : CellsN w n 0 T A c K d :=
 ⟨cell_of_row _ _ 0 _ _ _ h, cell_of_row _ _ 1 _ _ _ h, cell_of_row _ _ 2 _ _ _ h, cell_of_row _ _ 3 _ _ _ h, cell_of_row _ _ 4 _ _ _ h, cell_of_row _ _ 5 _ _ _ h⟩
def FSays (f : FuncId) (w0 : World) (X dep : Nat) (tf : Nd → List UInt8) (t : Nd) : Prop :=
 ∀ (A : Option Addr) (c : Nat) (K : Option Addr) (d : Nat) (l : List UInt8) (W : World), NodeAt w0 t A c K d → Below w0.heap.size w0 W → WrT w0.heap.size X dep l W → l.length + (tf t).length ≤ 1000000000000 →
  Calls Tryz.prog f #[.pointer (some ⟨X, 0, none⟩), ndV t A c K d] W fun e w' => e = .returned (.tuple #[]) ∧ WrT w0.heap.size X dep (l ++ tf t) w' ∧ WK w0.heap.size X W w'
theorem sep_take (s : List UInt8) {L : List (List UInt8)} {k : Nat} {x : List UInt8} (h : L[k]? = some x) : sepL s (L.take (k + 1)) = sepL s (L.take k) ++ ((if k = 0 then [] else s) ++ x) := by
 cases L with
 | nil => simp at h
 | cons a r =>
  cases k with
  | zero => simp at h; subst h; simp [sepL]
  | succ k =>
   rw [List.getElem?_cons_succ] at h; obtain ⟨hk, rfl⟩ := List.getElem?_eq_some_iff.1 h; rw [List.take_succ_cons, List.take_succ_cons, sepL, sepL, List.take_succ_eq_append_getElem hk, List.flatMap_append]
   simp
theorem sep_le (s : List UInt8) (L : List (List UInt8)) (k : Nat) : (sepL s (L.take k)).length ≤ (sepL s L).length := by
 cases L with
 | nil => simp
 | cons a r =>
  cases k with
  | zero => simp [sepL]
  | succ k =>
   rw [List.take_succ_cons, sepL, sepL, length_append, length_append]; have : r = r.take k ++ r.drop k := (List.take_append_drop k r).symm; have h2 : (r.flatMap fun x => s ++ x).length = ((r.take k).flatMap fun x => s ++ x).length + ((r.drop k).flatMap fun x => s ++ x).length := by
    rw [← length_append, ← List.flatMap_append, List.take_append_drop]
   omega
theorem wList_ok (f : FuncId) (hrn : ∀ args W, (callFunc f args).run Tryz.prog W = .ok (.enter f args) W) (w0 : World) (X dep : Nat) (tf : Nd → List UInt8) (l0 : List UInt8) (l : List Nd) (n : Nat) (K : Option Addr) (d : Nat) (w : World) (hn : l.length = n) (hl : KidsAt w0 l K 0) (hf : ∀ t ∈ l, FSays f w0 X dep tf t) (hnd : n ≤ d) (hd : d ≤ maxLen) (hb0 : Below w0.heap.size w0 w) (h : WrT w0.heap.size X dep l0 w) (hlen : l0.length + (sepL com (l.map tf)).length ≤ 1000000000000) :
  Calls Tryz.prog 160 #[.pointer (some ⟨X, 0, none⟩), .slice K n d, .func (.func f) #[.pointer (some ⟨X, 0, none⟩)] #[]] w fun e w' => e = .returned (.tuple #[]) ∧ WrT w0.heap.size X dep (l0 ++ sepL com (l.map tf)) w' ∧ WK w0.heap.size X w w' := by
 unfold maxLen at hd
 have HK := Lh hl
 have HNn := Lh hn
 have HF := Lh hf
 have HB := Lh hb0
 have H := Lh h
 have HLen := Lh hlen
 clear hl hn hf hb0 h hlen
 go_enter Tryz.func160, Tryz.ntmps160
 go_wp2_with fail
 go_loopw [10] (fun iv wr => ∃ k : Nat, iv = .int .i64 k ∧ k ≤ n ∧ Hid (WrT w0.heap.size X dep (l0 ++ sepL com ((l.map tf).take k)) wr) ∧ Hid (WK w0.heap.size X w wr)) (fun iv _ => n - (intOf iv).toNat)
 case atStart => exact ⟨0, rfl, Nat.zero_le _, Lh (by simpa [sepL] using H.out), Lh (WK.refl _ _ _)⟩
 case round =>
  obtain ⟨k, rfl, hk, hR, hbr⟩ := hrel
  by_cases hkl : k < n
  ·have o1 : decide ((k : Int) < (n : Int)) = true := dTo; have o2 : decide (k < n) = true := dTr hkl; obtain ⟨t, ht⟩ : ∃ t, l[k]? = some t := ⟨_, List.getElem?_eq_getElem (by rw [HNn.out]; exact hkl)⟩; obtain ⟨b, off, A', c', K', d', hKe, hC, hNt⟩ := HK.out.kid ht; rw [Nat.zero_add] at hC; subst hKe; have hbw : Below w0.heap.size w0 wr := HB.out.trans hbr.out.b; obtain ⟨n0, n1, n2, n3, n4, n5⟩ := hC.later hbw; have hbn : b < wr.heap.size := blt n0; have hXw : X < wr.heap.size := hR.out.lt; have hmt : (l.map tf)[k]? = some (tf t) := by rw [List.getElem?_map, ht]; rfl
   have hst := sep_take com hmt; have hle := sep_le com (l.map tf) (k + 1); have hsz := HLen.out; have hbt := (Below.refl wr.heap.size wr).alloc (Nat.le_refl _) (.cells #[.int .i64 t.kind, .int .i64 t.pos, .string t.text, .bool t.neg, .slice A' t.mag.length c', .slice K' t.kids.length d'] 29); have hkt : WK w0.heap.size X wr (wr.alloc (.cells #[.int .i64 t.kind, .int .i64 t.pos, .string t.text, .bool t.neg, .slice A' t.mag.length c', .slice K' t.kids.length d'] 29)) := (WK.refl _ _ _).alloc hbw.size _
   have hRt : WrT w0.heap.size X dep (l0 ++ sepL com ((l.map tf).take k)) (wr.alloc (.cells #[.int .i64 t.kind, .int .i64 t.pos, .string t.text, .bool t.neg, .slice A' t.mag.length c', .slice K' t.kids.length d'] 29)) := hR.out.alloc _; have hbox := heap_alloc_new wr (.cells #[.int .i64 t.kind, .int .i64 t.pos, .string t.text, .bool t.neg, .slice A' t.mag.length c', .slice K' t.kids.length d'] 29); obtain ⟨z0, z1, z2, z3, z4, z5⟩ := (cells_box hbox).box; have hFt := HF.out t (mog ht)
   by_cases h0 : k = 0
   ·have q0 : decide ((0 : Int) < (k : Int)) = false := dFo; have q1 : decide (0 < k) = false := dFo; rw [if_pos h0, List.nil_append] at hst; have hI := hFt A' c' K' d' _ _ hNt (hbw.trans (hbt.mono hbw.size)) hRt (by rw [hst, length_append] at hle; rw [length_append]; omega); unfold ndV at hI; rw [List.append_assoc, ← hst] at hI; have HI := Lh hI; have HKT := Lh hkt; clear hI hC hNt ht hmt hst hle hsz hbt hkt hRt hbox hFt hbw h0; go_wp2_with (with_reducible refine HI.out.mono ?_; rintro e w3 ⟨rfl, hw3, hk3⟩)
    go_roundw
    case rel => exact ⟨k + 1, by go_num, by omega, Lh hw3, Lh (hbr.out.trans (HKT.out.trans hk3))⟩
    case measure => simp [intOf]; omega
   ·have q0 : decide ((0 : Int) < (k : Int)) = true := dTo; have q1 : decide (0 < k) = true := dTo; rw [if_neg h0] at hst; have hlt2 : (l0 ++ sepL com ((l.map tf).take k)).length + com.length + (tf t).length ≤ 1000000000000 := by rw [hst, length_append, length_append] at hle; rw [length_append]; omega
    have hRt2 := hRt.alloc (.cells #[.string { data := #[44, 32] }] 9); have hkt2 := hkt.alloc (Nat.le_trans hbw.size hkt.b.size) (.cells #[.string { data := #[44, 32] }] 9); have hsg : (wr.alloc (.cells #[.int .i64 t.kind, .int .i64 t.pos, .string t.text, .bool t.neg, .slice A' t.mag.length c', .slice K' t.kids.length d'] 29)).heap.size = wr.heap.size + 1 := by simp
    have hS := wSayT_ok w0.heap.size X dep _ com [⟨#[44, 32]⟩] 1 (wr.heap.size + 1) _ hRt2 rfl lq17 (by rw [← hsg]; exact heap_alloc_new _ _) rfl lq16 lq17 (Nat.le_trans hbw.size hkt2.b.size); have HS := Lh hS
    have hbox2 : ((wr.alloc (.cells #[.int .i64 t.kind, .int .i64 t.pos, .string t.text, .bool t.neg, .slice A' t.mag.length c', .slice K' t.kids.length d'] 29)).alloc (.cells #[.string { data := #[44, 32] }] 9)).heap[wr.heap.size]? = some (.cells #[.int .i64 t.kind, .int .i64 t.pos, .string t.text, .bool t.neg, .slice A' t.mag.length c', .slice K' t.kids.length d'] 29 (0, 0)) := (Lib.alloc_old _ _ _ lq18).trans hbox; have HBX := Lh hbox2; have HFt := Lh hFt; have HNt := Lh hNt; have HBW := Lh hbw; have HKT := Lh hkt2; have HST := Lh hst; have HLT := Lh hlt2
    clear hS hC hNt ht hmt hst hle hsz hbt hkt hRt hbox hFt hbw h0 hRt2 hkt2 hbox2 hlt2 hsg; go_wp2_with (first | (go_at_call 159; refine HS.out.mono ?_; rintro e w2 ⟨rfl, hw2, hk2⟩; have hbx := box_keep hk2 HBX.out hXw; obtain ⟨y0, y1, y2, y3, y4, y5⟩ := (cells_box hbx).box; have hyl := blt y0; have hI := HFt.out A' c' K' d' _ w2 HNt.out (HBW.out.trans (HKT.out.trans hk2).b) hw2 (by have := HLT.out; rw [length_append]; omega); unfold ndV at hI; have HI := Lh hI; clear hI) | (with_reducible refine HI.out.mono ?_; rintro e w3 ⟨rfl, hw3, hk3⟩))
    go_roundw
    case rel => exact ⟨k + 1, by go_num, by omega, Lh (hw3.eq (by rw [HST.out]; simp)), Lh (hbr.out.trans ((HKT.out.trans hk2).trans hk3))⟩
    case measure => simp [intOf]; omega
  ·have o1 : decide ((k : Int) < (n : Int)) = false := dFo; have o2 : decide (k < n) = false := dFa hkl; have hR2 := hR.out; rw [List.take_of_length_le (by rw [List.length_map]; have := HNn.out; omega)] at hR2; have HR2 := Lh hR2; clear hR2; go_wp2_with fail
   go_end0
   exact ⟨rfl, HR2.out, hbr.out⟩
theorem ShapeOk.less {D D' : Nat} {w : World} {v : Value} {p : Nd → Bool} (h : ShapeOk D w v p) (hd : D' ≤ D) : ShapeOk D' w v p := by
 obtain ⟨f, caps, hv, hrn, hf⟩ := h
 exact ⟨f, caps, hv, hrn, fun W hW T A c K d hD => hf W hW T A c K d lq17⟩
theorem ShapeOk.eq {D : Nat} {w : World} {v : Value} {p q : Nd → Bool} (h : ShapeOk D w v p) (hpq : ∀ T, p T = q T) : ShapeOk D w v q := by
 have : p = q := funext hpq
 exact this ▸ h
structure KeepsQ (Q : Nat → Prop) (w w' : World) : Prop where
 os : w'.os = w.os
 tape : w'.tape = w.tape
 output : w'.output = w.output
 size : w.heap.size ≤ w'.heap.size
 block : ∀ k, k < w.heap.size → ¬ Q k → w'.heap[k]? = w.heap[k]?
section
variable {Q : Nat → Prop} {w w' w'' : World}
theorem KeepsQ.below (h : Below w.heap.size w w') : KeepsQ Q w w' := ⟨h.os, h.tape, h.output, h.size, fun k hk _ => h.block k hk⟩
theorem KeepsQ.trans (h : KeepsQ Q w w') (h' : KeepsQ Q w' w'') : KeepsQ Q w w'' := ⟨h'.os.trans h.os, h'.tape.trans h.tape, h'.output.trans h.output, Nat.le_trans h.size h'.size, fun k hk hq => (h'.block k (Nat.lt_of_lt_of_le hk h.size) hq).trans (h.block k hk hq)⟩
theorem KeepsQ.low (h : KeepsQ Q w w') {B : Nat} (hB : B ≤ w.heap.size) (hQ : ∀ k, Q k → B ≤ k) : Below B w w' := ⟨h.os, h.tape, h.output, h.size, fun k hk => h.block k (Nat.lt_of_lt_of_le hk hB) (fun x => absurd (hQ k x) lq17)⟩
theorem KeepsQ.set {R i : Nat} (hR : Q R) (u : Value) (h : KeepsQ Q (w.setCell ⟨R, i, none⟩ u) w') : KeepsQ Q w w' := by
 have hb := (Below.refl R w).setCell (p := ⟨R, i, none⟩) (Nat.le_refl _) u
 refine ⟨h.os.trans hb.os, h.tape.trans hb.tape, h.output.trans hb.output, by simpa using h.size, fun k hk hq => ?_⟩
 rw [h.block k (by simpa using hk) hq]
 exact Below.heap_setCell _ _ _ _ (fun e => hq (by subst e; exact hR))
theorem cellQ {v : Value} {X i : Nat} (h : KeepsQ Q w w') (hX : ¬ Q X) (hc : w.cell? ⟨X, i, Option.none⟩ = some v) : w'.cell? ⟨X, i, Option.none⟩ = some v := by
 have hl := blt hc
 have hb := h.block X hl hX
 unfold World.cell? at hc ⊢
 rw [hb]
 exact hc
end
def TabsQ (Q : Nat → Prop) (w : World) : Prop := ∀ W, KeepsQ Q w W → Lib.Utf8Tabs 0 1 W
def ShapeOkQ (Q : Nat → Prop) (D : Nat) (w : World) (v : Value) (p : Nd → Bool) : Prop :=
 ∃ f caps, v = .func (.func f) #[] caps ∧ (∀ args W, (callFunc f args).run Tryz.prog W = .ok (.enter f args) W) ∧ ∀ W, KeepsQ Q w W → ∀ (T : Nd) (A : Option Addr) (c : Nat) (K : Option Addr) (d : Nat), T.dep ≤ D → T.weight ≤ 1048576 → NodeAt W T A c K d →
  Calls Tryz.prog f (#[ndV T A c K d] ++ caps) W fun e w' => e = .returned (.bool (p T)) ∧ Below W.heap.size W w'
def TextOkQ (Q : Nat → Prop) (w : World) (v : Value) (q : ByteArray → Bool) : Prop :=
 ∃ f caps, v = .func (.func f) #[] caps ∧ (∀ args W, (callFunc f args).run Tryz.prog W = .ok (.enter f args) W) ∧ ∀ W, KeepsQ Q w W → ∀ s : ByteArray, s.size ≤ 1048576 →
  Calls Tryz.prog f (#[.string s] ++ caps) W fun e w' => e = .returned (.bool (q s)) ∧ Below W.heap.size W w'
def ShapesAtQ (Q : Nat → Prop) (D : Nat) (w : World) (A : Option Addr) (L : List (Nd → Bool)) : Prop := ∀ i p, L[i]? = some p → ∃ b off v, A = some ⟨b, off, none⟩ ∧ ¬ Q b ∧ w.cell? ⟨b, off + i, none⟩ = some v ∧ ShapeOkQ Q D w v p
section
variable {Q : Nat → Prop} {D : Nat} {w w' : World} {v : Value} {p : Nd → Bool} {q : ByteArray → Bool} {A : Option Addr} {L : List (Nd → Bool)}
theorem TabsQ.lat (h : TabsQ Q w) (hb : KeepsQ Q w w') : TabsQ Q w' := fun W hW => h W (hb.trans hW)
theorem tabsQ_of {w0 : World} (hT : Lib.Utf8Tabs 0 1 w0) (hb : Below w0.heap.size w0 w) (hQ : ∀ k, Q k → w0.heap.size ≤ k) : TabsQ Q w := fun W hW => Utf8Tabs_below hT (hb.trans (hW.low hb.size hQ))
theorem ShapeOkQ.lat (h : ShapeOkQ Q D w v p) (hb : KeepsQ Q w w') : ShapeOkQ Q D w' v p := by
 obtain ⟨f, caps, hv, hrn, hf⟩ := h
 exact ⟨f, caps, hv, hrn, fun W hW => hf W (hb.trans hW)⟩
theorem ShapeOkQ.later (h : ShapeOkQ Q D w v p) (hb : Below w.heap.size w w') : ShapeOkQ Q D w' v p := h.lat (KeepsQ.below hb)
theorem ShapeOkQ.set (h : ShapeOkQ Q D w v p) {R i : Nat} (hR : Q R) (u : Value) : ShapeOkQ Q D (w.setCell ⟨R, i, none⟩ u) v p := by
 obtain ⟨f, caps, hv, hrn, hf⟩ := h
 exact ⟨f, caps, hv, hrn, fun W hW => hf W (KeepsQ.set hR u hW)⟩
theorem ShapeOkQ.plain (h : ShapeOkQ Q D w v p) : ShapeOk D w v p := by
 obtain ⟨f, caps, hv, hrn, hf⟩ := h
 exact ⟨f, caps, hv, hrn, fun W hW => hf W (KeepsQ.below hW)⟩
theorem ShapeOkQ.eq {p' : Nd → Bool} (h : ShapeOkQ Q D w v p) (hpq : ∀ T, p T = p' T) : ShapeOkQ Q D w v p' := by
 have : p = p' := funext hpq
 exact this ▸ h
theorem ShapeOkQ.less {D' : Nat} (h : ShapeOkQ Q D w v p) (hd : D' ≤ D) : ShapeOkQ Q D' w v p := by
 obtain ⟨f, caps, hv, hrn, hf⟩ := h
 exact ⟨f, caps, hv, hrn, fun W hW T A c K d hD => hf W hW T A c K d lq17⟩
theorem TextOkQ.lat (h : TextOkQ Q w v q) (hb : KeepsQ Q w w') : TextOkQ Q w' v q := by
 obtain ⟨f, caps, hv, hrn, hf⟩ := h
 exact ⟨f, caps, hv, hrn, fun W hW => hf W (hb.trans hW)⟩
theorem TextOkQ.later (h : TextOkQ Q w v q) (hb : Below w.heap.size w w') : TextOkQ Q w' v q := h.lat (KeepsQ.below hb)
theorem TextOkQ.set (h : TextOkQ Q w v q) {R i : Nat} (hR : Q R) (u : Value) : TextOkQ Q (w.setCell ⟨R, i, none⟩ u) v q := by
 obtain ⟨f, caps, hv, hrn, hf⟩ := h
 exact ⟨f, caps, hv, hrn, fun W hW => hf W (KeepsQ.set hR u hW)⟩
theorem ShapesAtQ.lat (h : ShapesAtQ Q D w A L) (hb : KeepsQ Q w w') : ShapesAtQ Q D w' A L := fun i p hi => by
 obtain ⟨b, off, v, hA, hq, hc, hs⟩ := h i p hi
 exact ⟨b, off, v, hA, hq, cellQ hb hq hc, hs.lat hb⟩
theorem ShapesAtQ.later (h : ShapesAtQ Q D w A L) (hb : Below w.heap.size w w') : ShapesAtQ Q D w' A L := h.lat (KeepsQ.below hb)
theorem ShapesAtQ.plain (h : ShapesAtQ Q D w A L) : ShapesAt D w A L := fun i p hi => by
 obtain ⟨b, off, v, hA, hq, hc, hs⟩ := h i p hi
 exact ⟨b, off, v, hA, hc, hs.plain⟩
end
theorem shapesQ_new {Q : Nat → Prop} (D : Nat) (w : World) (t : TypeId) (vs : List Value) (L : List (Nd → Bool)) (hQ : ∀ k, Q k → k < w.heap.size) (hlen : vs.length = L.length) (h : ∀ (i : Nat) (v : Value) (p : Nd → Bool), vs[i]? = some v → L[i]? = some p → ShapeOkQ Q D w v p) : ShapesAtQ Q D (w.alloc (.cells vs.toArray t)) (some ⟨w.heap.size, 0, none⟩) L := fun i p hi => by
 have hil : i < vs.length := by rw [hlen]; exact (List.getElem?_eq_some_iff.1 hi).1
 refine ⟨w.heap.size, 0, vs[i], rfl, fun x => absurd (hQ _ x) lq17, ?_, (h i _ p (List.getElem?_eq_getElem hil) hi).later ((Below.refl _ _).alloc (Nat.le_refl _) _)⟩
 rw [Nat.zero_add, cell_of_row _ _ i _ t (0, 0) (heap_alloc_new w _)]
 simp [hil]
theorem shapesQ_nil {Q : Nat → Prop} (D : Nat) (w : World) (A : Option Addr) : ShapesAtQ Q D w A [] := fun i p hi => by simp at hi
theorem shapesQ_one {Q : Nat → Prop} {D : Nat} {w : World} {v : Value} {p : Nd → Bool} (hQ : ∀ k, Q k → k < w.heap.size) (h : ShapeOkQ Q D w v p) (t : TypeId) : ShapesAtQ Q D (w.alloc (.cells #[v] t)) (some ⟨w.heap.size, 0, none⟩) [p] :=
 shapesQ_new D w t [v] [p] hQ rfl (fun (i : Nat) (v' : Value) (p' : Nd → Bool) h1 h2 => by
  cases i with
  | zero => simp at h1 h2; subst h1 h2; exact h
  | succ i => simp at h1)
theorem shapesQ_two {Q : Nat → Prop} {D : Nat} {w : World} {v v2 : Value} {p p2 : Nd → Bool} (hQ : ∀ k, Q k → k < w.heap.size) (h : ShapeOkQ Q D w v p) (h2 : ShapeOkQ Q D w v2 p2) (t : TypeId) : ShapesAtQ Q D (w.alloc (.cells #[v, v2] t)) (some ⟨w.heap.size, 0, none⟩) [p, p2] :=
 shapesQ_new D w t [v, v2] [p, p2] hQ rfl (fun (i : Nat) (v' : Value) (p' : Nd → Bool) h1 h3 => by
  rcases i with _ | _ | i
  ·simp at h1 h3; subst h1 h3; exact h
  ·simp at h1 h3; subst h1 h3; exact h2
  ·simp at h1)
section
variable {Q : Nat → Prop} {D : Nat} {w : World}
theorem kidsQ_ok (hQ : ∀ k, Q k → k < w.heap.size) (L : List (Nd → Bool)) (m : Nat) (A : Option Addr) (hm : L.length = m) (hL : ShapesAtQ Q D w A L) (hc : m ≤ maxLen) :
  Calls Tryz.prog 138 #[.slice A m m] w fun e w' => (∃ v, e = .returned v ∧ ShapeOkQ Q (D + 1) w' v fun T => rowB T.kids L) ∧ Below w.heap.size w w' := by
 have hb1 := (Below.refl w.heap.size w).alloc (Nat.le_refl _) (.cells #[.slice A m m] 140)
 have HS : ShapeOkQ Q (D + 1) (w.alloc (.cells #[.slice A m m] 140)) (.func (.func 208) #[] #[.pointer (some ⟨w.heap.size, 0, none⟩)]) fun T => rowB T.kids L :=
  ⟨_, _, rfl, run_call _ _ Tryz.func208 lq15 lq15, fun W hW T A2 c2 K d hD hWt hN => kids1_ok D L m m w.heap.size A W hm ((hL.later hb1).lat hW).plain (Nat.le_refl _) hc (cellQ hW (fun x => absurd (hQ _ x) lq17) (box_one w _ _)) T A2 c2 K d hD hWt hN⟩
 clear hL
 go_enter Tryz.func138, Tryz.ntmps138
 go_wp2
 go_ret
 exact ⟨⟨_, rfl, HS⟩, hb1⟩
theorem someQ_ok (hQ : ∀ k, Q k → k < w.heap.size) (v : Value) (p : Nd → Bool) (m : Nat) (hS : ShapeOkQ Q D w v p) (hm : m ≤ 10) :
  Calls Tryz.prog 140 #[.int .i64 m, v] w fun e w' => (∃ v', e = .returned v' ∧ ShapeOkQ Q (D + 1) w' v' fun T => decide (m ≤ T.kids.length) && T.kids.all p) ∧ Below w.heap.size w w' := by
 have hb1 := (Below.refl w.heap.size w).alloc (Nat.le_refl _) (.cells #[.int .i64 m] 3)
 have hb2 := hb1.alloc hb1.size (.cells #[v] 101)
 have hx := cLt ((Below.refl _ _).alloc (Nat.le_refl _) (.cells #[v] 101)) (box_one w (.int .i64 m) 3)
 have hy := box_one (w.alloc (.cells #[.int .i64 m] 3)) v 101
 rw [show (w.alloc (.cells #[.int .i64 m] 3)).heap.size = w.heap.size + 1 by simp] at hy
 have HS : ShapeOkQ Q (D + 1) ((w.alloc (.cells #[.int .i64 m] 3)).alloc (.cells #[v] 101)) (.func (.func 211) #[] #[.pointer (some ⟨w.heap.size, 0, none⟩), .pointer (some ⟨w.heap.size + 1, 0, none⟩)]) fun T => decide (m ≤ T.kids.length) && T.kids.all p :=
  ⟨_, _, rfl, run_call _ _ Tryz.func211 lq15 lq15, fun W hW T A2 c2 K d hD hWt hN => some1_ok D v p m w.heap.size (w.heap.size + 1) W ((hS.later hb2).lat hW).plain hm (cellQ hW (fun x => absurd (hQ _ x) lq17) hx) (cellQ hW (fun x => absurd (hQ _ x) lq17) hy) T A2 c2 K d hD hWt hN⟩
 obtain ⟨f, caps, hv, _⟩ := hS
 subst hv
 clear hx hy
 go_enter Tryz.func140, Tryz.ntmps140
 go_wp2
 go_ret
 exact ⟨⟨_, rfl, HS⟩, hb2⟩
theorem ofQ_ok (hRi : RightOk D) (hQ : ∀ k, Q k → k < w.heap.size) (hT : TabsQ Q w) (k : Int) : Calls Tryz.prog 139 #[.int .i64 k] w fun e w' => (∃ v, e = .returned v ∧ ShapeOkQ Q D w' v ((Sh.of k).ev Nd.right)) ∧ Below w.heap.size w w' := by
 have hb1 := (Below.refl w.heap.size w).alloc (Nat.le_refl _) (.cells #[.int .i64 k] 3)
 have HS : ShapeOkQ Q D (w.alloc (.cells #[.int .i64 k] 3)) (.func (.func 210) #[] #[.pointer (some ⟨w.heap.size, 0, none⟩)]) ((Sh.of k).ev Nd.right) :=
  ⟨_, _, rfl, run_call _ _ Tryz.func210 lq15 lq15, fun W hW T A c K d hD hWt hN => tOf1_ok k w.heap.size D hRi T A c K d W hD hWt hN (hT W ((KeepsQ.below hb1).trans hW)) (cellQ hW (fun x => absurd (hQ _ x) lq17) (box_one w _ _))⟩
 clear hT hRi
 go_enter Tryz.func139, Tryz.ntmps139
 go_wp2
 go_ret
 exact ⟨⟨_, rfl, HS⟩, hb1⟩
theorem textQ_ok (hQ : ∀ k, Q k → k < w.heap.size + 1) (L : List (List UInt8)) (m : Nat) (cs : Array Value) (t : TypeId) (hm : L.length = m) (h0 : 0 < m) (hm2 : m ≤ 1000) (hc : cs = (L.map fun l => Value.string ⟨l.toArray⟩).toArray) :
  Calls Tryz.prog 136 #[.slice (some ⟨w.heap.size + 1, 0, none⟩) m m] ((w.alloc (.cells #[.nilFunc, .nilFunc] 103)).alloc (.cells cs t)) fun e w' => (∃ v, e = .returned v ∧ TextOkQ Q w' v (Tx.words L).ev) ∧ Below ((w.alloc (.cells #[.nilFunc, .nilFunc] 103)).alloc (.cells cs t)).heap.size ((w.alloc (.cells #[.nilFunc, .nilFunc] 103)).alloc (.cells cs t)) w' := by
 have hL : StrsAt ((w.alloc (.cells #[.nilFunc, .nilFunc] 103)).alloc (.cells cs t)) (some ⟨w.heap.size + 1, 0, none⟩) (L.map fun l => ⟨l.toArray⟩) := by
  have := strsAt_new (w.alloc (.cells #[.nilFunc, .nilFunc] 103)) (L.map fun l => ⟨l.toArray⟩) t cs (by rw [hc, List.map_map]; rfl)
  simpa using this
 have hz : ((w.alloc (.cells #[.nilFunc, .nilFunc] 103)).alloc (.cells cs t)).heap.size = w.heap.size + 2 := by simp
 generalize (w.alloc (.cells #[.nilFunc, .nilFunc] 103)).alloc (.cells cs t) = w2 at *
 have hb1 := (Below.refl w2.heap.size w2).alloc (Nat.le_refl _) (.cells #[.slice (some ⟨w.heap.size + 1, 0, none⟩) m m] 127)
 have HS : TextOkQ Q (w2.alloc (.cells #[.slice (some ⟨w.heap.size + 1, 0, none⟩) m m] 127)) (.func (.func 206) #[] #[.pointer (some ⟨w2.heap.size, 0, none⟩)]) (Tx.words L).ev :=
  ⟨_, _, rfl, run_call _ _ Tryz.func206 lq15 lq15, fun W hW s _ => by
   have hst : StrsAt W (some ⟨w.heap.size + 1, 0, none⟩) (L.map fun l => ⟨l.toArray⟩) := fun i s hi => by
    obtain ⟨b, off, hA, hc⟩ := (hL.later hb1) i s hi
    refine ⟨b, off, hA, ?_⟩
    injection hA with hA
    injection hA with e1 e2
    subst e1 e2; exact cellQ hW (fun x => absurd (hQ _ x) lq17) hc
   have := text1_ok (L.map fun l => ⟨l.toArray⟩) m m w2.heap.size _ s W (by simpa using hm) h0 hst hm2 (cellQ hW (fun x => absurd (hQ _ x) lq17) (box_one w2 _ _)); rw [containsS_eq] at this
   exact this⟩
 rw [hz] at HS
 clear hL
 go_enter Tryz.func136, Tryz.ntmps136
 go_wp2
 go_ret
 exact ⟨⟨_, rfl, HS⟩, hb1⟩
theorem textQ_non : TextOkQ Q w (.func (.func 137) #[] #[]) Tx.non.ev :=
 ⟨_, _, rfl, run_call _ _ Tryz.func137 lq15 lq15, fun W _ s _ => noText_ok s W⟩
theorem textQ_name : TextOkQ Q w (.func (.func 148) #[] #[]) Tx.name.ev :=
 ⟨_, _, rfl, run_call _ _ Tryz.func148 lq15 lq15, fun W _ s hs => isName_ok s W lq17⟩
variable (hRi : RightOk D) (hT : TabsQ Q w)
include hRi hT
theorem qExpr : ShapeOkQ Q D w (.func (.func 142) #[] #[]) (Sh.expr.ev Nd.right) := ⟨_, _, rfl, run_call _ _ Tryz.func142 lq15 lq15, fun W hW T A c K d hD hWt hN => tExpr_ok D hRi T A c K d W hD hWt hN (hT W hW)⟩
theorem qStmt : ShapeOkQ Q D w (.func (.func 141) #[] #[]) (Sh.stmt.ev Nd.right) := ⟨_, _, rfl, run_call _ _ Tryz.func141 lq15 lq15, fun W hW T A c K d hD hWt hN => tStmt_ok D hRi T A c K d W hD hWt hN (hT W hW)⟩
theorem qTarget : ShapeOkQ Q D w (.func (.func 143) #[] #[]) (Sh.target.ev Nd.right) := ⟨_, _, rfl, run_call _ _ Tryz.func143 lq15 lq15, fun W hW T A c K d hD hWt hN => tTarget_ok D hRi T A c K d W hD hWt hN (hT W hW)⟩
end
def WithinM (D : Nat) (l : List Nd) : Prop := ∀ t ∈ l, t.dep ≤ D ∧ t.weight ≤ 1000000
theorem wKM {D : Nat} {T : Nd} (hD : T.dep ≤ D + 1) (hW : T.weight ≤ 1000000) : WithinM D T.kids := fun t ht => by
 have h1 := Nd.dep_kid ht
 have h2 := Nd.weight_kid ht
 omega
section
variable {T : Nd} {k : Int} (hk : T.kind = k) {tx : Tx} {fm : Fm} (hf : formOf k = some (tx, fm)) (h32 : k ≠ 32)
include T k hk tx fm hf h32
theorem right_at : T.right = (tx.ev T.text && noNumB T && fm.ev Nd.right T) := by
 have _ := k
 rw [right_eq, hk, hf]
 simp only [if_neg h32]
theorem ev_of : (Sh.of k).ev Nd.right T = (tx.ev T.text && noNumB T && fm.ev Nd.right T) := by
 rw [← right_at hk hf h32]
 simp [Sh.ev, hk]
end

def numL (neg : Bool) (zs : List Int) : Bool := !neg && decide (zs.length ≤ 256) && !(zs.getLast? == some 0)
theorem tNumber_ok (neg : Bool) (A : Option Addr) (c : Nat) (zs : List Int) (w : World) (hr : RdI w .u32 A zs) (hl : zs.length ≤ c) (hc : c ≤ maxLen) :
  Calls Tryz.prog 79 #[.agg #[.bool neg, .slice A zs.length c]] w fun e w' => e = .returned (.bool (numL neg zs)) ∧ Below w.heap.size w w' := by
 unfold maxLen at hc
 have hb1 : ∀ o, Below w.heap.size w (w.alloc o) := fun o => (Below.refl w.heap.size w).alloc (Nat.le_refl _) o
 cases neg with
 | true =>
  clear hr; go_enter Tryz.func79, Tryz.ntmps79; go_wp2_with fail; go_ret; exact ⟨rfl, hb1 _⟩
 | false =>
  by_cases h256 : zs.length ≤ 256
  ·have e1 : decide ((zs.length : Int) ≤ 256) = true := dTo; have e2 : decide (zs.length ≤ 256) = true := dTr h256
   cases hz : zs with
   | nil =>
    clear hr; go_enter Tryz.func79, Tryz.ntmps79; go_wp2_with fail; go_ret; exact ⟨rfl, hb1 _⟩
   | cons a r =>
    obtain ⟨m, hm⟩ : ∃ m, zs.length = m + 1 := ⟨r.length, by rw [hz]; rfl⟩; obtain ⟨b, off, z, hA, hzm, hcm⟩ := hr m lq17; have hlast : zs.getLast? = some z := by rw [List.getLast?_eq_getElem?, hm]; exact hzm
    rw [← hz]; have HLast := Lh hlast; have HE2 := Lh e2; rw [hm] at hl e1; rw [hm]; subst hA; have hblt := blt hcm; have hcm2 := fun o => cLt (hb1 o) hcm
    have hcm3 := hcm2 (.cells #[.bool false, .slice (some ⟨b, off, none⟩) (m + 1) c] 26); have o1 : ((m + 1 : Nat) : Int) - 1 = (m : Int) := by omega
    have o2 : (m : Int) + 1 - 1 = (m : Int) := by omega
    have o3 : (((m + 1 : Nat) : Int) == 0) = false := beq0F lq17; have o4 : (0 : Int) ≤ (m : Int) := by omega
    have o5 : (m : Int) < ((m + 1 : Nat) : Int) := by omega
    have o6 : ((m : Int) + 1 == 0) = false := by simp; omega
    have o7 : decide ((m : Int) + 1 ≤ 256) = true := dTo; have o8 : decide (m + 1 ≤ 256) = true := dTo; clear hz hlast hr hcm hcm2 hzm e2 hm h256
    by_cases hz0 : z = 0
    ·have z1 : (z == 0) = true := by simpa using hz0
     have z2 : (z != 0) = false := by simp [hz0]
     clear hz0; go_enter Tryz.func79, Tryz.ntmps79; go_wp2_with fail; go_ret; exact ⟨by show Ending.returned (.bool _) = _; simp [numL, HLast.out, HE2.out, z1], hb1 _⟩
    ·have z1 : (z == 0) = false := by simpa using hz0
     have z2 : (z != 0) = true := by simp [hz0]
     clear hz0; go_enter Tryz.func79, Tryz.ntmps79; go_wp2_with fail; go_ret; exact ⟨by show Ending.returned (.bool _) = _; simp [numL, HLast.out, HE2.out, z1], hb1 _⟩
  ·have e1 : decide ((zs.length : Int) ≤ 256) = false := dFo; have e2 : decide (zs.length ≤ 256) = false := dFa h256; clear hr; go_enter Tryz.func79, Tryz.ntmps79; go_wp2_with fail; go_ret; exact ⟨by show Ending.returned (.bool _) = _; simp [numL, e2], hb1 _⟩
def EOk (D : Nat) (w0 : World) (X dep : Nat) : Prop := ∀ t, Ex t → t.dep ≤ D → t.weight ≤ 1000000 → FSays 156 w0 X dep Nd.txt t
theorem run_expr (args : Array Value) (W : World) : (callFunc 156 args).run Tryz.prog W = .ok (.enter 156 args) W := run_call _ _ Tryz.func156 lq15 lq15 args W
def TOk (D : Nat) (w0 : World) (X dep : Nat) : Prop := ∀ t, Te t → t.dep ≤ D → t.weight ≤ 1000000 → FSays 158 w0 X dep Nd.txt t
theorem txt_23 {T : Nd} (h : T.kind = 23) : T.txt = sepL com (T.kids.map Nd.txt) := by
 rw [txt_eq, txtOf, h]
 simp
theorem tgt_kids {T : Nd} (h : Te T) (hk : T.kind = 23) : ∀ t ∈ T.kids, Ex t := by
 have hr := h.1
 rw [right_at hk (tx := .non) (fm := .some 2 .target) rfl lq16] at hr
 simp only [Fm.ev, Bool.and_eq_true] at hr
 intro t ht
 exact ev_tgt (List.all_eq_true.1 hr.2.2 t ht)
theorem wTargets_ok (D : Nat) (w0 : World) (X dep : Nat) (hE : EOk D w0 X dep) : TOk D w0 X dep := by
 intro T hT hD hWt A c K d l0 w hN hBs hW hlen
 have hNw := hN.later hBs
 have hB0 : w0.heap.size ≤ w.heap.size := hBs.size
 have hXw := WrT.lt hW
 have hK0 : WK w0.heap.size X w (w.alloc (.cells #[.int .i64 T.kind, .int .i64 T.pos, .string T.text, .bool T.neg, .slice A T.mag.length c, .slice K T.kids.length d] 29)) := (WK.refl _ _ _).alloc hB0 _
 have hWb := hW.alloc (.cells #[.int .i64 T.kind, .int .i64 T.pos, .string T.text, .bool T.neg, .slice A T.mag.length c, .slice K T.kids.length d] 29)
 have hBb : Below w0.heap.size w0 (w.alloc (.cells #[.int .i64 T.kind, .int .i64 T.pos, .string T.text, .bool T.neg, .slice A T.mag.length c, .slice K T.kids.length d] 29)) := hBs.trans hK0.b
 by_cases hk : T.kind = 23
 ·have e1 : (T.kind != 23) = false := by simp [hk]
  have HTX := Lh (txt_23 hk); have hts := txt_23 hk; rw [hts] at hlen; have HLS := Lh (wList_ok 156 run_expr w0 X dep Nd.txt l0 T.kids T.kids.length K d _ rfl hN.parts.2.2.2.2.2.2.2.2.2 (fun t ht => hE t (tgt_kids hT hk t ht) (by have := Nd.dep_kid ht; omega) (by have := Nd.weight_kid ht; omega)) hN.parts.2.2.2.2.1 hN.parts.2.2.2.2.2.1 hBb hWb hlen); have HK0 := Lh hK0; clear hE hT hD hts hk hNw hlen hK0 hWb hBb hW; obtain ⟨hm1, hm2, hrm, hw32, hk1, hk2, ⟨hk64a, hk64b⟩, ⟨ha64a, ha64b⟩, hts, hKs, HK⟩ := hN.hd
  have hb1 := (Below.refl w.heap.size w).alloc (Nat.le_refl _) (.cells #[.int .i64 T.kind, .int .i64 T.pos, .string T.text, .bool T.neg, .slice A T.mag.length c, .slice K T.kids.length d] 29); obtain ⟨c0, c1, c2, c3, c4, c5⟩ := (cellsN_new w T A c K d 29).box; unfold ndV; clear hKs hN; go_enter Tryz.func158, Tryz.ntmps158; go_wp2_with (go_at_call 160; refine HLS.out.mono ?_; rintro e w3 ⟨rfl, hw3, hk3⟩)
  go_end0
  exact ⟨rfl, hw3.eq (by rw [HTX.out]), HK0.out.trans hk3⟩
 ·have e1 : (T.kind != 23) = true := by simp [hk]
  have hEx : Ex T := ⟨hT.1, hT.2.resolve_right hk⟩; have hI := hE T hEx hD hWt A c K d l0 _ hN hBb hWb hlen; unfold ndV at hI; have HI := Lh hI; have HK0 := Lh hK0; clear hE hT hD hk hEx hI hNw hlen hK0 hWb hBb hW; obtain ⟨hm1, hm2, hrm, hw32, hk1, hk2, ⟨hk64a, hk64b⟩, ⟨ha64a, ha64b⟩, hts, hKs, HK⟩ := hN.hd; have hb1 := (Below.refl w.heap.size w).alloc (Nat.le_refl _) (.cells #[.int .i64 T.kind, .int .i64 T.pos, .string T.text, .bool T.neg, .slice A T.mag.length c, .slice K T.kids.length d] 29); obtain ⟨c0, c1, c2, c3, c4, c5⟩ := (cellsN_new w T A c K d 29).box; unfold ndV; clear hKs hN
  go_enter Tryz.func158, Tryz.ntmps158; go_wp2_with (go_at_call 156; refine HI.out.mono ?_; rintro e w3 ⟨rfl, hw3, hk3⟩)
  ((try simp only [Exit.inBlock, Exit.then]); first | refine bodyPost_end (results_none rfl _ _ _) rfl ?_ | refine bodyPost_ret (results_none rfl _ _ _) rfl ?_)
  exact ⟨rfl, hw3, HK0.out.trans hk3⟩
end
end Go.Proofs.YtjndbcnmmnkilaaGreatDoor
