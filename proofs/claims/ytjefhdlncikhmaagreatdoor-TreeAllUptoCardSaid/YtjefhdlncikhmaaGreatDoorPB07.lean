/- Joined by a program: Wr2, Shp7. -/
import Derived.WalkKit
import Derived.Deep.RegionHeld3
import Derived.Deep.RegionWith
import Derived.Test.YtjefhdlncikhmaaGreatDoorShelf
import Derived.Test.YtjefhdlncikhmaaGreatDoorPB05
import Derived.Test.YtjefhdlncikhmaaGreatDoorPB06
namespace Go.Proofs.YtjefhdlncikhmaaGreatDoor
section
set_option linter.unusedVariables false
set_option linter.unusedSimpArgs false
open Go.RowKit
set_option maxRecDepth 1000000
/-- the writer's text. -/
def WrT (B X dep : Nat) (l : List UInt8) (w : World) : Prop := Wr B X dep (Lib.byteCells l) w
theorem WrT.lt {B X dep : Nat} {l : List UInt8} {w : World} (h : WrT B X dep l w) : X < w.heap.size := Wr.lt h
theorem WrT.le {B X dep : Nat} {l : List UInt8} {w : World} (h : WrT B X dep l w) : B ≤ X := Wr.le h
theorem WrT.alloc {B X dep : Nat} {l : List UInt8} {w : World} (h : WrT B X dep l w) (o : Obj) : WrT B X dep l (w.alloc o) := Wr.alloc h o
theorem WrT.later {B X dep : Nat} {l : List UInt8} {w w' : World} (h : WrT B X dep l w) (hb : Below w.heap.size w w') : WrT B X dep l w' := Wr.later h hb
theorem WrT.eq {B X dep : Nat} {l l' : List UInt8} {w : World} (h : WrT B X dep l w) (e : l = l') : WrT B X dep l' w := e ▸ h
theorem strCells_flat (L : List ByteArray) : L.flatMap Lib.strCells = Lib.byteCells (L.flatMap fun s => s.data.toList) := by
  induction L with
  | nil => rfl
  | cons a r ih =>
    rw [List.flatMap_cons, List.flatMap_cons, ih, byteCells_append]
    rfl
theorem totalS_flat (L : List ByteArray) : totalS L = (L.flatMap fun s => s.data.toList).length := by
  induction L with
  | nil => rfl
  | cons a r ih => rw [totalS, List.flatMap_cons, List.length_append, ih]; simp
/-- say, of a new row of texts. -/
theorem wSayT_ok (B X dep : Nat) (l p : List UInt8) (L : List ByteArray) (n g : Nat) (w : World) (h : WrT B X dep l w) (hn : L.length = n) (hgX : X < g) (hg : w.heap[g]? = some (.cells (L.map Value.string).toArray 9 (0, 0))) (hp : (L.flatMap fun s => s.data.toList) = p) (hnm : n ≤ 1000) (hlen : l.length + p.length ≤ 1000000000000) (hBw : B ≤ w.heap.size) :
    Calls Tryz.prog 84 #[.pointer (some ⟨X, 0, none⟩), .slice (some ⟨g, 0, none⟩) n n] w fun e w' => e = .returned (.tuple #[]) ∧ WrT B X dep (l ++ p) w' ∧ WK B X w w' := by
  refine (wSay_ok B X dep _ L n n _ w h hn (.inr ⟨g, rfl, by omega, hg⟩) (Nat.le_refl _) (by unfold maxLen; omega) (by rw [Lib.byteCells_length, totalS_flat, hp]; omega) hBw).mono ?_
  rintro e w' ⟨rfl, hw, hk⟩
  refine ⟨rfl, ?_, hk⟩
  unfold WrT
  rw [byteCells_append, ← hp, ← strCells_flat]
  exact hw
/-- a box of a node, behind a call that turned the writer alone. -/
theorem box_keep {B X n : Nat} {w w' : World} {cs : Array Value} (hk : WK B X w w') (h : w.heap[n]? = some (.cells cs 27 (0, 0))) (hn : X < n) : w'.heap[n]? = some (.cells cs 27 (0, 0)) :=
  hk.k n _ h (fun e => by injection e; omega) (fun c fz e => by injection e with _ e _; exact absurd e (by decide))
theorem cells_box {w : World} {n : Nat} {T : Nd} {A : Option Addr} {c : Nat} {K : Option Addr} {d : Nat} {t : TypeId} (h : w.heap[n]? = some (.cells #[.int .i64 T.kind, .int .i64 T.pos, .string T.text, .bool T.neg, .slice A T.mag.length c, .slice K T.kids.length d] t (0, 0))) : CellsN w n 0 T A c K d :=
  ⟨cell_of_row _ _ 0 _ _ _ h, cell_of_row _ _ 1 _ _ _ h, cell_of_row _ _ 2 _ _ _ h, cell_of_row _ _ 3 _ _ _ h, cell_of_row _ _ 4 _ _ _ h, cell_of_row _ _ 5 _ _ _ h⟩
/-- what a method of the writer does with a node. -/
def FSays (f : FuncId) (w0 : World) (X dep : Nat) (tf : Nd → List UInt8) (t : Nd) : Prop :=
  ∀ (A : Option Addr) (c : Nat) (K : Option Addr) (d : Nat) (l : List UInt8) (W : World), NodeAt w0 t A c K d → Below w0.heap.size w0 W → WrT w0.heap.size X dep l W → l.length + (tf t).length ≤ 1000000000000 →
    Calls Tryz.prog f #[.pointer (some ⟨X, 0, none⟩), ndV t A c K d] W fun e w' => e = .returned (.tuple #[]) ∧ WrT w0.heap.size X dep (l ++ tf t) w' ∧ WK w0.heap.size X W w'
theorem sep_take (s : List UInt8) {L : List (List UInt8)} {k : Nat} {x : List UInt8} (h : L[k]? = some x) : sepL s (L.take (k + 1)) = sepL s (L.take k) ++ ((if k = 0 then [] else s) ++ x) := by
  cases L with
  | nil => simp at h
  | cons a r =>
    cases k with
    | zero => simp at h; subst h; simp [sepL]
    | succ k =>
      rw [List.getElem?_cons_succ] at h
      obtain ⟨hk, rfl⟩ := List.getElem?_eq_some_iff.1 h
      rw [List.take_succ_cons, List.take_succ_cons, sepL, sepL, List.take_succ_eq_append_getElem hk, List.flatMap_append]
      simp
theorem sep_le (s : List UInt8) (L : List (List UInt8)) (k : Nat) : (sepL s (L.take k)).length ≤ (sepL s L).length := by
  cases L with
  | nil => simp
  | cons a r =>
    cases k with
    | zero => simp [sepL]
    | succ k =>
      rw [List.take_succ_cons, sepL, sepL, List.length_append, List.length_append]
      have : r = r.take k ++ r.drop k := (List.take_append_drop k r).symm
      have h2 : (r.flatMap fun x => s ++ x).length = ((r.take k).flatMap fun x => s ++ x).length + ((r.drop k).flatMap fun x => s ++ x).length := by
        rw [← List.length_append, ← List.flatMap_append, List.take_append_drop]
      omega
set_option maxHeartbeats 8000000 in
theorem wList_ok (f : FuncId) (hrn : ∀ args W, (callFunc f args).run Tryz.prog W = .ok (.enter f args) W) (w0 : World) (X dep : Nat) (tf : Nd → List UInt8) (l0 : List UInt8) (l : List Nd) (n : Nat) (K : Option Addr) (d : Nat) (w : World) (hn : l.length = n) (hl : KidsAt w0 l K 0) (hf : ∀ t ∈ l, FSays f w0 X dep tf t) (hnd : n ≤ d) (hd : d ≤ maxLen) (hb0 : Below w0.heap.size w0 w) (h : WrT w0.heap.size X dep l0 w) (hlen : l0.length + (sepL com (l.map tf)).length ≤ 1000000000000) :
    Calls Tryz.prog 85 #[.pointer (some ⟨X, 0, none⟩), .slice K n d, .func (.func f) #[.pointer (some ⟨X, 0, none⟩)] #[]] w fun e w' => e = .returned (.tuple #[]) ∧ WrT w0.heap.size X dep (l0 ++ sepL com (l.map tf)) w' ∧ WK w0.heap.size X w w' := by
  unfold maxLen at hd
  have HK := Lib.hid hl
  have HNn := Lib.hid hn
  have HF := Lib.hid hf
  have HB := Lib.hid hb0
  have H := Lib.hid h
  have HLen := Lib.hid hlen
  clear hl hn hf hb0 h hlen
  go_enter Tryz.func85, Tryz.ntmps85
  go_wp2_with fail
  go_loopw [10] (fun iv wr => ∃ k : Nat, iv = .int .i64 k ∧ k ≤ n ∧ Hid (WrT w0.heap.size X dep (l0 ++ sepL com ((l.map tf).take k)) wr) ∧ Hid (WK w0.heap.size X w wr)) (fun iv _ => n - (intOf iv).toNat)
  case atStart => exact ⟨0, rfl, Nat.zero_le _, Lib.hid (by simpa [sepL] using H.out), Lib.hid (WK.refl _ _ _)⟩
  case round =>
    obtain ⟨k, rfl, hk, hR, hbr⟩ := hrel
    by_cases hkl : k < n
    · have o1 : decide ((k : Int) < (n : Int)) = true := decide_eq_true (by omega)
      have o2 : decide (k < n) = true := decide_eq_true hkl
      obtain ⟨t, ht⟩ : ∃ t, l[k]? = some t := ⟨_, List.getElem?_eq_getElem (by rw [HNn.out]; exact hkl)⟩
      obtain ⟨b, off, A', c', K', d', hKe, hC, hNt⟩ := HK.out.kid ht
      rw [Nat.zero_add] at hC
      subst hKe
      have hbw : Below w0.heap.size w0 wr := HB.out.trans hbr.out.b
      obtain ⟨n0, n1, n2, n3, n4, n5⟩ := hC.later hbw
      have hbn : b < wr.heap.size := World.block_lt_of_cell? _ _ n0
      have hXw : X < wr.heap.size := hR.out.lt
      have hmt : (l.map tf)[k]? = some (tf t) := by rw [List.getElem?_map, ht]; rfl
      have hst := sep_take com hmt
      have hle := sep_le com (l.map tf) (k + 1)
      have hsz := HLen.out
      have hbt := (Below.refl wr.heap.size wr).alloc (Nat.le_refl _) (.cells #[.int .i64 t.kind, .int .i64 t.pos, .string t.text, .bool t.neg, .slice A' t.mag.length c', .slice K' t.kids.length d'] 27)
      have hkt : WK w0.heap.size X wr (wr.alloc (.cells #[.int .i64 t.kind, .int .i64 t.pos, .string t.text, .bool t.neg, .slice A' t.mag.length c', .slice K' t.kids.length d'] 27)) := (WK.refl _ _ _).alloc hbw.size _
      have hRt : WrT w0.heap.size X dep (l0 ++ sepL com ((l.map tf).take k)) (wr.alloc (.cells #[.int .i64 t.kind, .int .i64 t.pos, .string t.text, .bool t.neg, .slice A' t.mag.length c', .slice K' t.kids.length d'] 27)) := hR.out.alloc _
      have hbox := heap_alloc_new wr (.cells #[.int .i64 t.kind, .int .i64 t.pos, .string t.text, .bool t.neg, .slice A' t.mag.length c', .slice K' t.kids.length d'] 27)
      obtain ⟨z0, z1, z2, z3, z4, z5⟩ := (cells_box hbox).box
      have hFt := HF.out t (List.mem_of_getElem? ht)
      by_cases h0 : k = 0
      · have q0 : decide ((0 : Int) < (k : Int)) = false := decide_eq_false (by omega)
        have q1 : decide (0 < k) = false := decide_eq_false (by omega)
        rw [if_pos h0, List.nil_append] at hst
        have hI := hFt A' c' K' d' _ _ hNt (hbw.trans (hbt.mono hbw.size)) hRt (by rw [hst, List.length_append] at hle; rw [List.length_append]; omega)
        unfold ndV at hI
        rw [List.append_assoc, ← hst] at hI
        have HI := Lib.hid hI
        have HKT := Lib.hid hkt
        clear hI hC hNt ht hmt hst hle hsz hbt hkt hRt hbox hFt hbw h0
        go_wp2_with (with_reducible refine HI.out.mono ?_; rintro e w3 ⟨rfl, hw3, hk3⟩)
        go_roundw
        case rel => exact ⟨k + 1, by go_num, by omega, Lib.hid hw3, Lib.hid (hbr.out.trans (HKT.out.trans hk3))⟩
        case measure => simp [intOf]; omega
      · have q0 : decide ((0 : Int) < (k : Int)) = true := decide_eq_true (by omega)
        have q1 : decide (0 < k) = true := decide_eq_true (by omega)
        rw [if_neg h0] at hst
        have hlt2 : (l0 ++ sepL com ((l.map tf).take k)).length + com.length + (tf t).length ≤ 1000000000000 := by rw [hst, List.length_append, List.length_append] at hle; rw [List.length_append]; omega
        have hRt2 := hRt.alloc (.cells #[.string { data := #[44, 32] }] 9)
        have hkt2 := hkt.alloc (Nat.le_trans hbw.size hkt.b.size) (.cells #[.string { data := #[44, 32] }] 9)
        have hsg : (wr.alloc (.cells #[.int .i64 t.kind, .int .i64 t.pos, .string t.text, .bool t.neg, .slice A' t.mag.length c', .slice K' t.kids.length d'] 27)).heap.size = wr.heap.size + 1 := by simp
        have hS := wSayT_ok w0.heap.size X dep _ com [⟨#[44, 32]⟩] 1 (wr.heap.size + 1) _ hRt2 rfl (by omega) (by rw [← hsg]; exact heap_alloc_new _ _) rfl (by decide) (by omega) (Nat.le_trans hbw.size hkt2.b.size)
        have HS := Lib.hid hS
        have hbox2 : ((wr.alloc (.cells #[.int .i64 t.kind, .int .i64 t.pos, .string t.text, .bool t.neg, .slice A' t.mag.length c', .slice K' t.kids.length d'] 27)).alloc (.cells #[.string { data := #[44, 32] }] 9)).heap[wr.heap.size]? = some (.cells #[.int .i64 t.kind, .int .i64 t.pos, .string t.text, .bool t.neg, .slice A' t.mag.length c', .slice K' t.kids.length d'] 27 (0, 0)) := (Lib.alloc_old _ _ _ (by simp)).trans hbox
        have HBX := Lib.hid hbox2
        have HFt := Lib.hid hFt
        have HNt := Lib.hid hNt
        have HBW := Lib.hid hbw
        have HKT := Lib.hid hkt2
        have HST := Lib.hid hst
        have HLT := Lib.hid hlt2
        clear hS hC hNt ht hmt hst hle hsz hbt hkt hRt hbox hFt hbw h0 hRt2 hkt2 hbox2 hlt2 hsg
        go_wp2_with (first | (go_at_call 84; refine HS.out.mono ?_; rintro e w2 ⟨rfl, hw2, hk2⟩; have hbx := box_keep hk2 HBX.out hXw; obtain ⟨y0, y1, y2, y3, y4, y5⟩ := (cells_box hbx).box; have hyl := World.block_lt_of_cell? _ _ y0; have hI := HFt.out A' c' K' d' _ w2 HNt.out (HBW.out.trans (HKT.out.trans hk2).b) hw2 (by have := HLT.out; rw [List.length_append]; omega); unfold ndV at hI; have HI := Lib.hid hI; clear hI) | (with_reducible refine HI.out.mono ?_; rintro e w3 ⟨rfl, hw3, hk3⟩))
        go_roundw
        case rel => exact ⟨k + 1, by go_num, by omega, Lib.hid (hw3.eq (by rw [HST.out]; simp)), Lib.hid (hbr.out.trans ((HKT.out.trans hk2).trans hk3))⟩
        case measure => simp [intOf]; omega
    · have o1 : decide ((k : Int) < (n : Int)) = false := decide_eq_false (by omega)
      have o2 : decide (k < n) = false := decide_eq_false hkl
      have hR2 := hR.out
      rw [List.take_of_length_le (by rw [List.length_map]; have := HNn.out; omega)] at hR2
      have HR2 := Lib.hid hR2
      clear hR2
      go_wp2_with fail
      go_end0
      exact ⟨rfl, HR2.out, hbr.out⟩
end
section
set_option linter.unusedVariables false
set_option linter.unusedSimpArgs false
open Go.RowKit
set_option maxRecDepth 1000000
section
variable {D : Nat} (hRi : RightOk D) {w : World} (hT : Lib.Utf8Tabs 0 1 w)
include hRi hT
theorem shExpr : ShapeOk D w (.func (.func 67) #[] #[]) (Sh.expr.ev Nd.right) := ⟨_, _, rfl, run_call _ _ Tryz.func67 (by kernel_rfl) (by kernel_rfl), fun W hW T A c K d hD hWt hN => tExpr_ok D hRi T A c K d W hD hWt hN (Utf8Tabs_below hT hW)⟩
theorem shTargets : ShapeOk D w (.func (.func 72) #[] #[]) (Sh.targets.ev Nd.right) := ⟨_, _, rfl, run_call _ _ Tryz.func72 (by kernel_rfl) (by kernel_rfl), fun W hW T A c K d hD hWt hN => tTargets_ok D hRi T A c K d W hD hWt hN (Utf8Tabs_below hT hW)⟩
theorem shBlock : ShapeOk D w (.func (.func 71) #[] #[]) (Sh.block.ev Nd.right) := ⟨_, _, rfl, run_call _ _ Tryz.func71 (by kernel_rfl) (by kernel_rfl), fun W hW T A c K d hD hWt hN => tBlock_ok D hRi T A c K d W hD hWt hN (Utf8Tabs_below hT hW)⟩
theorem of_ok (k : Int) : Calls Tryz.prog 64 #[.int .i64 k] w fun e w' => (∃ v, e = .returned v ∧ ShapeOk D w' v ((Sh.of k).ev Nd.right)) ∧ Below w.heap.size w w' := by
  have hb1 := (Below.refl w.heap.size w).alloc (Nat.le_refl _) (.cells #[.int .i64 k] 3)
  have HS : ShapeOk D (w.alloc (.cells #[.int .i64 k] 3)) (.func (.func 128) #[] #[.pointer (some ⟨w.heap.size, 0, none⟩)]) ((Sh.of k).ev Nd.right) :=
    ⟨_, _, rfl, run_call _ _ Tryz.func128 (by kernel_rfl) (by kernel_rfl), fun W hW T A c K d hD hWt hN => tOf1_ok k w.heap.size D hRi T A c K d W hD hWt hN (Utf8Tabs_below (Utf8Tabs_below hT hb1) hW) (cell_later hW (box_one w _ _))⟩
  clear hT hRi
  go_enter Tryz.func64, Tryz.ntmps64
  go_wp2
  go_ret
  exact ⟨⟨_, rfl, HS⟩, hb1⟩
end
theorem shNone (D : Nat) (w : World) : ShapeOk D w (.func (.func 70) #[] #[]) (Sh.none.ev Nd.right) := ⟨_, _, rfl, run_call _ _ Tryz.func70 (by kernel_rfl) (by kernel_rfl), fun W hW T A c K d hD hWt hN => tNone_ok T A c K d W hN⟩
theorem ShapeOk.less {D D' : Nat} {w : World} {v : Value} {p : Nd → Bool} (h : ShapeOk D w v p) (hd : D' ≤ D) : ShapeOk D' w v p := by
  obtain ⟨f, caps, hv, hrn, hf⟩ := h
  exact ⟨f, caps, hv, hrn, fun W hW T A c K d hD => hf W hW T A c K d (by omega)⟩
theorem ShapeOk.eq {D : Nat} {w : World} {v : Value} {p q : Nd → Bool} (h : ShapeOk D w v p) (hpq : ∀ T, p T = q T) : ShapeOk D w v q := by
  have : p = q := funext hpq
  exact this ▸ h
/-- a row of function values in a new block. -/
theorem shapes_new (D : Nat) (w : World) (t : TypeId) (vs : List Value) (L : List (Nd → Bool)) (hlen : vs.length = L.length) (h : ∀ (i : Nat) (v : Value) (p : Nd → Bool), vs[i]? = some v → L[i]? = some p → ShapeOk D w v p) (n : Nat) (hn : n = w.heap.size) : ShapesAt D (w.alloc (.cells vs.toArray t)) (some ⟨n, 0, none⟩) L := fun i p hi => by
  have hil : i < vs.length := by rw [hlen]; exact (List.getElem?_eq_some_iff.1 hi).1
  refine ⟨n, 0, vs[i], rfl, ?_, (h i _ p (List.getElem?_eq_getElem hil) hi).later ((Below.refl _ _).alloc (Nat.le_refl _) _)⟩
  rw [hn, Nat.zero_add, cell_of_row _ _ i _ t (0, 0) (heap_alloc_new w _)]
  simp [hil]
theorem shapes_one {D : Nat} {w : World} {v : Value} {p : Nd → Bool} (h : ShapeOk D w v p) (t : TypeId) (n : Nat) (hn : n = w.heap.size) : ShapesAt D (w.alloc (.cells #[v] t)) (some ⟨n, 0, none⟩) [p] :=
  shapes_new D w t [v] [p] rfl (fun (i : Nat) (v' : Value) (p' : Nd → Bool) h1 h2 => by
    cases i with
    | zero => simp at h1 h2; subst h1 h2; exact h
    | succ i => simp at h1) n hn
theorem shapes_two {D : Nat} {w : World} {v v2 : Value} {p p2 : Nd → Bool} (h : ShapeOk D w v p) (h2 : ShapeOk D w v2 p2) (t : TypeId) (n : Nat) (hn : n = w.heap.size) : ShapesAt D (w.alloc (.cells #[v, v2] t)) (some ⟨n, 0, none⟩) [p, p2] :=
  shapes_new D w t [v, v2] [p, p2] rfl (fun (i : Nat) (v' : Value) (p' : Nd → Bool) h1 h3 => by
    rcases i with _ | _ | i
    · simp at h1 h3; subst h1 h3; exact h
    · simp at h1 h3; subst h1 h3; exact h2
    · simp at h1) n hn
theorem shapes_three {D : Nat} {w : World} {v v2 v3 : Value} {p p2 p3 : Nd → Bool} (h : ShapeOk D w v p) (h2 : ShapeOk D w v2 p2) (h3 : ShapeOk D w v3 p3) (t : TypeId) (n : Nat) (hn : n = w.heap.size) : ShapesAt D (w.alloc (.cells #[v, v2, v3] t)) (some ⟨n, 0, none⟩) [p, p2, p3] :=
  shapes_new D w t [v, v2, v3] [p, p2, p3] rfl (fun (i : Nat) (v' : Value) (p' : Nd → Bool) h1 h4 => by
    rcases i with _ | _ | _ | i
    · simp at h1 h4; subst h1 h4; exact h
    · simp at h1 h4; subst h1 h4; exact h2
    · simp at h1 h4; subst h1 h4; exact h3
    · simp at h1) n hn
theorem any2 (T : Nd) (a b : Sh) : anyB T [a.ev Nd.right, b.ev Nd.right] = (Sh.or2 a b).ev Nd.right T := by
  simp [anyB, Sh.ev]
/-- or(a, b) at a new row. -/
theorem or2_ok (D : Nat) (w : World) (A : Option Addr) (m : Nat) (a b : Sh) (hm : 2 = m) (h : ShapesAt D w A [a.ev Nd.right, b.ev Nd.right]) :
    Calls Tryz.prog 69 #[.slice A m m] w fun e w' => (∃ v, e = .returned v ∧ ShapeOk D w' v ((Sh.or2 a b).ev Nd.right)) ∧ Below w.heap.size w w' := by
  subst hm
  refine (or_ok D _ 2 2 A w rfl h (Nat.le_refl _) (by unfold maxLen; omega)).mono ?_
  rintro e w' ⟨⟨v, rfl, hv⟩, hb⟩
  exact ⟨⟨v, rfl, hv.eq fun T => any2 T a b⟩, hb⟩
theorem KidsAt.cut {w : World} {b off : Nat} {l : List Nd} (h : KidsAt w l (some ⟨b, off, none⟩) 0) (n d : Nat) (hl : l.length ≤ d) : KidsAt w (l.drop n) (if d = n then some ⟨b, off, none⟩ else some ⟨b, off + n * 6, none⟩) 0 := by
  by_cases hd : d = n
  · rw [List.drop_eq_nil_of_le (by omega), KidsAt]; trivial
  · rw [if_neg hd]; exact h.drop n
theorem below_drew {B : Nat} {a w : World} (h : Below B a w) : Below B a w.drew := h.trans ⟨rfl, rfl, rfl, Nat.le_refl _, fun _ _ => rfl⟩
theorem below_draws (w : World) (n : Nat) : Below w.heap.size w (w.drewN n) := ⟨rfl, rfl, rfl, Nat.le_refl _, fun _ _ => rfl⟩
theorem below_then {w1 W0 W : World} (h : Below W0.heap.size W0 W) (h0 : Below w1.heap.size w1 W0) : Below w1.heap.size w1 W := h0.trans (h.mono h0.size)
set_option maxHeartbeats 8000000 in
theorem tParam_ok (D : Nat) (hRi : RightOk D) (T : Nd) (A : Option Addr) (c : Nat) (K : Option Addr) (d : Nat) (w : World) (hD : T.depth ≤ D + 1) (hW : T.weight ≤ 1048576) (hN : NodeAt w T A c K d) (hT : Lib.Utf8Tabs 0 1 w) :
    Calls Tryz.prog 75 #[ndV T A c K d] w fun e w' => e = .returned (.bool (Fm.prm.ev Nd.right T)) ∧ Below w.heap.size w w' := by
  have hWi := within_kids hD hW
  have hkp := hN.parts
  have hbx := (Below.refl w.heap.size w).alloc (Nat.le_refl _) (.cells #[.int .i64 T.kind, .int .i64 T.pos, .string T.text, .bool T.neg, .slice A T.mag.length c, .slice K T.kids.length d] 27)
  have HRow := Lib.hid (fun W (hb : Below (w.alloc (.cells #[.int .i64 T.kind, .int .i64 T.pos, .string T.text, .bool T.neg, .slice A T.mag.length c, .slice K T.kids.length d] 27)).heap.size (w.alloc (.cells #[.int .i64 T.kind, .int .i64 T.pos, .string T.text, .bool T.neg, .slice A T.mag.length c, .slice K T.kids.length d] 27)) W) (L : List (Nd → Bool)) (m : Nat) A hm hL hmc => row_ok D T.kids T.kids.length K d L m A m W rfl (hkp.2.2.2.2.2.2.2.2.2.later (hbx.trans (hb.mono hbx.size))) hWi hm hL hkp.2.2.2.2.1 hkp.2.2.2.2.2.1 (Nat.le_refl _) hmc)
  have HT := Lib.hid (Utf8Tabs_below hT hbx)
  have HRi := Lib.hid hRi
  clear hkp hWi hbx hT hRi
  by_cases hk0 : T.kids.length = 0
  · have e1 : ((T.kids.length : Int) == 0) = true := by rw [hk0]; rfl
    have e2 : (T.kids.length == 0) = true := by rw [hk0]; rfl
    clear hk0
    obtain ⟨hm1, hm2, hrm, hw32, hk1, hk2, hk64, ha64, hts, hKs⟩ := hN.parts
    unfold maxLen at hm2 hk2 hts
    obtain ⟨hk64a, hk64b⟩ := hk64
    obtain ⟨ha64a, ha64b⟩ := ha64
    have HK := Lib.hid (fun (i : Nat) (t : Nd) (hi : T.kids[i]? = some t) => hN.kid hi)
    have hb1 := (Below.refl w.heap.size w).alloc (Nat.le_refl _) (.cells #[.int .i64 T.kind, .int .i64 T.pos, .string T.text, .bool T.neg, .slice A T.mag.length c, .slice K T.kids.length d] 27)
    obtain ⟨c0, c1, c2, c3, c4, c5⟩ := (cellsN_new w T A c K d 27).box
    unfold ndV
    clear hKs hN
    go_enter Tryz.func75, Tryz.ntmps75
    go_wp2_with fail
    generalize w.alloc (.cells #[.int .i64 T.kind, .int .i64 T.pos, .string T.text, .bool T.neg, .slice A T.mag.length c, .slice K T.kids.length d] 27) = w1 at *
    go_quiet (fail)
    go_wp2
    go_ret
    exact ⟨by show Ending.returned (.bool _) = _; simp [Fm.ev, e2], hb1.trans ((below_draws _ _).mono hb1.size)⟩
  · have e1 : ((T.kids.length : Int) == 0) = false := beq0F hk0
    have e2 : (T.kids.length == 0) = false := by simpa using hk0
    clear hk0
    obtain ⟨hm1, hm2, hrm, hw32, hk1, hk2, hk64, ha64, hts, hKs⟩ := hN.parts
    unfold maxLen at hm2 hk2 hts
    obtain ⟨hk64a, hk64b⟩ := hk64
    obtain ⟨ha64a, ha64b⟩ := ha64
    have HK := Lib.hid (fun (i : Nat) (t : Nd) (hi : T.kids[i]? = some t) => hN.kid hi)
    have hb1 := (Below.refl w.heap.size w).alloc (Nat.le_refl _) (.cells #[.int .i64 T.kind, .int .i64 T.pos, .string T.text, .bool T.neg, .slice A T.mag.length c, .slice K T.kids.length d] 27)
    obtain ⟨c0, c1, c2, c3, c4, c5⟩ := (cellsN_new w T A c K d 27).box
    unfold ndV
    clear hKs hN
    go_enter Tryz.func75, Tryz.ntmps75
    go_wp2_with fail
    generalize w.alloc (.cells #[.int .i64 T.kind, .int .i64 T.pos, .string T.text, .bool T.neg, .slice A T.mag.length c, .slice K T.kids.length d] 27) = w1 at *
    have HPK : ∀ W, Below w1.heap.size w1 W → (W.cell? ⟨w.heap.size, 5, none⟩ = some (.slice K T.kids.length d) ∧ w.heap.size < W.heap.size) := fun W h => ⟨cell_later h c5, Nat.lt_of_lt_of_le (World.block_lt_of_cell? _ _ c5) h.size⟩
    go_region_held3 (fun W => W.cell? ⟨w.heap.size, 5, none⟩ = some (.slice K T.kids.length d) ∧ w.heap.size < W.heap.size) (first | (refine HPK _ ?_; (repeat' (first | with_reducible exact H2 | with_reducible exact H1 | with_reducible exact Below.refl _ _ | (with_reducible refine Below.alloc ?_ ?_ _) | (with_reducible refine below_drew ?_))); all_goals (first | exact H2.size | exact H1.size | omega | (simp; done) | (simp; omega) | (have := H2.size; simp; omega) | (have := H1.size; simp; omega)))) (first
      | (go_at_call 69; refine (or2_ok D _ _ _ .none .expr rfl (by first | exact shapes_two (shNone D _) (shExpr HRi.out (Utf8Tabs_below HT.out (by (repeat' (first | with_reducible exact H1 | with_reducible exact Below.refl _ _ | (with_reducible refine Below.alloc ?_ ?_ _) | (with_reducible refine below_drew ?_))); all_goals (first | exact H1.size | omega | (simp; done) | (simp; omega) | (have := H1.size; simp; omega))))) _ _ (by simp) | exact ShapesAt.later (shapes_two (shNone D _) (shExpr HRi.out (Utf8Tabs_below HT.out (by (repeat' (first | with_reducible exact H1 | with_reducible exact Below.refl _ _ | (with_reducible refine Below.alloc ?_ ?_ _) | (with_reducible refine below_drew ?_))); all_goals (first | exact H1.size | omega | (simp; done) | (simp; omega) | (have := H1.size; simp; omega))))) _ _ (by simp)) (below_drew (Below.refl _ _)) | exact ShapesAt.later (shapes_two (shNone D _) (shExpr HRi.out (Utf8Tabs_below HT.out (by (repeat' (first | with_reducible exact H1 | with_reducible exact Below.refl _ _ | (with_reducible refine Below.alloc ?_ ?_ _) | (with_reducible refine below_drew ?_))); all_goals (first | exact H1.size | omega | (simp; done) | (simp; omega) | (have := H1.size; simp; omega))))) _ _ (by simp)) (below_drew (below_drew (Below.refl _ _))))).mono ?_; rintro e w3 ⟨⟨v, rfl, hv⟩, hb3⟩; have hv' := hv; obtain ⟨f1, cp1, hv1, _⟩ := hv'; subst hv1; have H1 := below_then (w1 := w1) hb3 (by (repeat' (first | with_reducible exact H1 | with_reducible exact Below.refl _ _ | (with_reducible refine Below.alloc ?_ ?_ _) | (with_reducible refine below_drew ?_))); all_goals (first | exact H1.size | omega | (simp; done) | (simp; omega) | (have := H1.size; simp; omega))))
      | (go_at_call 127; refine (HRow.out _ (by (repeat' (first | with_reducible exact H1 | with_reducible exact Below.refl _ _ | (with_reducible refine Below.alloc ?_ ?_ _) | (with_reducible refine below_drew ?_))); all_goals (first | exact H1.size | omega | (simp; done) | (simp; omega) | (have := H1.size; simp; omega))) [(Sh.or2 .none .expr).ev Nd.right] 1 _ rfl (by first | exact shapes_one (hv.later (by first | exact Below.refl _ _ | exact below_drew (Below.refl _ _))) _ _ (by simp) | exact ShapesAt.later (shapes_one (hv.later (by first | exact Below.refl _ _ | exact below_drew (Below.refl _ _))) _ _ (by simp)) (below_drew (Below.refl _ _)) | exact ShapesAt.later (shapes_one (hv.later (by first | exact Below.refl _ _ | exact below_drew (Below.refl _ _))) _ _ (by simp)) (below_drew (below_drew (Below.refl _ _)))) (by unfold maxLen; omega)).mono ?_; rintro e w4 ⟨rfl, hb4⟩; have H2 := below_then (w1 := w1) hb4 (by (repeat' (first | with_reducible exact H1 | with_reducible exact Below.refl _ _ | (with_reducible refine Below.alloc ?_ ?_ _) | (with_reducible refine below_drew ?_))); all_goals (first | exact H1.size | omega | (simp; done) | (simp; omega) | (have := H1.size; simp; omega)))))
    all_goals
      go_wp2
      go_ret
      exact ⟨by show Ending.returned (.bool _) = _; simp [Fm.ev, e2], hb1.trans (H2.mono hb1.size)⟩
set_option maxHeartbeats 8000000 in
theorem tComp1_ok (v0 : Value) (p0 : Nd → Bool) (X : Nat) (D : Nat) (hRi : RightOk D) (T : Nd) (A : Option Addr) (c : Nat) (K : Option Addr) (d : Nat) (w : World) (hD : T.depth ≤ D + 1) (hW : T.weight ≤ 1048576) (hN : NodeAt w T A c K d) (hT : Lib.Utf8Tabs 0 1 w) (hS0 : ShapeOk D w v0 p0) (hX : w.cell? ⟨X, 0, none⟩ = some v0) :
    Calls Tryz.prog 180 #[ndV T A c K d, .pointer (some ⟨X, 0, none⟩)] w fun e w' => e = .returned (.bool (decide (3 ≤ T.kids.length) && rowB (T.kids.take 3) [p0, Sh.targets.ev Nd.right, Sh.expr.ev Nd.right] && (T.kids.drop 3).all (Sh.expr.ev Nd.right))) ∧ Below w.heap.size w w' := by
  have hWi := within_kids hD hW
  have hkp := hN.parts
  have hbx := (Below.refl w.heap.size w).alloc (Nat.le_refl _) (.cells #[.int .i64 T.kind, .int .i64 T.pos, .string T.text, .bool T.neg, .slice A T.mag.length c, .slice K T.kids.length d] 27)
  have HT := Lib.hid (Utf8Tabs_below hT hbx)
  have HRi := Lib.hid hRi
  have HS0 := Lib.hid (hS0.later hbx)
  have hX2 := cell_later hbx hX
  have hXl := World.block_lt_of_cell? w _ hX
  obtain ⟨f0, cp0, hv0, _⟩ := hS0
  subst hv0
  by_cases h3 : 3 ≤ T.kids.length
  · have e1 : decide (3 ≤ (T.kids.length : Int)) = true := decide_eq_true (by omega)
    have e2 : decide (3 ≤ T.kids.length) = true := decide_eq_true h3
    have s0 : T.kids.length ≤ d := hkp.2.2.2.2.1
    have s1 : (3 : Int) ≤ (d : Int) := by omega
    have s2 : (3 : Int) ≤ (T.kids.length : Int) := by omega
    have s3 : (T.kids.length : Int) ≤ (d : Int) := by omega
    obtain ⟨t0, ht0⟩ : ∃ t0, T.kids[0]? = some t0 := ⟨_, List.getElem?_eq_getElem (by omega)⟩
    obtain ⟨b, off, _, _, _, _, hKe, _, _⟩ := hN.kid ht0
    subst hKe
    clear ht0
    have hwt : Within D (T.kids.take 3) := fun t ht => hWi t (List.mem_of_mem_take ht)
    have hwd : Within D (T.kids.drop 3) := fun t ht => hWi t (List.mem_of_mem_drop ht)
    have HRow := Lib.hid (fun W (hb : Below (w.alloc (.cells #[.int .i64 T.kind, .int .i64 T.pos, .string T.text, .bool T.neg, .slice A T.mag.length c, .slice (some ⟨b, off, none⟩) T.kids.length d] 27)).heap.size (w.alloc (.cells #[.int .i64 T.kind, .int .i64 T.pos, .string T.text, .bool T.neg, .slice A T.mag.length c, .slice (some ⟨b, off, none⟩) T.kids.length d] 27)) W) (L : List (Nd → Bool)) (m : Nat) A hm hL hmc => row_ok D (T.kids.take 3) 3 (some ⟨b, off, none⟩) d L m A m W (by rw [List.length_take]; omega) ((hkp.2.2.2.2.2.2.2.2.2.later (hbx.trans (hb.mono hbx.size))).take 3) hwt hm hL (by have := hkp.2.2.2.2.1; omega) hkp.2.2.2.2.2.1 (Nat.le_refl _) hmc)
    have HEach := Lib.hid (fun W (hb : Below (w.alloc (.cells #[.int .i64 T.kind, .int .i64 T.pos, .string T.text, .bool T.neg, .slice A T.mag.length c, .slice (some ⟨b, off, none⟩) T.kids.length d] 27)).heap.size (w.alloc (.cells #[.int .i64 T.kind, .int .i64 T.pos, .string T.text, .bool T.neg, .slice A T.mag.length c, .slice (some ⟨b, off, none⟩) T.kids.length d] 27)) W) v p hS => each_ok D v p (T.kids.drop 3) (T.kids.length - 3) (if d = 3 then some ⟨b, off, none⟩ else some ⟨b, off + 18, none⟩) (d - 3) W hS (by rw [List.length_drop]) ((hkp.2.2.2.2.2.2.2.2.2.later (hbx.trans (hb.mono hbx.size))).cut 3 d hkp.2.2.2.2.1) hwd (by have := hkp.2.2.2.2.1; omega) (by have := hkp.2.2.2.2.2.1; omega))
    clear hkp hWi hbx hT hRi hwt hwd hX
    generalize hr1 : rowB (T.kids.take 3) [p0, Sh.targets.ev Nd.right, Sh.expr.ev Nd.right] = r1
    generalize hr2 : (T.kids.drop 3).all (Sh.expr.ev Nd.right) = r2
    have HR1 := Lib.hid hr1
    have HR2 := Lib.hid hr2
    clear hr1 hr2
    cases r1
    · obtain ⟨hm1, hm2, hrm, hw32, hk1, hk2, hk64, ha64, hts, hKs⟩ := hN.parts
      unfold maxLen at hm2 hk2 hts
      obtain ⟨hk64a, hk64b⟩ := hk64
      obtain ⟨ha64a, ha64b⟩ := ha64
      have HK := Lib.hid (fun (i : Nat) (t : Nd) (hi : T.kids[i]? = some t) => hN.kid hi)
      have hb1 := (Below.refl w.heap.size w).alloc (Nat.le_refl _) (.cells #[.int .i64 T.kind, .int .i64 T.pos, .string T.text, .bool T.neg, .slice A T.mag.length c, .slice (some ⟨b, off, none⟩) T.kids.length d] 27)
      obtain ⟨c0, c1, c2, c3, c4, c5⟩ := (cellsN_new w T A c (some ⟨b, off, none⟩) d 27).box
      unfold ndV
      clear hKs hN
      go_enter Tryz.func180, Tryz.ntmps180
      go_wp2_with fail
      generalize w.alloc (.cells #[.int .i64 T.kind, .int .i64 T.pos, .string T.text, .bool T.neg, .slice A T.mag.length c, .slice (some ⟨b, off, none⟩) T.kids.length d] 27) = w1 at *
      have hX1 : X < w1.heap.size := World.block_lt_of_cell? _ _ hX2
      have hwl : w.heap.size < w1.heap.size := World.block_lt_of_cell? _ _ c5
      first | go_region_with ((go_at_call 127; refine (HRow.out _ (by (repeat' (first  | with_reducible exact Below.refl _ _ | (with_reducible refine Below.alloc ?_ ?_ _) | (with_reducible refine below_drew ?_))); all_goals (first  | omega | (simp; done) | (simp; omega) )) [p0, Sh.targets.ev Nd.right, Sh.expr.ev Nd.right] 3 _ rfl (by first | exact shapes_three (HS0.out.later (by (repeat' (first  | with_reducible exact Below.refl _ _ | (with_reducible refine Below.alloc ?_ ?_ _) | (with_reducible refine below_drew ?_))); all_goals (first  | omega | (simp; done) | (simp; omega) ))) (shTargets HRi.out (Utf8Tabs_below HT.out (by (repeat' (first  | with_reducible exact Below.refl _ _ | (with_reducible refine Below.alloc ?_ ?_ _) | (with_reducible refine below_drew ?_))); all_goals (first  | omega | (simp; done) | (simp; omega) )))) (shExpr HRi.out (Utf8Tabs_below HT.out (by (repeat' (first  | with_reducible exact Below.refl _ _ | (with_reducible refine Below.alloc ?_ ?_ _) | (with_reducible refine below_drew ?_))); all_goals (first  | omega | (simp; done) | (simp; omega) )))) _ _ (by simp) | exact ShapesAt.later (shapes_three (HS0.out.later (by (repeat' (first  | with_reducible exact Below.refl _ _ | (with_reducible refine Below.alloc ?_ ?_ _) | (with_reducible refine below_drew ?_))); all_goals (first  | omega | (simp; done) | (simp; omega) ))) (shTargets HRi.out (Utf8Tabs_below HT.out (by (repeat' (first  | with_reducible exact Below.refl _ _ | (with_reducible refine Below.alloc ?_ ?_ _) | (with_reducible refine below_drew ?_))); all_goals (first  | omega | (simp; done) | (simp; omega) )))) (shExpr HRi.out (Utf8Tabs_below HT.out (by (repeat' (first  | with_reducible exact Below.refl _ _ | (with_reducible refine Below.alloc ?_ ?_ _) | (with_reducible refine below_drew ?_))); all_goals (first  | omega | (simp; done) | (simp; omega) )))) _ _ (by simp)) (below_drew (Below.refl _ _)) | exact ShapesAt.later (shapes_three (HS0.out.later (by (repeat' (first  | with_reducible exact Below.refl _ _ | (with_reducible refine Below.alloc ?_ ?_ _) | (with_reducible refine below_drew ?_))); all_goals (first  | omega | (simp; done) | (simp; omega) ))) (shTargets HRi.out (Utf8Tabs_below HT.out (by (repeat' (first  | with_reducible exact Below.refl _ _ | (with_reducible refine Below.alloc ?_ ?_ _) | (with_reducible refine below_drew ?_))); all_goals (first  | omega | (simp; done) | (simp; omega) )))) (shExpr HRi.out (Utf8Tabs_below HT.out (by (repeat' (first  | with_reducible exact Below.refl _ _ | (with_reducible refine Below.alloc ?_ ?_ _) | (with_reducible refine below_drew ?_))); all_goals (first  | omega | (simp; done) | (simp; omega) )))) _ _ (by simp)) (below_drew (below_drew (Below.refl _ _)))) (by unfold maxLen; omega)).mono ?_; rintro e w3 ⟨he3, hb3⟩; rw [HR1.out] at he3; subst he3; have H1 := below_then (w1 := w1) hb3 (by (repeat' (first  | with_reducible exact Below.refl _ _ | (with_reducible refine Below.alloc ?_ ?_ _) | (with_reducible refine below_drew ?_))); all_goals (first  | omega | (simp; done) | (simp; omega) )))) | fail
      all_goals
        go_wp2
        go_ret
        exact ⟨by show Ending.returned (.bool _) = _; simp [e2], hb1.trans (H1.mono hb1.size)⟩
    · cases r2
      · by_cases hd3 : d = 3
        · subst hd3
          have hl0 : T.kids.length - 3 = 0 := by omega
          simp only [if_true, hl0, Nat.sub_self] at HEach
          clear hl0
          obtain ⟨hm1, hm2, hrm, hw32, hk1, hk2, hk64, ha64, hts, hKs⟩ := hN.parts
          unfold maxLen at hm2 hk2 hts
          obtain ⟨hk64a, hk64b⟩ := hk64
          obtain ⟨ha64a, ha64b⟩ := ha64
          have HK := Lib.hid (fun (i : Nat) (t : Nd) (hi : T.kids[i]? = some t) => hN.kid hi)
          have hb1 := (Below.refl w.heap.size w).alloc (Nat.le_refl _) (.cells #[.int .i64 T.kind, .int .i64 T.pos, .string T.text, .bool T.neg, .slice A T.mag.length c, .slice (some ⟨b, off, none⟩) T.kids.length 3] 27)
          obtain ⟨c0, c1, c2, c3, c4, c5⟩ := (cellsN_new w T A c (some ⟨b, off, none⟩) 3 27).box
          unfold ndV
          clear hKs hN
          go_enter Tryz.func180, Tryz.ntmps180
          go_wp2_with fail
          generalize w.alloc (.cells #[.int .i64 T.kind, .int .i64 T.pos, .string T.text, .bool T.neg, .slice A T.mag.length c, .slice (some ⟨b, off, none⟩) T.kids.length 3] 27) = w1 at *
          have HPK : ∀ W, Below w1.heap.size w1 W → (W.cell? ⟨w.heap.size, 5, none⟩ = some (.slice (some ⟨b, off, none⟩) T.kids.length 3) ∧ W.cell? ⟨X, 0, none⟩ = some (.func (.func f0) #[] cp0) ∧ w.heap.size < W.heap.size) := fun W h => ⟨cell_later h c5, cell_later h hX2, Nat.lt_of_lt_of_le (World.block_lt_of_cell? _ _ c5) h.size⟩
          go_region_held3 (fun W => W.cell? ⟨w.heap.size, 5, none⟩ = some (.slice (some ⟨b, off, none⟩) T.kids.length 3) ∧ W.cell? ⟨X, 0, none⟩ = some (.func (.func f0) #[] cp0) ∧ w.heap.size < W.heap.size) (first | (refine HPK _ ?_; (repeat' (first | with_reducible exact H2 | with_reducible exact H1 | with_reducible exact Below.refl _ _ | (with_reducible refine Below.alloc ?_ ?_ _) | (with_reducible refine below_drew ?_))); all_goals (first | exact H2.size | exact H1.size | omega | (simp; done) | (simp; omega) | (have := H2.size; simp; omega) | (have := H1.size; simp; omega)))) (first
            | (go_at_call 127; refine (HRow.out _ (by (repeat' (first  | with_reducible exact Below.refl _ _ | (with_reducible refine Below.alloc ?_ ?_ _) | (with_reducible refine below_drew ?_))); all_goals (first  | omega | (simp; done) | (simp; omega) )) [p0, Sh.targets.ev Nd.right, Sh.expr.ev Nd.right] 3 _ rfl (by first | exact shapes_three (HS0.out.later (by (repeat' (first  | with_reducible exact Below.refl _ _ | (with_reducible refine Below.alloc ?_ ?_ _) | (with_reducible refine below_drew ?_))); all_goals (first  | omega | (simp; done) | (simp; omega) ))) (shTargets HRi.out (Utf8Tabs_below HT.out (by (repeat' (first  | with_reducible exact Below.refl _ _ | (with_reducible refine Below.alloc ?_ ?_ _) | (with_reducible refine below_drew ?_))); all_goals (first  | omega | (simp; done) | (simp; omega) )))) (shExpr HRi.out (Utf8Tabs_below HT.out (by (repeat' (first  | with_reducible exact Below.refl _ _ | (with_reducible refine Below.alloc ?_ ?_ _) | (with_reducible refine below_drew ?_))); all_goals (first  | omega | (simp; done) | (simp; omega) )))) _ _ (by simp) | exact ShapesAt.later (shapes_three (HS0.out.later (by (repeat' (first  | with_reducible exact Below.refl _ _ | (with_reducible refine Below.alloc ?_ ?_ _) | (with_reducible refine below_drew ?_))); all_goals (first  | omega | (simp; done) | (simp; omega) ))) (shTargets HRi.out (Utf8Tabs_below HT.out (by (repeat' (first  | with_reducible exact Below.refl _ _ | (with_reducible refine Below.alloc ?_ ?_ _) | (with_reducible refine below_drew ?_))); all_goals (first  | omega | (simp; done) | (simp; omega) )))) (shExpr HRi.out (Utf8Tabs_below HT.out (by (repeat' (first  | with_reducible exact Below.refl _ _ | (with_reducible refine Below.alloc ?_ ?_ _) | (with_reducible refine below_drew ?_))); all_goals (first  | omega | (simp; done) | (simp; omega) )))) _ _ (by simp)) (below_drew (Below.refl _ _)) | exact ShapesAt.later (shapes_three (HS0.out.later (by (repeat' (first  | with_reducible exact Below.refl _ _ | (with_reducible refine Below.alloc ?_ ?_ _) | (with_reducible refine below_drew ?_))); all_goals (first  | omega | (simp; done) | (simp; omega) ))) (shTargets HRi.out (Utf8Tabs_below HT.out (by (repeat' (first  | with_reducible exact Below.refl _ _ | (with_reducible refine Below.alloc ?_ ?_ _) | (with_reducible refine below_drew ?_))); all_goals (first  | omega | (simp; done) | (simp; omega) )))) (shExpr HRi.out (Utf8Tabs_below HT.out (by (repeat' (first  | with_reducible exact Below.refl _ _ | (with_reducible refine Below.alloc ?_ ?_ _) | (with_reducible refine below_drew ?_))); all_goals (first  | omega | (simp; done) | (simp; omega) )))) _ _ (by simp)) (below_drew (below_drew (Below.refl _ _)))) (by unfold maxLen; omega)).mono ?_; rintro e w3 ⟨he3, hb3⟩; rw [HR1.out] at he3; subst he3; have H1 := below_then (w1 := w1) hb3 (by (repeat' (first  | with_reducible exact Below.refl _ _ | (with_reducible refine Below.alloc ?_ ?_ _) | (with_reducible refine below_drew ?_))); all_goals (first  | omega | (simp; done) | (simp; omega) )))
            | (go_at_call 130; refine (HEach.out _ (by (repeat' (first | with_reducible exact H1 | with_reducible exact Below.refl _ _ | (with_reducible refine Below.alloc ?_ ?_ _) | (with_reducible refine below_drew ?_))); all_goals (first | exact H1.size | omega | (simp; done) | (simp; omega) | (have := H1.size; simp; omega))) _ _ (shExpr HRi.out (Utf8Tabs_below HT.out (by (repeat' (first | with_reducible exact H1 | with_reducible exact Below.refl _ _ | (with_reducible refine Below.alloc ?_ ?_ _) | (with_reducible refine below_drew ?_))); all_goals (first | exact H1.size | omega | (simp; done) | (simp; omega) | (have := H1.size; simp; omega)))))).mono ?_; rintro e w4 ⟨he4, hb4⟩; rw [HR2.out] at he4; subst he4; have H2 := below_then (w1 := w1) hb4 (by (repeat' (first | with_reducible exact H1 | with_reducible exact Below.refl _ _ | (with_reducible refine Below.alloc ?_ ?_ _) | (with_reducible refine below_drew ?_))); all_goals (first | exact H1.size | omega | (simp; done) | (simp; omega) | (have := H1.size; simp; omega)))))
          all_goals
            go_wp2
            go_ret
            exact ⟨by show Ending.returned (.bool _) = _; simp [e2], hb1.trans (H2.mono hb1.size)⟩
        · simp only [if_neg hd3] at HEach
          obtain ⟨hm1, hm2, hrm, hw32, hk1, hk2, hk64, ha64, hts, hKs⟩ := hN.parts
          unfold maxLen at hm2 hk2 hts
          obtain ⟨hk64a, hk64b⟩ := hk64
          obtain ⟨ha64a, ha64b⟩ := ha64
          have HK := Lib.hid (fun (i : Nat) (t : Nd) (hi : T.kids[i]? = some t) => hN.kid hi)
          have hb1 := (Below.refl w.heap.size w).alloc (Nat.le_refl _) (.cells #[.int .i64 T.kind, .int .i64 T.pos, .string T.text, .bool T.neg, .slice A T.mag.length c, .slice (some ⟨b, off, none⟩) T.kids.length d] 27)
          obtain ⟨c0, c1, c2, c3, c4, c5⟩ := (cellsN_new w T A c (some ⟨b, off, none⟩) d 27).box
          unfold ndV
          clear hKs hN
          go_enter Tryz.func180, Tryz.ntmps180
          go_wp2_with fail
          generalize w.alloc (.cells #[.int .i64 T.kind, .int .i64 T.pos, .string T.text, .bool T.neg, .slice A T.mag.length c, .slice (some ⟨b, off, none⟩) T.kids.length d] 27) = w1 at *
          have HPK : ∀ W, Below w1.heap.size w1 W → (W.cell? ⟨w.heap.size, 5, none⟩ = some (.slice (some ⟨b, off, none⟩) T.kids.length d) ∧ W.cell? ⟨X, 0, none⟩ = some (.func (.func f0) #[] cp0) ∧ w.heap.size < W.heap.size) := fun W h => ⟨cell_later h c5, cell_later h hX2, Nat.lt_of_lt_of_le (World.block_lt_of_cell? _ _ c5) h.size⟩
          go_region_held3 (fun W => W.cell? ⟨w.heap.size, 5, none⟩ = some (.slice (some ⟨b, off, none⟩) T.kids.length d) ∧ W.cell? ⟨X, 0, none⟩ = some (.func (.func f0) #[] cp0) ∧ w.heap.size < W.heap.size) (first | (refine HPK _ ?_; (repeat' (first | with_reducible exact H2 | with_reducible exact H1 | with_reducible exact Below.refl _ _ | (with_reducible refine Below.alloc ?_ ?_ _) | (with_reducible refine below_drew ?_))); all_goals (first | exact H2.size | exact H1.size | omega | (simp; done) | (simp; omega) | (have := H2.size; simp; omega) | (have := H1.size; simp; omega)))) (first
            | (go_at_call 127; refine (HRow.out _ (by (repeat' (first  | with_reducible exact Below.refl _ _ | (with_reducible refine Below.alloc ?_ ?_ _) | (with_reducible refine below_drew ?_))); all_goals (first  | omega | (simp; done) | (simp; omega) )) [p0, Sh.targets.ev Nd.right, Sh.expr.ev Nd.right] 3 _ rfl (by first | exact shapes_three (HS0.out.later (by (repeat' (first  | with_reducible exact Below.refl _ _ | (with_reducible refine Below.alloc ?_ ?_ _) | (with_reducible refine below_drew ?_))); all_goals (first  | omega | (simp; done) | (simp; omega) ))) (shTargets HRi.out (Utf8Tabs_below HT.out (by (repeat' (first  | with_reducible exact Below.refl _ _ | (with_reducible refine Below.alloc ?_ ?_ _) | (with_reducible refine below_drew ?_))); all_goals (first  | omega | (simp; done) | (simp; omega) )))) (shExpr HRi.out (Utf8Tabs_below HT.out (by (repeat' (first  | with_reducible exact Below.refl _ _ | (with_reducible refine Below.alloc ?_ ?_ _) | (with_reducible refine below_drew ?_))); all_goals (first  | omega | (simp; done) | (simp; omega) )))) _ _ (by simp) | exact ShapesAt.later (shapes_three (HS0.out.later (by (repeat' (first  | with_reducible exact Below.refl _ _ | (with_reducible refine Below.alloc ?_ ?_ _) | (with_reducible refine below_drew ?_))); all_goals (first  | omega | (simp; done) | (simp; omega) ))) (shTargets HRi.out (Utf8Tabs_below HT.out (by (repeat' (first  | with_reducible exact Below.refl _ _ | (with_reducible refine Below.alloc ?_ ?_ _) | (with_reducible refine below_drew ?_))); all_goals (first  | omega | (simp; done) | (simp; omega) )))) (shExpr HRi.out (Utf8Tabs_below HT.out (by (repeat' (first  | with_reducible exact Below.refl _ _ | (with_reducible refine Below.alloc ?_ ?_ _) | (with_reducible refine below_drew ?_))); all_goals (first  | omega | (simp; done) | (simp; omega) )))) _ _ (by simp)) (below_drew (Below.refl _ _)) | exact ShapesAt.later (shapes_three (HS0.out.later (by (repeat' (first  | with_reducible exact Below.refl _ _ | (with_reducible refine Below.alloc ?_ ?_ _) | (with_reducible refine below_drew ?_))); all_goals (first  | omega | (simp; done) | (simp; omega) ))) (shTargets HRi.out (Utf8Tabs_below HT.out (by (repeat' (first  | with_reducible exact Below.refl _ _ | (with_reducible refine Below.alloc ?_ ?_ _) | (with_reducible refine below_drew ?_))); all_goals (first  | omega | (simp; done) | (simp; omega) )))) (shExpr HRi.out (Utf8Tabs_below HT.out (by (repeat' (first  | with_reducible exact Below.refl _ _ | (with_reducible refine Below.alloc ?_ ?_ _) | (with_reducible refine below_drew ?_))); all_goals (first  | omega | (simp; done) | (simp; omega) )))) _ _ (by simp)) (below_drew (below_drew (Below.refl _ _)))) (by unfold maxLen; omega)).mono ?_; rintro e w3 ⟨he3, hb3⟩; rw [HR1.out] at he3; subst he3; have H1 := below_then (w1 := w1) hb3 (by (repeat' (first  | with_reducible exact Below.refl _ _ | (with_reducible refine Below.alloc ?_ ?_ _) | (with_reducible refine below_drew ?_))); all_goals (first  | omega | (simp; done) | (simp; omega) )))
            | (go_at_call 130; refine (HEach.out _ (by (repeat' (first | with_reducible exact H1 | with_reducible exact Below.refl _ _ | (with_reducible refine Below.alloc ?_ ?_ _) | (with_reducible refine below_drew ?_))); all_goals (first | exact H1.size | omega | (simp; done) | (simp; omega) | (have := H1.size; simp; omega))) _ _ (shExpr HRi.out (Utf8Tabs_below HT.out (by (repeat' (first | with_reducible exact H1 | with_reducible exact Below.refl _ _ | (with_reducible refine Below.alloc ?_ ?_ _) | (with_reducible refine below_drew ?_))); all_goals (first | exact H1.size | omega | (simp; done) | (simp; omega) | (have := H1.size; simp; omega)))))).mono ?_; rintro e w4 ⟨he4, hb4⟩; rw [HR2.out] at he4; subst he4; have H2 := below_then (w1 := w1) hb4 (by (repeat' (first | with_reducible exact H1 | with_reducible exact Below.refl _ _ | (with_reducible refine Below.alloc ?_ ?_ _) | (with_reducible refine below_drew ?_))); all_goals (first | exact H1.size | omega | (simp; done) | (simp; omega) | (have := H1.size; simp; omega)))))
          all_goals
            go_wp2
            go_ret
            exact ⟨by show Ending.returned (.bool _) = _; simp [e2], hb1.trans (H2.mono hb1.size)⟩
      · by_cases hd3 : d = 3
        · subst hd3
          have hl0 : T.kids.length - 3 = 0 := by omega
          simp only [if_true, hl0, Nat.sub_self] at HEach
          clear hl0
          obtain ⟨hm1, hm2, hrm, hw32, hk1, hk2, hk64, ha64, hts, hKs⟩ := hN.parts
          unfold maxLen at hm2 hk2 hts
          obtain ⟨hk64a, hk64b⟩ := hk64
          obtain ⟨ha64a, ha64b⟩ := ha64
          have HK := Lib.hid (fun (i : Nat) (t : Nd) (hi : T.kids[i]? = some t) => hN.kid hi)
          have hb1 := (Below.refl w.heap.size w).alloc (Nat.le_refl _) (.cells #[.int .i64 T.kind, .int .i64 T.pos, .string T.text, .bool T.neg, .slice A T.mag.length c, .slice (some ⟨b, off, none⟩) T.kids.length 3] 27)
          obtain ⟨c0, c1, c2, c3, c4, c5⟩ := (cellsN_new w T A c (some ⟨b, off, none⟩) 3 27).box
          unfold ndV
          clear hKs hN
          go_enter Tryz.func180, Tryz.ntmps180
          go_wp2_with fail
          generalize w.alloc (.cells #[.int .i64 T.kind, .int .i64 T.pos, .string T.text, .bool T.neg, .slice A T.mag.length c, .slice (some ⟨b, off, none⟩) T.kids.length 3] 27) = w1 at *
          have HPK : ∀ W, Below w1.heap.size w1 W → (W.cell? ⟨w.heap.size, 5, none⟩ = some (.slice (some ⟨b, off, none⟩) T.kids.length 3) ∧ W.cell? ⟨X, 0, none⟩ = some (.func (.func f0) #[] cp0) ∧ w.heap.size < W.heap.size) := fun W h => ⟨cell_later h c5, cell_later h hX2, Nat.lt_of_lt_of_le (World.block_lt_of_cell? _ _ c5) h.size⟩
          go_region_held3 (fun W => W.cell? ⟨w.heap.size, 5, none⟩ = some (.slice (some ⟨b, off, none⟩) T.kids.length 3) ∧ W.cell? ⟨X, 0, none⟩ = some (.func (.func f0) #[] cp0) ∧ w.heap.size < W.heap.size) (first | (refine HPK _ ?_; (repeat' (first | with_reducible exact H2 | with_reducible exact H1 | with_reducible exact Below.refl _ _ | (with_reducible refine Below.alloc ?_ ?_ _) | (with_reducible refine below_drew ?_))); all_goals (first | exact H2.size | exact H1.size | omega | (simp; done) | (simp; omega) | (have := H2.size; simp; omega) | (have := H1.size; simp; omega)))) (first
            | (go_at_call 127; refine (HRow.out _ (by (repeat' (first  | with_reducible exact Below.refl _ _ | (with_reducible refine Below.alloc ?_ ?_ _) | (with_reducible refine below_drew ?_))); all_goals (first  | omega | (simp; done) | (simp; omega) )) [p0, Sh.targets.ev Nd.right, Sh.expr.ev Nd.right] 3 _ rfl (by first | exact shapes_three (HS0.out.later (by (repeat' (first  | with_reducible exact Below.refl _ _ | (with_reducible refine Below.alloc ?_ ?_ _) | (with_reducible refine below_drew ?_))); all_goals (first  | omega | (simp; done) | (simp; omega) ))) (shTargets HRi.out (Utf8Tabs_below HT.out (by (repeat' (first  | with_reducible exact Below.refl _ _ | (with_reducible refine Below.alloc ?_ ?_ _) | (with_reducible refine below_drew ?_))); all_goals (first  | omega | (simp; done) | (simp; omega) )))) (shExpr HRi.out (Utf8Tabs_below HT.out (by (repeat' (first  | with_reducible exact Below.refl _ _ | (with_reducible refine Below.alloc ?_ ?_ _) | (with_reducible refine below_drew ?_))); all_goals (first  | omega | (simp; done) | (simp; omega) )))) _ _ (by simp) | exact ShapesAt.later (shapes_three (HS0.out.later (by (repeat' (first  | with_reducible exact Below.refl _ _ | (with_reducible refine Below.alloc ?_ ?_ _) | (with_reducible refine below_drew ?_))); all_goals (first  | omega | (simp; done) | (simp; omega) ))) (shTargets HRi.out (Utf8Tabs_below HT.out (by (repeat' (first  | with_reducible exact Below.refl _ _ | (with_reducible refine Below.alloc ?_ ?_ _) | (with_reducible refine below_drew ?_))); all_goals (first  | omega | (simp; done) | (simp; omega) )))) (shExpr HRi.out (Utf8Tabs_below HT.out (by (repeat' (first  | with_reducible exact Below.refl _ _ | (with_reducible refine Below.alloc ?_ ?_ _) | (with_reducible refine below_drew ?_))); all_goals (first  | omega | (simp; done) | (simp; omega) )))) _ _ (by simp)) (below_drew (Below.refl _ _)) | exact ShapesAt.later (shapes_three (HS0.out.later (by (repeat' (first  | with_reducible exact Below.refl _ _ | (with_reducible refine Below.alloc ?_ ?_ _) | (with_reducible refine below_drew ?_))); all_goals (first  | omega | (simp; done) | (simp; omega) ))) (shTargets HRi.out (Utf8Tabs_below HT.out (by (repeat' (first  | with_reducible exact Below.refl _ _ | (with_reducible refine Below.alloc ?_ ?_ _) | (with_reducible refine below_drew ?_))); all_goals (first  | omega | (simp; done) | (simp; omega) )))) (shExpr HRi.out (Utf8Tabs_below HT.out (by (repeat' (first  | with_reducible exact Below.refl _ _ | (with_reducible refine Below.alloc ?_ ?_ _) | (with_reducible refine below_drew ?_))); all_goals (first  | omega | (simp; done) | (simp; omega) )))) _ _ (by simp)) (below_drew (below_drew (Below.refl _ _)))) (by unfold maxLen; omega)).mono ?_; rintro e w3 ⟨he3, hb3⟩; rw [HR1.out] at he3; subst he3; have H1 := below_then (w1 := w1) hb3 (by (repeat' (first  | with_reducible exact Below.refl _ _ | (with_reducible refine Below.alloc ?_ ?_ _) | (with_reducible refine below_drew ?_))); all_goals (first  | omega | (simp; done) | (simp; omega) )))
            | (go_at_call 130; refine (HEach.out _ (by (repeat' (first | with_reducible exact H1 | with_reducible exact Below.refl _ _ | (with_reducible refine Below.alloc ?_ ?_ _) | (with_reducible refine below_drew ?_))); all_goals (first | exact H1.size | omega | (simp; done) | (simp; omega) | (have := H1.size; simp; omega))) _ _ (shExpr HRi.out (Utf8Tabs_below HT.out (by (repeat' (first | with_reducible exact H1 | with_reducible exact Below.refl _ _ | (with_reducible refine Below.alloc ?_ ?_ _) | (with_reducible refine below_drew ?_))); all_goals (first | exact H1.size | omega | (simp; done) | (simp; omega) | (have := H1.size; simp; omega)))))).mono ?_; rintro e w4 ⟨he4, hb4⟩; rw [HR2.out] at he4; subst he4; have H2 := below_then (w1 := w1) hb4 (by (repeat' (first | with_reducible exact H1 | with_reducible exact Below.refl _ _ | (with_reducible refine Below.alloc ?_ ?_ _) | (with_reducible refine below_drew ?_))); all_goals (first | exact H1.size | omega | (simp; done) | (simp; omega) | (have := H1.size; simp; omega)))))
          all_goals
            go_wp2
            go_ret
            exact ⟨by show Ending.returned (.bool _) = _; simp [e2], hb1.trans (H2.mono hb1.size)⟩
        · simp only [if_neg hd3] at HEach
          obtain ⟨hm1, hm2, hrm, hw32, hk1, hk2, hk64, ha64, hts, hKs⟩ := hN.parts
          unfold maxLen at hm2 hk2 hts
          obtain ⟨hk64a, hk64b⟩ := hk64
          obtain ⟨ha64a, ha64b⟩ := ha64
          have HK := Lib.hid (fun (i : Nat) (t : Nd) (hi : T.kids[i]? = some t) => hN.kid hi)
          have hb1 := (Below.refl w.heap.size w).alloc (Nat.le_refl _) (.cells #[.int .i64 T.kind, .int .i64 T.pos, .string T.text, .bool T.neg, .slice A T.mag.length c, .slice (some ⟨b, off, none⟩) T.kids.length d] 27)
          obtain ⟨c0, c1, c2, c3, c4, c5⟩ := (cellsN_new w T A c (some ⟨b, off, none⟩) d 27).box
          unfold ndV
          clear hKs hN
          go_enter Tryz.func180, Tryz.ntmps180
          go_wp2_with fail
          generalize w.alloc (.cells #[.int .i64 T.kind, .int .i64 T.pos, .string T.text, .bool T.neg, .slice A T.mag.length c, .slice (some ⟨b, off, none⟩) T.kids.length d] 27) = w1 at *
          have HPK : ∀ W, Below w1.heap.size w1 W → (W.cell? ⟨w.heap.size, 5, none⟩ = some (.slice (some ⟨b, off, none⟩) T.kids.length d) ∧ W.cell? ⟨X, 0, none⟩ = some (.func (.func f0) #[] cp0) ∧ w.heap.size < W.heap.size) := fun W h => ⟨cell_later h c5, cell_later h hX2, Nat.lt_of_lt_of_le (World.block_lt_of_cell? _ _ c5) h.size⟩
          go_region_held3 (fun W => W.cell? ⟨w.heap.size, 5, none⟩ = some (.slice (some ⟨b, off, none⟩) T.kids.length d) ∧ W.cell? ⟨X, 0, none⟩ = some (.func (.func f0) #[] cp0) ∧ w.heap.size < W.heap.size) (first | (refine HPK _ ?_; (repeat' (first | with_reducible exact H2 | with_reducible exact H1 | with_reducible exact Below.refl _ _ | (with_reducible refine Below.alloc ?_ ?_ _) | (with_reducible refine below_drew ?_))); all_goals (first | exact H2.size | exact H1.size | omega | (simp; done) | (simp; omega) | (have := H2.size; simp; omega) | (have := H1.size; simp; omega)))) (first
            | (go_at_call 127; refine (HRow.out _ (by (repeat' (first  | with_reducible exact Below.refl _ _ | (with_reducible refine Below.alloc ?_ ?_ _) | (with_reducible refine below_drew ?_))); all_goals (first  | omega | (simp; done) | (simp; omega) )) [p0, Sh.targets.ev Nd.right, Sh.expr.ev Nd.right] 3 _ rfl (by first | exact shapes_three (HS0.out.later (by (repeat' (first  | with_reducible exact Below.refl _ _ | (with_reducible refine Below.alloc ?_ ?_ _) | (with_reducible refine below_drew ?_))); all_goals (first  | omega | (simp; done) | (simp; omega) ))) (shTargets HRi.out (Utf8Tabs_below HT.out (by (repeat' (first  | with_reducible exact Below.refl _ _ | (with_reducible refine Below.alloc ?_ ?_ _) | (with_reducible refine below_drew ?_))); all_goals (first  | omega | (simp; done) | (simp; omega) )))) (shExpr HRi.out (Utf8Tabs_below HT.out (by (repeat' (first  | with_reducible exact Below.refl _ _ | (with_reducible refine Below.alloc ?_ ?_ _) | (with_reducible refine below_drew ?_))); all_goals (first  | omega | (simp; done) | (simp; omega) )))) _ _ (by simp) | exact ShapesAt.later (shapes_three (HS0.out.later (by (repeat' (first  | with_reducible exact Below.refl _ _ | (with_reducible refine Below.alloc ?_ ?_ _) | (with_reducible refine below_drew ?_))); all_goals (first  | omega | (simp; done) | (simp; omega) ))) (shTargets HRi.out (Utf8Tabs_below HT.out (by (repeat' (first  | with_reducible exact Below.refl _ _ | (with_reducible refine Below.alloc ?_ ?_ _) | (with_reducible refine below_drew ?_))); all_goals (first  | omega | (simp; done) | (simp; omega) )))) (shExpr HRi.out (Utf8Tabs_below HT.out (by (repeat' (first  | with_reducible exact Below.refl _ _ | (with_reducible refine Below.alloc ?_ ?_ _) | (with_reducible refine below_drew ?_))); all_goals (first  | omega | (simp; done) | (simp; omega) )))) _ _ (by simp)) (below_drew (Below.refl _ _)) | exact ShapesAt.later (shapes_three (HS0.out.later (by (repeat' (first  | with_reducible exact Below.refl _ _ | (with_reducible refine Below.alloc ?_ ?_ _) | (with_reducible refine below_drew ?_))); all_goals (first  | omega | (simp; done) | (simp; omega) ))) (shTargets HRi.out (Utf8Tabs_below HT.out (by (repeat' (first  | with_reducible exact Below.refl _ _ | (with_reducible refine Below.alloc ?_ ?_ _) | (with_reducible refine below_drew ?_))); all_goals (first  | omega | (simp; done) | (simp; omega) )))) (shExpr HRi.out (Utf8Tabs_below HT.out (by (repeat' (first  | with_reducible exact Below.refl _ _ | (with_reducible refine Below.alloc ?_ ?_ _) | (with_reducible refine below_drew ?_))); all_goals (first  | omega | (simp; done) | (simp; omega) )))) _ _ (by simp)) (below_drew (below_drew (Below.refl _ _)))) (by unfold maxLen; omega)).mono ?_; rintro e w3 ⟨he3, hb3⟩; rw [HR1.out] at he3; subst he3; have H1 := below_then (w1 := w1) hb3 (by (repeat' (first  | with_reducible exact Below.refl _ _ | (with_reducible refine Below.alloc ?_ ?_ _) | (with_reducible refine below_drew ?_))); all_goals (first  | omega | (simp; done) | (simp; omega) )))
            | (go_at_call 130; refine (HEach.out _ (by (repeat' (first | with_reducible exact H1 | with_reducible exact Below.refl _ _ | (with_reducible refine Below.alloc ?_ ?_ _) | (with_reducible refine below_drew ?_))); all_goals (first | exact H1.size | omega | (simp; done) | (simp; omega) | (have := H1.size; simp; omega))) _ _ (shExpr HRi.out (Utf8Tabs_below HT.out (by (repeat' (first | with_reducible exact H1 | with_reducible exact Below.refl _ _ | (with_reducible refine Below.alloc ?_ ?_ _) | (with_reducible refine below_drew ?_))); all_goals (first | exact H1.size | omega | (simp; done) | (simp; omega) | (have := H1.size; simp; omega)))))).mono ?_; rintro e w4 ⟨he4, hb4⟩; rw [HR2.out] at he4; subst he4; have H2 := below_then (w1 := w1) hb4 (by (repeat' (first | with_reducible exact H1 | with_reducible exact Below.refl _ _ | (with_reducible refine Below.alloc ?_ ?_ _) | (with_reducible refine below_drew ?_))); all_goals (first | exact H1.size | omega | (simp; done) | (simp; omega) | (have := H1.size; simp; omega)))))
          all_goals
            go_wp2
            go_ret
            exact ⟨by show Ending.returned (.bool _) = _; simp [e2], hb1.trans (H2.mono hb1.size)⟩
  · have e1 : decide (3 ≤ (T.kids.length : Int)) = false := decide_eq_false (by omega)
    have e2 : decide (3 ≤ T.kids.length) = false := decide_eq_false h3
    clear h3 hkp hWi hbx hT hRi hX
    obtain ⟨hm1, hm2, hrm, hw32, hk1, hk2, hk64, ha64, hts, hKs⟩ := hN.parts
    unfold maxLen at hm2 hk2 hts
    obtain ⟨hk64a, hk64b⟩ := hk64
    obtain ⟨ha64a, ha64b⟩ := ha64
    have HK := Lib.hid (fun (i : Nat) (t : Nd) (hi : T.kids[i]? = some t) => hN.kid hi)
    have hb1 := (Below.refl w.heap.size w).alloc (Nat.le_refl _) (.cells #[.int .i64 T.kind, .int .i64 T.pos, .string T.text, .bool T.neg, .slice A T.mag.length c, .slice K T.kids.length d] 27)
    obtain ⟨c0, c1, c2, c3, c4, c5⟩ := (cellsN_new w T A c K d 27).box
    unfold ndV
    clear hKs hN
    go_enter Tryz.func180, Tryz.ntmps180
    go_wp2_with fail
    generalize w.alloc (.cells #[.int .i64 T.kind, .int .i64 T.pos, .string T.text, .bool T.neg, .slice A T.mag.length c, .slice K T.kids.length d] 27) = w1 at *
    go_quiet (fail)
    go_wp2
    go_ret
    exact ⟨by show Ending.returned (.bool _) = _; simp [e2], hb1.trans ((below_draws _ _).mono hb1.size)⟩
end
end Go.Proofs.YtjefhdlncikhmaaGreatDoor
