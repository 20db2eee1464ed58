/- Joined by a program: Words, Nd, Append, Cp0. -/
import Derived.Test.YtjndbcnmmnkilaaGreatDoorPF00
namespace Go.Proofs.YtjndbcnmmnkilaaGreatDoor
set_option linter.unusedVariables false
set_option linter.unusedSimpArgs false
set_option maxRecDepth 1000000
set_option maxHeartbeats 16000000
section
open Go.RowKit
open List (length_append length_cons length_nil length_singleton)
def RdI (w : World) (k : IntKind) (A : Option Addr) (zs : List Int) : Prop :=
 ∀ i, i < zs.length → ∃ (b off : Nat) (z : Int), A = some ⟨b, off, none⟩ ∧ zs[i]? = some z ∧ w.cell? ⟨b, off + i, none⟩ = some (.int k z)
theorem RdI.nil (w : World) (k : IntKind) (A : Option Addr) : RdI w k A [] := fun i h => absurd h lq18
theorem RdI.later {w w' : World} {k : IntKind} {A : Option Addr} {zs : List Int} (h : RdI w k A zs) (hb : Below w.heap.size w w') : RdI w' k A zs := fun i hi => by
 obtain ⟨b, off, z, hA, hz, hc⟩ := h i hi
 exact ⟨b, off, z, hA, hz, cell_later hb hc⟩
theorem oldCells {W w1 : World} (hb : Below W.heap.size W w1) :
  (∀ b o, b < W.heap.size → w1.cell? ⟨b, o, none⟩ = W.cell? ⟨b, o, none⟩) ∧ (∀ b o, b < W.heap.size → w1.frozen? ⟨b, o, none⟩ = W.frozen? ⟨b, o, none⟩) :=
 ⟨fun b o h => hb.cell (p := ⟨b, o, none⟩) h, fun b o h => hb.frozen (p := ⟨b, o, none⟩) h⟩
theorem blt {w : World} {a : Addr} {v : Value} (h : w.cell? a = some v) : a.block < w.heap.size := World.block_lt_of_cell? w a h
section
variable {w w' : World} {o0 i0 : Nat} {v0 : Value} {o1 i1 : Nat} {v1 : Value}
include w w' o0 i0 v0 o1 i1 v1
theorem cl2 (b : Below w.heap.size w w') (h0 : w.cell? ⟨o0, i0, none⟩ = some v0) (h1 : w.cell? ⟨o1, i1, none⟩ = some v1) : w'.cell? ⟨o0, i0, none⟩ = some v0 ∧ w'.cell? ⟨o1, i1, none⟩ = some v1 := ⟨cell_later b h0, cell_later b h1⟩
theorem cl3 {o2 i2 : Nat} {v2 : Value} (b : Below w.heap.size w w') (h0 : w.cell? ⟨o0, i0, none⟩ = some v0) (h1 : w.cell? ⟨o1, i1, none⟩ = some v1) (h2 : w.cell? ⟨o2, i2, none⟩ = some v2) : w'.cell? ⟨o0, i0, none⟩ = some v0 ∧ w'.cell? ⟨o1, i1, none⟩ = some v1 ∧ w'.cell? ⟨o2, i2, none⟩ = some v2 := ⟨cell_later b h0, cell_later b h1, cell_later b h2⟩
theorem cl4 {o2 i2 : Nat} {v2 : Value} {o3 i3 : Nat} {v3 : Value} (b : Below w.heap.size w w') (h0 : w.cell? ⟨o0, i0, none⟩ = some v0) (h1 : w.cell? ⟨o1, i1, none⟩ = some v1) (h2 : w.cell? ⟨o2, i2, none⟩ = some v2) (h3 : w.cell? ⟨o3, i3, none⟩ = some v3) : w'.cell? ⟨o0, i0, none⟩ = some v0 ∧ w'.cell? ⟨o1, i1, none⟩ = some v1 ∧ w'.cell? ⟨o2, i2, none⟩ = some v2 ∧ w'.cell? ⟨o3, i3, none⟩ = some v3 := ⟨cell_later b h0, cell_later b h1, cell_later b h2, cell_later b h3⟩
theorem cl5 {o2 i2 : Nat} {v2 : Value} {o3 i3 : Nat} {v3 : Value} {o4 i4 : Nat} {v4 : Value} (b : Below w.heap.size w w') (h0 : w.cell? ⟨o0, i0, none⟩ = some v0) (h1 : w.cell? ⟨o1, i1, none⟩ = some v1) (h2 : w.cell? ⟨o2, i2, none⟩ = some v2) (h3 : w.cell? ⟨o3, i3, none⟩ = some v3) (h4 : w.cell? ⟨o4, i4, none⟩ = some v4) : w'.cell? ⟨o0, i0, none⟩ = some v0 ∧ w'.cell? ⟨o1, i1, none⟩ = some v1 ∧ w'.cell? ⟨o2, i2, none⟩ = some v2 ∧ w'.cell? ⟨o3, i3, none⟩ = some v3 ∧ w'.cell? ⟨o4, i4, none⟩ = some v4 := ⟨cell_later b h0, cell_later b h1, cell_later b h2, cell_later b h3, cell_later b h4⟩
theorem cl6 {o2 i2 : Nat} {v2 : Value} {o3 i3 : Nat} {v3 : Value} {o4 i4 : Nat} {v4 : Value} {o5 i5 : Nat} {v5 : Value} (b : Below w.heap.size w w') (h0 : w.cell? ⟨o0, i0, none⟩ = some v0) (h1 : w.cell? ⟨o1, i1, none⟩ = some v1) (h2 : w.cell? ⟨o2, i2, none⟩ = some v2) (h3 : w.cell? ⟨o3, i3, none⟩ = some v3) (h4 : w.cell? ⟨o4, i4, none⟩ = some v4) (h5 : w.cell? ⟨o5, i5, none⟩ = some v5) : w'.cell? ⟨o0, i0, none⟩ = some v0 ∧ w'.cell? ⟨o1, i1, none⟩ = some v1 ∧ w'.cell? ⟨o2, i2, none⟩ = some v2 ∧ w'.cell? ⟨o3, i3, none⟩ = some v3 ∧ w'.cell? ⟨o4, i4, none⟩ = some v4 ∧ w'.cell? ⟨o5, i5, none⟩ = some v5 := ⟨cell_later b h0, cell_later b h1, cell_later b h2, cell_later b h3, cell_later b h4, cell_later b h5⟩
end
theorem dTo {p : Prop} [Decidable p] (h : p := by omega) : decide p = true := decide_eq_true h
theorem dFo {p : Prop} [Decidable p] (h : ¬ p := by omega) : decide p = false := decide_eq_false h
theorem dTr {p : Prop} [Decidable p] (h : p) : decide p = true := decide_eq_true h
theorem dFa {p : Prop} [Decidable p] (h : ¬ p) : decide p = false := decide_eq_false h
theorem bFo {a b : Int} (h : ¬ a = b := by omega) : (a == b) = false := beq_eq_false_iff_ne.2 h
theorem mog {α : Type} {l : List α} {i : Nat} {a : α} (h : l[i]? = some a) : a ∈ l := List.mem_of_getElem? h
theorem gEo {α : Type} {l : List α} {i : Nat} (h : i < l.length := by omega) : l[i]? = some (l[i]) := List.getElem?_eq_getElem h
theorem Lh {p : Prop} (h : p) : Hid p := Lib.hid h
theorem cLt {w w' : World} {p : Addr} {v : Value} (b : Below w.heap.size w w') (h : w.cell? p = some v) : w'.cell? p = some v := cell_later b h

inductive Nd where
 | mk (kind pos : Int) (text : ByteArray) (neg : Bool) (mag : List Int) (kids : List Nd)
namespace Nd
def kind : Nd → Int | .mk k _ _ _ _ _ => k
def pos : Nd → Int | .mk _ a _ _ _ _ => a
def text : Nd → ByteArray | .mk _ _ t _ _ _ => t
def neg : Nd → Bool | .mk _ _ _ b _ _ => b
def mag : Nd → List Int | .mk _ _ _ _ m _ => m
def kids : Nd → List Nd | .mk _ _ _ _ _ ks => ks
end Nd
mutual
def Nd.depth : Nd → Nat
 | .mk _ _ _ _ _ ks => depths ks + 1
def depths : List Nd → Nat
 | [] => 0
 | t :: r => max t.depth (depths r)
end
mutual
def Nd.count : Nd → Nat
 | .mk _ _ _ _ _ ks => counts ks + 1
def counts : List Nd → Nat
 | [] => 0
 | t :: r => t.count + counts r
end
mutual
def Nd.weight : Nd → Nat
 | .mk _ _ t _ m ks => 1 + t.size + m.length + weights ks
def weights : List Nd → Nat
 | [] => 0
 | t :: r => t.weight + weights r
end
theorem Nd.depth_eq (T : Nd) : T.depth = depths T.kids + 1 := by cases T; rw [Nd.depth]; rfl
theorem Nd.count_eq (T : Nd) : T.count = counts T.kids + 1 := by cases T; rw [Nd.count]; rfl
theorem Nd.weight_eq (T : Nd) : T.weight = 1 + T.text.size + T.mag.length + weights T.kids := by cases T; rw [Nd.weight]; rfl
theorem depths_le : ∀ {l : List Nd} {t : Nd}, t ∈ l → t.depth ≤ depths l
 | a :: r, t, h => by
  rw [depths]
  rcases List.mem_cons.1 h with rfl | h
  ·exact Nat.le_max_left _ _
  ·exact Nat.le_trans (depths_le h) (Nat.le_max_right _ _)
theorem weights_le : ∀ {l : List Nd} {t : Nd}, t ∈ l → t.weight ≤ weights l
 | a :: r, t, h => by
  rw [weights]
  rcases List.mem_cons.1 h with rfl | h
  ·omega
  ·have := weights_le h; omega
theorem Nd.depth_kid {T t : Nd} (h : t ∈ T.kids) : t.depth < T.depth := by have := depths_le h; rw [T.depth_eq]; omega
theorem Nd.weight_kid {T t : Nd} (h : t ∈ T.kids) : t.weight < T.weight := by have := weights_le h; rw [T.weight_eq]; omega
theorem Nd.ind {P : Nd → Prop} (h : ∀ T : Nd, (∀ t ∈ T.kids, P t) → P T) (T : Nd) : P T := by
 have : ∀ n (T : Nd), T.depth ≤ n → P T := by
  intro n
  induction n with
  | zero => intro T hT; rw [T.depth_eq] at hT; omega
  | succ n ih => exact fun T hT => h T fun t ht => ih t (by have := Nd.depth_kid ht; omega)
 exact this _ T (Nat.le_refl _)
def ndV (T : Nd) (A : Option Addr) (c : Nat) (K : Option Addr) (d : Nat) : Value := .agg #[.int .i64 T.kind, .int .i64 T.pos, .string T.text, .bool T.neg, .slice A T.mag.length c, .slice K T.kids.length d]
def CellsN (w : World) (b o : Nat) (T : Nd) (A : Option Addr) (c : Nat) (K : Option Addr) (d : Nat) : Prop :=
 w.cell? ⟨b, o, none⟩ = some (.int .i64 T.kind) ∧ w.cell? ⟨b, o + 1, none⟩ = some (.int .i64 T.pos) ∧ w.cell? ⟨b, o + 2, none⟩ = some (.string T.text) ∧ w.cell? ⟨b, o + 3, none⟩ = some (.bool T.neg) ∧ w.cell? ⟨b, o + 4, none⟩ = some (.slice A T.mag.length c) ∧ w.cell? ⟨b, o + 5, none⟩ = some (.slice K T.kids.length d)
def I64 (z : Int) : Prop := -9223372036854775808 ≤ z ∧ z ≤ 9223372036854775807
mutual
def NodeAt (w : World) : Nd → Option Addr → Nat → Option Addr → Nat → Prop
 | .mk k a t _ m ks, A, c, K, d => m.length ≤ c ∧ c ≤ maxLen ∧ RdI w .u32 A m ∧ (∀ z ∈ m, 0 ≤ z ∧ z < 4294967296) ∧ ks.length ≤ d ∧ d ≤ maxLen ∧ I64 k ∧ I64 a ∧ t.size ≤ maxLen ∧ KidsAt w ks K 0
def KidsAt (w : World) : List Nd → Option Addr → Nat → Prop
 | [], _, _ => True
 | t :: r, K, i => (∃ b off A c K' d, K = some ⟨b, off, none⟩ ∧ CellsN w b (off + i * 6) t A c K' d ∧ NodeAt w t A c K' d) ∧ KidsAt w r K (i + 1)
end
theorem CellsN.box {w : World} {b c d : Nat} {T : Nd} {A K : Option Addr} (h : CellsN w b 0 T A c K d) :
  w.cell? ⟨b, 0, none⟩ = some (.int .i64 T.kind) ∧ w.cell? ⟨b, 1, none⟩ = some (.int .i64 T.pos) ∧ w.cell? ⟨b, 2, none⟩ = some (.string T.text) ∧ w.cell? ⟨b, 3, none⟩ = some (.bool T.neg) ∧ w.cell? ⟨b, 4, none⟩ = some (.slice A T.mag.length c) ∧ w.cell? ⟨b, 5, none⟩ = some (.slice K T.kids.length d) := by
 simpa [CellsN] using h
theorem CellsN.later {w w' : World} {b o c d : Nat} {T : Nd} {A K : Option Addr} (h : CellsN w b o T A c K d) (hb : Below w.heap.size w w') : CellsN w' b o T A c K d :=
 ⟨cLt hb h.1, cLt hb h.2.1, cLt hb h.2.2.1, cLt hb h.2.2.2.1, cLt hb h.2.2.2.2.1, cLt hb h.2.2.2.2.2⟩
mutual
theorem NodeAt.later {w w' : World} (hb : Below w.heap.size w w') : ∀ {T : Nd} {A : Option Addr} {c : Nat} {K : Option Addr} {d : Nat}, NodeAt w T A c K d → NodeAt w' T A c K d
 | .mk k a t _ m ks, A, c, K, d, h => by
  rw [NodeAt] at h ⊢; obtain ⟨h1, h2, h3, h4, h5, h6, h7, h8, h9, h10⟩ := h; exact ⟨h1, h2, h3.later hb, h4, h5, h6, h7, h8, h9, h10.later hb⟩
theorem KidsAt.later {w w' : World} (hb : Below w.heap.size w w') : ∀ {l : List Nd} {K : Option Addr} {i : Nat}, KidsAt w l K i → KidsAt w' l K i
 | [], K, i, _ => by rw [KidsAt]; trivial
 | t :: r, K, i, h => by
  rw [KidsAt] at h ⊢; obtain ⟨⟨b, off, A, c, K', d, e, hc, hn⟩, hr⟩ := h; exact ⟨⟨b, off, A, c, K', d, e, hc.later hb, hn.later hb⟩, hr.later hb⟩
end
theorem NodeAt.parts {w : World} {T : Nd} {A : Option Addr} {c : Nat} {K : Option Addr} {d : Nat} (h : NodeAt w T A c K d) :
  T.mag.length ≤ c ∧ c ≤ maxLen ∧ RdI w .u32 A T.mag ∧ (∀ z ∈ T.mag, 0 ≤ z ∧ z < 4294967296) ∧ T.kids.length ≤ d ∧ d ≤ maxLen ∧ I64 T.kind ∧ I64 T.pos ∧ T.text.size ≤ maxLen ∧ KidsAt w T.kids K 0 := by
 cases T
 rw [NodeAt] at h
 exact h
theorem NodeAt.of {w : World} {T : Nd} {A : Option Addr} {c : Nat} {K : Option Addr} {d : Nat} (h : T.mag.length ≤ c ∧ c ≤ maxLen ∧ RdI w .u32 A T.mag ∧ (∀ z ∈ T.mag, 0 ≤ z ∧ z < 4294967296) ∧ T.kids.length ≤ d ∧ d ≤ maxLen ∧ I64 T.kind ∧ I64 T.pos ∧ T.text.size ≤ maxLen ∧ KidsAt w T.kids K 0) :
  NodeAt w T A c K d := by
 cases T
 rw [NodeAt]
 exact h
theorem KidsAt.kid {w : World} : ∀ {l : List Nd} {K : Option Addr} {j : Nat}, KidsAt w l K j → ∀ {i : Nat} {t : Nd}, l[i]? = some t → ∃ b off A c K' d, K = some ⟨b, off, none⟩ ∧ CellsN w b (off + (j + i) * 6) t A c K' d ∧ NodeAt w t A c K' d
 | [], K, j, _, i, t, h => by simp at h
 | a :: r, K, j, h, 0, t, hi => by
  rw [KidsAt] at h
  simp at hi
  subst hi; exact h.1
 | a :: r, K, j, h, i + 1, t, hi => by
  rw [KidsAt] at h; rw [List.getElem?_cons_succ] at hi; have := h.2.kid hi; rw [show j + 1 + i = j + (i + 1) by omega] at this; exact this
theorem NodeAt.kid {w : World} {T : Nd} {A : Option Addr} {c : Nat} {K : Option Addr} {d : Nat} (h : NodeAt w T A c K d) {i : Nat} {t : Nd} (hi : T.kids[i]? = some t) : ∃ b off A' c' K' d', K = some ⟨b, off, none⟩ ∧ CellsN w b (off + i * 6) t A' c' K' d' ∧ NodeAt w t A' c' K' d' := by
 have := h.parts.2.2.2.2.2.2.2.2.2.kid hi
 rw [Nat.zero_add] at this
 exact this
theorem KidsAt.of {w : World} {K : Option Addr} : ∀ {l : List Nd} {j : Nat}, (∀ i t, l[i]? = some t → ∃ b off A c K' d, K = some ⟨b, off, none⟩ ∧ CellsN w b (off + (j + i) * 6) t A c K' d ∧ NodeAt w t A c K' d) → KidsAt w l K j
 | [], j, _ => by rw [KidsAt]; trivial
 | a :: r, j, h => by
  rw [KidsAt]
  refine ⟨h 0 a rfl, KidsAt.of fun i t hi => ?_⟩
  have := h (i + 1) t hi; rw [show j + (i + 1) = j + 1 + i by omega] at this; exact this
theorem KidsAt.drop {w : World} {b off : Nat} {l : List Nd} (h : KidsAt w l (some ⟨b, off, none⟩) 0) (n : Nat) : KidsAt w (l.drop n) (some ⟨b, off + n * 6, none⟩) 0 := KidsAt.of fun i t hi => by
 rw [List.getElem?_drop] at hi
 obtain ⟨b', off', A, c, K', d, e, hc, hn⟩ := h.kid hi
 injection e with e
 injection e with e1 e2
 subst e1 e2
 refine ⟨_, _, A, c, K', d, rfl, ?_, hn⟩
 rw [show off + n * 6 + (0 + i) * 6 = off + (0 + (n + i)) * 6 by omega]
 exact hc
theorem KidsAt.take {w : World} {K : Option Addr} {l : List Nd} (h : KidsAt w l K 0) (n : Nat) : KidsAt w (l.take n) K 0 := KidsAt.of fun i t hi => by
 have hl : i < n := by
  have := (List.getElem?_eq_some_iff.1 hi).1; rw [List.length_take] at this
  omega
 rw [List.getElem?_take_of_lt hl] at hi
 exact h.kid hi
theorem cellsN_new (w : World) (T : Nd) (A : Option Addr) (c : Nat) (K : Option Addr) (d : Nat) (t : TypeId) : CellsN (w.alloc (.cells #[.int .i64 T.kind, .int .i64 T.pos, .string T.text, .bool T.neg, .slice A T.mag.length c, .slice K T.kids.length d] t)) w.heap.size 0 T A c K d :=
 have h := heap_alloc_new w (.cells #[.int .i64 T.kind, .int .i64 T.pos, .string T.text, .bool T.neg, .slice A T.mag.length c, .slice K T.kids.length d] t)
 ⟨cell_of_row _ _ 0 _ _ _ h, cell_of_row _ _ 1 _ _ _ h, cell_of_row _ _ 2 _ _ _ h, cell_of_row _ _ 3 _ _ _ h, cell_of_row _ _ 4 _ _ _ h, cell_of_row _ _ 5 _ _ _ h⟩
abbrev bx (k : Int) (T : Nd) (A : Option Addr) (c : Nat) (K : Option Addr) (d : Nat) : Obj := .cells #[.int .i64 k, .int .i64 T.pos, .string T.text, .bool T.neg, .slice A T.mag.length c, .slice K T.kids.length d] 29
theorem bxn (w : World) (T : Nd) (A : Option Addr) (c : Nat) (K : Option Addr) (d : Nat) : Below w.heap.size w (w.alloc (.cells #[.int .i64 T.kind, .int .i64 T.pos, .string T.text, .bool T.neg, .slice A T.mag.length c, .slice K T.kids.length d] 29)) ∧ (w.alloc (.cells #[.int .i64 T.kind, .int .i64 T.pos, .string T.text, .bool T.neg, .slice A T.mag.length c, .slice K T.kids.length d] 29)).cell? ⟨w.heap.size, 0, none⟩ = some (.int .i64 T.kind) ∧ (w.alloc (.cells #[.int .i64 T.kind, .int .i64 T.pos, .string T.text, .bool T.neg, .slice A T.mag.length c, .slice K T.kids.length d] 29)).cell? ⟨w.heap.size, 1, none⟩ = some (.int .i64 T.pos) ∧ (w.alloc (.cells #[.int .i64 T.kind, .int .i64 T.pos, .string T.text, .bool T.neg, .slice A T.mag.length c, .slice K T.kids.length d] 29)).cell? ⟨w.heap.size, 2, none⟩ = some (.string T.text) ∧ (w.alloc (.cells #[.int .i64 T.kind, .int .i64 T.pos, .string T.text, .bool T.neg, .slice A T.mag.length c, .slice K T.kids.length d] 29)).cell? ⟨w.heap.size, 3, none⟩ = some (.bool T.neg) ∧ (w.alloc (.cells #[.int .i64 T.kind, .int .i64 T.pos, .string T.text, .bool T.neg, .slice A T.mag.length c, .slice K T.kids.length d] 29)).cell? ⟨w.heap.size, 4, none⟩ = some (.slice A T.mag.length c) ∧ (w.alloc (.cells #[.int .i64 T.kind, .int .i64 T.pos, .string T.text, .bool T.neg, .slice A T.mag.length c, .slice K T.kids.length d] 29)).cell? ⟨w.heap.size, 5, none⟩ = some (.slice K T.kids.length d) := ⟨(Below.refl w.heap.size w).alloc (Nat.le_refl _) _, (cellsN_new w T A c K d 29).box⟩
theorem NodeAt.hd {w : World} {T : Nd} {A : Option Addr} {c : Nat} {K : Option Addr} {d : Nat} (hN : NodeAt w T A c K d) : T.mag.length ≤ c ∧ c ≤ 2 ^ 63 - 1 ∧ RdI w .u32 A T.mag ∧ (∀ z ∈ T.mag, 0 ≤ z ∧ z < 4294967296) ∧ T.kids.length ≤ d ∧ d ≤ 2 ^ 63 - 1 ∧ I64 T.kind ∧ I64 T.pos ∧ T.text.size ≤ 2 ^ 63 - 1 ∧ KidsAt w T.kids K 0 ∧ Hid (∀ (i : Nat) (t : Nd), T.kids[i]? = some t → ∃ b off A' c' K' d', K = some ⟨b, off, none⟩ ∧ CellsN w b (off + i * 6) t A' c' K' d' ∧ NodeAt w t A' c' K' d') := by
 obtain ⟨h1, h2, h3, h4, h5, h6, h7, h8, h9, h10⟩ := hN.parts
 exact ⟨h1, h2, h3, h4, h5, h6, h7, h8, h9, h10, Lib.hid fun i t hi => hN.kid hi⟩
theorem kz2 {T : Nd} {n : Int} (hk : T.kind = n) (a0 a1 : Int) (h : ((n == a0) || (n == a1)) = false) : (T.kind == a0) = false ∧ (T.kind == a1) = false := by
 exact lv78
theorem kz3 {T : Nd} {n : Int} (hk : T.kind = n) (a0 a1 a2 : Int) (h : ((n == a0) || (n == a1) || (n == a2)) = false) : (T.kind == a0) = false ∧ (T.kind == a1) = false ∧ (T.kind == a2) = false := by
 exact lv78
theorem kz4 {T : Nd} {n : Int} (hk : T.kind = n) (a0 a1 a2 a3 : Int) (h : ((n == a0) || (n == a1) || (n == a2) || (n == a3)) = false) : (T.kind == a0) = false ∧ (T.kind == a1) = false ∧ (T.kind == a2) = false ∧ (T.kind == a3) = false := by
 exact lv78
theorem kz5 {T : Nd} {n : Int} (hk : T.kind = n) (a0 a1 a2 a3 a4 : Int) (h : ((n == a0) || (n == a1) || (n == a2) || (n == a3) || (n == a4)) = false) : (T.kind == a0) = false ∧ (T.kind == a1) = false ∧ (T.kind == a2) = false ∧ (T.kind == a3) = false ∧ (T.kind == a4) = false := by
 exact lv78
theorem kz6 {T : Nd} {n : Int} (hk : T.kind = n) (a0 a1 a2 a3 a4 a5 : Int) (h : ((n == a0) || (n == a1) || (n == a2) || (n == a3) || (n == a4) || (n == a5)) = false) : (T.kind == a0) = false ∧ (T.kind == a1) = false ∧ (T.kind == a2) = false ∧ (T.kind == a3) = false ∧ (T.kind == a4) = false ∧ (T.kind == a5) = false := by
 exact lv78
theorem kz7 {T : Nd} {n : Int} (hk : T.kind = n) (a0 a1 a2 a3 a4 a5 a6 : Int) (h : ((n == a0) || (n == a1) || (n == a2) || (n == a3) || (n == a4) || (n == a5) || (n == a6)) = false) : (T.kind == a0) = false ∧ (T.kind == a1) = false ∧ (T.kind == a2) = false ∧ (T.kind == a3) = false ∧ (T.kind == a4) = false ∧ (T.kind == a5) = false ∧ (T.kind == a6) = false := by
 exact lv78
theorem kz8 {T : Nd} {n : Int} (hk : T.kind = n) (a0 a1 a2 a3 a4 a5 a6 a7 : Int) (h : ((n == a0) || (n == a1) || (n == a2) || (n == a3) || (n == a4) || (n == a5) || (n == a6) || (n == a7)) = false) : (T.kind == a0) = false ∧ (T.kind == a1) = false ∧ (T.kind == a2) = false ∧ (T.kind == a3) = false ∧ (T.kind == a4) = false ∧ (T.kind == a5) = false ∧ (T.kind == a6) = false ∧ (T.kind == a7) = false := by
 exact lv78
def FrI (w : World) (base : Nat) (k : IntKind) (A : Option Addr) (zs : List Int) : Prop :=
 ∀ i, i < zs.length → ∃ (b off : Nat) (z : Int), A = some ⟨b, off, none⟩ ∧ base ≤ b ∧ zs[i]? = some z ∧ w.cell? ⟨b, off + i, none⟩ = some (.int k z) ∧ w.frozen? ⟨b, off + i, none⟩ = false
theorem FrI.rd {w : World} {base : Nat} {k : IntKind} {A : Option Addr} {zs : List Int} (h : FrI w base k A zs) : RdI w k A zs := fun i hi => by
 obtain ⟨b, off, z, hA, _, hz, hc, _⟩ := h i hi
 exact ⟨b, off, z, hA, hz, hc⟩
theorem FrI.later {w w' : World} {base : Nat} {k : IntKind} {A : Option Addr} {zs : List Int} (h : FrI w base k A zs) (hb : Below w.heap.size w w') : FrI w' base k A zs := fun i hi => by
 obtain ⟨b, off, z, hA, hB, hz, hc, hf⟩ := h i hi
 exact ⟨b, off, z, hA, hB, hz, cLt hb hc, (hb.frozen (p := ⟨b, off + i, none⟩) (blt hc)).trans hf⟩
theorem FrI.mono {w : World} {base base' : Nat} {k : IntKind} {A : Option Addr} {zs : List Int} (h : FrI w base k A zs) (hb : base' ≤ base) : FrI w base' k A zs := fun i hi => by
 obtain ⟨b, off, z, hA, hB, hz, hc, hf⟩ := h i hi
 exact ⟨b, off, z, hA, by omega, hz, hc, hf⟩
theorem FrI.setCell {w : World} {base : Nat} {k : IntKind} {A : Option Addr} {zs : List Int} (h : FrI w base k A zs) {p : Addr} (hp : p.block < base) (u : Value) : FrI (w.setCell p u) base k A zs := fun i hi => by
 obtain ⟨b, off, z, hA, hB, hz, hc, hf⟩ := h i hi
 exact ⟨b, off, z, hA, hB, hz, by rw [World.cell?_setCell_other _ _ _ _ (fun e => by subst e; simp at hp; omega)]; exact hc, by rw [World.frozen?_setCell]; exact hf⟩
theorem own_form {w : World} {base : Nat} {e : TypeId} {v : Value} {n : Nat} {xs : List Value} (h : w.ownsRow base e 1 v n xs) : ∃ A c, v = .slice A n c ∧ n ≤ c ∧ c ≤ maxLen ∧ (A = none → c = 0) := by
 rcases h.2 with ⟨rfl, rfl⟩ | ⟨g, cap, cur, rfl, _, _, h1, h2, _⟩
 ·exact ⟨none, 0, rfl, Nat.le_refl _, Nat.zero_le _, fun _ => rfl⟩
 ·exact ⟨_, cap, rfl, h1, h2, fun h => by cases h⟩
theorem FrI.of_own {w : World} {base : Nat} {e : TypeId} {k : IntKind} {A : Option Addr} {n c : Nat} {zs : List Int} (h : w.ownsRow base e 1 (.slice A n c) n (zs.map (Value.int k))) : FrI w base k A zs := fun i hi => by
 have hn : n = zs.length := by have := h.1; simp at this; omega
 rcases h.2 with ⟨_, h0⟩ | ⟨g, cap, cur, hv, hg, hh, h1, h2, hs, ht⟩
 ·omega
 ·injection hv with hA _ _
  subst hA; have hc : (cur.toList.take (n * 1))[i]? = (zs.map (Value.int k))[i]? := by rw [ht]
  rw [List.getElem?_take_of_lt lq17] at hc
  refine ⟨g, 0, zs[i], rfl, hg, List.getElem?_eq_getElem hi, ?_, ?_⟩
  ·simp only [World.cell?, hh, Nat.zero_add]
   simpa [List.getElem?_eq_getElem hi] using hc
  ·simp [World.frozen?, hh]
section
variable {P : Program} (w : World)
theorem run_append_nilsrc (base : Nat) (t ty e : TypeId) (i : TypeInfo) (size : Nat) (ht : P.underlying t = some (.slice e)) (hi : P.info? e = some i)
  (v : Value) (n : Nat) (xs : List Value) (hown : w.ownsRow base e size v n xs) (c : Nat) : (Builtin.append_ #[t, t] ty #[v, .slice none 0 c]).run P w = .ok v w := by
 rcases hown.2 with ⟨rfl, rfl⟩ | ⟨g, cap, cur, rfl, _, _, hnc, _⟩ <;>
  simp [Builtin.append_, run_underlying ht, sizeOf, typeInfo, hi, Builtin.lenOf, Builtin.firstCells, storeCells, *]
end
theorem own_formN {w : World} {base size : Nat} {e : TypeId} {v : Value} {n : Nat} {xs : List Value} (h : w.ownsRow base e size v n xs) : ∃ A c, v = .slice A n c ∧ n ≤ c ∧ c ≤ maxLen := by
 rcases h.2 with ⟨rfl, rfl⟩ | ⟨g, cap, cur, rfl, _, _, h1, h2, _⟩
 ·exact ⟨none, 0, rfl, Nat.le_refl _, Nat.zero_le _⟩
 ·exact ⟨_, cap, rfl, h1, h2⟩
def ndC (T : Nd) (A : Option Addr) (c : Nat) (K : Option Addr) (d : Nat) : List Value := [.int .i64 T.kind, .int .i64 T.pos, .string T.text, .bool T.neg, .slice A T.mag.length c, .slice K T.kids.length d]
end
end Go.Proofs.YtjndbcnmmnkilaaGreatDoor
