/- The lexer's own memory: what lies behind its pointer, and how it is kept. -/
import Derived.Test.YtgheejogpbhokaaDoorLxP
import Derived.Test.YtgheejogpbhokaaDoorLClone
import Derived.Deep.AppendLies
namespace Go.Proofs.YtgheejogpbhokaaDoor
set_option linter.unusedVariables false
set_option linter.unusedSimpArgs false
open Go.RowKit
set_option maxRecDepth 1000000

def tkV (t : Tk) : List Value := [.int .i64 t.kind, .string ⟨t.text.toArray⟩, .int .i64 t.pos]
def tkVs (l : List Tk) : List Value := l.flatMap tkV
def stVs (st : List Nat) : List Value := st.reverse.map fun (n : Nat) => Value.int .i64 n
theorem tkVs_len (l : List Tk) : (tkVs l).length = l.length * 3 := by
  unfold tkVs
  induction l with
  | nil => rfl
  | cons a l ih => rw [List.flatMap_cons, List.length_append, ih, List.length_cons]; simp only [tkV, List.length_cons, List.length_nil]; omega
theorem tkVs_snoc (l : List Tk) (t : Tk) : tkVs (l ++ [t]) = tkVs l ++ tkV t := by simp [tkVs]
theorem stVs_len (st : List Nat) : (stVs st).length = st.length := by simp [stVs]
theorem stVs_cons (st : List Nat) (n : Nat) : stVs (n :: st) = stVs st ++ [.int .i64 n] := by simp [stVs]

/-- behind a call that turned nothing that was there. -/
theorem grown_of_below {w w' : World} (h : Below w.heap.size w w') : w.grownBy w' none := ⟨h.1, h.2, h.3, h.4, fun k hk _ => h.5 k hk⟩
theorem own_later {w w' : World} {base : Nat} {e : TypeId} {size n : Nat} {v : Value} {xs : List Value} (h : w.ownsRow base e size v n xs) (hb : Below w.heap.size w w') : w'.ownsRow base e size v n xs :=
  h.kept (grown_of_below hb) (by cases hv : v.ownBlock <;> simp)
theorem own_set {w : World} {base : Nat} {e : TypeId} {size n : Nat} {v : Value} {xs : List Value} (h : w.ownsRow base e size v n xs) {X : Nat} (hne : v.ownBlock ≠ some X) (i : Nat) (u : Value) : (w.setCell ⟨X, i, none⟩ u).ownsRow base e size v n xs :=
  h.kept (Lib.grownBy_setCell w X i u) (Or.inr hne)
/-- a shorter part of an owned row. -/
theorem own_cut {w : World} {base : Nat} {e : TypeId} {n m c : Nat} {A : Option Addr} {xs : List Value} (h : w.ownsRow base e 1 (.slice A n c) n xs) (hm : m ≤ n) (h0 : 0 < n) : w.ownsRow base e 1 (.slice A m c) m (xs.take m) := by
  obtain ⟨hl, h⟩ := h
  refine ⟨by rw [List.length_take]; omega, ?_⟩
  rcases h with ⟨hv, hn⟩ | ⟨g, cap, cur, hv, hb, hg, hc, hmx, hs, ht⟩
  · omega
  · injection hv with e1 e2 e3
    subst e1 e3
    refine .inr ⟨g, c, cur, rfl, hb, hg, by omega, hmx, hs, ?_⟩
    rw [← ht, List.take_take]
    congr 1
    omega

/-- What a lexer is: its source, its place, its tokens, its open brackets and blocks. -/
structure Lx (w : World) (base X : Nat) (s : ByteArray) (p o : Nat) (st : List Nat) (toks : List Tk) (LA : Option Addr) (LC : Nat) (BA : Option Addr) (BC : Nat) : Prop where
  bX : base ≤ X
  c0 : w.cell? ⟨X, 0, none⟩ = some (.string s)
  c1 : w.cell? ⟨X, 1, none⟩ = some (.int .i64 p)
  c2 : w.cell? ⟨X, 2, none⟩ = some (.slice LA toks.length LC)
  c3 : w.cell? ⟨X, 3, none⟩ = some (.int .i64 o)
  c4 : w.cell? ⟨X, 4, none⟩ = some (.slice BA st.length BC)
  f1 : w.frozen? ⟨X, 1, none⟩ = false
  f2 : w.frozen? ⟨X, 2, none⟩ = false
  f3 : w.frozen? ⟨X, 3, none⟩ = false
  f4 : w.frozen? ⟨X, 4, none⟩ = false
  ol : w.ownsRow base 35 3 (.slice LA toks.length LC) toks.length (tkVs toks)
  ob : w.ownsRow base 3 1 (.slice BA st.length BC) st.length (stVs st)
  nl : (Value.slice LA toks.length LC).ownBlock ≠ some X
  nb : (Value.slice BA st.length BC).ownBlock ≠ some X
  nn : ∀ g, (Value.slice LA toks.length LC).ownBlock = some g → (Value.slice BA st.length BC).ownBlock ≠ some g
def LxS (w : World) (base X : Nat) (s : ByteArray) (p o : Nat) (st : List Nat) (toks : List Tk) : Prop := ∃ LA LC BA BC, Lx w base X s p o st toks LA LC BA BC

section
variable {w w' : World} {base X : Nat} {s : ByteArray} {p o : Nat} {st : List Nat} {toks : List Tk} {LA BA : Option Addr} {LC BC : Nat}
theorem Lx.lt (h : Lx w base X s p o st toks LA LC BA BC) : X < w.heap.size := World.block_lt_of_cell? w _ h.c0
theorem Lx.later (h : Lx w base X s p o st toks LA LC BA BC) (hb : Below w.heap.size w w') : Lx w' base X s p o st toks LA LC BA BC :=
  have hf : ∀ i, w.frozen? ⟨X, i, none⟩ = false → w'.frozen? ⟨X, i, none⟩ = false := fun i hi => (hb.frozen (p := ⟨X, i, none⟩) h.lt).trans hi
  ⟨h.bX, cell_later hb h.c0, cell_later hb h.c1, cell_later hb h.c2, cell_later hb h.c3, cell_later hb h.c4, hf _ h.f1, hf _ h.f2, hf _ h.f3, hf _ h.f4,
    own_later h.ol hb, own_later h.ob hb, h.nl, h.nb, h.nn⟩
theorem cell_set_ne {w : World} {X i j : Nat} {u v : Value} (h : w.cell? ⟨X, j, none⟩ = some v) (hne : i ≠ j) : (w.setCell ⟨X, i, none⟩ u).cell? ⟨X, j, none⟩ = some v := by
  rw [World.cell?_setCell_other _ _ _ _ (fun e => hne (by injection e))]; exact h
theorem cell_set_eq {w : World} {X i : Nat} {u v : Value} (h : w.cell? ⟨X, i, none⟩ = some v) : (w.setCell ⟨X, i, none⟩ u).cell? ⟨X, i, none⟩ = some u :=
  World.cell?_setCell_same' _ _ _ (by rw [h]; rfl)
theorem Lx.setPos (h : Lx w base X s p o st toks LA LC BA BC) (q : Nat) : Lx (w.setCell ⟨X, 1, none⟩ (.int .i64 q)) base X s q o st toks LA LC BA BC :=
  ⟨h.bX, cell_set_ne h.c0 (by decide), cell_set_eq h.c1, cell_set_ne h.c2 (by decide), cell_set_ne h.c3 (by decide), cell_set_ne h.c4 (by decide),
    by rw [World.frozen?_setCell]; exact h.f1, by rw [World.frozen?_setCell]; exact h.f2, by rw [World.frozen?_setCell]; exact h.f3, by rw [World.frozen?_setCell]; exact h.f4,
    own_set h.ol h.nl _ _, own_set h.ob h.nb _ _, h.nl, h.nb, h.nn⟩
theorem Lx.setOpn (h : Lx w base X s p o st toks LA LC BA BC) (q : Nat) : Lx (w.setCell ⟨X, 3, none⟩ (.int .i64 q)) base X s p q st toks LA LC BA BC :=
  ⟨h.bX, cell_set_ne h.c0 (by decide), cell_set_ne h.c1 (by decide), cell_set_ne h.c2 (by decide), cell_set_eq h.c3, cell_set_ne h.c4 (by decide),
    by rw [World.frozen?_setCell]; exact h.f1, by rw [World.frozen?_setCell]; exact h.f2, by rw [World.frozen?_setCell]; exact h.f3, by rw [World.frozen?_setCell]; exact h.f4,
    own_set h.ol h.nl _ _, own_set h.ob h.nb _ _, h.nl, h.nb, h.nn⟩
theorem own_len_ne {A : Option Addr} {n m c d X : Nat} (h : (Value.slice A n c).ownBlock ≠ some X) : (Value.slice A m d).ownBlock ≠ some X := by
  cases A with
  | none => simp [Value.ownBlock]
  | some a => exact h
/-- a token is laid. -/
theorem Lx.addTok (h : Lx w base X s p o st toks LA LC BA BC) (hz : base ≤ w.heap.size) (t : Tk) {g cap : Nat} (hown : w'.ownsRow base 35 3 (.slice (some ⟨g, 0, none⟩) (toks.length + 1) cap) (toks.length + 1) (tkVs toks ++ tkV t))
    (hg : w.grownBy w' (Value.slice LA toks.length LC).ownBlock) (hat : (Value.slice LA toks.length LC).ownBlock = some g ∨ g = w.heap.size) :
    Lx (w'.setCell ⟨X, 2, none⟩ (.slice (some ⟨g, 0, none⟩) (toks.length + 1) cap)) base X s p o st (toks ++ [t]) (some ⟨g, 0, none⟩) cap BA BC := by
  have hX := h.lt
  have hk : ∀ {i v}, w.cell? ⟨X, i, none⟩ = some v → w'.cell? ⟨X, i, none⟩ = some v := fun hc => hg.cell hc (fun e => h.nl e.symm)
  have hf : ∀ {i}, w.frozen? ⟨X, i, none⟩ = false → w'.frozen? ⟨X, i, none⟩ = false := fun hc => (World.frozen?_of_block (a := ⟨X, _, none⟩) (hg.block X hX (fun e => h.nl e.symm))).trans hc
  have hgX : g ≠ X := by
    rcases hat with e | e
    · exact fun e2 => h.nl (by rw [e, e2])
    · omega
  have hlen : (toks ++ [t]).length = toks.length + 1 := by simp
  have hob : w'.ownsRow base 3 1 (.slice BA st.length BC) st.length (stVs st) := h.ob.kept hg (by
    cases hv : (Value.slice BA st.length BC).ownBlock with
    | none => exact Or.inl rfl
    | some b => exact Or.inr (fun e => h.nn b (e ▸ rfl) hv))
  refine ⟨h.bX, cell_set_ne (hk h.c0) (by decide), cell_set_ne (hk h.c1) (by decide), ?_, cell_set_ne (hk h.c3) (by decide), cell_set_ne (hk h.c4) (by decide), ?_, ?_, ?_, ?_, ?_, ?_, ?_, h.nb, ?_⟩
  · rw [hlen]; exact cell_set_eq (hk h.c2)
  · rw [World.frozen?_setCell]; exact hf h.f1
  · rw [World.frozen?_setCell]; exact hf h.f2
  · rw [World.frozen?_setCell]; exact hf h.f3
  · rw [World.frozen?_setCell]; exact hf h.f4
  · rw [hlen, tkVs_snoc]
    exact own_set hown (by simp [Value.ownBlock]; exact hgX) _ _
  · exact own_set hob h.nb _ _
  · simp [Value.ownBlock]; exact hgX
  · intro g' e
    simp only [Value.ownBlock, Option.some.injEq] at e
    subst e
    intro e2
    rcases hat with e | e
    · exact h.nn g e e2
    · have := h.ob.lt g e2; omega
/-- a block begins. -/
theorem Lx.addB (h : Lx w base X s p o st toks LA LC BA BC) (hz : base ≤ w.heap.size) (n : Nat) {g cap : Nat} (hown : w'.ownsRow base 3 1 (.slice (some ⟨g, 0, none⟩) (st.length + 1) cap) (st.length + 1) (stVs st ++ [.int .i64 n]))
    (hg : w.grownBy w' (Value.slice BA st.length BC).ownBlock) (hat : (Value.slice BA st.length BC).ownBlock = some g ∨ g = w.heap.size) :
    Lx (w'.setCell ⟨X, 4, none⟩ (.slice (some ⟨g, 0, none⟩) (st.length + 1) cap)) base X s p o (n :: st) toks LA LC (some ⟨g, 0, none⟩) cap := by
  have hX := h.lt
  have hk : ∀ {i v}, w.cell? ⟨X, i, none⟩ = some v → w'.cell? ⟨X, i, none⟩ = some v := fun hc => hg.cell hc (fun e => h.nb e.symm)
  have hf : ∀ {i}, w.frozen? ⟨X, i, none⟩ = false → w'.frozen? ⟨X, i, none⟩ = false := fun hc => (World.frozen?_of_block (a := ⟨X, _, none⟩) (hg.block X hX (fun e => h.nb e.symm))).trans hc
  have hgX : g ≠ X := by
    rcases hat with e | e
    · exact fun e2 => h.nb (by rw [e, e2])
    · omega
  have hol : w'.ownsRow base 35 3 (.slice LA toks.length LC) toks.length (tkVs toks) := h.ol.kept hg (by
    cases hv : (Value.slice LA toks.length LC).ownBlock with
    | none => exact Or.inl rfl
    | some b => exact Or.inr (fun e => h.nn b hv e.symm))
  refine ⟨h.bX, cell_set_ne (hk h.c0) (by decide), cell_set_ne (hk h.c1) (by decide), cell_set_ne (hk h.c2) (by decide), cell_set_ne (hk h.c3) (by decide), cell_set_eq (hk h.c4), ?_, ?_, ?_, ?_, ?_, ?_, h.nl, ?_, ?_⟩
  · rw [World.frozen?_setCell]; exact hf h.f1
  · rw [World.frozen?_setCell]; exact hf h.f2
  · rw [World.frozen?_setCell]; exact hf h.f3
  · rw [World.frozen?_setCell]; exact hf h.f4
  · exact own_set hol h.nl _ _
  · rw [stVs_cons]
    exact own_set hown (by simp [Value.ownBlock]; exact hgX) _ _
  · simp [Value.ownBlock]; exact hgX
  · intro g' e e2
    simp only [Value.ownBlock, Option.some.injEq] at e2
    subst e2
    rcases hat with e3 | e3
    · exact h.nn _ e e3
    · have := h.ol.lt _ e; omega
/-- a block ends. -/
theorem Lx.popB {n : Nat} (h : Lx w base X s p o (n :: st) toks LA LC BA BC) : Lx (w.setCell ⟨X, 4, none⟩ (.slice BA st.length BC)) base X s p o st toks LA LC BA BC := by
  refine ⟨h.bX, cell_set_ne h.c0 (by decide), cell_set_ne h.c1 (by decide), cell_set_ne h.c2 (by decide), cell_set_ne h.c3 (by decide), cell_set_eq h.c4,
    by rw [World.frozen?_setCell]; exact h.f1, by rw [World.frozen?_setCell]; exact h.f2, by rw [World.frozen?_setCell]; exact h.f3, by rw [World.frozen?_setCell]; exact h.f4,
    own_set h.ol h.nl _ _, ?_, h.nl, own_len_ne h.nb, fun g e => own_len_ne (h.nn g e)⟩
  have hb := own_cut h.ob (m := st.length) (by simp) (by simp)
  rw [stVs_cons, List.take_left' (by rw [stVs_len])] at hb
  exact own_set hb (own_len_ne h.nb) _ _
/-- the innermost block. -/
theorem Lx.top {n : Nat} (h : Lx w base X s p o (n :: st) toks LA LC BA BC) : ∃ g, BA = some ⟨g, 0, none⟩ ∧ w.cell? ⟨g, st.length, none⟩ = some (.int .i64 n) ∧ st.length + 1 ≤ BC ∧ BC ≤ 9223372036854775807 := by
  rcases h.ob.2 with ⟨_, hn⟩ | ⟨g, cap, cur, hv, hb, hg, hc, hmx, hs, ht⟩
  · simp at hn
  · injection hv with e1 e2 e3
    subst e1 e3
    refine ⟨g, rfl, ?_, by simpa using hc, hmx⟩
    have hcl := h.ob.cells (g := g) rfl st.length (.int .i64 n) (by rw [stVs_cons, List.getElem?_append_right (by rw [stVs_len]; omega), stVs_len]; simp)
    rw [Addr.add_lit, Nat.zero_add] at hcl
    exact hcl
end
end Go.Proofs.YtgheejogpbhokaaDoor
