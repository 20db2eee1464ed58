/- The reference's own memory: what lies behind its pointer, and how it is kept. -/
import Derived.Test.YtgheejogpbhokaaDoorBs
namespace Go.Proofs.YtgheejogpbhokaaDoor
set_option linter.unusedVariables false
set_option linter.unusedSimpArgs false
open Go.RowKit
set_option maxRecDepth 1000000

/-- bytes that lie below a border are kept. -/
theorem BsAt.keep {w w' : World} {A : Option Addr} {s : ByteArray} {base : Nat} (h : BsAt w A s) (hA : 0 < s.size → ∀ b off, A = some ⟨b, off, none⟩ → b < base) (hz : base ≤ w.heap.size) (hb : Below base w w') : BsAt w' A s := by
  intro i hi
  obtain ⟨b, off, z, e, hz2, hc⟩ := h i hi
  refine ⟨b, off, z, e, hz2, ?_⟩
  rw [← hc]
  have hsz : s.data.toList.length = s.size := by simp
  rw [List.length_map] at hi
  exact hb.cell (hA (by omega) b off e)

/-- What the reference's state is: its source, its tokens, its blocks, its open brackets, its fault. -/
structure Rx (w : World) (base X : Nat) (SA : Option Addr) (sc : Nat) (s : ByteArray) (o : Nat) (st : List Nat) (toks : List Tk) (fc : Int) (fa : Nat) (LA : Option Addr) (LC : Nat) (BA : Option Addr) (BC : Nat) : Prop where
  bX : base ≤ X
  c0 : w.cell? ⟨X, 0, none⟩ = some (.slice SA s.size sc)
  c1 : w.cell? ⟨X, 1, none⟩ = some (.slice LA toks.length LC)
  c2 : w.cell? ⟨X, 2, none⟩ = some (.slice BA st.length BC)
  c3 : w.cell? ⟨X, 3, none⟩ = some (.int .i64 o)
  c4 : w.cell? ⟨X, 4, none⟩ = some (.int .i64 fc)
  c5 : w.cell? ⟨X, 5, none⟩ = some (.int .i64 fa)
  f1 : w.frozen? ⟨X, 1, none⟩ = false
  f2 : w.frozen? ⟨X, 2, none⟩ = false
  f3 : w.frozen? ⟨X, 3, none⟩ = false
  f4 : w.frozen? ⟨X, 4, none⟩ = false
  f5 : w.frozen? ⟨X, 5, none⟩ = false
  src : BsAt w SA s
  sb : 0 < s.size → ∀ b off, SA = some ⟨b, off, none⟩ → b < base
  ol : w.ownsRow base 35 3 (.slice LA toks.length LC) toks.length (tkVs toks)
  ob : w.ownsRow base 3 1 (.slice BA st.length BC) st.length (stVs st)
  nl : (Value.slice LA toks.length LC).ownBlock ≠ some X
  nb : (Value.slice BA st.length BC).ownBlock ≠ some X
  nn : ∀ g, (Value.slice LA toks.length LC).ownBlock = some g → (Value.slice BA st.length BC).ownBlock ≠ some g
def RxS (w : World) (base X : Nat) (SA : Option Addr) (sc : Nat) (s : ByteArray) (o : Nat) (st : List Nat) (toks : List Tk) (fc : Int) (fa : Nat) : Prop := ∃ LA LC BA BC, Rx w base X SA sc s o st toks fc fa LA LC BA BC

section
variable {w w' : World} {base X : Nat} {SA : Option Addr} {sc : Nat} {s : ByteArray} {o : Nat} {st : List Nat} {toks : List Tk} {fc : Int} {fa : Nat} {LA BA : Option Addr} {LC BC : Nat}
theorem Rx.lt (h : Rx w base X SA sc s o st toks fc fa LA LC BA BC) : X < w.heap.size := World.block_lt_of_cell? w _ h.c0
theorem Rx.later (h : Rx w base X SA sc s o st toks fc fa LA LC BA BC) (hb : Below w.heap.size w w') : Rx w' base X SA sc s o st toks fc fa LA LC BA BC :=
  have hf : ∀ i, w.frozen? ⟨X, i, none⟩ = false → w'.frozen? ⟨X, i, none⟩ = false := fun i hi => (hb.frozen (p := ⟨X, i, none⟩) h.lt).trans hi
  ⟨h.bX, cell_later hb h.c0, cell_later hb h.c1, cell_later hb h.c2, cell_later hb h.c3, cell_later hb h.c4, cell_later hb h.c5, hf _ h.f1, hf _ h.f2, hf _ h.f3, hf _ h.f4, hf _ h.f5,
    h.src.later hb, h.sb, own_later h.ol hb, own_later h.ob hb, h.nl, h.nb, h.nn⟩
theorem Rx.hz (h : Rx w base X SA sc s o st toks fc fa LA LC BA BC) : base ≤ w.heap.size := by have := h.lt; have := h.bX; omega
/-- the source behind a store into the state. -/
theorem Rx.srcSet (h : Rx w base X SA sc s o st toks fc fa LA LC BA BC) (i : Nat) (v : Value) : BsAt (w.setCell ⟨X, i, none⟩ v) SA s :=
  h.src.keep h.sb h.hz (Below.setCell (p := ⟨X, i, none⟩) (Below.refl _ _) h.bX _)
theorem Rx.setOpn (h : Rx w base X SA sc s o st toks fc fa LA LC BA BC) (q : Nat) : Rx (w.setCell ⟨X, 3, none⟩ (.int .i64 q)) base X SA sc s q st toks fc fa LA LC BA BC :=
  ⟨h.bX, cell_set_ne h.c0 (by decide), cell_set_ne h.c1 (by decide), cell_set_ne h.c2 (by decide), cell_set_eq h.c3, cell_set_ne h.c4 (by decide), cell_set_ne h.c5 (by decide),
    by rw [World.frozen?_setCell]; exact h.f1, by rw [World.frozen?_setCell]; exact h.f2, by rw [World.frozen?_setCell]; exact h.f3, by rw [World.frozen?_setCell]; exact h.f4, by rw [World.frozen?_setCell]; exact h.f5,
    h.srcSet _ _, h.sb, own_set h.ol h.nl _ _, own_set h.ob h.nb _ _, h.nl, h.nb, h.nn⟩
theorem Rx.setFc (h : Rx w base X SA sc s o st toks fc fa LA LC BA BC) (q : Int) : Rx (w.setCell ⟨X, 4, none⟩ (.int .i64 q)) base X SA sc s o st toks q fa LA LC BA BC :=
  ⟨h.bX, cell_set_ne h.c0 (by decide), cell_set_ne h.c1 (by decide), cell_set_ne h.c2 (by decide), cell_set_ne h.c3 (by decide), cell_set_eq h.c4, cell_set_ne h.c5 (by decide),
    by rw [World.frozen?_setCell]; exact h.f1, by rw [World.frozen?_setCell]; exact h.f2, by rw [World.frozen?_setCell]; exact h.f3, by rw [World.frozen?_setCell]; exact h.f4, by rw [World.frozen?_setCell]; exact h.f5,
    h.srcSet _ _, h.sb, own_set h.ol h.nl _ _, own_set h.ob h.nb _ _, h.nl, h.nb, h.nn⟩
theorem Rx.setFa (h : Rx w base X SA sc s o st toks fc fa LA LC BA BC) (q : Nat) : Rx (w.setCell ⟨X, 5, none⟩ (.int .i64 q)) base X SA sc s o st toks fc q LA LC BA BC :=
  ⟨h.bX, cell_set_ne h.c0 (by decide), cell_set_ne h.c1 (by decide), cell_set_ne h.c2 (by decide), cell_set_ne h.c3 (by decide), cell_set_ne h.c4 (by decide), cell_set_eq h.c5,
    by rw [World.frozen?_setCell]; exact h.f1, by rw [World.frozen?_setCell]; exact h.f2, by rw [World.frozen?_setCell]; exact h.f3, by rw [World.frozen?_setCell]; exact h.f4, by rw [World.frozen?_setCell]; exact h.f5,
    h.srcSet _ _, h.sb, own_set h.ol h.nl _ _, own_set h.ob h.nb _ _, h.nl, h.nb, h.nn⟩
/-- a token is laid. -/
theorem Rx.addTok (h : Rx w base X SA sc s o st toks fc fa LA LC BA BC) (t : Tk) {g cap : Nat} (hown : w'.ownsRow base 35 3 (.slice (some ⟨g, 0, none⟩) (toks.length + 1) cap) (toks.length + 1) (tkVs toks ++ tkV t))
    (hg : w.grownBy w' (Value.slice LA toks.length LC).ownBlock) (hat : (Value.slice LA toks.length LC).ownBlock = some g ∨ g = w.heap.size) :
    Rx (w'.setCell ⟨X, 1, none⟩ (.slice (some ⟨g, 0, none⟩) (toks.length + 1) cap)) base X SA sc s o st (toks ++ [t]) fc fa (some ⟨g, 0, none⟩) cap BA BC := by
  have hX := h.lt
  have hbw : Below base w w' := Below.grown (Below.refl _ _) hg h.hz (fun k hk => (h.ol.lt k hk).1)
  have hk : ∀ {i v}, w.cell? ⟨X, i, none⟩ = some v → w'.cell? ⟨X, i, none⟩ = some v := fun hc => hg.cell hc (fun e => h.nl e.symm)
  have hf : ∀ {i}, w.frozen? ⟨X, i, none⟩ = false → w'.frozen? ⟨X, i, none⟩ = false := fun hc => (World.frozen?_of_block (a := ⟨X, _, none⟩) (hg.block X hX (fun e => h.nl e.symm))).trans hc
  have hgX : g ≠ X := by
    rcases hat with e | e
    · exact fun e2 => h.nl (by rw [e, e2])
    · omega
  have hlen : (toks ++ [t]).length = toks.length + 1 := by simp
  have hob : w'.ownsRow base 3 1 (.slice BA st.length BC) st.length (stVs st) := h.ob.kept hg (by
    cases hv : (Value.slice BA st.length BC).ownBlock with
    | none => exact Or.inl rfl
    | some b => exact Or.inr (fun e => h.nn b (e ▸ rfl) hv))
  refine ⟨h.bX, cell_set_ne (hk h.c0) (by decide), ?_, cell_set_ne (hk h.c2) (by decide), cell_set_ne (hk h.c3) (by decide), cell_set_ne (hk h.c4) (by decide), cell_set_ne (hk h.c5) (by decide), ?_, ?_, ?_, ?_, ?_, ?_, h.sb, ?_, ?_, ?_, h.nb, ?_⟩
  · rw [hlen]; exact cell_set_eq (hk h.c1)
  · rw [World.frozen?_setCell]; exact hf h.f1
  · rw [World.frozen?_setCell]; exact hf h.f2
  · rw [World.frozen?_setCell]; exact hf h.f3
  · rw [World.frozen?_setCell]; exact hf h.f4
  · rw [World.frozen?_setCell]; exact hf h.f5
  · exact h.src.keep h.sb h.hz (Below.setCell (p := ⟨X, 1, none⟩) hbw h.bX _)
  · rw [hlen, tkVs_snoc]
    exact own_set hown (by simp [Value.ownBlock]; exact hgX) _ _
  · exact own_set hob h.nb _ _
  · simp [Value.ownBlock]; exact hgX
  · intro g' e
    simp only [Value.ownBlock, Option.some.injEq] at e
    subst e
    intro e2
    rcases hat with e | e
    · exact h.nn g e e2
    · have := h.ob.lt g e2; omega
/-- a block begins. -/
theorem Rx.addB (h : Rx w base X SA sc s o st toks fc fa LA LC BA BC) (n : Nat) {g cap : Nat} (hown : w'.ownsRow base 3 1 (.slice (some ⟨g, 0, none⟩) (st.length + 1) cap) (st.length + 1) (stVs st ++ [.int .i64 n]))
    (hg : w.grownBy w' (Value.slice BA st.length BC).ownBlock) (hat : (Value.slice BA st.length BC).ownBlock = some g ∨ g = w.heap.size) :
    Rx (w'.setCell ⟨X, 2, none⟩ (.slice (some ⟨g, 0, none⟩) (st.length + 1) cap)) base X SA sc s o (n :: st) toks fc fa LA LC (some ⟨g, 0, none⟩) cap := by
  have hX := h.lt
  have hbw : Below base w w' := Below.grown (Below.refl _ _) hg h.hz (fun k hk => (h.ob.lt k hk).1)
  have hk : ∀ {i v}, w.cell? ⟨X, i, none⟩ = some v → w'.cell? ⟨X, i, none⟩ = some v := fun hc => hg.cell hc (fun e => h.nb e.symm)
  have hf : ∀ {i}, w.frozen? ⟨X, i, none⟩ = false → w'.frozen? ⟨X, i, none⟩ = false := fun hc => (World.frozen?_of_block (a := ⟨X, _, none⟩) (hg.block X hX (fun e => h.nb e.symm))).trans hc
  have hgX : g ≠ X := by
    rcases hat with e | e
    · exact fun e2 => h.nb (by rw [e, e2])
    · omega
  have hol : w'.ownsRow base 35 3 (.slice LA toks.length LC) toks.length (tkVs toks) := h.ol.kept hg (by
    cases hv : (Value.slice LA toks.length LC).ownBlock with
    | none => exact Or.inl rfl
    | some b => exact Or.inr (fun e => h.nn b hv e.symm))
  refine ⟨h.bX, cell_set_ne (hk h.c0) (by decide), cell_set_ne (hk h.c1) (by decide), cell_set_eq (hk h.c2), cell_set_ne (hk h.c3) (by decide), cell_set_ne (hk h.c4) (by decide), cell_set_ne (hk h.c5) (by decide), ?_, ?_, ?_, ?_, ?_, ?_, h.sb, ?_, ?_, h.nl, ?_, ?_⟩
  · rw [World.frozen?_setCell]; exact hf h.f1
  · rw [World.frozen?_setCell]; exact hf h.f2
  · rw [World.frozen?_setCell]; exact hf h.f3
  · rw [World.frozen?_setCell]; exact hf h.f4
  · rw [World.frozen?_setCell]; exact hf h.f5
  · exact h.src.keep h.sb h.hz (Below.setCell (p := ⟨X, 2, none⟩) hbw h.bX _)
  · exact own_set hol h.nl _ _
  · rw [stVs_cons]
    exact own_set hown (by simp [Value.ownBlock]; exact hgX) _ _
  · simp [Value.ownBlock]; exact hgX
  · intro g' e e2
    simp only [Value.ownBlock, Option.some.injEq] at e2
    subst e2
    rcases hat with e3 | e3
    · exact h.nn _ e e3
    · have := h.ol.lt _ e; omega
/-- a block ends. -/
theorem Rx.popB {n : Nat} (h : Rx w base X SA sc s o (n :: st) toks fc fa LA LC BA BC) : Rx (w.setCell ⟨X, 2, none⟩ (.slice BA st.length BC)) base X SA sc s o st toks fc fa LA LC BA BC := by
  refine ⟨h.bX, cell_set_ne h.c0 (by decide), cell_set_ne h.c1 (by decide), cell_set_eq h.c2, cell_set_ne h.c3 (by decide), cell_set_ne h.c4 (by decide), cell_set_ne h.c5 (by decide),
    by rw [World.frozen?_setCell]; exact h.f1, by rw [World.frozen?_setCell]; exact h.f2, by rw [World.frozen?_setCell]; exact h.f3, by rw [World.frozen?_setCell]; exact h.f4, by rw [World.frozen?_setCell]; exact h.f5,
    h.srcSet _ _, h.sb, own_set h.ol h.nl _ _, ?_, h.nl, own_len_ne h.nb, fun g e => own_len_ne (h.nn g e)⟩
  have hb := own_cut h.ob (m := st.length) (by simp) (by simp)
  rw [stVs_cons, List.take_left' (by rw [stVs_len])] at hb
  exact own_set hb (own_len_ne h.nb) _ _
/-- the innermost block. -/
theorem Rx.top {n : Nat} (h : Rx w base X SA sc s o (n :: st) toks fc fa LA LC BA BC) : ∃ g, BA = some ⟨g, 0, none⟩ ∧ w.cell? ⟨g, st.length, none⟩ = some (.int .i64 n) ∧ st.length + 1 ≤ BC ∧ BC ≤ 9223372036854775807 := by
  rcases h.ob.2 with ⟨_, hn⟩ | ⟨g, cap, cur, hv, hb, hg, hc, hmx, hs, ht⟩
  · simp at hn
  · injection hv with e1 e2 e3
    subst e1 e3
    refine ⟨g, rfl, ?_, by simpa using hc, hmx⟩
    have hcl := h.ob.cells (g := g) rfl st.length (.int .i64 n) (by rw [stVs_cons, List.getElem?_append_right (by rw [stVs_len]; omega), stVs_len]; simp)
    rw [Addr.add_lit, Nat.zero_add] at hcl
    exact hcl
theorem Rx.lastTok {l : List Tk} {t : Tk} (h : Rx w base X SA sc s o st (l ++ [t]) fc fa LA LC BA BC) : ∃ g, LA = some ⟨g, 0, none⟩ ∧ w.cell? ⟨g, l.length * 3, none⟩ = some (.int .i64 t.kind) ∧ l.length + 1 ≤ LC ∧ LC ≤ 9223372036854775807 := by
  rcases h.ol.2 with ⟨_, hn⟩ | ⟨g, cap, cur, hv, hb, hg, hc, hmx, hs, ht⟩
  · simp at hn
  · injection hv with e1 e2 e3
    subst e1 e3
    refine ⟨g, rfl, ?_, by simpa using hc, hmx⟩
    have hcl := h.ol.cells (g := g) rfl (l.length * 3) (.int .i64 t.kind) (by
      rw [tkVs_snoc, List.getElem?_append_right (by rw [tkVs_len]; omega), tkVs_len, Nat.sub_self]; rfl)
    rw [Addr.add_lit, Nat.zero_add] at hcl
    exact hcl
theorem RxS.later (h : RxS w base X SA sc s o st toks fc fa) (hb : Below w.heap.size w w') : RxS w' base X SA sc s o st toks fc fa := by
  obtain ⟨LA, LC, BA, BC, h⟩ := h
  exact ⟨LA, LC, BA, BC, h.later hb⟩
theorem RxS.setOpn (h : RxS w base X SA sc s o st toks fc fa) (q : Nat) (z : Int) (hz : z = (q : Int)) : RxS (w.setCell ⟨X, 3, none⟩ (.int .i64 z)) base X SA sc s q st toks fc fa := by
  obtain ⟨LA, LC, BA, BC, h⟩ := h
  subst hz
  exact ⟨LA, LC, BA, BC, h.setOpn q⟩
theorem RxS.cells (h : RxS w base X SA sc s o st toks fc fa) :
    w.cell? ⟨X, 0, none⟩ = some (.slice SA s.size sc) ∧ w.cell? ⟨X, 3, none⟩ = some (.int .i64 o) ∧ w.cell? ⟨X, 4, none⟩ = some (.int .i64 fc) ∧ w.cell? ⟨X, 5, none⟩ = some (.int .i64 fa) ∧ w.frozen? ⟨X, 3, none⟩ = false ∧ X < w.heap.size ∧ base ≤ X ∧ base ≤ w.heap.size ∧ BsAt w SA s := by
  obtain ⟨LA, LC, BA, BC, h⟩ := h
  exact ⟨h.c0, h.c3, h.c4, h.c5, h.f3, h.lt, h.bX, h.hz, h.src⟩
theorem RxS.cellB {d : Nat} (hL : RxS w base X SA sc s o (d :: st) toks fc fa) : ∃ g BC, w.cell? ⟨X, 2, none⟩ = some (.slice (some ⟨g, 0, none⟩) (st.length + 1) BC) ∧ w.cell? ⟨g, st.length, none⟩ = some (.int .i64 d) ∧ st.length + 1 ≤ BC ∧ BC ≤ 9223372036854775807 ∧ w.frozen? ⟨X, 2, none⟩ = false ∧ RxS (w.setCell ⟨X, 2, none⟩ (.slice (some ⟨g, 0, none⟩) st.length BC)) base X SA sc s o st toks fc fa := by
  obtain ⟨LA, LC, BA, BC, h⟩ := hL
  obtain ⟨g, rfl, hc, hl, hm⟩ := h.top
  exact ⟨g, BC, h.c2, hc, hl, hm, h.f2, ⟨LA, LC, _, BC, h.popB⟩⟩
end
end Go.Proofs.YtgheejogpbhokaaDoor
