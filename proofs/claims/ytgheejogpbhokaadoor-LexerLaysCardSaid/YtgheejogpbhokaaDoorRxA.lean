/- The reference's own memory; letter, digit, add, fault, begin, Word, Sign. -/
import Derived.Test.YtgheejogpbhokaaDoorBs
import Derived.Test.YtgheejogpbhokaaDoorLx11
namespace Go.Proofs.YtgheejogpbhokaaDoor
set_option linter.unusedVariables false
set_option linter.unusedSimpArgs false
open Go.RowKit
set_option maxRecDepth 1000000

/-- bytes that lie below a border are kept. -/
theorem BsAt.keep {w w' : World} {A : Option Addr} {s : ByteArray} {base : Nat} (h : BsAt w A s) (hA : 0 < s.size → ∀ b off, A = some ⟨b, off, none⟩ → b < base) (hz : base ≤ w.heap.size) (hb : Below base w w') : BsAt w' A s := by
  intro i hi
  obtain ⟨b, off, z, e, hz2, hc⟩ := h i hi
  refine ⟨b, off, z, e, hz2, ?_⟩
  rw [← hc]
  have hsz : s.data.toList.length = s.size := by simp
  rw [List.length_map] at hi
  exact hb.cell (hA (by omega) b off e)

/-- What the reference's state is: its source, its tokens, its blocks, its open brackets, its fault. -/
structure Rx (w : World) (base X : Nat) (SA : Option Addr) (sc : Nat) (s : ByteArray) (o : Nat) (st : List Nat) (toks : List Tk) (fc : Int) (fa : Nat) (LA : Option Addr) (LC : Nat) (BA : Option Addr) (BC : Nat) : Prop where
  bX : base ≤ X
  c0 : w.cell? ⟨X, 0, none⟩ = some (.slice SA s.size sc)
  c1 : w.cell? ⟨X, 1, none⟩ = some (.slice LA toks.length LC)
  c2 : w.cell? ⟨X, 2, none⟩ = some (.slice BA st.length BC)
  c3 : w.cell? ⟨X, 3, none⟩ = some (.int .i64 o)
  c4 : w.cell? ⟨X, 4, none⟩ = some (.int .i64 fc)
  c5 : w.cell? ⟨X, 5, none⟩ = some (.int .i64 fa)
  f1 : w.frozen? ⟨X, 1, none⟩ = false
  f2 : w.frozen? ⟨X, 2, none⟩ = false
  f3 : w.frozen? ⟨X, 3, none⟩ = false
  f4 : w.frozen? ⟨X, 4, none⟩ = false
  f5 : w.frozen? ⟨X, 5, none⟩ = false
  src : BsAt w SA s
  sb : 0 < s.size → ∀ b off, SA = some ⟨b, off, none⟩ → b < base
  ol : w.ownsRow base 35 3 (.slice LA toks.length LC) toks.length (tkVs toks)
  ob : w.ownsRow base 3 1 (.slice BA st.length BC) st.length (stVs st)
  nl : (Value.slice LA toks.length LC).ownBlock ≠ some X
  nb : (Value.slice BA st.length BC).ownBlock ≠ some X
  nn : ∀ g, (Value.slice LA toks.length LC).ownBlock = some g → (Value.slice BA st.length BC).ownBlock ≠ some g
def RxS (w : World) (base X : Nat) (SA : Option Addr) (sc : Nat) (s : ByteArray) (o : Nat) (st : List Nat) (toks : List Tk) (fc : Int) (fa : Nat) : Prop := ∃ LA LC BA BC, Rx w base X SA sc s o st toks fc fa LA LC BA BC

section
variable {w w' : World} {base X : Nat} {SA : Option Addr} {sc : Nat} {s : ByteArray} {o : Nat} {st : List Nat} {toks : List Tk} {fc : Int} {fa : Nat} {LA BA : Option Addr} {LC BC : Nat}
theorem Rx.lt (h : Rx w base X SA sc s o st toks fc fa LA LC BA BC) : X < w.heap.size := World.block_lt_of_cell? w _ h.c0
theorem Rx.later (h : Rx w base X SA sc s o st toks fc fa LA LC BA BC) (hb : Below w.heap.size w w') : Rx w' base X SA sc s o st toks fc fa LA LC BA BC :=
  have hf : ∀ i, w.frozen? ⟨X, i, none⟩ = false → w'.frozen? ⟨X, i, none⟩ = false := fun i hi => (hb.frozen (p := ⟨X, i, none⟩) h.lt).trans hi
  ⟨h.bX, cell_later hb h.c0, cell_later hb h.c1, cell_later hb h.c2, cell_later hb h.c3, cell_later hb h.c4, cell_later hb h.c5, hf _ h.f1, hf _ h.f2, hf _ h.f3, hf _ h.f4, hf _ h.f5,
    h.src.later hb, h.sb, own_later h.ol hb, own_later h.ob hb, h.nl, h.nb, h.nn⟩
theorem Rx.hz (h : Rx w base X SA sc s o st toks fc fa LA LC BA BC) : base ≤ w.heap.size := by have := h.lt; have := h.bX; omega
/-- the source behind a store into the state. -/
theorem Rx.srcSet (h : Rx w base X SA sc s o st toks fc fa LA LC BA BC) (i : Nat) (v : Value) : BsAt (w.setCell ⟨X, i, none⟩ v) SA s :=
  h.src.keep h.sb h.hz (Below.setCell (p := ⟨X, i, none⟩) (Below.refl _ _) h.bX _)
theorem Rx.setOpn (h : Rx w base X SA sc s o st toks fc fa LA LC BA BC) (q : Nat) : Rx (w.setCell ⟨X, 3, none⟩ (.int .i64 q)) base X SA sc s q st toks fc fa LA LC BA BC :=
  ⟨h.bX, cell_set_ne h.c0 (by decide), cell_set_ne h.c1 (by decide), cell_set_ne h.c2 (by decide), cell_set_eq h.c3, cell_set_ne h.c4 (by decide), cell_set_ne h.c5 (by decide),
    by rw [World.frozen?_setCell]; exact h.f1, by rw [World.frozen?_setCell]; exact h.f2, by rw [World.frozen?_setCell]; exact h.f3, by rw [World.frozen?_setCell]; exact h.f4, by rw [World.frozen?_setCell]; exact h.f5,
    h.srcSet _ _, h.sb, own_set h.ol h.nl _ _, own_set h.ob h.nb _ _, h.nl, h.nb, h.nn⟩
theorem Rx.setFc (h : Rx w base X SA sc s o st toks fc fa LA LC BA BC) (q : Int) : Rx (w.setCell ⟨X, 4, none⟩ (.int .i64 q)) base X SA sc s o st toks q fa LA LC BA BC :=
  ⟨h.bX, cell_set_ne h.c0 (by decide), cell_set_ne h.c1 (by decide), cell_set_ne h.c2 (by decide), cell_set_ne h.c3 (by decide), cell_set_eq h.c4, cell_set_ne h.c5 (by decide),
    by rw [World.frozen?_setCell]; exact h.f1, by rw [World.frozen?_setCell]; exact h.f2, by rw [World.frozen?_setCell]; exact h.f3, by rw [World.frozen?_setCell]; exact h.f4, by rw [World.frozen?_setCell]; exact h.f5,
    h.srcSet _ _, h.sb, own_set h.ol h.nl _ _, own_set h.ob h.nb _ _, h.nl, h.nb, h.nn⟩
theorem Rx.setFa (h : Rx w base X SA sc s o st toks fc fa LA LC BA BC) (q : Nat) : Rx (w.setCell ⟨X, 5, none⟩ (.int .i64 q)) base X SA sc s o st toks fc q LA LC BA BC :=
  ⟨h.bX, cell_set_ne h.c0 (by decide), cell_set_ne h.c1 (by decide), cell_set_ne h.c2 (by decide), cell_set_ne h.c3 (by decide), cell_set_ne h.c4 (by decide), cell_set_eq h.c5,
    by rw [World.frozen?_setCell]; exact h.f1, by rw [World.frozen?_setCell]; exact h.f2, by rw [World.frozen?_setCell]; exact h.f3, by rw [World.frozen?_setCell]; exact h.f4, by rw [World.frozen?_setCell]; exact h.f5,
    h.srcSet _ _, h.sb, own_set h.ol h.nl _ _, own_set h.ob h.nb _ _, h.nl, h.nb, h.nn⟩
/-- a token is laid. -/
theorem Rx.addTok (h : Rx w base X SA sc s o st toks fc fa LA LC BA BC) (t : Tk) {g cap : Nat} (hown : w'.ownsRow base 35 3 (.slice (some ⟨g, 0, none⟩) (toks.length + 1) cap) (toks.length + 1) (tkVs toks ++ tkV t))
    (hg : w.grownBy w' (Value.slice LA toks.length LC).ownBlock) (hat : (Value.slice LA toks.length LC).ownBlock = some g ∨ g = w.heap.size) :
    Rx (w'.setCell ⟨X, 1, none⟩ (.slice (some ⟨g, 0, none⟩) (toks.length + 1) cap)) base X SA sc s o st (toks ++ [t]) fc fa (some ⟨g, 0, none⟩) cap BA BC := by
  have hX := h.lt
  have hbw : Below base w w' := Below.grown (Below.refl _ _) hg h.hz (fun k hk => (h.ol.lt k hk).1)
  have hk : ∀ {i v}, w.cell? ⟨X, i, none⟩ = some v → w'.cell? ⟨X, i, none⟩ = some v := fun hc => hg.cell hc (fun e => h.nl e.symm)
  have hf : ∀ {i}, w.frozen? ⟨X, i, none⟩ = false → w'.frozen? ⟨X, i, none⟩ = false := fun hc => (World.frozen?_of_block (a := ⟨X, _, none⟩) (hg.block X hX (fun e => h.nl e.symm))).trans hc
  have hgX : g ≠ X := by
    rcases hat with e | e
    · exact fun e2 => h.nl (by rw [e, e2])
    · omega
  have hlen : (toks ++ [t]).length = toks.length + 1 := by simp
  have hob : w'.ownsRow base 3 1 (.slice BA st.length BC) st.length (stVs st) := h.ob.kept hg (by
    cases hv : (Value.slice BA st.length BC).ownBlock with
    | none => exact Or.inl rfl
    | some b => exact Or.inr (fun e => h.nn b (e ▸ rfl) hv))
  refine ⟨h.bX, cell_set_ne (hk h.c0) (by decide), ?_, cell_set_ne (hk h.c2) (by decide), cell_set_ne (hk h.c3) (by decide), cell_set_ne (hk h.c4) (by decide), cell_set_ne (hk h.c5) (by decide), ?_, ?_, ?_, ?_, ?_, ?_, h.sb, ?_, ?_, ?_, h.nb, ?_⟩
  · rw [hlen]; exact cell_set_eq (hk h.c1)
  · rw [World.frozen?_setCell]; exact hf h.f1
  · rw [World.frozen?_setCell]; exact hf h.f2
  · rw [World.frozen?_setCell]; exact hf h.f3
  · rw [World.frozen?_setCell]; exact hf h.f4
  · rw [World.frozen?_setCell]; exact hf h.f5
  · exact h.src.keep h.sb h.hz (Below.setCell (p := ⟨X, 1, none⟩) hbw h.bX _)
  · rw [hlen, tkVs_snoc]
    exact own_set hown (by simp [Value.ownBlock]; exact hgX) _ _
  · exact own_set hob h.nb _ _
  · simp [Value.ownBlock]; exact hgX
  · intro g' e
    simp only [Value.ownBlock, Option.some.injEq] at e
    subst e
    intro e2
    rcases hat with e | e
    · exact h.nn g e e2
    · have := h.ob.lt g e2; omega
/-- a block begins. -/
theorem Rx.addB (h : Rx w base X SA sc s o st toks fc fa LA LC BA BC) (n : Nat) {g cap : Nat} (hown : w'.ownsRow base 3 1 (.slice (some ⟨g, 0, none⟩) (st.length + 1) cap) (st.length + 1) (stVs st ++ [.int .i64 n]))
    (hg : w.grownBy w' (Value.slice BA st.length BC).ownBlock) (hat : (Value.slice BA st.length BC).ownBlock = some g ∨ g = w.heap.size) :
    Rx (w'.setCell ⟨X, 2, none⟩ (.slice (some ⟨g, 0, none⟩) (st.length + 1) cap)) base X SA sc s o (n :: st) toks fc fa LA LC (some ⟨g, 0, none⟩) cap := by
  have hX := h.lt
  have hbw : Below base w w' := Below.grown (Below.refl _ _) hg h.hz (fun k hk => (h.ob.lt k hk).1)
  have hk : ∀ {i v}, w.cell? ⟨X, i, none⟩ = some v → w'.cell? ⟨X, i, none⟩ = some v := fun hc => hg.cell hc (fun e => h.nb e.symm)
  have hf : ∀ {i}, w.frozen? ⟨X, i, none⟩ = false → w'.frozen? ⟨X, i, none⟩ = false := fun hc => (World.frozen?_of_block (a := ⟨X, _, none⟩) (hg.block X hX (fun e => h.nb e.symm))).trans hc
  have hgX : g ≠ X := by
    rcases hat with e | e
    · exact fun e2 => h.nb (by rw [e, e2])
    · omega
  have hol : w'.ownsRow base 35 3 (.slice LA toks.length LC) toks.length (tkVs toks) := h.ol.kept hg (by
    cases hv : (Value.slice LA toks.length LC).ownBlock with
    | none => exact Or.inl rfl
    | some b => exact Or.inr (fun e => h.nn b hv e.symm))
  refine ⟨h.bX, cell_set_ne (hk h.c0) (by decide), cell_set_ne (hk h.c1) (by decide), cell_set_eq (hk h.c2), cell_set_ne (hk h.c3) (by decide), cell_set_ne (hk h.c4) (by decide), cell_set_ne (hk h.c5) (by decide), ?_, ?_, ?_, ?_, ?_, ?_, h.sb, ?_, ?_, h.nl, ?_, ?_⟩
  · rw [World.frozen?_setCell]; exact hf h.f1
  · rw [World.frozen?_setCell]; exact hf h.f2
  · rw [World.frozen?_setCell]; exact hf h.f3
  · rw [World.frozen?_setCell]; exact hf h.f4
  · rw [World.frozen?_setCell]; exact hf h.f5
  · exact h.src.keep h.sb h.hz (Below.setCell (p := ⟨X, 2, none⟩) hbw h.bX _)
  · exact own_set hol h.nl _ _
  · rw [stVs_cons]
    exact own_set hown (by simp [Value.ownBlock]; exact hgX) _ _
  · simp [Value.ownBlock]; exact hgX
  · intro g' e e2
    simp only [Value.ownBlock, Option.some.injEq] at e2
    subst e2
    rcases hat with e3 | e3
    · exact h.nn _ e e3
    · have := h.ol.lt _ e; omega
/-- a block ends. -/
theorem Rx.popB {n : Nat} (h : Rx w base X SA sc s o (n :: st) toks fc fa LA LC BA BC) : Rx (w.setCell ⟨X, 2, none⟩ (.slice BA st.length BC)) base X SA sc s o st toks fc fa LA LC BA BC := by
  refine ⟨h.bX, cell_set_ne h.c0 (by decide), cell_set_ne h.c1 (by decide), cell_set_eq h.c2, cell_set_ne h.c3 (by decide), cell_set_ne h.c4 (by decide), cell_set_ne h.c5 (by decide),
    by rw [World.frozen?_setCell]; exact h.f1, by rw [World.frozen?_setCell]; exact h.f2, by rw [World.frozen?_setCell]; exact h.f3, by rw [World.frozen?_setCell]; exact h.f4, by rw [World.frozen?_setCell]; exact h.f5,
    h.srcSet _ _, h.sb, own_set h.ol h.nl _ _, ?_, h.nl, own_len_ne h.nb, fun g e => own_len_ne (h.nn g e)⟩
  have hb := own_cut h.ob (m := st.length) (by simp) (by simp)
  rw [stVs_cons, List.take_left' (by rw [stVs_len])] at hb
  exact own_set hb (own_len_ne h.nb) _ _
/-- the innermost block. -/
theorem Rx.top {n : Nat} (h : Rx w base X SA sc s o (n :: st) toks fc fa LA LC BA BC) : ∃ g, BA = some ⟨g, 0, none⟩ ∧ w.cell? ⟨g, st.length, none⟩ = some (.int .i64 n) ∧ st.length + 1 ≤ BC ∧ BC ≤ 9223372036854775807 := by
  rcases h.ob.2 with ⟨_, hn⟩ | ⟨g, cap, cur, hv, hb, hg, hc, hmx, hs, ht⟩
  · simp at hn
  · injection hv with e1 e2 e3
    subst e1 e3
    refine ⟨g, rfl, ?_, by simpa using hc, hmx⟩
    have hcl := h.ob.cells (g := g) rfl st.length (.int .i64 n) (by rw [stVs_cons, List.getElem?_append_right (by rw [stVs_len]; omega), stVs_len]; simp)
    rw [Addr.add_lit, Nat.zero_add] at hcl
    exact hcl
theorem Rx.lastTok {l : List Tk} {t : Tk} (h : Rx w base X SA sc s o st (l ++ [t]) fc fa LA LC BA BC) : ∃ g, LA = some ⟨g, 0, none⟩ ∧ w.cell? ⟨g, l.length * 3, none⟩ = some (.int .i64 t.kind) ∧ l.length + 1 ≤ LC ∧ LC ≤ 9223372036854775807 := by
  rcases h.ol.2 with ⟨_, hn⟩ | ⟨g, cap, cur, hv, hb, hg, hc, hmx, hs, ht⟩
  · simp at hn
  · injection hv with e1 e2 e3
    subst e1 e3
    refine ⟨g, rfl, ?_, by simpa using hc, hmx⟩
    have hcl := h.ol.cells (g := g) rfl (l.length * 3) (.int .i64 t.kind) (by
      rw [tkVs_snoc, List.getElem?_append_right (by rw [tkVs_len]; omega), tkVs_len, Nat.sub_self]; rfl)
    rw [Addr.add_lit, Nat.zero_add] at hcl
    exact hcl
theorem RxS.later (h : RxS w base X SA sc s o st toks fc fa) (hb : Below w.heap.size w w') : RxS w' base X SA sc s o st toks fc fa := by
  obtain ⟨LA, LC, BA, BC, h⟩ := h
  exact ⟨LA, LC, BA, BC, h.later hb⟩
theorem RxS.setOpn (h : RxS w base X SA sc s o st toks fc fa) (q : Nat) (z : Int) (hz : z = (q : Int)) : RxS (w.setCell ⟨X, 3, none⟩ (.int .i64 z)) base X SA sc s q st toks fc fa := by
  obtain ⟨LA, LC, BA, BC, h⟩ := h
  subst hz
  exact ⟨LA, LC, BA, BC, h.setOpn q⟩
theorem RxS.cells (h : RxS w base X SA sc s o st toks fc fa) :
    w.cell? ⟨X, 0, none⟩ = some (.slice SA s.size sc) ∧ w.cell? ⟨X, 3, none⟩ = some (.int .i64 o) ∧ w.cell? ⟨X, 4, none⟩ = some (.int .i64 fc) ∧ w.cell? ⟨X, 5, none⟩ = some (.int .i64 fa) ∧ w.frozen? ⟨X, 3, none⟩ = false ∧ X < w.heap.size ∧ base ≤ X ∧ base ≤ w.heap.size ∧ BsAt w SA s := by
  obtain ⟨LA, LC, BA, BC, h⟩ := h
  exact ⟨h.c0, h.c3, h.c4, h.c5, h.f3, h.lt, h.bX, h.hz, h.src⟩
theorem RxS.cellB {d : Nat} (hL : RxS w base X SA sc s o (d :: st) toks fc fa) : ∃ g BC, w.cell? ⟨X, 2, none⟩ = some (.slice (some ⟨g, 0, none⟩) (st.length + 1) BC) ∧ w.cell? ⟨g, st.length, none⟩ = some (.int .i64 d) ∧ st.length + 1 ≤ BC ∧ BC ≤ 9223372036854775807 ∧ w.frozen? ⟨X, 2, none⟩ = false ∧ RxS (w.setCell ⟨X, 2, none⟩ (.slice (some ⟨g, 0, none⟩) st.length BC)) base X SA sc s o st toks fc fa := by
  obtain ⟨LA, LC, BA, BC, h⟩ := hL
  obtain ⟨g, rfl, hc, hl, hm⟩ := h.top
  exact ⟨g, BC, h.c2, hc, hl, hm, h.f2, ⟨LA, LC, _, BC, h.popB⟩⟩
end

theorem refLet_ok (c : UInt8) (w : World) : Calls Tryd.prog 31 #[.int .u8 c.toNat] w fun e w' => e = .returned (.bool (isLet c)) ∧ w = w' := by
  obtain ⟨k, hk⟩ : ∃ k, c.toNat = k := ⟨_, rfl⟩
  have hd : isLet c = ((decide (97 ≤ k) && decide (k ≤ 122)) || (decide (65 ≤ k) && decide (k ≤ 90)) || k == 95) := by rw [isLet, hk]
  rw [hd, hk]
  clear hd hk c
  rcases (by omega : k < 65 ∨ (65 ≤ k ∧ k ≤ 90) ∨ (90 < k ∧ k < 95) ∨ k = 95 ∨ k = 96 ∨ (97 ≤ k ∧ k ≤ 122) ∨ 122 < k) with h | h | h | h | h | h | h
  · have hr : ((decide (97 ≤ k) && decide (k ≤ 122)) || (decide (65 ≤ k) && decide (k ≤ 90)) || k == 95) = false := by simp; omega
    rw [hr]
    clear hr
    have e1 : decide (97 ≤ (k : Int)) = false := decide_eq_false (by omega)
    have e3 : decide (65 ≤ (k : Int)) = false := decide_eq_false (by omega)
    have e5 : ((k : Int) == 95) = false := by simp; omega
    clear h
    go_enter Tryd.func31, Tryd.ntmps31
    go_wp2
    go_ret
    exact ⟨rfl, rfl⟩
  · have hr : ((decide (97 ≤ k) && decide (k ≤ 122)) || (decide (65 ≤ k) && decide (k ≤ 90)) || k == 95) = true := by simp; omega
    rw [hr]
    clear hr
    have e1 : decide (97 ≤ (k : Int)) = false := decide_eq_false (by omega)
    have e3 : decide (65 ≤ (k : Int)) = true := decide_eq_true (by omega)
    have e4 : decide ((k : Int) ≤ 90) = true := decide_eq_true (by omega)
    clear h
    go_enter Tryd.func31, Tryd.ntmps31
    go_wp2
    go_ret
    exact ⟨rfl, rfl⟩
  · have hr : ((decide (97 ≤ k) && decide (k ≤ 122)) || (decide (65 ≤ k) && decide (k ≤ 90)) || k == 95) = false := by simp; omega
    rw [hr]
    clear hr
    have e1 : decide (97 ≤ (k : Int)) = false := decide_eq_false (by omega)
    have e3 : decide (65 ≤ (k : Int)) = true := decide_eq_true (by omega)
    have e4 : decide ((k : Int) ≤ 90) = false := decide_eq_false (by omega)
    have e5 : ((k : Int) == 95) = false := by simp; omega
    clear h
    go_enter Tryd.func31, Tryd.ntmps31
    go_wp2
    go_ret
    exact ⟨rfl, rfl⟩
  · have hr : ((decide (97 ≤ k) && decide (k ≤ 122)) || (decide (65 ≤ k) && decide (k ≤ 90)) || k == 95) = true := by simp; omega
    rw [hr]
    clear hr
    have e1 : decide (97 ≤ (k : Int)) = false := decide_eq_false (by omega)
    have e3 : decide (65 ≤ (k : Int)) = true := decide_eq_true (by omega)
    have e4 : decide ((k : Int) ≤ 90) = false := decide_eq_false (by omega)
    have e5 : ((k : Int) == 95) = true := by simp; omega
    clear h
    go_enter Tryd.func31, Tryd.ntmps31
    go_wp2
    go_ret
    exact ⟨rfl, rfl⟩
  · have hr : ((decide (97 ≤ k) && decide (k ≤ 122)) || (decide (65 ≤ k) && decide (k ≤ 90)) || k == 95) = false := by simp; omega
    rw [hr]
    clear hr
    have e1 : decide (97 ≤ (k : Int)) = false := decide_eq_false (by omega)
    have e3 : decide (65 ≤ (k : Int)) = true := decide_eq_true (by omega)
    have e4 : decide ((k : Int) ≤ 90) = false := decide_eq_false (by omega)
    have e5 : ((k : Int) == 95) = false := by simp; omega
    clear h
    go_enter Tryd.func31, Tryd.ntmps31
    go_wp2
    go_ret
    exact ⟨rfl, rfl⟩
  · have hr : ((decide (97 ≤ k) && decide (k ≤ 122)) || (decide (65 ≤ k) && decide (k ≤ 90)) || k == 95) = true := by simp; omega
    rw [hr]
    clear hr
    have e1 : decide (97 ≤ (k : Int)) = true := decide_eq_true (by omega)
    have e2 : decide ((k : Int) ≤ 122) = true := decide_eq_true (by omega)
    clear h
    go_enter Tryd.func31, Tryd.ntmps31
    go_wp2
    go_ret
    exact ⟨rfl, rfl⟩
  · have hr : ((decide (97 ≤ k) && decide (k ≤ 122)) || (decide (65 ≤ k) && decide (k ≤ 90)) || k == 95) = false := by simp; omega
    rw [hr]
    clear hr
    have e1 : decide (97 ≤ (k : Int)) = true := decide_eq_true (by omega)
    have e2 : decide ((k : Int) ≤ 122) = false := decide_eq_false (by omega)
    have e3 : decide (65 ≤ (k : Int)) = true := decide_eq_true (by omega)
    have e4 : decide ((k : Int) ≤ 90) = false := decide_eq_false (by omega)
    have e5 : ((k : Int) == 95) = false := by simp; omega
    clear h
    go_enter Tryd.func31, Tryd.ntmps31
    go_wp2
    go_ret
    exact ⟨rfl, rfl⟩

theorem refDig_ok (c : UInt8) (w : World) : Calls Tryd.prog 32 #[.int .u8 c.toNat] w fun e w' => e = .returned (.bool (isDig c)) ∧ w = w' := by
  obtain ⟨k, hk⟩ : ∃ k, c.toNat = k := ⟨_, rfl⟩
  have hd : isDig c = (decide (48 ≤ k) && decide (k ≤ 57)) := by rw [isDig, hk]
  rw [hd, hk]
  clear hd hk c
  by_cases h1 : 48 ≤ k
  · by_cases h2 : k ≤ 57
    · have e1 : decide (48 ≤ (k : Int)) = true := decide_eq_true (by omega)
      have e2 : decide ((k : Int) ≤ 57) = true := decide_eq_true (by omega)
      rw [decide_eq_true h1, decide_eq_true h2]
      go_enter Tryd.func32, Tryd.ntmps32
      go_wp2
      go_ret
      exact ⟨rfl, rfl⟩
    · have e1 : decide (48 ≤ (k : Int)) = true := decide_eq_true (by omega)
      have e2 : decide ((k : Int) ≤ 57) = false := decide_eq_false (by omega)
      rw [decide_eq_true h1, decide_eq_false h2]
      go_enter Tryd.func32, Tryd.ntmps32
      go_wp2
      go_ret
      exact ⟨rfl, rfl⟩
  · have e1 : decide (48 ≤ (k : Int)) = false := decide_eq_false (by omega)
    rw [decide_eq_false h1]
    go_enter Tryd.func32, Tryd.ntmps32
    go_wp2
    go_ret
    exact ⟨rfl, rfl⟩

theorem below_dN {B : Nat} {a w : World} (h : Below B a w) (n : Nat) : Below B a (w.drewN n) := h.trans ⟨rfl, rfl, rfl, Nat.le_refl _, fun _ _ => rfl⟩
theorem drew_ok {B : Nat} {a u : World} (h : Below B a u) : Below B a u.drew := h.trans ⟨rfl, rfl, rfl, Nat.le_refl _, fun _ _ => rfl⟩
section
variable {w : World} {base X : Nat} {SA : Option Addr} {sc : Nat} {s : ByteArray} {o : Nat} {st : List Nat} {toks : List Tk} {fc : Int} {fa : Nat}
set_option maxHeartbeats 1000000 in
theorem rxAdd_ok (kind : Int) (T : ByteArray) (a : Nat) (hL : RxS w base X SA sc s o st toks fc fa) (hn : toks.length ≤ 1000000) :
    Calls Tryd.prog 19 #[.pointer (some ⟨X, 0, none⟩), .int .i64 kind, .string T, .int .i64 a] w fun e w' => e = .returned (.tuple #[]) ∧ RxS w' base X SA sc s o st (toks ++ [⟨kind, T.data.toList, a⟩]) fc fa ∧ Below base w w' := by
  obtain ⟨LA, LC, BA, BC, h⟩ := hL
  obtain ⟨i0, hi0, hz0, hz1, hz2⟩ := info_parts tok_info
  have hX := h.lt
  have hz := h.hz
  have q2 := h.c1
  go_enter Tryd.func19, Tryd.ntmps19
  go_wp2_with (at_builtin; refine wpList_append_lies _ rfl _ _ 24 rfl base 35 i0 _ 3 32 Tryd.underlying24 hi0 hz0 hz1 hz2 rfl (by omega) (.slice LA toks.length LC) toks.length (tkVs toks) rfl (h.ol.alloc _) ⟨w.heap.size, 0, none⟩ 1 1 [.int .i64 kind, .string T, .int .i64 a] rfl rfl (World.news_of_block (cs := #[.int .i64 kind, .string T, .int .i64 a]) (t := 35) (fr := (0, 0)) (heap_alloc_new w _)) (by simp [Value.oneCell']) (by omega) (by unfold maxLen; omega) (by omega) (by simp; omega) (w.heap.size + 1) (by simp) ?_; intro gg cap w4 hown4 hgrow hat hlt; have h2 := h.later ((Below.refl _ _).alloc (Nat.le_refl w.heap.size) (.cells #[.int .i64 kind, .string T, .int .i64 a] 35)); have k4 := hgrow.cell h2.c1 (fun e => h2.nl e.symm); have kf : w4.frozen? ⟨X, 1, none⟩ = false := (World.frozen?_of_block (a := ⟨X, 1, none⟩) (hgrow.block X h2.lt (fun e => h2.nl e.symm))).trans h2.f1; have hX4 : X < w4.heap.size := Nat.lt_of_lt_of_le h2.lt hgrow.size)
  all_goals
    go_end0
    refine ⟨rfl, ⟨some ⟨gg, 0, none⟩, cap, BA, BC, ?_⟩, ?_⟩
    · refine h2.addTok ⟨kind, T.data.toList, a⟩ (by rw [tkV_mk]; exact hown4) hgrow ?_
      rcases hat with e | e
      · exact Or.inl e
      · exact Or.inr (by rw [e]; simp)
    · refine Below.setCell (p := ⟨X, 1, none⟩) ?_ h.bX _
      refine Below.grown ?_ hgrow (by simp; omega) ?_
      · exact (Below.refl _ _).alloc hz _
      · exact fun k hk => (h2.ol.lt k hk).1
theorem RxS.setFault (h : RxS w base X SA sc s o st toks fc fa) (c : Int) (a : Nat) : RxS ((w.setCell ⟨X, 4, none⟩ (.int .i64 c)).setCell ⟨X, 5, none⟩ (.int .i64 a)) base X SA sc s o st toks c a := by
  obtain ⟨LA, LC, BA, BC, h⟩ := h
  exact ⟨LA, LC, BA, BC, (h.setFc c).setFa a⟩
theorem rxFault_ok (c : Int) (a : Nat) (hL : RxS w base X SA sc s o st toks fc fa) :
    Calls Tryd.prog 30 #[.pointer (some ⟨X, 0, none⟩), .int .i64 c, .int .i64 a] w fun e w' => e = .returned (.tuple #[]) ∧ RxS w' base X SA sc s o st toks c a ∧ Below base w w' := by
  obtain ⟨q4, q5, f4, f5, hX, hbX⟩ : w.cell? ⟨X, 4, none⟩ = some (.int .i64 fc) ∧ w.cell? ⟨X, 5, none⟩ = some (.int .i64 fa) ∧ w.frozen? ⟨X, 4, none⟩ = false ∧ w.frozen? ⟨X, 5, none⟩ = false ∧ X < w.heap.size ∧ base ≤ X := by
    obtain ⟨LA, LC, BA, BC, h⟩ := hL
    exact ⟨h.c4, h.c5, h.f4, h.f5, h.lt, h.bX⟩
  go_enter Tryd.func30, Tryd.ntmps30
  go_wp2
  go_end0
  exact ⟨rfl, hL.setFault c a, Below.setCell (p := ⟨X, 5, none⟩) (Below.setCell (p := ⟨X, 4, none⟩) (Below.refl _ _) hbX _) hbX _⟩
end

section
variable {w : World} {base X : Nat} {SA : Option Addr} {sc : Nat} {s : ByteArray} {o : Nat} {st : List Nat} {toks : List Tk} {fc : Int} {fa : Nat}
/-- what comes of a line's blanks. -/
def BegR (w : World) (base X : Nat) (SA : Option Addr) (sc : Nat) (s : ByteArray) (o : Nat) (fc : Int) (fa p : Nat) (r : (List Nat × List Tk) ⊕ Int) (e : Ending) (w' : World) : Prop :=
  match r with
  | .inl y => e = .returned (.tuple #[]) ∧ RxS w' base X SA sc s o y.1 y.2 fc fa ∧ Below base w w'
  | .inr c => e = .returned (.tuple #[]) ∧ (∃ st' toks', RxS w' base X SA sc s o st' toks' c p) ∧ Below base w w'
set_option maxHeartbeats 4000000 in
theorem rxBeg_more {d n p : Nat} (hL : RxS w base X SA sc s o (d :: st) toks fc fa) (hn : toks.length ≤ 1000000) (hst : st.length ≤ 1000) (hd : d < n) :
    Calls Tryd.prog 20 #[.pointer (some ⟨X, 0, none⟩), .int .i64 n, .int .i64 p] w (BegR w base X SA sc s o fc fa p (if 40 < (d :: st).length then .inr 107 else .inl (n :: d :: st, toks ++ [⟨7, [], p⟩]))) := by
  have hdn : (d : Int) < (n : Int) := by omega
  obtain ⟨i0, hi0, hz0, hzz1, hzz2⟩ := info_parts int_info
  have hz : base ≤ w.heap.size := by obtain ⟨_, _, _, _, h⟩ := hL; exact h.hz
  obtain ⟨g, BC, q4, qt, hl4, hm4, f4, _⟩ := hL.cellB
  have hX : X < w.heap.size := World.block_lt_of_cell? w _ q4
  have i0' : (0 : Int) ≤ (st.length : Int) := by omega
  have i1 : (st.length : Int) < ((st.length + 1 : Nat) : Int) := by omega
  have i2 : ((st.length + 1 : Nat) : Int) - 1 = (st.length : Int) := by omega
  have i3 : (st.length : Int) + 1 - 1 = (st.length : Int) := by omega
  by_cases h40 : 40 < (d :: st).length
  · rw [if_pos h40]
    unfold BegR
    dsimp only
    have e40 : (40 : Int) < ((st.length + 1 : Nat) : Int) := by simp at h40; omega
    have e41 : (40 : Int) < (st.length : Int) + 1 := by omega
    go_enter Tryd.func20, Tryd.ntmps20
    go_wp2_with fail
    go_quiet (fail)
    obtain ⟨v1, hv, hbv⟩ : ∃ v, v = w.drewN nq ∧ Below w.heap.size w v := ⟨_, rfl, below_dN (Below.refl _ _) _⟩
    rw [← hv]
    clear hv q4 qt f4
    replace hL := hL.later hbv
    obtain ⟨g, BC, q4, qt, hl4, hm4, f4, _⟩ := hL.cellB
    go_wp2_with (go_at_call 30; refine (rxFault_ok 107 p hL).mono ?_; rintro e w3 ⟨rfl, hL3, hb3⟩)
    refine bodyPost_ret (results_none rfl _ _ _) rfl ?_
    exact ⟨rfl, ⟨_, _, hL3⟩, (hbv.mono hz).trans hb3⟩
  · rw [if_neg h40]
    unfold BegR
    dsimp only
    have e40 : ¬ (40 : Int) < ((st.length + 1 : Nat) : Int) := by simp at h40; omega
    have e41 : ¬ (40 : Int) < (st.length : Int) + 1 := by omega
    go_enter Tryd.func20, Tryd.ntmps20
    go_wp2_with fail
    go_quiet (fail)
    obtain ⟨v1, hv, hbv⟩ : ∃ v, v = w.drewN nq ∧ Below w.heap.size w v := ⟨_, rfl, below_dN (Below.refl _ _) _⟩
    rw [← hv]
    clear hv q4 qt f4 hX
    replace hL := hL.later hbv
    replace hbv := hbv.mono hz
    replace hz : base ≤ v1.heap.size := by obtain ⟨_, _, _, _, h⟩ := hL; exact h.hz
    obtain ⟨LA, LC, BA, BC, hx⟩ := hL
    have hX := hx.lt
    have q4 := hx.c2
    have hob : v1.ownsRow base 3 1 (.slice BA (st.length + 1) BC) (st.length + 1) (stVs (d :: st)) := hx.ob
    go_wp2_with (first
      | (at_builtin; refine wpList_append_lies _ rfl _ _ 37 rfl base 3 i0 _ 1 8 Tryd.underlying37 hi0 hz0 hzz1 hzz2 rfl (by omega) (.slice BA (st.length + 1) BC) (st.length + 1) (stVs (d :: st)) rfl (hob.alloc _) ⟨v1.heap.size, 0, none⟩ 1 1 [.int .i64 n] rfl rfl (World.news_of_block (cs := #[.int .i64 n]) (t := 3) (fr := (0, 0)) (heap_alloc_new v1 _)) (by simp [Value.oneCell']) (by omega) (by unfold maxLen; omega) (by omega) (by simp; omega) (v1.heap.size + 1) (by simp) ?_; intro gg cap w4 hown4 hgrow hat hlt; have h2 := hx.later ((Below.refl _ _).alloc (Nat.le_refl v1.heap.size) (.cells #[.int .i64 n] 3)); have k4 := hgrow.cell h2.c2 (fun e => h2.nb e.symm); have kf : w4.frozen? ⟨X, 2, none⟩ = false := (World.frozen?_of_block (a := ⟨X, 2, none⟩) (hgrow.block X h2.lt (fun e => h2.nb e.symm))).trans h2.f2; have hX4 : X < w4.heap.size := Nat.lt_of_lt_of_le h2.lt hgrow.size)
      | (go_at_call 19; have h5 := h2.addB n hown4 hgrow (hat.elim Or.inl (fun e => Or.inr (by rw [e]; simp))); have hb5 := Below.setCell (p := ⟨X, 2, none⟩) (Below.grown ((Below.refl base v1).alloc hz (.cells #[.int .i64 n] 3)) hgrow (by simp; omega) (fun k hk => (h2.ob.lt k hk).1)) hx.bX (.slice (some ⟨gg, 0, none⟩) (st.length + 1 + 1) cap); refine (rxAdd_ok 7 ⟨#[]⟩ p ⟨_, _, _, _, h5⟩ hn).mono ?_; rintro e w6 ⟨rfl, hL6, hb6⟩))
    refine bodyPost_ret (results_none rfl _ _ _) rfl ?_
    exact ⟨rfl, hL6, hbv.trans (hb5.trans hb6)⟩
end

def dpM (X : Nat) (w : World) : Nat := match w.cell? ⟨X, 2, none⟩ with | some (.slice _ n _) => n | _ => 0
theorem dpM_eq {w : World} {X n c : Nat} {A : Option Addr} (h : w.cell? ⟨X, 2, none⟩ = some (.slice A n c)) : dpM X w = n := by unfold dpM; rw [h]
section
variable {w : World} {base X : Nat} {SA : Option Addr} {sc : Nat} {s : ByteArray} {o : Nat} {st : List Nat} {toks : List Tk} {fc : Int} {fa : Nat}
theorem RxS.pop {d : Nat} {BA : Option Addr} {BC : Nat} (h : RxS w base X SA sc s o (d :: st) toks fc fa) (hc : w.cell? ⟨X, 2, none⟩ = some (.slice BA (st.length + 1) BC)) : RxS (w.setCell ⟨X, 2, none⟩ (.slice BA st.length BC)) base X SA sc s o st toks fc fa := by
  obtain ⟨g, BC2, q4, _, _, _, _, hp⟩ := h.cellB
  rw [hc] at q4
  injection q4 with q4
  injection q4 with e1 _ e3
  subst e1 e3
  exact hp
set_option maxHeartbeats 4000000 in
theorem rxBeg_less {d n p : Nat} {r : List Nat} (hst : st = d :: r) (hL : RxS w base X SA sc s o st toks fc fa) (hn : toks.length + st.length ≤ 1000000) (hd : n ≤ d) (hbot : st.getLast? = some 0) :
    Calls Tryd.prog 20 #[.pointer (some ⟨X, 0, none⟩), .int .i64 n, .int .i64 p] w (BegR w base X SA sc s o fc fa p (if (popL n st).headD 0 = n then .inl (popL n st, toks ++ List.replicate (st.length - (popL n st).length) ⟨8, [], p⟩) else .inr 103)) := by
  obtain ⟨R, hR⟩ : ∃ R, BegR w base X SA sc s o fc fa p (if (popL n st).headD 0 = n then .inl (popL n st, toks ++ List.replicate (st.length - (popL n st).length) ⟨8, [], p⟩) else .inr 103) = R := ⟨_, rfl⟩
  have hBad := Lib.hid (fun (h : (popL n st).headD 0 ≠ n) e w' (he : e = .returned (.tuple #[])) (hl : ∃ st' toks', RxS w' base X SA sc s o st' toks' 103 p) (hb : Below base w w') => show R e w' by rw [← hR, if_neg h]; exact ⟨he, hl, hb⟩)
  have hGood := Lib.hid (fun (h : (popL n st).headD 0 = n) e w' (he : e = .returned (.tuple #[])) (hl : RxS w' base X SA sc s o (popL n st) (toks ++ List.replicate (st.length - (popL n st).length) ⟨8, [], p⟩) fc fa) (hb : Below base w w') => show R e w' by rw [← hR, if_pos h]; exact ⟨he, hl, hb⟩)
  rw [hR]
  clear hR
  have hz : base ≤ w.heap.size := hL.cells.2.2.2.2.2.2.2.1
  have hdn : (n : Int) ≤ (d : Int) := by omega
  have hdb : decide (d < n) = false := decide_eq_false (by omega)
  have hrl : st.length = r.length + 1 := by rw [hst]; rfl
  have hL0 := hL
  rw [hst] at hL0
  obtain ⟨g, BC, q4, qt, hl4, hm4, f4, _⟩ := hL0.cellB
  have i0' : (0 : Int) ≤ (r.length : Int) := by omega
  have i1 : (r.length : Int) < ((r.length + 1 : Nat) : Int) := by omega
  have i2 : ((r.length + 1 : Nat) : Int) - 1 = (r.length : Int) := by omega
  have i3 : (r.length : Int) + 1 - 1 = (r.length : Int) := by omega
  clear hst hL0
  have HL := Lib.hid hbot
  clear hbot
  go_enter Tryd.func20, Tryd.ntmps20
  go_wp2_with fail
  go_quiet (fail)
  obtain ⟨v1, hv, hbv⟩ : ∃ v, v = w.drewN nq ∧ Below w.heap.size w v := ⟨_, rfl, below_dN (Below.refl _ _) _⟩
  rw [← hv]
  clear hv q4 qt f4 i0' i1 i2 i3 hl4 hm4 hdn hrl
  replace hL := hL.later hbv
  replace hbv := hbv.mono hz
  replace hz : base ≤ v1.heap.size := hL.cells.2.2.2.2.2.2.2.1
  go_wp2_with fail
  go_loopw [42] (fun v wr => ∃ (st' : List Nat) (toks' : List Tk), RxS wr base X SA sc s o st' toks' fc fa ∧ Below base w wr ∧ Hid (st'.getLast? = some 0) ∧ Hid (popL n st' = popL n st) ∧ Hid (toks' = toks ++ List.replicate (st.length - st'.length) ⟨8, [], p⟩) ∧ st'.length ≤ st.length ∧ toks'.length + st'.length ≤ 1000000) (fun v wr => dpM X wr)
  case atStart => exact ⟨st, toks, hL, hbv, HL, Lib.hid rfl, Lib.hid (by simp), Nat.le_refl _, hn⟩
  case round =>
    obtain ⟨st', toks', hLr, hbr, hl0, hpop, htk, hlen, hcnt⟩ := hrel
    clear hL hbv HL hn hz
    have hzr : base ≤ wr.heap.size := hLr.cells.2.2.2.2.2.2.2.1
    cases st' with
    | nil => exact absurd hl0.out (by simp)
    | cons d' r' =>
      have hlr : r'.length + 1 ≤ st.length := by simpa using hlen
      obtain ⟨g, BC, q4, qt, hl4, hm4, f4, _⟩ := hLr.cellB
      have hM : Hid (dpM X wr = r'.length + 1) := Lib.hid (dpM_eq q4)
      have i0' : (0 : Int) ≤ (r'.length : Int) := by omega
      have i1 : (r'.length : Int) < ((r'.length + 1 : Nat) : Int) := by omega
      have i2 : ((r'.length + 1 : Nat) : Int) - 1 = (r'.length : Int) := by omega
      have i3 : (r'.length : Int) + 1 - 1 = (r'.length : Int) := by omega
      by_cases hlt : n < d'
      · have hlt2 : (n : Int) < (d' : Int) := by omega
        have hl0' := Lib.hid (last_more hl0.out (by omega))
        have hpop' := Lib.hid (show popL n r' = popL n st by rw [← hpop.out, pop_more hlt])
        clear hl0 hpop hlt
        go_wp2_with fail
        go_quiet (fail)
        obtain ⟨v2, hv, hbv⟩ : ∃ v, v = wr.drewN nq ∧ Below wr.heap.size wr v := ⟨_, rfl, below_dN (Below.refl _ _) _⟩
        rw [← hv]
        clear hv q4 qt f4
        replace hLr := hLr.later hbv
        replace hbr := hbr.trans (hbv.mono hzr)
        have hz2 : base ≤ v2.heap.size := hLr.cells.2.2.2.2.2.2.2.1
        obtain ⟨g, BC, q4, qt, hl4, hm4, f4, _⟩ := hLr.cellB
        clear hbv hzr
        have i4 : (r'.length : Int) ≤ (BC : Int) := by omega
        have i8 : ¬ ((BC : Int) < (r'.length : Int)) := by omega
        have i9 : r'.length ≤ BC := by omega
        have i5 : IntKind.i64.wrap (r'.length : Int) = (r'.length : Int) := by rw [IntKind.wrap_i64]; simp at hcnt; omega
        have i6 : IntKind.i64.wrap ((r'.length : Int) + 1 - 1) = (r'.length : Int) := by rw [IntKind.wrap_i64]; simp at hcnt; omega
        have i7 : IntKind.i64.wrap (((r'.length + 1 : Nat) : Int) - 1) = (r'.length : Int) := by rw [IntKind.wrap_i64]; simp at hcnt; omega
        go_wp2_with fail
        go_still_tail 14, (by kernel_rfl)
        obtain ⟨v5, hv5, hb5⟩ : ∃ u, u = v2.drew ∧ Below v2.heap.size v2 u := ⟨_, rfl, drew_ok (Below.refl _ _)⟩
        change wpList _ _ _ _ _ v2.drew
        rw [← hv5]
        have hL5 := (hLr.later hb5).pop (cell_later hb5 q4)
        have f45 : v5.frozen? ⟨X, 2, none⟩ = false := by rw [hv5]; exact f4
        have q45 := cell_later hb5 q4
        have hX5 : X < v5.heap.size := World.block_lt_of_cell? _ _ q45
        have hbX := hLr.cells.2.2.2.2.2.2.1
        have hzb5 := hbr.trans (hb5.mono hz2)
        have hzb6 := Below.setCell (p := ⟨X, 2, none⟩) hzb5 hbX (.slice (some ⟨g, 0, none⟩) r'.length BC)
        clear hv5
        go_wp2_with (go_at_call 19; refine (rxAdd_ok 8 ⟨#[]⟩ p hL5 (by simp at hcnt; omega)).mono ?_; rintro e w6 ⟨rfl, hL6, hb6⟩)
        go_roundw
        case rel =>
          exact ⟨r', _, hL6, hzb6.trans hb6, hl0', hpop', Lib.hid (by
            rw [htk.out, List.append_assoc]
            congr 1
            rw [show st.length - r'.length = st.length - (d' :: r').length + 1 by rw [List.length_cons]; omega, List.replicate_succ']), by omega, by rw [List.length_append]; simp at hcnt ⊢; omega⟩
        case measure =>
          have hm6 : dpM X w6 = r'.length := by
            obtain ⟨_, _, _, _, h⟩ := hL6
            exact dpM_eq h.c2
          rw [hM.out, hm6]
          omega
      · have hge : (d' : Int) ≤ (n : Int) := by omega
        have hpe : popL n st = d' :: r' := by rw [← hpop.out, pop_done hlt]
        have hTk : toks'.length ≤ 1000000 := by omega
        by_cases he : d' = n
        · have ne1 : ((n : Int) != (d' : Int)) = false := by simp; omega
          have hfin : Hid ((popL n st).headD 0 = n ∧ ∀ W, RxS W base X SA sc s o (d' :: r') toks' fc fa → RxS W base X SA sc s o (popL n st) (toks ++ List.replicate (st.length - (popL n st).length) ⟨8, [], p⟩) fc fa) := Lib.hid ⟨by rw [hpe]; exact he, fun W h => by rw [hpe, ← htk.out]; exact h⟩
          clear he hpe hlt hpop hl0
          go_wp2_with fail
          go_quiet (fail)
          obtain ⟨v2, hv, hbv⟩ : ∃ v, v = wr.drewN nq ∧ Below wr.heap.size wr v := ⟨_, rfl, below_dN (Below.refl _ _) _⟩
          rw [← hv]
          clear hv q4 qt f4
          replace hLr := hLr.later hbv
          replace hbr := hbr.trans (hbv.mono hzr)
          have hz2 : base ≤ v2.heap.size := hLr.cells.2.2.2.2.2.2.2.1
          obtain ⟨g, BC, q4, qt, hl4, hm4, f4, _⟩ := hLr.cellB
          clear hbv hzr
          go_wp2_with fail
          go_quiet (fail)
          obtain ⟨v3, hv, hbv⟩ : ∃ v, v = v2.drewN nq ∧ Below v2.heap.size v2 v := ⟨_, rfl, below_dN (Below.refl _ _) _⟩
          rw [← hv]
          clear hv
          go_wp2
          go_end0
          exact hGood.out hfin.out.1 _ _ rfl (hfin.out.2 _ (hLr.later hbv)) (hbr.trans (hbv.mono hz2))
        · have ne1 : ((n : Int) != (d' : Int)) = true := by simp; omega
          have hfin := Lib.hid (show (popL n st).headD 0 ≠ n by rw [hpe]; exact he)
          clear he hpe hlt hpop hl0
          go_wp2_with fail
          go_quiet (fail)
          obtain ⟨v2, hv, hbv⟩ : ∃ v, v = wr.drewN nq ∧ Below wr.heap.size wr v := ⟨_, rfl, below_dN (Below.refl _ _) _⟩
          rw [← hv]
          clear hv q4 qt f4
          replace hLr := hLr.later hbv
          replace hbr := hbr.trans (hbv.mono hzr)
          have hz2 : base ≤ v2.heap.size := hLr.cells.2.2.2.2.2.2.2.1
          obtain ⟨g, BC, q4, qt, hl4, hm4, f4, _⟩ := hLr.cellB
          clear hbv hzr
          go_wp2_with fail
          go_quiet (fail)
          obtain ⟨v3, hv, hbv⟩ : ∃ v, v = v2.drewN nq ∧ Below v2.heap.size v2 v := ⟨_, rfl, below_dN (Below.refl _ _) _⟩
          rw [← hv]
          clear hv
          go_wp2_with (go_at_call 30; refine (rxFault_ok 103 p (hLr.later hbv)).mono ?_; rintro e w6 ⟨rfl, hL6, hb6⟩)
          go_end0
          exact hBad.out hfin.out _ _ rfl ⟨_, _, hL6⟩ ((hbr.trans (hbv.mono hz2)).trans hb6)
theorem rxBegin_ok {n p : Nat} (hL : RxS w base X SA sc s o st toks fc fa) (hn : toks.length + st.length ≤ 1000000) (hst : st.length ≤ 1000) (hbot : st.getLast? = some 0) :
    Calls Tryd.prog 20 #[.pointer (some ⟨X, 0, none⟩), .int .i64 n, .int .i64 p] w (BegR w base X SA sc s o fc fa p (beginL n p st toks)) := by
  cases st with
  | nil => exact absurd hbot (by simp)
  | cons d r =>
    rw [beginL, List.headD_cons]
    by_cases h : d < n
    · rw [if_pos h]
      exact rxBeg_more hL (by omega) (by simp at hst; omega) h
    · rw [if_neg h]
      exact rxBeg_less rfl hL hn (by omega) hbot
end

/-- texts in cells. -/
def strV (l : List (List UInt8)) : List Value := l.map fun x => Value.string ⟨x.toArray⟩
theorem strs_at (w : World) (l : List (List UInt8)) (t : TypeId) (k : Nat) (hk : k < l.length) : (w.alloc (.cells (strV l).toArray t)).cell? ⟨w.heap.size, k, none⟩ = some (.string ⟨(l.getD k []).toArray⟩) := by
  simp only [World.cell?, heap_alloc_new]
  simp [strV, List.getD_eq_getElem?_getD, List.getElem?_eq_getElem hk]
theorem text_eq {x : List UInt8} {s : ByteArray} : (⟨x.toArray⟩ : ByteArray) = s ↔ x = s.data.toList := by
  constructor
  · intro h; rw [← h]
  · intro h; rw [h]
theorem txt_ne {a b : ByteArray} (h : ¬ a = b) : (a.toList == b.toList) = false := by
  rw [ByteArray.toList_eq, ByteArray.toList_eq, beq_eq_false_iff_ne]
  intro e
  exact h (by rw [← text_eq.2 e])
theorem not_in {l : List (List UInt8)} {x : List UInt8} (h : ∀ j, j < l.length → l.getD j [] ≠ x) : l.contains x = false := by
  rw [Bool.eq_false_iff]
  intro hc
  rw [List.contains_iff_mem] at hc
  obtain ⟨j, hj, e⟩ := List.getElem_of_mem hc
  exact h j hj (by rw [List.getD_eq_getElem?_getD, List.getElem?_eq_getElem hj]; exact e)
theorem is_in {l : List (List UInt8)} {x : List UInt8} {k : Nat} (hk : k < l.length) (h : l.getD k [] = x) : l.contains x = true := by
  rw [List.contains_iff_mem, ← h, List.getD_eq_getElem?_getD, List.getElem?_eq_getElem hk]
  exact List.getElem_mem hk

set_option maxHeartbeats 1000000 in
theorem refWord_ok (s : ByteArray) (w : World) : Calls Tryd.prog 15 #[.string s] w fun e w' => e = .returned (.bool (wordB s.data.toList)) ∧ Below w.heap.size w w' := by
  obtain ⟨R, hR⟩ : ∃ R : Bool → Ending → World → Prop, (fun b e w' => e = .returned (.bool b) ∧ Below w.heap.size w w') = R := ⟨_, rfl⟩
  have hRe := Lib.hid (fun b e w' (h : e = Ending.returned (.bool b)) (hb : Below w.heap.size w w') => show R b e w' by rw [← hR]; exact ⟨h, hb⟩)
  show Calls Tryd.prog 15 #[.string s] w ((fun b e w' => e = .returned (.bool b) ∧ Below w.heap.size w w') (wordB s.data.toList))
  rw [hR]
  clear hR
  have hc := fun k => strs_at w wordsL 9 k
  have hb := (Below.refl w.heap.size w).alloc (Nat.le_refl _) (.cells (strV wordsL).toArray 9)
  go_enter Tryd.func15, Tryd.ntmps15
  go_wp2_with fail
  generalize hW1 : w.alloc _ = W1
  replace hc : ∀ k, k < 26 → W1.cell? ⟨w.heap.size, k, none⟩ = some (.string ⟨(wordsL.getD k []).toArray⟩) := fun k hk => by rw [← hW1]; exact hc k hk
  replace hb : Below w.heap.size w W1 := by rw [← hW1]; exact hb
  clear hW1
  have HB := Lib.hid hb
  have HC := Lib.hid hc
  clear hb hc
  go_loop [4] (fun v => ∃ k : Nat, v = .int .i64 k ∧ k ≤ 26 ∧ Hid (∀ j, j < k → wordsL.getD j [] ≠ s.data.toList)) (fun v => 26 - (intOf v).toNat)
  case atStart => exact ⟨0, rfl, by omega, Lib.hid (fun j h => absurd h (Nat.not_lt_zero j))⟩
  case round =>
    obtain ⟨k, rfl, hk, hn⟩ := hrel
    by_cases hlt : k < 26
    · have hck := HC.out k hlt
      by_cases he : (⟨(wordsL.getD k []).toArray⟩ : ByteArray) = s
      · have hw := Lib.hid (show wordB s.data.toList = true from is_in (l := wordsL) hlt (text_eq.1 he))
        rw [he] at hck
        clear he
        go_wp2
        exact hRe.out _ _ _ (by rw [hw.out]) HB.out
      · have hn2 := Lib.hid (show ∀ j, j < k + 1 → wordsL.getD j [] ≠ s.data.toList from fun j hj => if e : j = k then by subst e; exact fun e2 => he (text_eq.2 e2) else hn.out j (by omega))
        generalize (⟨(wordsL.getD k []).toArray⟩ : ByteArray) = T at *
        have e1 : (T.toList == s.toList) = false := txt_ne he
        go_wp2
        go_round
        case rel => exact ⟨k + 1, by go_num, by omega, hn2⟩
        case measure => simp [intOf]; omega
    · have hke : k = 26 := by omega
      subst hke
      have hw := Lib.hid (show wordB s.data.toList = false from not_in (l := wordsL) hn.out)
      go_wp2
      exact hRe.out _ _ _ (by rw [hw.out]) HB.out

/-- the signs in the reference's order. -/
def refSigns : List (List UInt8) := [[61, 61], [33, 61], [60, 61], [62, 61], [43, 61], [45, 61], [42, 61], [42, 42], [47, 47, 61], [47, 47], [37, 61], [38, 61], [124, 61], [94, 61], [40], [41], [91], [93], [123], [125], [44], [58], [46], [61], [60], [62], [43], [45], [42], [37], [38], [124], [94]]
def hasS (l x : List UInt8) : Prop := l.take x.length = x
theorem sgn_in {l : List UInt8} {n k : Nat} (S : List (List UInt8)) (hS : ∀ x ∈ S, x.length = n ∧ x ∈ refSigns.take k) (h : ∀ j, j < k → ¬ hasS l (refSigns.getD j [])) : S.contains (l.take n) = false := by
  rw [Bool.eq_false_iff]
  intro hc
  rw [List.contains_iff_mem] at hc
  obtain ⟨h1, h2⟩ := hS _ hc
  obtain ⟨j, hj, e⟩ := List.getElem_of_mem h2
  rw [List.length_take] at hj
  refine h j (by omega) ?_
  rw [List.getElem_take] at e
  have e2 : refSigns.getD j [] = l.take n := by rw [List.getD_eq_getElem?_getD, List.getElem?_eq_getElem (by omega)]; exact e
  rw [e2, hasS, h1]
theorem sign_none {l : List UInt8} (h : ∀ j, j < 33 → ¬ hasS l (refSigns.getD j [])) : signL l = [] := by
  unfold signL
  rw [sgn_in (n := 3) (k := 33) signs3 (by decide) h, sgn_in (n := 2) (k := 33) signs2 (by decide) h, sgn_in (n := 1) (k := 33) signs1 (by decide) h]
  rfl
theorem sign_first {l : List UInt8} {k : Nat} (hk : k < 33) (h : ∀ j, j < k → ¬ hasS l (refSigns.getD j [])) (hf : hasS l (refSigns.getD k [])) : signL l = refSigns.getD k [] := by
  by_cases h14 : 14 ≤ k
  · have h1 : ∀ k, k < 33 → 14 ≤ k → (refSigns.getD k []).length = 1 ∧ signs1.contains (refSigns.getD k []) = true := by decide
    obtain ⟨a1, a2⟩ := h1 k hk h14
    rw [hasS, a1] at hf
    unfold signL
    rw [sgn_in (n := 3) (k := 14) signs3 (by decide) (fun j hj => h j (by omega)), sgn_in (n := 2) (k := 14) signs2 (by decide) (fun j hj => h j (by omega)), hf, a2]
    rfl
  · by_cases h8 : k = 8
    · subst h8
      have hf3 : l.take 3 = [47, 47, 61] := hf
      unfold signL
      rw [hf3]
      rfl
    · have h1 : ∀ k, k < 14 → k ≠ 8 → (refSigns.getD k []).length = 2 ∧ signs2.contains (refSigns.getD k []) = true ∧ (k < 8 → refSigns.getD k [] ≠ [47, 47]) := by decide
      obtain ⟨a1, a2, a3⟩ := h1 k (by omega) h8
      rw [hasS, a1] at hf
      have h3 : signs3.contains (l.take 3) = false := by
        rw [Bool.eq_false_iff]
        intro hc
        have hc3 : l.take 3 = [47, 47, 61] := by simpa [signs3] using hc
        by_cases hk8 : k < 8
        · refine a3 hk8 ?_
          rw [← hf, show l.take 2 = (l.take 3).take 2 by rw [List.take_take]; rfl, hc3]
          rfl
        · exact h 8 (by omega) hc3
      unfold signL
      rw [h3, hf, a2]
      rfl

set_option maxHeartbeats 1000000 in
theorem refSign_ok {b off sc : Nat} {s : ByteArray} (p : Nat) (w : World) (h : BsAt w (some ⟨b, off, none⟩) s) (hs : s.size ≤ 1099511) (hsc : s.size ≤ sc) (hc : sc ≤ 9223372036854775807) (hp : p < s.size) :
    Calls Tryd.prog 34 #[.slice (some ⟨b, off, none⟩) s.size sc, .int .i64 p] w fun e w' => e = .returned (.string ⟨(signL (s.data.toList.drop p)).toArray⟩) ∧ Below w.heap.size w w' := by
  obtain ⟨R, hR⟩ : ∃ R : List UInt8 → Ending → World → Prop, (fun b e w' => e = .returned (.string ⟨b.toArray⟩) ∧ Below w.heap.size w w') = R := ⟨_, rfl⟩
  have hRe := Lib.hid (fun b e w' (h : e = Ending.returned (.string ⟨b.toArray⟩)) (hb : Below w.heap.size w w') => show R b e w' by rw [← hR]; exact ⟨h, hb⟩)
  show Calls Tryd.prog 34 _ w ((fun b e w' => e = .returned (.string ⟨b.toArray⟩) ∧ Below w.heap.size w w') (signL (s.data.toList.drop p)))
  rw [hR]
  clear hR
  have hc := fun k => strs_at w refSigns 9 k
  have hb := (Below.refl w.heap.size w).alloc (Nat.le_refl _) (.cells (strV refSigns).toArray 9)
  have hB := h.later hb
  go_enter Tryd.func34, Tryd.ntmps34
  go_wp2_with fail
  generalize hW1 : w.alloc _ = W1
  replace hc : ∀ k, k < 33 → W1.cell? ⟨w.heap.size, k, none⟩ = some (.string ⟨(refSigns.getD k []).toArray⟩) := fun k hk => by rw [← hW1]; exact hc k hk
  replace hb : Below w.heap.size w W1 := by rw [← hW1]; exact hb
  replace hB : BsAt W1 (some ⟨b, off, none⟩) s := by rw [← hW1]; exact hB
  clear hW1 h
  have HC := Lib.hid hc
  clear hc
  go_loopw [6] (fun v wr => ∃ k : Nat, v = .int .i64 k ∧ k ≤ 33 ∧ Hid (∀ j, j < k → ¬ hasS (s.data.toList.drop p) (refSigns.getD j [])) ∧ Below w.heap.size w wr ∧ Hid (BsAt wr (some ⟨b, off, none⟩) s) ∧ Hid (∀ k, k < 33 → wr.cell? ⟨w.heap.size, k, none⟩ = some (.string ⟨(refSigns.getD k []).toArray⟩))) (fun v _ => 33 - (intOf v).toNat)
  case atStart => exact ⟨0, rfl, by omega, Lib.hid (fun j h => absurd h (Nat.not_lt_zero j)), hb, Lib.hid hB, HC⟩
  case round =>
    obtain ⟨k, rfl, hk, hn, hbr, HS, HCr⟩ := hrel
    clear HC hB hb
    by_cases hlt : k < 33
    · have hck := HCr.out k hlt
      have hTl : (⟨(refSigns.getD k []).toArray⟩ : ByteArray).data.toList = refSigns.getD k [] := rfl
      have hTs : (⟨(refSigns.getD k []).toArray⟩ : ByteArray).size = (refSigns.getD k []).length := rfl
      have hpos : 1 ≤ (refSigns.getD k []).length := (by decide : ∀ k, k < 33 → 1 ≤ (refSigns.getD k []).length) k hlt
      have hle3 : (refSigns.getD k []).length ≤ 3 := (by decide : ∀ k, k < 33 → (refSigns.getD k []).length ≤ 3) k hlt
      have hext : ∀ n, (s.extract p (p + n)).data.toList = (s.data.toList.drop p).take n := fun n => by rw [ext_list, Nat.add_sub_cancel_left]
      have hlen : (s.data.toList.drop p).length = s.size - p := by rw [List.length_drop]; simp
      have hSk := Lib.hid (show ∀ T : ByteArray, T.data.toList = refSigns.getD k [] → T.size = (refSigns.getD k []).length → (hasS (s.data.toList.drop p) (refSigns.getD k []) ↔ (p + T.size ≤ s.size ∧ s.extract p (p + T.size) = T)) from fun T h1 h2 => by
        constructor
        · intro h
          have h3 := congrArg List.length h
          rw [List.length_take, hlen] at h3
          refine ⟨by omega, ?_⟩
          have h4 := hext T.size
          rw [h2, h, ← h1] at h4
          have h5 := text_eq.2 h4.symm
          have h6 := (text_eq (x := T.data.toList) (s := T)).2 rfl
          exact h5.symm.trans h6
        · rintro ⟨h3, h4⟩
          have h5 := hext T.size
          rw [h4, h1, h2] at h5
          exact h5.symm)
      have hSx := Lib.hid (hSk.out _ hTl hTs)
      clear hSk hext hlen
      rw [← hTs] at hpos hle3
      have hSg := Lib.hid (sign_first hlt hn.out)
      have hTl := Lib.hid hTl
      generalize (⟨(refSigns.getD k []).toArray⟩ : ByteArray) = T at *
      clear hTs
      have iw : IntKind.i64.wrap ((p : Int) + (T.size : Int)) = (p : Int) + (T.size : Int) := by rw [IntKind.wrap_i64]; omega
      have i0 : (0 : Int) ≤ (p : Int) := by omega
      have i1 : (p : Int) ≤ (p : Int) + (T.size : Int) := by omega
      by_cases hfit : p + T.size ≤ s.size
      · have hcv := fun n => conv_sub (h := HS.out.later (below_dN (Below.refl _ _) n)) p (p + T.size) T.size (sc - p) hfit (by omega)
        have i2 : (p : Int) + (T.size : Int) ≤ (s.size : Int) := by omega
        have i3 : (p : Int) + (T.size : Int) ≤ (sc : Int) := by omega
        have i4 : p + T.size ≤ sc := by omega
        by_cases he : s.extract p (p + T.size) = T
        · have hSg2 := Lib.hid (hSg.out (hSx.out.2 ⟨hfit, he⟩))
          rw [he] at hcv
          clear he hSg hSx
          go_wp2_with fail
          go_quiet (fail)
          obtain ⟨v2, hv, hbv⟩ : ∃ v, v = wr.drewN nq ∧ Below wr.heap.size wr v := ⟨_, rfl, below_dN (Below.refl _ _) _⟩
          rw [← hv]
          clear hv
          have hck2 := cell_later hbv hck
          replace hbr := hbr.trans (hbv.mono hbr.size)
          go_wp2
          exact hRe.out _ _ _ (by rw [hSg2.out, ← hTl.out]; rfl) hbr
        · have e1 : ((s.extract p (p + T.size)).toList == T.toList) = false := txt_ne he
          have hn2 := Lib.hid (show ∀ j, j < k + 1 → ¬ hasS (s.data.toList.drop p) (refSigns.getD j []) from fun j hj => if e : j = k then by subst e; exact fun h => (fun (x : p + T.size ≤ s.size ∧ s.extract p (p + T.size) = T) => he x.2) (hSx.out.1 h) else hn.out j (by omega))
          generalize s.extract p (p + T.size) = E at *
          clear he hSg hSx
          go_wp2_with fail
          go_quiet (fail)
          obtain ⟨v2, hv, hbv⟩ : ∃ v, v = wr.drewN nq ∧ Below wr.heap.size wr v := ⟨_, rfl, below_dN (Below.refl _ _) _⟩
          rw [← hv]
          clear hv
          have HS2 := Lib.hid (HS.out.later hbv)
          have HC2 := Lib.hid (show ∀ k, k < 33 → v2.cell? ⟨w.heap.size, k, none⟩ = some (.string ⟨(refSigns.getD k []).toArray⟩) from fun k hk => cell_later hbv (HCr.out k hk))
          replace hbr := hbr.trans (hbv.mono hbr.size)
          clear hbv HCr HS
          go_wp2
          go_roundw
          case rel => exact ⟨k + 1, by go_num, by omega, hn2, hbr, HS2, HC2⟩
          case measure => simp [intOf]; omega
      · have i2 : decide ((p : Int) + (T.size : Int) ≤ (s.size : Int)) = false := decide_eq_false (by omega)
        have hn2 := Lib.hid (show ∀ j, j < k + 1 → ¬ hasS (s.data.toList.drop p) (refSigns.getD j []) from fun j hj => if e : j = k then by subst e; exact fun h => (fun (x : p + T.size ≤ s.size ∧ s.extract p (p + T.size) = T) => hfit x.1) (hSx.out.1 h) else hn.out j (by omega))
        go_wp2_with fail
        go_quiet (fail)
        obtain ⟨v2, hv, hbv⟩ : ∃ v, v = wr.drewN nq ∧ Below wr.heap.size wr v := ⟨_, rfl, below_dN (Below.refl _ _) _⟩
        rw [← hv]
        clear hv
        have HS2 := Lib.hid (HS.out.later hbv)
        have HC2 := Lib.hid (show ∀ k, k < 33 → v2.cell? ⟨w.heap.size, k, none⟩ = some (.string ⟨(refSigns.getD k []).toArray⟩) from fun k hk => cell_later hbv (HCr.out k hk))
        replace hbr := hbr.trans (hbv.mono hbr.size)
        clear hbv HCr HS
        go_wp2
        go_roundw
        case rel => exact ⟨k + 1, by go_num, by omega, hn2, hbr, HS2, HC2⟩
        case measure => simp [intOf]; omega
    · have hke : k = 33 := by omega
      subst hke
      have hSg := Lib.hid (sign_none hn.out)
      go_wp2
      exact hRe.out _ _ _ (by rw [hSg.out]; rfl) hbr
end Go.Proofs.YtgheejogpbhokaaDoor
