/- Joined by a program: Lx0, Lx1, Lx2, Lx3. -/
import Derived.Test.YtjndbcnmmnkilaaGreatDoorPF33
namespace Go.Proofs.YtjndbcnmmnkilaaGreatDoor
set_option linter.unusedVariables false
set_option linter.unusedSimpArgs false
set_option maxRecDepth 1000000
set_option maxHeartbeats 16000000
section
open Go.RowKit
open List (length_append length_cons length_nil length_singleton)
def tkV (t : Tk) : List Value := [.int .i64 t.kind, .string ⟨t.text.toArray⟩, .int .i64 t.pos]
def tkVs (l : List Tk) : List Value := l.flatMap tkV
def stVs (st : List Nat) : List Value := st.reverse.map fun (n : Nat) => Value.int .i64 n
theorem tkVs_len (l : List Tk) : (tkVs l).length = l.length * 3 := by
 unfold tkVs
 induction l with
 | nil => rfl
 | cons a l ih => rw [List.flatMap_cons, length_append, ih, length_cons]; simp only [tkV, length_cons, length_nil]; omega
theorem tkVs_snoc (l : List Tk) (t : Tk) : tkVs (l ++ [t]) = tkVs l ++ tkV t := by simp [tkVs]
theorem stVs_len (st : List Nat) : (stVs st).length = st.length := by simp [stVs]
theorem stVs_cons (st : List Nat) (n : Nat) : stVs (n :: st) = stVs st ++ [.int .i64 n] := by simp [stVs]
theorem grown_of_below {w w' : World} (h : Below w.heap.size w w') : w.grownBy w' none := ⟨h.1, h.2, h.3, h.4, fun k hk _ => h.5 k hk⟩
theorem own_later {w w' : World} {base : Nat} {e : TypeId} {size n : Nat} {v : Value} {xs : List Value} (h : w.ownsRow base e size v n xs) (hb : Below w.heap.size w w') : w'.ownsRow base e size v n xs :=
 h.kept (grown_of_below hb) (by cases hv : v.ownBlock <;> simp)
theorem own_set {w : World} {base : Nat} {e : TypeId} {size n : Nat} {v : Value} {xs : List Value} (h : w.ownsRow base e size v n xs) {X : Nat} (hne : v.ownBlock ≠ some X) (i : Nat) (u : Value) : (w.setCell ⟨X, i, none⟩ u).ownsRow base e size v n xs :=
 h.kept (Lib.grownBy_setCell w X i u) (Or.inr hne)
theorem own_cut {w : World} {base : Nat} {e : TypeId} {n m c : Nat} {A : Option Addr} {xs : List Value} (h : w.ownsRow base e 1 (.slice A n c) n xs) (hm : m ≤ n) (h0 : 0 < n) : w.ownsRow base e 1 (.slice A m c) m (xs.take m) := by
 obtain ⟨hl, h⟩ := h
 refine ⟨by rw [List.length_take]; omega, ?_⟩
 rcases h with ⟨hv, hn⟩ | ⟨g, cap, cur, hv, hb, hg, hc, hmx, hs, ht⟩
 ·omega
 ·injection hv with e1 e2 e3
  subst e1 e3
  refine .inr ⟨g, c, cur, rfl, hb, hg, by omega, hmx, hs, ?_⟩
  rw [← ht, List.take_take]
  congr 1
  omega
structure Lx (w : World) (base X : Nat) (s : ByteArray) (p o : Nat) (st : List Nat) (toks : List Tk) (LA : Option Addr) (LC : Nat) (BA : Option Addr) (BC : Nat) : Prop where
 bX : base ≤ X
 c0 : w.cell? ⟨X, 0, none⟩ = some (.string s)
 c1 : w.cell? ⟨X, 1, none⟩ = some (.int .i64 p)
 c2 : w.cell? ⟨X, 2, none⟩ = some (.slice LA toks.length LC)
 c3 : w.cell? ⟨X, 3, none⟩ = some (.int .i64 o)
 c4 : w.cell? ⟨X, 4, none⟩ = some (.slice BA st.length BC)
 f1 : w.frozen? ⟨X, 1, none⟩ = false
 f2 : w.frozen? ⟨X, 2, none⟩ = false
 f3 : w.frozen? ⟨X, 3, none⟩ = false
 f4 : w.frozen? ⟨X, 4, none⟩ = false
 ol : w.ownsRow base 39 3 (.slice LA toks.length LC) toks.length (tkVs toks)
 ob : w.ownsRow base 3 1 (.slice BA st.length BC) st.length (stVs st)
 nl : (Value.slice LA toks.length LC).ownBlock ≠ some X
 nb : (Value.slice BA st.length BC).ownBlock ≠ some X
 nn : ∀ g, (Value.slice LA toks.length LC).ownBlock = some g → (Value.slice BA st.length BC).ownBlock ≠ some g
def LxS (w : World) (base X : Nat) (s : ByteArray) (p o : Nat) (st : List Nat) (toks : List Tk) : Prop := ∃ LA LC BA BC, Lx w base X s p o st toks LA LC BA BC
section
variable {w w' : World} {base X : Nat} {s : ByteArray} {p o : Nat} {st : List Nat} {toks : List Tk} {LA BA : Option Addr} {LC BC : Nat}
theorem Lx.lt (h : Lx w base X s p o st toks LA LC BA BC) : X < w.heap.size := World.block_lt_of_cell? w _ h.c0
theorem Lx.later (h : Lx w base X s p o st toks LA LC BA BC) (hb : Below w.heap.size w w') : Lx w' base X s p o st toks LA LC BA BC :=
 have hf : ∀ i, w.frozen? ⟨X, i, none⟩ = false → w'.frozen? ⟨X, i, none⟩ = false := fun i hi => (hb.frozen (p := ⟨X, i, none⟩) h.lt).trans hi
 ⟨h.bX, cLt hb h.c0, cLt hb h.c1, cLt hb h.c2, cLt hb h.c3, cLt hb h.c4, hf _ h.f1, hf _ h.f2, hf _ h.f3, hf _ h.f4,
  own_later h.ol hb, own_later h.ob hb, h.nl, h.nb, h.nn⟩
theorem cell_set_ne {w : World} {X i j : Nat} {u v : Value} (h : w.cell? ⟨X, j, none⟩ = some v) (hne : i ≠ j) : (w.setCell ⟨X, i, none⟩ u).cell? ⟨X, j, none⟩ = some v := by
 rw [World.cell?_setCell_other _ _ _ _ (fun e => hne (by injection e))]; exact h
theorem cell_set_eq {w : World} {X i : Nat} {u v : Value} (h : w.cell? ⟨X, i, none⟩ = some v) : (w.setCell ⟨X, i, none⟩ u).cell? ⟨X, i, none⟩ = some u :=
 World.cell?_setCell_same' _ _ _ (by rw [h]; rfl)
theorem Lx.setPos (h : Lx w base X s p o st toks LA LC BA BC) (q : Nat) : Lx (w.setCell ⟨X, 1, none⟩ (.int .i64 q)) base X s q o st toks LA LC BA BC :=
 ⟨h.bX, cell_set_ne h.c0 lq16, cell_set_eq h.c1, cell_set_ne h.c2 lq16, cell_set_ne h.c3 lq16, cell_set_ne h.c4 lq16,
  by rw [World.frozen?_setCell]; exact h.f1, by rw [World.frozen?_setCell]; exact h.f2, by rw [World.frozen?_setCell]; exact h.f3, by rw [World.frozen?_setCell]; exact h.f4,
  own_set h.ol h.nl _ _, own_set h.ob h.nb _ _, h.nl, h.nb, h.nn⟩
theorem Lx.setOpn (h : Lx w base X s p o st toks LA LC BA BC) (q : Nat) : Lx (w.setCell ⟨X, 3, none⟩ (.int .i64 q)) base X s p q st toks LA LC BA BC :=
 ⟨h.bX, cell_set_ne h.c0 lq16, cell_set_ne h.c1 lq16, cell_set_ne h.c2 lq16, cell_set_eq h.c3, cell_set_ne h.c4 lq16,
  by rw [World.frozen?_setCell]; exact h.f1, by rw [World.frozen?_setCell]; exact h.f2, by rw [World.frozen?_setCell]; exact h.f3, by rw [World.frozen?_setCell]; exact h.f4,
  own_set h.ol h.nl _ _, own_set h.ob h.nb _ _, h.nl, h.nb, h.nn⟩
theorem own_len_ne {A : Option Addr} {n m c d X : Nat} (h : (Value.slice A n c).ownBlock ≠ some X) : (Value.slice A m d).ownBlock ≠ some X := by
 cases A with
 | none => simp [Value.ownBlock]
 | some a => exact h
theorem Lx.addTok (h : Lx w base X s p o st toks LA LC BA BC) (hz : base ≤ w.heap.size) (t : Tk) {g cap : Nat} (hown : w'.ownsRow base 39 3 (.slice (some ⟨g, 0, none⟩) (toks.length + 1) cap) (toks.length + 1) (tkVs toks ++ tkV t))
  (hg : w.grownBy w' (Value.slice LA toks.length LC).ownBlock) (hat : (Value.slice LA toks.length LC).ownBlock = some g ∨ g = w.heap.size) :
  Lx (w'.setCell ⟨X, 2, none⟩ (.slice (some ⟨g, 0, none⟩) (toks.length + 1) cap)) base X s p o st (toks ++ [t]) (some ⟨g, 0, none⟩) cap BA BC := by
 have hX := h.lt
 have hk : ∀ {i v}, w.cell? ⟨X, i, none⟩ = some v → w'.cell? ⟨X, i, none⟩ = some v := fun hc => hg.cell hc (fun e => h.nl e.symm)
 have hf : ∀ {i}, w.frozen? ⟨X, i, none⟩ = false → w'.frozen? ⟨X, i, none⟩ = false := fun hc => (World.frozen?_of_block (a := ⟨X, _, none⟩) (hg.block X hX (fun e => h.nl e.symm))).trans hc
 have hgX : g ≠ X := by
  rcases hat with e | e
  ·exact fun e2 => h.nl (by rw [e, e2])
  ·omega
 have hlen : (toks ++ [t]).length = toks.length + 1 := by simp
 have hob : w'.ownsRow base 3 1 (.slice BA st.length BC) st.length (stVs st) := h.ob.kept hg (by
  cases hv : (Value.slice BA st.length BC).ownBlock with
  | none => exact Or.inl rfl
  | some b => exact Or.inr (fun e => h.nn b (e ▸ rfl) hv))
 refine ⟨h.bX, cell_set_ne (hk h.c0) lq16, cell_set_ne (hk h.c1) lq16, ?_, cell_set_ne (hk h.c3) lq16, cell_set_ne (hk h.c4) lq16, ?_, ?_, ?_, ?_, ?_, ?_, ?_, h.nb, ?_⟩
 ·rw [hlen]; exact cell_set_eq (hk h.c2)
 ·rw [World.frozen?_setCell]; exact hf h.f1
 ·rw [World.frozen?_setCell]; exact hf h.f2
 ·rw [World.frozen?_setCell]; exact hf h.f3
 ·rw [World.frozen?_setCell]; exact hf h.f4
 ·rw [hlen, tkVs_snoc]; exact own_set hown (by simp [Value.ownBlock]; exact hgX) _ _
 ·exact own_set hob h.nb _ _
 ·simp [Value.ownBlock]; exact hgX
 ·intro g' e; simp only [Value.ownBlock, Option.some.injEq] at e; subst e; intro e2
  rcases hat with e | e
  ·exact h.nn g e e2
  ·have := h.ob.lt g e2; omega
theorem Lx.addB (h : Lx w base X s p o st toks LA LC BA BC) (hz : base ≤ w.heap.size) (n : Nat) {g cap : Nat} (hown : w'.ownsRow base 3 1 (.slice (some ⟨g, 0, none⟩) (st.length + 1) cap) (st.length + 1) (stVs st ++ [.int .i64 n]))
  (hg : w.grownBy w' (Value.slice BA st.length BC).ownBlock) (hat : (Value.slice BA st.length BC).ownBlock = some g ∨ g = w.heap.size) :
  Lx (w'.setCell ⟨X, 4, none⟩ (.slice (some ⟨g, 0, none⟩) (st.length + 1) cap)) base X s p o (n :: st) toks LA LC (some ⟨g, 0, none⟩) cap := by
 have hX := h.lt
 have hk : ∀ {i v}, w.cell? ⟨X, i, none⟩ = some v → w'.cell? ⟨X, i, none⟩ = some v := fun hc => hg.cell hc (fun e => h.nb e.symm)
 have hf : ∀ {i}, w.frozen? ⟨X, i, none⟩ = false → w'.frozen? ⟨X, i, none⟩ = false := fun hc => (World.frozen?_of_block (a := ⟨X, _, none⟩) (hg.block X hX (fun e => h.nb e.symm))).trans hc
 have hgX : g ≠ X := by
  rcases hat with e | e
  ·exact fun e2 => h.nb (by rw [e, e2])
  ·omega
 have hol : w'.ownsRow base 39 3 (.slice LA toks.length LC) toks.length (tkVs toks) := h.ol.kept hg (by
  cases hv : (Value.slice LA toks.length LC).ownBlock with
  | none => exact Or.inl rfl
  | some b => exact Or.inr (fun e => h.nn b hv e.symm))
 refine ⟨h.bX, cell_set_ne (hk h.c0) lq16, cell_set_ne (hk h.c1) lq16, cell_set_ne (hk h.c2) lq16, cell_set_ne (hk h.c3) lq16, cell_set_eq (hk h.c4), ?_, ?_, ?_, ?_, ?_, ?_, h.nl, ?_, ?_⟩
 ·rw [World.frozen?_setCell]; exact hf h.f1
 ·rw [World.frozen?_setCell]; exact hf h.f2
 ·rw [World.frozen?_setCell]; exact hf h.f3
 ·rw [World.frozen?_setCell]; exact hf h.f4
 ·exact own_set hol h.nl _ _
 ·rw [stVs_cons]; exact own_set hown (by simp [Value.ownBlock]; exact hgX) _ _
 ·simp [Value.ownBlock]; exact hgX
 ·intro g' e e2; simp only [Value.ownBlock, Option.some.injEq] at e2; subst e2
  rcases hat with e3 | e3
  ·exact h.nn _ e e3
  ·have := h.ol.lt _ e; omega
theorem Lx.popB {n : Nat} (h : Lx w base X s p o (n :: st) toks LA LC BA BC) : Lx (w.setCell ⟨X, 4, none⟩ (.slice BA st.length BC)) base X s p o st toks LA LC BA BC := by
 refine ⟨h.bX, cell_set_ne h.c0 lq16, cell_set_ne h.c1 lq16, cell_set_ne h.c2 lq16, cell_set_ne h.c3 lq16, cell_set_eq h.c4,
  by rw [World.frozen?_setCell]; exact h.f1, by rw [World.frozen?_setCell]; exact h.f2, by rw [World.frozen?_setCell]; exact h.f3, by rw [World.frozen?_setCell]; exact h.f4,
  own_set h.ol h.nl _ _, ?_, h.nl, own_len_ne h.nb, fun g e => own_len_ne (h.nn g e)⟩
 have hb := own_cut h.ob (m := st.length) lq18 lq18
 rw [stVs_cons, List.take_left' (by rw [stVs_len])] at hb
 exact own_set hb (own_len_ne h.nb) _ _
theorem Lx.top {n : Nat} (h : Lx w base X s p o (n :: st) toks LA LC BA BC) : ∃ g, BA = some ⟨g, 0, none⟩ ∧ w.cell? ⟨g, st.length, none⟩ = some (.int .i64 n) ∧ st.length + 1 ≤ BC ∧ BC ≤ 9223372036854775807 := by
 rcases h.ob.2 with ⟨_, hn⟩ | ⟨g, cap, cur, hv, hb, hg, hc, hmx, hs, ht⟩
 ·simp at hn
 ·injection hv with e1 e2 e3
  subst e1 e3
  refine ⟨g, rfl, ?_, by simpa using hc, hmx⟩
  have hcl := h.ob.cells (g := g) rfl st.length (.int .i64 n) (by rw [stVs_cons, List.getElem?_append_right (by rw [stVs_len]; omega), stVs_len]; simp); rw [Addr.add_lit, Nat.zero_add] at hcl; exact hcl
end
theorem tok_info : (Tryz.prog.info? 39).map (fun i => (i.zero, i.size, i.bytes)) = some (some (.agg #[.int .i64 0, .string ⟨#[]⟩, .int .i64 0]), 3, 32) := by kernel_rfl
theorem int_info : (Tryz.prog.info? 3).map (fun i => (i.zero, i.size, i.bytes)) = some (some (.int .i64 0), 1, 8) := by kernel_rfl
theorem undrew {u W : World} (h : Below u.drew.heap.size u.drew W) : Below u.heap.size u W := (⟨rfl, rfl, rfl, Nat.le_refl _, fun _ _ => rfl⟩ : Below u.heap.size u u.drew).trans h
theorem isDig_ok (c : UInt8) (w : World) : Calls Tryz.prog 169 #[.int .u8 c.toNat] w fun e w' => e = .returned (.bool (isDig c)) ∧ w = w' := by
 obtain ⟨k, hk⟩ : ∃ k, c.toNat = k := ⟨_, rfl⟩
 have hd : isDig c = (decide (48 ≤ k) && decide (k ≤ 57)) := by rw [isDig, hk]
 rw [hd, hk]
 clear hd hk c
 by_cases h1 : 48 ≤ k
 ·by_cases h2 : k ≤ 57
  ·have e1 : decide (48 ≤ (k : Int)) = true := dTo; have e2 : decide ((k : Int) ≤ 57) = true := dTo; rw [dTr h1, dTr h2]; go_enter Tryz.func169, Tryz.ntmps169; go_wp2; go_ret; exact ⟨rfl, rfl⟩
  ·have e1 : decide (48 ≤ (k : Int)) = true := dTo; have e2 : decide ((k : Int) ≤ 57) = false := dFo; rw [dTr h1, dFa h2]; go_enter Tryz.func169, Tryz.ntmps169; go_wp2; go_ret; exact ⟨rfl, rfl⟩
 ·have e1 : decide (48 ≤ (k : Int)) = false := dFo; rw [dFa h1]; go_enter Tryz.func169, Tryz.ntmps169; go_wp2; go_ret; exact ⟨rfl, rfl⟩
theorem tkV_mk (kind : Int) (T : ByteArray) (a : Nat) : tkV ⟨kind, T.data.toList, a⟩ = [.int .i64 kind, .string T, .int .i64 a] := by simp [tkV]
def stopV (c : Int) (a : Nat) : Value := .iface 80 (.agg #[.int .i64 c, .int .i64 a])
theorem lxFail_ok (X : Nat) (c : Int) (a : Nat) (w : World) : Calls Tryz.prog 166 #[.pointer (some ⟨X, 0, none⟩), .int .i64 c, .int .i64 a] w fun e w' => e = .panicked [{ v := stopV c a, recovered := false }] ∧ w = w' := by
 unfold stopV
 go_enter Tryz.func166, Tryz.ntmps166
 go_wp2
 exact ⟨rfl, rfl, rfl⟩
theorem lxPutX_ok {w : World} {base X : Nat} {s : ByteArray} {p o : Nat} {st : List Nat} {toks : List Tk} {LA BA : Option Addr} {LC BC : Nat} (kind : Int) (T : ByteArray) (a : Nat) (h : Lx w base X s p o st toks LA LC BA BC) (hz : base ≤ w.heap.size) (hT : T.size ≤ 1099511627776) (hn : toks.length ≤ 1000000) :
  Calls Tryz.prog 89 #[.pointer (some ⟨X, 0, none⟩), .int .i64 kind, .string T, .int .i64 a] w fun e w' => e = .returned (.tuple #[]) ∧ (∃ LA' LC', Lx w' base X s p o st (toks ++ [⟨kind, T.data.toList, a⟩]) LA' LC' BA BC ∧ ∀ B, B < w.heap.size → B ≠ X → (Value.slice LA toks.length LC).ownBlock ≠ some B → w'.heap[B]? = w.heap[B]? ∧ (Value.slice LA' (toks.length + 1) LC').ownBlock ≠ some B) ∧ Below base w w' := by
 obtain ⟨i0, hi0, hz0, hz1, hz2⟩ := info_parts tok_info
 have hX := h.lt
 have q2 := h.c2
 have hC := fun W => clone_ok T W hT
 go_enter Tryz.func89, Tryz.ntmps89
 go_wp2_with fail
 go_region_law (first
  | (refine step_append_lies _ (by rfl) _ _ _ (by rfl) base 39 i0 _ 3 32 Tryz.underlying36 hi0 hz0 hz1 hz2 rfl lq17 (.slice LA toks.length LC) toks.length (tkVs toks) (by rfl) (h1.ol.alloc _) ⟨w1.heap.size, 0, none⟩ 1 1 [.int .i64 kind, .string T, .int .i64 a] (by rfl) (by rfl) (World.news_of_block (cs := #[.int .i64 kind, .string T, .int .i64 a]) (t := 39) (fr := (0, 0)) (heap_alloc_new w1 _)) (by simp [Value.oneCell']) lq17 lq13 lq17 (by have := hb.size; simp; omega) (w1.heap.size + 1) lq18 ?_; intro gg cap w2 hown2 hgrow hat hlt; have h2 := h1.later ((Below.refl _ _).alloc (Nat.le_refl w1.heap.size) (.cells #[.int .i64 kind, .string T, .int .i64 a] 39)); have k2 := hgrow.cell h2.c2 (fun e => h2.nl e.symm); have kf : w2.frozen? ⟨X, 2, none⟩ = false := (World.frozen?_of_block (a := ⟨X, 2, none⟩) (hgrow.block X h2.lt (fun e => h2.nl e.symm))).trans h2.f2; have hX2 : X < w2.heap.size := Nat.lt_of_lt_of_le h2.lt hgrow.size)
  | (go_simp; go_at_call 173; refine (hC _).mono ?_; rintro e w1 ⟨rfl, hb⟩; have hb := undrew hb; have h1 := h.later hb; have q2' := h1.c2; have hX1 := h1.lt))
 all_goals
  go_end0
  refine ⟨rfl, ⟨some ⟨gg, 0, none⟩, cap, ?_, ?_⟩, ?_⟩
  ·refine h2.addTok (by have := hb.size; simp; omega) ⟨kind, T.data.toList, a⟩ (by rw [tkV_mk]; exact hown2) hgrow ?_
   rcases hat with e | e
   ·exact Or.inl e
   ·exact Or.inr (by rw [e]; simp)
  ·intro B hB hBX hBL; have hB1 : B < w1.heap.size := Nat.lt_of_lt_of_le hB hb.size
   refine ⟨?_, ?_⟩
   ·rw [Below.heap_setCell _ _ _ _ hBX, hgrow.block B (by simp; omega) (fun e => hBL e.symm), heap_alloc_old w1 _ hB1]; exact hb.5 B hB
   ·simp only [Value.ownBlock, ne_eq, Option.some.injEq]
    rcases hat with e | e
    ·exact fun e2 => hBL (by rw [e, e2])
    ·omega
  ·refine Below.setCell (p := ⟨X, 2, none⟩) ?_ h.bX _
   refine Below.grown ?_ hgrow (by have := hb.size; simp; omega) ?_
   ·exact (hb.mono hz).alloc (Nat.le_trans hz hb.size) _
   ·exact fun k hk => (h2.ol.lt k hk).1
theorem lxPut_ok {w : World} {base X : Nat} {s : ByteArray} {p o : Nat} {st : List Nat} {toks : List Tk} (kind : Int) (T : ByteArray) (a : Nat) (hL : LxS w base X s p o st toks) (hz : base ≤ w.heap.size) (hT : T.size ≤ 1099511627776) (hn : toks.length ≤ 1000000) :
  Calls Tryz.prog 89 #[.pointer (some ⟨X, 0, none⟩), .int .i64 kind, .string T, .int .i64 a] w fun e w' => e = .returned (.tuple #[]) ∧ LxS w' base X s p o st (toks ++ [⟨kind, T.data.toList, a⟩]) ∧ Below base w w' := by
 obtain ⟨LA, LC, BA, BC, h⟩ := hL
 refine (lxPutX_ok kind T a h hz hT hn).mono ?_
 rintro e w' ⟨he, ⟨LA', LC', hl, _⟩, hb⟩
 exact ⟨he, ⟨LA', LC', BA, BC, hl⟩, hb⟩
theorem isLet_ok (c : UInt8) (w : World) : Calls Tryz.prog 167 #[.int .u8 c.toNat] w fun e w' => e = .returned (.bool (isLet c)) ∧ w = w' := by
 obtain ⟨k, hk⟩ : ∃ k, c.toNat = k := ⟨_, rfl⟩
 have hd : isLet c = ((decide (97 ≤ k) && decide (k ≤ 122)) || (decide (65 ≤ k) && decide (k ≤ 90)) || k == 95) := by rw [isLet, hk]
 rw [hd, hk]
 clear hd hk c
 rcases (by omega : k < 65 ∨ (65 ≤ k ∧ k ≤ 90) ∨ (90 < k ∧ k < 95) ∨ k = 95 ∨ k = 96 ∨ (97 ≤ k ∧ k ≤ 122) ∨ 122 < k) with h | h | h | h | h | h | h
 ·have hr : ((decide (97 ≤ k) && decide (k ≤ 122)) || (decide (65 ≤ k) && decide (k ≤ 90)) || k == 95) = false := by simp; omega
  rw [hr]; clear hr; have e1 : decide (97 ≤ (k : Int)) = false := dFo; have e3 : decide (65 ≤ (k : Int)) = false := dFo; have e5 : ((k : Int) == 95) = false := by simp; omega
  exact lv73
 ·have hr : ((decide (97 ≤ k) && decide (k ≤ 122)) || (decide (65 ≤ k) && decide (k ≤ 90)) || k == 95) = true := by simp; omega
  rw [hr]; clear hr; have e1 : decide (97 ≤ (k : Int)) = false := dFo; have e3 : decide (65 ≤ (k : Int)) = true := dTo; have e4 : decide ((k : Int) ≤ 90) = true := dTo; exact lv73
 ·exact lv23
 ·have hr : ((decide (97 ≤ k) && decide (k ≤ 122)) || (decide (65 ≤ k) && decide (k ≤ 90)) || k == 95) = true := by simp; omega
  rw [hr]; clear hr; have e1 : decide (97 ≤ (k : Int)) = false := dFo; have e3 : decide (65 ≤ (k : Int)) = true := dTo; have e4 : decide ((k : Int) ≤ 90) = false := dFo; have e5 : ((k : Int) == 95) = true := by simp; omega
  exact lv73
 ·exact lv23
 ·have hr : ((decide (97 ≤ k) && decide (k ≤ 122)) || (decide (65 ≤ k) && decide (k ≤ 90)) || k == 95) = true := by simp; omega
  rw [hr]; clear hr; have e1 : decide (97 ≤ (k : Int)) = true := dTo; have e2 : decide ((k : Int) ≤ 122) = true := dTo; exact lv73
 ·have hr : ((decide (97 ≤ k) && decide (k ≤ 122)) || (decide (65 ≤ k) && decide (k ≤ 90)) || k == 95) = false := by simp; omega
  rw [hr]; clear hr; have e1 : decide (97 ≤ (k : Int)) = true := dTo; have e2 : decide ((k : Int) ≤ 122) = false := dFo; have e3 : decide (65 ≤ (k : Int)) = true := dTo; have e4 : decide ((k : Int) ≤ 90) = false := dFo; have e5 : ((k : Int) == 95) = false := by simp; omega
  exact lv73
def wdS (s : ByteArray) (p : Nat) : ByteArray := s.extract p (p + (wd (s.data.toList.drop p)).length)
theorem ext_list (s : ByteArray) (a b : Nat) : (s.extract a b).data.toList = (s.data.toList.drop a).take (b - a) := by
 simp [ByteArray.extract, ByteArray.copySlice, List.drop_take, List.extract_eq_take_drop]
theorem wd_take (l : List UInt8) : l.take (wd l).length = wd l := by
 unfold wd
 conv => lhs; arg 2; rw [← List.takeWhile_append_dropWhile (p := isWd) (l := l)]
 rw [List.take_left]
section
variable (s : ByteArray)
include s
theorem wdS_list (p : Nat) : (wdS s p).data.toList = wd (s.data.toList.drop p) := by
 rw [wdS, ext_list, Nat.add_sub_cancel_left, wd_take]
theorem wdS_size (p : Nat) : (wdS s p).size = (wd (s.data.toList.drop p)).length := by
 rw [← wdS_list]; simp
theorem drop_cons (k : Nat) (h : k < s.size) : s.data.toList.drop k = s[k] :: s.data.toList.drop (k + 1) := by
 rw [List.drop_eq_getElem_cons (by simpa using h)]; rfl
theorem wd_step (k : Nat) (h : k < s.size) (hw : isWd s[k] = true) : (wd (s.data.toList.drop k)).length = 1 + (wd (s.data.toList.drop (k + 1))).length := by
 rw [drop_cons s k h, wd, List.takeWhile_cons, if_pos hw, length_cons, wd]; omega
theorem wd_stop (k : Nat) (h : k < s.size) (hw : isWd s[k] = false) : (wd (s.data.toList.drop k)).length = 0 := by
 rw [drop_cons s k h, wd, List.takeWhile_cons, if_neg (by rw [hw]; decide)]; rfl
theorem wd_end : (wd (s.data.toList.drop s.size)).length = 0 := by
 rw [List.drop_eq_nil_of_le lq18]; rfl
end
theorem lxRun_ok {w : World} {base X : Nat} {s : ByteArray} {p o : Nat} {st : List Nat} {toks : List Tk} (hL : LxS w base X s p o st toks) (hs : s.size ≤ 1099511627776) (hp : p ≤ s.size) :
  Calls Tryz.prog 232 #[.pointer (some ⟨X, 0, none⟩)] w fun e w' => e = .returned (.string (wdS s p)) ∧ Below w.heap.size w w' := by
 obtain ⟨LA, LC, BA, BC, h⟩ := hL
 have q0 := h.c0
 have q1 := h.c1
 have HW : ∀ k, p ≤ k → k ≤ s.size → (wd (s.data.toList.drop p)).length = k - p + (wd (s.data.toList.drop k)).length → (wd (s.data.toList.drop k)).length = 0 → s.extract p k = wdS s p := fun k h1 h2 h3 h4 => by
  rw [wdS, show p + (wd (s.data.toList.drop p)).length = k by omega]
 have HW := Lh HW
 clear h
 go_enter Tryz.func232, Tryz.ntmps232
 go_wp2
 go_loop [3] (fun v => ∃ k : Nat, v = .int .i64 k ∧ p ≤ k ∧ k ≤ s.size ∧ Hid ((wd (s.data.toList.drop p)).length = k - p + (wd (s.data.toList.drop k)).length)) (fun v => s.size - (intOf v).toNat)
 case atStart => exact ⟨p, rfl, Nat.le_refl _, hp, Lh lq17⟩
 case round =>
  obtain ⟨k, rfl, hk1, hk2, hk3⟩ := hrel
  by_cases hlt : k < s.size
  ·have hsk : ∀ b, isWd s[k] = b → Hid (isWd s[k] = b) := fun b h => Lh h
   by_cases hl : isLet s[k] = true
   ·have hw := Lh (wd_step s k hlt (by rw [isWd, hl]; rfl)); clear hsk; go_wp2_with (go_at_call 167; refine (isLet_ok _ _).mono ?_; rintro e w' ⟨rfl, rfl⟩)
    go_round
    case rel => exact ⟨k + 1, by go_num, by omega, by omega, Lh (by have a := hk3.out; have b := hw.out; omega)⟩
    case measure => simp [intOf]; omega
   ·have hl : isLet s[k] = false := by simpa using hl
    by_cases hd : isDig s[k] = true
    ·have hw := Lh (wd_step s k hlt (by rw [isWd, hl, hd]; rfl)); clear hsk; go_wp2_with (first | (go_at_call 167; refine (isLet_ok _ _).mono ?_; rintro e w' ⟨rfl, rfl⟩) | (go_at_call 169; refine (isDig_ok _ _).mono ?_; rintro e w' ⟨rfl, rfl⟩))
     go_round
     case rel => exact ⟨k + 1, by go_num, by omega, by omega, Lh (by have a := hk3.out; have b := hw.out; omega)⟩
     case measure => simp [intOf]; omega
    ·have hd : isDig s[k] = false := by simpa using hd
     have hw := Lh (HW.out k hk1 hk2 hk3.out (wd_stop s k hlt (by rw [isWd, hl, hd]; rfl))); clear hsk; have i1 : (p : Int) ≤ (k : Int) := by omega
     have i2 : (k : Int) ≤ (s.size : Int) := by omega
     have i3 : (0 : Int) ≤ (p : Int) := by omega
     go_wp2_with (first | (go_at_call 167; refine (isLet_ok _ _).mono ?_; rintro e w' ⟨rfl, rfl⟩) | (go_at_call 169; refine (isDig_ok _ _).mono ?_; rintro e w' ⟨rfl, rfl⟩))
     go_quiet (fail)
     go_wp2; go_ret; exact ⟨by rw [← hw.out]; rfl, ⟨rfl, rfl, rfl, Nat.le_refl _, fun _ _ => rfl⟩⟩
  ·have hks : k = s.size := by omega
   have hw := Lh (HW.out k hk1 hk2 hk3.out (by rw [hks]; exact wd_end s)); have i1 : (p : Int) ≤ (k : Int) := by omega
   have i2 : (k : Int) ≤ (s.size : Int) := by omega
   have i3 : (0 : Int) ≤ (p : Int) := by omega
   have i4 : ¬ ((k : Int) < (s.size : Int)) := by omega
   clear hks; go_wp2
   go_quiet (fail)
   go_wp2; go_ret; exact ⟨by rw [← hw.out]; rfl, ⟨rfl, rfl, rfl, Nat.le_refl _, fun _ _ => rfl⟩⟩
theorem lxWord_ok (T : ByteArray) (w : World) : Calls Tryz.prog 217 #[.string T] w fun e w' => e = .returned (.bool (wordB T.data.toList)) ∧ w = w' := by
 rw [← Lib.toList_data]
 go_enter Tryz.func217, Tryz.ntmps217
 go_wp2
 all_goals (go_ret; refine ⟨?_, rfl⟩; simp only [wordB, wordsL, List.contains_cons, List.contains_nil, Bool.true_or, Bool.or_true, Bool.false_or, Bool.or_false, *])
 all_goals first
  | rfl
  | (exfalso; simp_all; done)
def signsA : List (List UInt8) := [[40], [41], [91], [93], [123], [125], [44], [58], [46], [61], [61, 61], [33, 61], [60], [60, 61], [62], [62, 61], [43], [43, 61], [45], [45, 61], [42], [42, 61], [42, 42], [47, 47], [47, 47, 61], [37], [37, 61], [38], [38, 61], [124], [124, 61], [94], [94, 61]]
def signK (l : List UInt8) : Nat → List UInt8
 | 0 => []
 | k + 1 => if signsA.contains (l.take (k + 1)) then l.take (k + 1) else signK l k
theorem signs_split (x : List UInt8) : signsA.contains x = (signs3.contains x || signs2.contains x || signs1.contains x) := by
 rw [Bool.eq_iff_iff]
 simp only [signsA, signs1, signs2, signs3, List.contains_cons, List.contains_nil, Bool.or_eq_true, beq_iff_eq, Bool.or_false]
 constructor
 ·intro h
  rcases h with rfl | rfl | rfl | rfl | rfl | rfl | rfl | rfl | rfl | rfl | rfl | rfl | rfl | rfl | rfl | rfl | rfl | rfl | rfl | rfl | rfl | rfl | rfl | rfl | rfl | rfl | rfl | rfl | rfl | rfl | rfl | rfl | rfl
  all_goals simp
 ·intro h
  rcases h with (h | h) | h
  ·simp [h]
  ·rcases h with rfl | rfl | rfl | rfl | rfl | rfl | rfl | rfl | rfl | rfl | rfl | rfl | rfl
   all_goals simp
  ·rcases h with rfl | rfl | rfl | rfl | rfl | rfl | rfl | rfl | rfl | rfl | rfl | rfl | rfl | rfl | rfl | rfl | rfl | rfl | rfl
   all_goals simp
theorem signK_ok (l : List UInt8) : signK l (min 3 l.length) = signL l := by
 cases l with
 | nil => rfl
 | cons a l =>
  cases l with
  | nil =>
   show signK [a] 1 = _
   unfold signL signK signK; simp only [signs_split]
   simp [signs1, signs2, signs3]
  | cons b l =>
   cases l with
   | nil =>
    show signK [a, b] 2 = _
    unfold signL signK signK signK; simp only [signs_split]
    simp [signs1, signs2, signs3]
   | cons c t =>
    have : min 3 (a :: b :: c :: t).length = 3 := by simp
    rw [this]; unfold signL signK signK signK signK; simp only [signs_split]
    simp [signs1, signs2, signs3]
theorem signL_take (l : List UInt8) : l.take (signL l).length = signL l := by
 unfold signL
 split
 ·rw [List.length_take, List.take_eq_take_iff]; omega
 ·split
  ·rw [List.length_take, List.take_eq_take_iff]; omega
  ·split
   ·rw [List.length_take, List.take_eq_take_iff]; omega
   ·rfl
def sgS (T : ByteArray) : ByteArray := T.extract 0 (signL T.data.toList).length
theorem sgS_list (T : ByteArray) : (sgS T).data.toList = signL T.data.toList := by rw [sgS, ext_list, List.drop_zero, Nat.sub_zero, signL_take]
theorem ext_none (T : ByteArray) : T.extract 0 0 = ⟨#[]⟩ := by
 have : (T.extract 0 0).data = #[] := Array.eq_empty_of_size_eq_zero (by simp [ByteArray.extract, ByteArray.copySlice])
 cases hT : T.extract 0 0; rw [hT] at this; simp only at this; rw [this]
theorem sign_hit {T : ByteArray} {k : Nat} (hk : k + 1 ≤ T.size) (h : signK T.data.toList (k + 1) = signL T.data.toList) (hc : signsA.contains (T.extract 0 (k + 1)).toList = true) : T.extract 0 (k + 1) = sgS T := by
 rw [Lib.toList_data, ext_list, List.drop_zero, Nat.sub_zero] at hc
 rw [signK, if_pos hc] at h
 rw [sgS, ← h, List.length_take]
 congr 1
 have : T.data.toList.length = T.size := by simp
 omega
theorem sign_miss {T : ByteArray} {k : Nat} (h : signK T.data.toList (k + 1) = signL T.data.toList) (hc : signsA.contains (T.extract 0 (k + 1)).toList = false) : signK T.data.toList k = signL T.data.toList := by
 rw [Lib.toList_data, ext_list, List.drop_zero, Nat.sub_zero] at hc
 rw [signK, if_neg (by rw [hc]; decide)] at h
 exact h
theorem lxSign_ok (T : ByteArray) (w : World) (hs : T.size ≤ 1099511627776) : Calls Tryz.prog 234 #[.string T] w fun e w' => e = .returned (.string (sgS T)) ∧ w = w' := by
 have HK := Lh (signK_ok T.data.toList)
 have hl : T.data.toList.length = T.size := by simp
 rw [hl] at HK
 clear hl
 have m3 : min (3 : Int) (T.size : Int) = ((min 3 T.size : Nat) : Int) := by omega
 have m4 : min 3 T.size ≤ T.size := by omega
 have m5 : min 3 T.size ≤ 3 := by omega
 generalize min 3 T.size = M at *
 go_enter Tryz.func234, Tryz.ntmps234
 go_wp2
 clear m3
 go_loop [3] (fun v => ∃ k : Nat, v = .int .i64 k ∧ k ≤ T.size ∧ k ≤ 3 ∧ Hid (signK T.data.toList k = signL T.data.toList)) (fun v => (intOf v).toNat)
 case atStart => exact ⟨M, rfl, m4, m5, HK⟩
 case round =>
  obtain ⟨k, rfl, hk1, hk2, hk3⟩ := hrel; clear m4 m5 HK
  cases k with
  | zero =>
   go_wp2; go_ret; have e := hk3.out; have e2 : sgS T = ⟨#[]⟩ := by rw [sgS, ← e]; exact ext_none T
   exact ⟨by rw [e2]; rfl, rfl⟩
  | succ k =>
   have i1 : (0 : Int) ≤ ((k + 1 : Nat) : Int) := by omega
   have i2 : ((k + 1 : Nat) : Int) ≤ (T.size : Int) := by omega
   have i4 : (0 : Int) < ((k + 1 : Nat) : Int) := by omega
   have hH := Lh (fun hc => sign_hit (T := T) hk1 hk3.out hc); have hM := Lh (fun hc => sign_miss (T := T) hk3.out hc); clear hk3; go_wp2
   all_goals first
    | (go_ret; suffices hc : signsA.contains (T.extract 0 (k + 1)).toList = true from ⟨by rw [← hH.out hc]; rfl, rfl⟩; simp only [signsA, List.contains_cons, List.contains_nil, Bool.true_or, Bool.or_true, Bool.false_or, Bool.or_false, *]; done)
    | (go_round; (case rel => (suffices hc : signsA.contains (T.extract 0 (k + 1)).toList = false from ⟨k, rfl, by omega, by omega, Lh (hM.out hc)⟩; simp only [signsA, List.contains_cons, List.contains_nil, Bool.true_or, Bool.or_true, Bool.false_or, Bool.or_false, *])); (case measure => (simp [intOf])))
    | (exfalso; simp_all; done)
end
end Go.Proofs.YtjndbcnmmnkilaaGreatDoor
