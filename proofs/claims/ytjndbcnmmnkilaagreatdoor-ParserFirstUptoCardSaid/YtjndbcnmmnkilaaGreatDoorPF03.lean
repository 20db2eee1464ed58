/- Joined by a program: Pm0, Pd0. -/
import Derived.Test.YtjndbcnmmnkilaaGreatDoorPF02
namespace Go.Proofs.YtjndbcnmmnkilaaGreatDoor
set_option linter.unusedVariables false
set_option linter.unusedSimpArgs false
set_option maxRecDepth 1000000
set_option maxHeartbeats 16000000
section
open Go.RowKit
open List (length_append length_cons length_nil length_singleton)
structure Kp (B X : Nat) (w w' : World) : Prop where
 os : w'.os = w.os
 tape : w'.tape = w.tape
 output : w'.output = w.output
 size : w.heap.size ≤ w'.heap.size
 block : ∀ k, k < B → k ≠ X → w'.heap[k]? = w.heap[k]?
section
variable {B B' X : Nat} {w w' w'' : World}
theorem Kp.refl (B X : Nat) (w : World) : Kp B X w w := ⟨rfl, rfl, rfl, Nat.le_refl _, fun _ _ _ => rfl⟩
theorem Kp.trans (h : Kp B X w w') (k : Kp B X w' w'') : Kp B X w w'' :=
 ⟨k.os.trans h.os, k.tape.trans h.tape, k.output.trans h.output, Nat.le_trans h.size k.size, fun i hi hx => (k.block i hi hx).trans (h.block i hi hx)⟩
theorem Kp.mono (h : Kp B X w w') (hB : B' ≤ B) : Kp B' X w w' := ⟨h.os, h.tape, h.output, h.size, fun k hk => h.block k (Nat.lt_of_lt_of_le hk hB)⟩
theorem Kp.of_below (h : Below B w w') (X : Nat) : Kp B X w w' := ⟨h.os, h.tape, h.output, h.size, fun k hk _ => h.block k hk⟩
theorem Kp.call (h : Kp B X w w') (hB : B ≤ w.heap.size) (k : Kp w'.heap.size X w' w'') : Kp B X w w'' := h.trans (k.mono (Nat.le_trans hB h.size))
theorem Kp.below (h : Kp B X w w') (hB : B ≤ w.heap.size) (k : Below w'.heap.size w' w'') : Kp B X w w'' := h.call hB (.of_below k X)
theorem Kp.set (h : Kp B X w w') (b i : Nat) (u : Value) (hb : B ≤ b ∨ b = X) : Kp B X w (w'.setCell ⟨b, i, none⟩ u) :=
 h.trans ⟨rfl, rfl, rfl, by simp [World.setCell], fun k hk hx => Below.heap_setCell _ _ _ _ (fun e => by rcases hb with hb | hb <;> simp at e <;> omega)⟩
theorem Kp.grown {row : Option Nat} (h : Kp B X w w') (hB : B ≤ w.heap.size) (hg : w'.grownBy w'' row) (hr : ∀ g, row = some g → B ≤ g) : Kp B X w w'' :=
 h.trans ⟨hg.os, hg.tape, hg.output, hg.size, fun k hk _ => hg.block k (by have := h.size; omega) (fun e => by have := hr k e.symm; omega)⟩
theorem Kp.to_below (h : Kp B X w w') (hB : B' ≤ B) (hX : w'.heap[X]? = w.heap[X]? ∨ B' ≤ X) : Below B' w w' :=
 ⟨h.os, h.tape, h.output, h.size, fun k hk => by
  by_cases e : k = X
  ·subst e; rcases hX with e | e
   ·exact e
   ·omega
  ·exact h.block k lq17 e⟩
theorem Kp.cell (h : Kp B X w w') {b i : Nat} {v : Value} (hc : w.cell? ⟨b, i, none⟩ = some v) (hb : b < B) (hx : b ≠ X) : w'.cell? ⟨b, i, none⟩ = some v := (World.cell?_of_block (h.block b hb hx)).trans hc
theorem Kp.frozen (h : Kp B X w w') {b i : Nat} (hb : b < B) (hx : b ≠ X) : w'.frozen? ⟨b, i, none⟩ = w.frozen? ⟨b, i, none⟩ := World.frozen?_of_block (h.block b hb hx)
end
def OkT (t : Tok) : Prop := I64 t.kind ∧ I64 t.pos ∧ t.text.size ≤ 65536
def TksAt (w : World) (X : Nat) (A : Option Addr) (l : List Tok) : Prop :=
 ∀ i t, l[i]? = some t → ∃ b off, A = some ⟨b, off, none⟩ ∧ b < X ∧ w.cell? ⟨b, off + i * 3, none⟩ = some (.int .i64 t.kind) ∧ w.cell? ⟨b, off + i * 3 + 1, none⟩ = some (.string t.text) ∧ w.cell? ⟨b, off + i * 3 + 2, none⟩ = some (.int .i64 t.pos)
structure PzA (e : Int) (w : World) (X : Nat) (l : List Tok) (A : Option Addr) (C : Nat) : Prop where
 c0 : w.cell? ⟨X, 0, none⟩ = some (.slice A l.length C)
 c1 : w.cell? ⟨X, 1, none⟩ = some (.int .i64 9)
 c2 : w.cell? ⟨X, 2, none⟩ = some (.string ⟨#[]⟩)
 c3 : w.cell? ⟨X, 3, none⟩ = some (.int .i64 e)
 f0 : w.frozen? ⟨X, 0, none⟩ = false
 tk : TksAt w X A l
 le : l.length ≤ C
 lm : C ≤ maxLen
 ok : ∀ t ∈ l, OkT t
 ie : I64 e
 ln : l.length ≤ 1000000
 tb : ∀ W : World, (∀ k, k < X → W.heap[k]? = w.heap[k]?) → Lib.Utf8Tabs 0 1 W
def Pz (e : Int) (w : World) (X : Nat) (l : List Tok) : Prop := ∃ A C, PzA e w X l A C
section
variable {e : Int} {w w' : World} {X B : Nat} {l : List Tok} {A : Option Addr} {C : Nat}
theorem PzA.lt (h : PzA e w X l A C) : X < w.heap.size := World.block_lt_of_cell? w _ h.c0
theorem PzA.blocks (h : PzA e w X l A C) (hh : ∀ k, k ≤ X → w'.heap[k]? = w.heap[k]?) : PzA e w' X l A C :=
 have hc : ∀ {i v}, w.cell? ⟨X, i, none⟩ = some v → w'.cell? ⟨X, i, none⟩ = some v := fun hc => (World.cell?_of_block (hh X (Nat.le_refl _))).trans hc
 ⟨hc h.c0, hc h.c1, hc h.c2, hc h.c3, (World.frozen?_of_block (hh X (Nat.le_refl _))).trans h.f0, fun i t hi => by
  obtain ⟨b, off, e, hb, h1, h2, h3⟩ := h.tk i t hi; have hk := hh b lq17
  exact ⟨b, off, e, hb, (World.cell?_of_block hk).trans h1, (World.cell?_of_block hk).trans h2, (World.cell?_of_block hk).trans h3⟩, h.le, h.lm, h.ok, h.ie, h.ln, fun W hW => h.tb W fun k hk => (hW k hk).trans (hh k lq17)⟩
theorem PzA.later (h : PzA e w X l A C) (hb : Below w.heap.size w w') : PzA e w' X l A C := h.blocks fun k hk => hb.5 k (by have := h.lt; omega)
theorem Pz.lt (h : Pz e w X l) : X < w.heap.size := by obtain ⟨A, C, h⟩ := h; exact h.lt
theorem Pz.blocks (h : Pz e w X l) (hh : ∀ k, k ≤ X → w'.heap[k]? = w.heap[k]?) : Pz e w' X l := by obtain ⟨A, C, h⟩ := h; exact ⟨A, C, h.blocks hh⟩
theorem Pz.later (h : Pz e w X l) (hb : Below w.heap.size w w') : Pz e w' X l := h.blocks fun k hk => hb.5 k (by have := h.lt; omega)
theorem Pz.set (h : Pz e w X l) {b : Nat} (hb : X < b) (i : Nat) (u : Value) : Pz e (w.setCell ⟨b, i, none⟩ u) X l := h.blocks fun k hk => Below.heap_setCell _ _ _ _ (fun e => by simp at e; omega)
theorem Pz.grown {row : Option Nat} (h : Pz e w X l) (hg : w.grownBy w' row) (hr : ∀ g, row = some g → X < g) : Pz e w' X l := h.blocks fun k hk => hg.block k (by have := h.lt; omega) (fun e => by have := hr k e.symm; omega)
theorem Pz.ok (h : Pz e w X l) : ∀ t ∈ l, OkT t := by obtain ⟨A, C, h⟩ := h; exact h.ok
theorem Pz.len (h : Pz e w X l) : l.length ≤ maxLen := by obtain ⟨A, C, h⟩ := h; exact Nat.le_trans h.le h.lm
theorem Pz.ln (h : Pz e w X l) : l.length ≤ 1000000 := by obtain ⟨A, C, h⟩ := h; exact h.ln
theorem Pz.tabs (h : Pz e w X l) : Lib.Utf8Tabs 0 1 w := by obtain ⟨A, C, h⟩ := h; exact h.tb w fun _ _ => rfl
theorem Pz.hd (h : Pz e w X l) : OkT (hd e l) := by
 obtain ⟨A, C, h⟩ := h
 cases l with
 | nil => exact ⟨by simp [Go.Proofs.YtjndbcnmmnkilaaGreatDoor.hd, I64], h.ie, by show (0 : Nat) ≤ 65536; omega⟩
 | cons t r => exact h.ok t (List.mem_cons_self ..)
end
def Pt (P : Nat → Prop) (lo x h : Nat) (k : Nat) : Prop := P k ∨ (lo ≤ k ∧ k < h ∧ k ≠ x)
def St (P : Nat → Prop) (w : World) (T : Nd) (A : Option Addr) (c : Nat) (K : Option Addr) (d : Nat) : Prop := ∀ W : World, (∀ k, P k → W.heap[k]? = w.heap[k]?) → NodeAt W T A c K d
def Nn (_ : Nat) : Prop := False
def Old (P : Nat → Prop) (X s : Nat) : Prop := ∀ k, P k → X < k ∧ k < s
theorem Old.nn (X s : Nat) : Old Nn X s := fun _ h => h.elim
section
variable {P Q P' : Nat → Prop} {w w' W : World} {T : Nd} {A K : Option Addr} {c d lo lo' x x' h h' X : Nat}
theorem Old.mono {s s' : Nat} (h : Old P X s) (hs : s ≤ s') : Old P X s' := fun k hk => ⟨(h k hk).1, by have := (h k hk).2; omega⟩
theorem St.now (hs : St P w T A c K d) : NodeAt w T A c K d := hs w fun _ _ => rfl
theorem St.mono (hs : St P w T A c K d) (hp : ∀ k, P k → Q k) : St Q w T A c K d := fun W hW => hs W fun k hk => hW k (hp k hk)
theorem St.move (hs : St P w T A c K d) (hw : ∀ k, P k → w'.heap[k]? = w.heap[k]?) (hp : ∀ k, P k → Q k) : St Q w' T A c K d := fun W hW => hs W fun k hk => (hW k (hp k hk)).trans (hw k hk)
theorem Pt.grow {k : Nat} (hk : Pt P lo x h k) (hh : h ≤ h') : Pt P lo x h' k := hk.elim .inl fun ⟨a, b, c⟩ => .inr ⟨a, Nat.lt_of_lt_of_le b hh, c⟩
theorem Pt.old (hP : Old P X lo) (hX : X < lo) (hlo : lo ≤ h) : Old (Pt P lo x h) X h := fun k hk => hk.elim (fun q => ⟨(hP k q).1, by have := (hP k q).2; omega⟩) fun ⟨a, b, _⟩ => ⟨by omega, b⟩
theorem St.into (hs : St (Pt Q lo' x' h) w T A c K d) (hQ : ∀ k, Q k → Pt P lo x h k) (hlo : lo ≤ lo') (hx : x < lo') : St (Pt P lo x h) w T A c K d :=
 hs.mono fun k hk => hk.elim (hQ k) fun ⟨a, b, _⟩ => .inr ⟨by omega, b, by omega⟩
theorem St.intoN (hs : St (Pt Nn lo' x' h) w T A c K d) (hlo : lo ≤ lo') (hx : x < lo') : St (Pt P lo x h) w T A c K d := hs.into (fun _ h => h.elim) hlo hx
theorem St.kp (hs : St (Pt P lo x w.heap.size) w T A c K d) (hk : Kp w.heap.size X w w') (hP : Old P X w.heap.size) (hX : X < lo) : St (Pt P lo x w'.heap.size) w' T A c K d :=
 hs.move (fun k q => q.elim (fun q => hk.block k (hP k q).2 (by have := (hP k q).1; omega)) fun ⟨a, b, _⟩ => hk.block k b lq17) fun k q => q.grow hk.size
theorem St.later (hs : St (Pt P lo x w.heap.size) w T A c K d) (hb : Below w.heap.size w w') (hP : Old P X w.heap.size) : St (Pt P lo x w'.heap.size) w' T A c K d :=
 hs.move (fun k q => q.elim (fun q => hb.5 k (hP k q).2) fun ⟨a, b, _⟩ => hb.5 k b) fun k q => q.grow hb.size
theorem St.put (hs : St (Pt P lo x w.heap.size) w T A c K d) (hw : ∀ k, k ≠ x → (P k ∨ lo ≤ k) → w'.heap[k]? = w.heap[k]?) (hx : ¬ P x) (hsz : w'.heap.size = w.heap.size) : St (Pt P lo x w'.heap.size) w' T A c K d :=
 hs.move (fun k q => q.elim (fun q => hw k (fun e => hx (e ▸ q)) (.inl q)) fun ⟨a, b, g⟩ => hw k g (.inr a)) fun k q => by rw [hsz]; exact q
end
def RowS (P : Nat → Prop) (lo x : Nat) (w : World) (A : Option Addr) (c : Nat) (ks : List Nd) : Prop :=
 ∃ xs : List Value, w.ownsRow lo 29 6 (.slice A ks.length c) ks.length xs ∧ (Value.slice A ks.length c).ownBlock ≠ some x ∧
  ∀ i t, ks[i]? = some t → ∃ A' c' K' d', (∀ j, j < 6 → xs[i * 6 + j]? = (ndC t A' c' K' d')[j]?) ∧ St (fun k => Pt P lo x w.heap.size k ∧ some k ≠ (Value.slice A ks.length c).ownBlock) w t A' c' K' d'
section
variable {P Q : Nat → Prop} {w w' W : World} {ks : List Nd} {A : Option Addr} {c lo lo' x x' h X : Nat}
theorem RowS.nil (P : Nat → Prop) (lo x : Nat) (w : World) : RowS P lo x w none 0 [] := ⟨[], World.ownsRow_nil _ _ _ _, by simp [Value.ownBlock], fun i t hi => by simp at hi⟩
theorem own_agreeG {base size n : Nat} {e : TypeId} {v : Value} {xs : List Value} (h : w.ownsRow base e size v n xs) (hW : ∀ g, v.ownBlock = some g → base ≤ g → g < w.heap.size → W.heap[g]? = w.heap[g]?) : W.ownsRow base e size v n xs := by
 refine ⟨h.1, ?_⟩
 rcases h.2 with h2 | ⟨g, cap, cur, hv, hg, hh, hr⟩
 ·exact .inl h2
 ·exact .inr ⟨g, cap, cur, hv, hg, (hW g (by rw [hv]; rfl) hg (Array.getElem?_eq_some_iff.1 hh).1).trans hh, hr⟩
theorem own_lessN {base base' : Nat} {e : TypeId} {size : Nat} {v : Value} {n : Nat} {xs : List Value} (h : w.ownsRow base e size v n xs) (hb : base' ≤ base) : w.ownsRow base' e size v n xs := by
 refine ⟨h.1, ?_⟩
 rcases h.2 with hn | ⟨g, cap, cur, hv, hg, rest⟩
 ·exact .inl hn
 ·exact .inr ⟨g, cap, cur, hv, Nat.le_trans hb hg, rest⟩
theorem RowS.move (hr : RowS P lo x w A c ks) (hw : ∀ k, Pt P lo x w.heap.size k → w'.heap[k]? = w.heap[k]?) (hs : w.heap.size ≤ w'.heap.size) : RowS P lo x w' A c ks := by
 obtain ⟨xs, h1, h2, h3⟩ := hr
 refine ⟨xs, own_agreeG h1 fun g e g1 g2 => hw g (.inr ⟨g1, g2, fun e2 => h2 (by rw [e, e2])⟩), h2, fun i t hi => ?_⟩
 obtain ⟨A', c', K', d', k1, k2⟩ := h3 i t hi
 exact ⟨A', c', K', d', k1, k2.move (fun k q => hw k q.1) fun k q => ⟨q.1.grow hs, q.2⟩⟩
theorem RowS.kp (hr : RowS P lo x w A c ks) (hk : Kp w.heap.size X w w') (hP : Old P X w.heap.size) (hX : X < lo) : RowS P lo x w' A c ks :=
 hr.move (fun k q => q.elim (fun q => hk.block k (hP k q).2 (by have := (hP k q).1; omega)) fun ⟨a, b, _⟩ => hk.block k b lq17) hk.size
theorem RowS.later (hr : RowS P lo x w A c ks) (hb : Below w.heap.size w w') (hP : Old P X w.heap.size) : RowS P lo x w' A c ks :=
 hr.move (fun k q => q.elim (fun q => hb.5 k (hP k q).2) fun ⟨a, b, _⟩ => hb.5 k b) hb.size
theorem RowS.into (hr : RowS Q lo' x' w A c ks) (hQ : ∀ k, Q k → Pt P lo x w.heap.size k) (hlo : lo ≤ lo') (hx : x < lo') : RowS P lo x w A c ks := by
 obtain ⟨xs, h1, h2, h3⟩ := hr
 refine ⟨xs, own_lessN h1 hlo, fun e => ?_, fun i t hi => ?_⟩
 ·have := (h1.lt _ e).1; omega
 ·obtain ⟨A', c', K', d', k1, k2⟩ := h3 i t hi; exact ⟨A', c', K', d', k1, k2.mono fun k q => ⟨q.1.elim (hQ k) fun ⟨a, b, _⟩ => .inr ⟨by omega, b, by omega⟩, q.2⟩⟩
theorem RowS.form (hr : RowS P lo x w A c ks) : ks.length ≤ c ∧ c ≤ maxLen := by
 obtain ⟨xs, h1, _⟩ := hr
 obtain ⟨A', c', e, h1, h2⟩ := own_formN h1
 injection e with _ _ e
 subst e
 exact ⟨h1, h2⟩
theorem RowS.kids (hr : RowS P lo x w A c ks) (hW : ∀ k, Pt P lo x w.heap.size k → W.heap[k]? = w.heap[k]?) : KidsAt W ks A 0 := by
 obtain ⟨xs, h1, h2, h3⟩ := hr
 have ho2 := own_agreeG (W := W) h1 fun g e g1 g2 => hW g (.inr ⟨g1, g2, fun e2 => h2 (by rw [e, e2])⟩)
 refine KidsAt.of fun i t hi => ?_
 obtain ⟨A', c', K', d', k1, k2⟩ := h3 i t hi
 rcases h1.2 with ⟨_, h0⟩ | ⟨g, cap, cur, hg, hg2, _⟩
 ·have := (List.getElem?_eq_some_iff.1 hi).1; omega
 ·have hA : A = some ⟨g, 0, none⟩ := by injection hg
  have hc : ∀ j u, xs[j]? = some u → W.cell? ⟨g, j, none⟩ = some u := fun j u hj => by
   have := ho2.cells (g := g) (by rw [hg]; rfl) j u hj; rw [Addr.add_lit, Nat.zero_add] at this; exact this
  refine ⟨g, 0, A', c', K', d', hA, ?_, k2 W fun k q => hW k q.1⟩
  rw [Nat.zero_add, Nat.zero_add]; exact ⟨hc _ _ (k1 0 lq16), hc _ _ (k1 1 lq16), hc _ _ (k1 2 lq16), hc _ _ (k1 3 lq16), hc _ _ (k1 4 lq16), hc _ _ (k1 5 lq16)⟩
theorem RowS.node (hr : RowS P lo x w A c ks) {k p : Int} {t : ByteArray} (hk : I64 k) (hp : I64 p) (ht : t.size ≤ maxLen) (neg : Bool) : St (Pt P lo x w.heap.size) w (.mk k p t neg [] ks) none 0 A c := fun W hW =>
 NodeAt.of ⟨Nat.le_refl _, Nat.zero_le _, RdI.nil _ _ _, (fun z hz => by cases hz), hr.form.1, hr.form.2, hk, hp, ht, hr.kids hW⟩
theorem RowS.snoc {t : Nd} {At Kt : Option Addr} {ct dt g cap : Nat} (hr : RowS P lo x w A c ks) (hn : St (fun k => Pt P lo x w.heap.size k ∧ some k ≠ (Value.slice A ks.length c).ownBlock) w t At ct Kt dt) {xs : List Value}
  (ho : ∀ i t, ks[i]? = some t → ∃ A' c' K' d', (∀ j, j < 6 → xs[i * 6 + j]? = (ndC t A' c' K' d')[j]?) ∧ St (fun k => Pt P lo x w.heap.size k ∧ some k ≠ (Value.slice A ks.length c).ownBlock) w t A' c' K' d')
  (hl : xs.length = ks.length * 6) (hown : w'.ownsRow lo 29 6 (.slice (some ⟨g, 0, none⟩) (ks.length + 1) cap) (ks.length + 1) (xs ++ ndC t At ct Kt dt))
  (hne : (Value.slice A ks.length c).ownBlock ≠ some x) (hxw : x < w.heap.size) (hP : Old P X w.heap.size)
  (hg : w.grownBy w' (Value.slice A ks.length c).ownBlock) (hat : (Value.slice A ks.length c).ownBlock = some g ∨ g = w.heap.size) : RowS P lo x w' (some ⟨g, 0, none⟩) cap (ks ++ [t]) := by
 have hl2 : (ks ++ [t]).length = ks.length + 1 := by simp
 have hmv : ∀ {t : Nd} {A' K' : Option Addr} {c' d' : Nat}, St (fun k => Pt P lo x w.heap.size k ∧ some k ≠ (Value.slice A ks.length c).ownBlock) w t A' c' K' d' → St (fun k => Pt P lo x w'.heap.size k ∧ some k ≠ some g) w' t A' c' K' d' := fun hs =>
  hs.move (fun k q => hg.block k (q.1.elim (fun q => (hP k q).2) fun ⟨_, b, _⟩ => b) q.2) fun k q => ⟨q.1.grow hg.size, by
   rcases hat with e | e
   ·rw [← e]; exact q.2
   ·have : k < w.heap.size := q.1.elim (fun q => (hP k q).2) fun ⟨_, b, _⟩ => b
    intro e2; injection e2 with e2; omega⟩
 refine ⟨xs ++ ndC t At ct Kt dt, by rw [hl2]; exact hown, ?_, fun i s hi => ?_⟩
 ·rw [hl2]; simp only [Value.ownBlock, ne_eq, Option.some.injEq]
  rcases hat with e | e
  ·intro e2; exact hne (by rw [e, e2])
  ·omega
 rw [hl2]
 show ∃ A' c' K' d', _ ∧ St (fun k => Pt P lo x w'.heap.size k ∧ some k ≠ some g) w' s A' c' K' d'
 by_cases hil : i < ks.length
 ·exact lv39
 ·have hi2 : i = ks.length := by
   have := (List.getElem?_eq_some_iff.1 hi).1; rw [length_append] at this
   simp at this
   omega
  subst hi2; rw [List.getElem?_concat_length] at hi; injection hi with hi
  subst hi
  refine ⟨At, ct, Kt, dt, fun j hj => ?_, hmv hn⟩
  rw [List.getElem?_append_right (by rw [hl]; omega), hl, show ks.length * 6 + j - ks.length * 6 = j by omega]
end
structure Pl where
 T : Nd
 A : Option Addr
 c : Nat
 K : Option Addr
 d : Nat
def plC (p : Pl) : List Value := ndC p.T p.A p.c p.K p.d
def rowL (ps : List Pl) : List Value := ps.flatMap plC
theorem rowL_len (ps : List Pl) : (rowL ps).length = ps.length * 6 := by
 unfold rowL
 induction ps with
 | nil => rfl
 | cons a l ih => rw [List.flatMap_cons, length_append, ih, length_cons]; simp only [plC, ndC, length_cons, length_nil]; omega
theorem rowL_get (ps : List Pl) (i : Nat) (p : Pl) (h : ps[i]? = some p) (j : Nat) (hj : j < 6) : (rowL ps)[i * 6 + j]? = (plC p)[j]? := by
 induction ps generalizing i with
 | nil => simp at h
 | cons a l ih =>
  have e : rowL (a :: l) = plC a ++ rowL l := rfl; rw [e]
  cases i with
  | zero =>
   simp at h; subst h
   rw [List.getElem?_append_left (by simp only [plC, ndC, length_cons, length_nil]; omega)]
   simp
  | succ i =>
   simp at h
   rw [List.getElem?_append_right (by simp only [plC, ndC, length_cons, length_nil]; omega), ← ih i h]
   congr 1
   simp only [plC, ndC, length_cons, length_nil]; omega
theorem row_made {P : Nat → Prop} {lo x X : Nat} (w : World) (ps : List Pl) (cs : Array Value) (n : Nat) (hc : cs.toList = rowL ps) (hn : ps.length = n) (hlo : lo ≤ w.heap.size) (hx : x < w.heap.size) (hn2 : n ≤ 1000000) (hP : Old P X w.heap.size) (hf : ∀ p ∈ ps, St (Pt P lo x w.heap.size) w p.T p.A p.c p.K p.d) :
  RowS P lo x (w.alloc (.cells cs 29)) (some ⟨w.heap.size, 0, none⟩) n (ps.map Pl.T) := by
 subst hn
 have hl : (ps.map Pl.T).length = ps.length := by simp
 refine ⟨rowL ps, ?_, ?_, fun i t hi => ?_⟩
 ·rw [hl]; exact ⟨rowL_len ps, .inr ⟨w.heap.size, ps.length, cs, rfl, hlo, heap_alloc_new _ _, Nat.le_refl _, by unfold maxLen; omega, by rw [← Array.length_toList, hc, rowL_len], by rw [hc, ← rowL_len ps, List.take_length]⟩⟩
 ·simp only [Value.ownBlock, ne_eq, Option.some.injEq]; omega
 ·rw [List.getElem?_map] at hi
  cases hp : ps[i]? with
  | none => rw [hp] at hi; simp at hi
  | some p =>
   rw [hp] at hi
   simp at hi
   subst hi; have hb := (Below.refl w.heap.size w).alloc (Nat.le_refl _) (.cells cs 29); have hlt : ∀ k, Pt P lo x w.heap.size k → k < w.heap.size := fun k q => q.elim (fun q => (hP k q).2) fun ⟨_, b, _⟩ => b
   refine ⟨p.A, p.c, p.K, p.d, fun j hj => rowL_get ps i p hp j hj, (hf p (mog hp)).move (fun k q => hb.5 k (hlt k q)) fun k q => ⟨q.grow hb.size, ?_⟩⟩
   have := hlt k q; simp only [Value.ownBlock, ne_eq, Option.some.injEq]; omega
def stopP (c a : Int) : Value := .iface 54 (.agg #[.int .i64 c, .int .i64 a])
def RetN (e : Int) (X : Nat) (P : Nat → Prop) (w : World) (R : Rs Nd) (E : Ending) (w' : World) : Prop :=
 (∃ c a, R = .bad c a ∧ E = .panicked [{ v := stopP c a, recovered := false }] ∧ Kp w.heap.size X w w') ∨
 ∃ t l A c K d, R = .ok t l ∧ E = .returned (ndV t A c K d) ∧ Pz e w' X l ∧ St (Pt P w.heap.size X w'.heap.size) w' t A c K d ∧ Kp w.heap.size X w w'
def RetL (e : Int) (X : Nat) (P : Nat → Prop) (w : World) (R : Rs (List Nd)) (E : Ending) (w' : World) : Prop :=
 (∃ c a, R = .bad c a ∧ E = .panicked [{ v := stopP c a, recovered := false }] ∧ Kp w.heap.size X w w') ∨
 ∃ ks l A c, R = .ok ks l ∧ E = .returned (.slice A ks.length c) ∧ Pz e w' X l ∧ RowS P w.heap.size X w' A c ks ∧ Kp w.heap.size X w w'
theorem Rs.bind_ok {α β : Type} (a : α) (l : List Tok) (f : α → List Tok → Rs β) : (Rs.ok a l).bind f = f a l := rfl
theorem Rs.bind_bad {α β : Type} (c a : Int) (f : α → List Tok → Rs β) : (Rs.bad c a : Rs α).bind f = .bad c a := rfl
theorem Rs.bind_assoc {α β γ : Type} (x : Rs α) (f : α → List Tok → Rs β) (g : β → List Tok → Rs γ) : (x.bind f).bind g = x.bind fun a l => (f a l).bind g := by cases x <;> rfl
theorem Rs.ne_of {α β : Type} {x : Rs α} {f : α → List Tok → Rs β} {R : Rs β} (h : x.bind f = R) (hne : R ≠ .oof) : x ≠ .oof := fun e => hne (by rw [← h, e]; rfl)
theorem kc {X : Nat} {w w' w'' : World} (h : Kp w.heap.size X w w') (k : Kp w'.heap.size X w' w'') : Kp w.heap.size X w w'' ∧ w'.heap.size ≤ w''.heap.size ∧ w.heap.size ≤ w''.heap.size := ⟨h.call (Nat.le_refl _) k, k.size, Nat.le_trans h.size k.size⟩
theorem kd {X : Nat} {w w' w'' : World} (h : Kp w.heap.size X w w') (k : Below w'.heap.size w' w'') : Kp w.heap.size X w w'' ∧ w'.heap.size ≤ w''.heap.size ∧ w.heap.size ≤ w''.heap.size := ⟨h.below (Nat.le_refl _) k, k.size, Nat.le_trans h.size k.size⟩
theorem kx {B X b : Nat} {w w' : World} {o : Obj} (k : Kp B X w w') (h : w.heap[b]? = some o) (h1 : b < B := by omega) (h2 : b ≠ X := by omega) : w'.heap[b]? = some o := (k.block b h1 h2).trans h
theorem kb {B b : Nat} {w w' : World} {o : Obj} (k : Below B w w') (h : w.heap[b]? = some o) (h1 : b < B := by omega) : w'.heap[b]? = some o := (k.5 b h1).trans h
theorem nb {w W : World} {o : Obj} (h : w.alloc o = W) : Below w.heap.size w W ∧ W.heap[w.heap.size]? = some o ∧ w.heap.size + 1 ≤ W.heap.size := by
 subst h
 exact ⟨(Below.refl _ _).alloc (Nat.le_refl _) o, heap_alloc_new w o, by simp⟩
theorem xA {α : Type} {l : List α} {i : Nat} {a : α} : l.toArray.setIfInBounds i a = (l.set i a).toArray := by simp
theorem xB {α : Type} {x : α} {xs : List α} {a : α} : (x :: xs).set 0 a = a :: xs := rfl
theorem xC {α : Type} {x : α} {xs : List α} {n : Nat} {a : α} : (x :: xs).set (n + 1) a = x :: xs.set n a := rfl

def tokA (t : Tok) : Value := .agg #[.int .i64 t.kind, .string t.text, .int .i64 t.pos]
theorem box3 (w : World) (v0 v1 v2 : Value) (t : TypeId) : (w.alloc (.cells #[v0, v1, v2] t)).cell? ⟨w.heap.size, 0, none⟩ = some v0 ∧ (w.alloc (.cells #[v0, v1, v2] t)).cell? ⟨w.heap.size, 1, none⟩ = some v1 ∧ (w.alloc (.cells #[v0, v1, v2] t)).cell? ⟨w.heap.size, 2, none⟩ = some v2 :=
 have h := heap_alloc_new w (.cells #[v0, v1, v2] t)
 ⟨cell_of_row _ _ 0 _ _ _ h, cell_of_row _ _ 1 _ _ _ h, cell_of_row _ _ 2 _ _ _ h⟩
section
variable (a : Int) (b : ByteArray) (c : Int) (W : World)
include a b c W
theorem tfield0 : (Instr.field 39 (.agg #[.int .i64 a, .string b, .int .i64 c]) 0).run Tryz.prog W = .ok (.int .i64 a) W := by kernel_rfl
theorem tfield1 : (Instr.field 39 (.agg #[.int .i64 a, .string b, .int .i64 c]) 1).run Tryz.prog W = .ok (.string b) W := by kernel_rfl
theorem tfield2 : (Instr.field 39 (.agg #[.int .i64 a, .string b, .int .i64 c]) 2).run Tryz.prog W = .ok (.int .i64 c) W := by kernel_rfl
end
theorem put3_below {B b : Nat} {w w' : World} (h : Below B w w') (hb : B ≤ b) (u0 u1 u2 : Value) : Below B w (((w'.setCell ⟨b, 0, none⟩ u0).setCell ⟨b, 1, none⟩ u1).setCell ⟨b, 2, none⟩ u2) :=
 ((h.setCell (p := ⟨b, 0, none⟩) hb u0).setCell (p := ⟨b, 1, none⟩) hb u1).setCell (p := ⟨b, 2, none⟩) hb u2
theorem fail_ok (c a : Int) (w : World) : Calls Tryz.prog 57 #[.int .i64 c, .int .i64 a] w fun e w' => e = .panicked [{ v := stopP c a, recovered := false }] ∧ Below w.heap.size w w' := by
 unfold stopP
 go_enter Tryz.func57, Tryz.ntmps57
 go_wp2
 exact ⟨rfl, rfl, Below.refl _ _⟩
section
variable {e : Int} {w : World} {X : Nat} {l : List Tok} (hP : Pz e w X l)
include e w X l hP
theorem ahead_ok (n : Nat) (hn : n ≤ 1) :
  Calls Tryz.prog 97 #[.pointer (some ⟨X, 0, none⟩), .int .i64 n] w fun E w' => E = .returned (tokA (hd e (l.drop n))) ∧ Below w.heap.size w w' := by
 have hX := hP.lt
 have hlen := hP.len
 unfold maxLen at hlen
 obtain ⟨A, C, hP⟩ := hP
 have hl0 := hP.le
 have hl1 := hP.lm
 unfold maxLen at hl1
 have hb1 := (Below.refl w.heap.size w).alloc (Nat.le_refl _) (.cells #[.int .i64 0, .string ⟨#[]⟩, .int .i64 0] 39)
 have c0 := cLt hb1 hP.c0
 have c1 := cLt hb1 hP.c1
 have c2 := cLt hb1 hP.c2
 have c3 := cLt hb1 hP.c3
 by_cases h : n < l.length
 ·obtain ⟨b, off, rfl, hb, k0, k1, k2⟩ := hP.tk n _ (List.getElem?_eq_getElem h); have hh : hd e (l.drop n) = l[n] := by rw [List.drop_eq_getElem_cons h]; rfl
  obtain ⟨k0, k1, k2⟩ := cl3 hb1 k0 k1 k2; have o1 : decide ((n : Int) < (l.length : Int)) = true := dTo; have o2 : decide (n < l.length) = true := dTr h; rw [hh]; unfold tokA
  generalize l[n] = t at *
  clear hP hh; go_enter Tryz.func97, Tryz.ntmps97; go_wp2_with fail
  refine bodyPost_ret (v := .agg #[.int .i64 t.kind, .string t.text, .int .i64 t.pos]) (by simp [results, Tryz.results97, go_sem]) rfl ?_
  exact ⟨rfl, (Below.refl w.heap.size w).alloc (Nat.le_refl _) _⟩
 ·have hh : hd e (l.drop n) = ⟨9, ⟨#[]⟩, e⟩ := by rw [List.drop_eq_nil_of_le lq17]; rfl
  have o1 : decide ((n : Int) < (l.length : Int)) = false := dFo; have o2 : decide (n < l.length) = false := dFa h; rw [hh]; unfold tokA; clear hP hh; go_enter Tryz.func97, Tryz.ntmps97; go_wp2_with fail
  refine bodyPost_ret (v := .agg #[.int .i64 9, .string ⟨#[]⟩, .int .i64 e]) (by simp [results, Tryz.results97, go_sem]) rfl ?_
  exact ⟨rfl, (Below.refl w.heap.size w).alloc (Nat.le_refl _) _⟩
theorem next_ok :
  Calls Tryz.prog 55 #[.pointer (some ⟨X, 0, none⟩)] w fun E w' => E = .returned (tokA (hd e l)) ∧ Below w.heap.size w w' := by
 have hb1 := (Below.refl w.heap.size w).alloc (Nat.le_refl _) (.cells #[.int .i64 0, .string ⟨#[]⟩, .int .i64 0] 39)
 have HA := Lh (ahead_ok (hP.later hb1) 0 lq17)
 obtain ⟨k0, k1, k2⟩ := box3 w (.int .i64 0) (.string ⟨#[]⟩) (.int .i64 0) 39
 clear hP
 rw [List.drop_zero] at HA
 unfold tokA at HA ⊢
 generalize hd e l = t at *
 go_enter Tryz.func55, Tryz.ntmps55
 go_wp2_with fail
 go_at_call 97
 refine HA.out.mono ?_
 rintro E w2 ⟨rfl, hb2⟩
 obtain ⟨k0, k1, k2⟩ := cl3 hb2 k0 k1 k2
 have z := fun i => hb2.frozen (p := ⟨w.heap.size, i, none⟩) lq18
 have hw2 := hb1.trans (hb2.mono hb1.size)
 go_wp2_with fail
 refine bodyPost_ret (v := .agg #[.int .i64 t.kind, .string t.text, .int .i64 t.pos]) (by simp [results, Tryz.results55, go_sem, k0, k1, k2]) rfl ?_
 exact ⟨rfl, put3_below hw2 (Nat.le_refl _) _ _ _⟩
theorem wrong_ok :
  Calls Tryz.prog 182 #[.pointer (some ⟨X, 0, none⟩)] w fun E w' => E = .panicked [{ v := stopP 106 (hd e l).pos, recovered := false }] ∧ Below w.heap.size w w' := by
 have HA := Lh (next_ok hP)
 clear hP
 unfold tokA at HA
 generalize hd e l = t at *
 have F2 := tfield2 t.kind t.text t.pos
 go_enter Tryz.func182, Tryz.ntmps182
 go_wp2_with fail
 go_at_call 55
 refine HA.out.mono ?_
 rintro E w2 ⟨rfl, hb2⟩
 go_wp2_with fail
 go_at_call 57
 refine (fail_ok 106 t.pos w2).mono ?_
 rintro E w3 ⟨rfl, hb3⟩
 go_wp2_with fail
 exact ⟨rfl, rfl, hb2.trans (hb3.mono hb2.size)⟩
end

end
end Go.Proofs.YtjndbcnmmnkilaaGreatDoor
