/- Joined by a program: Pd5, Pd6, Lf1. -/
import Derived.Test.YtjndbcnmmnkilaaGreatDoorPF06
import Derived.Test.YtjndbcnmmnkilaaGreatDoorPF07
namespace Go.Proofs.YtjndbcnmmnkilaaGreatDoor
set_option linter.unusedVariables false
set_option linter.unusedSimpArgs false
set_option maxRecDepth 1000000
set_option maxHeartbeats 16000000
section
open Go.RowKit
open List (length_append length_cons length_nil length_singleton)
theorem nd_infoP : (Tryz.prog.info? 29).map (fun i => (i.zero, i.size, i.bytes)) = some (some (.agg #[.int .i64 0, .int .i64 0, .string ⟨#[]⟩, .bool false, .slice none 0 0, .slice none 0 0]), 6, 88) := by kernel_rfl
section
variable {P Q : Nat → Prop} {w w' : World} {ks : List Nd} {A At Kt : Option Addr} {c ct dt lo lo' x x' h X : Nat} {t : Nd} {own : Option Nat}
theorem RowS.lt (hr : RowS P lo x w A c ks) : ∀ g, (Value.slice A ks.length c).ownBlock = some g → lo ≤ g ∧ g < w.heap.size := by
 obtain ⟨xs, h1, _⟩ := hr
 exact fun g e => h1.lt g e
theorem St.away (hs : St (Pt Q lo' x' h) w t At ct Kt dt) (hQ : ∀ k, Q k → Pt P lo x h k ∧ some k ≠ own) (hlo : lo ≤ lo') (hx : x < lo') (ho : ∀ g, own = some g → g < lo') : St (fun k => Pt P lo x h k ∧ some k ≠ own) w t At ct Kt dt :=
 hs.mono fun k hk => hk.elim (hQ k) fun ⟨a, b, _⟩ => ⟨.inr ⟨by omega, b, by omega⟩, fun e => by have := ho k e.symm; omega⟩
theorem St.laterA (hs : St (fun k => Pt P lo x w.heap.size k ∧ some k ≠ own) w t At ct Kt dt) (hb : Below w.heap.size w w') (hP : Old P X w.heap.size) : St (fun k => Pt P lo x w'.heap.size k ∧ some k ≠ own) w' t At ct Kt dt :=
 hs.move (fun k q => q.1.elim (fun q => hb.5 k (hP k q).2) fun ⟨a, b, _⟩ => hb.5 k b) fun k q => ⟨q.1.grow hb.size, q.2⟩
theorem wp_append_row {ops : Array Oper} {rest : List Oper} {o : Oper} {a : Act} {F : Exit → Act → World → Prop} (hgd : o.guard = none) (s y : Operand)
  (ho : o.op = .call { callee := .builtin .append, args := #[s, y], argTypes := #[27, 27] })
  (hr : RowS P lo x w A c ks) (hs : a.eval s = .slice A ks.length c) (hn : St (fun k => Pt P lo x w.heap.size k ∧ some k ≠ (Value.slice A ks.length c).ownBlock) w t At ct Kt dt) (b : Nat) (hy : a.eval y = .slice (some ⟨b, 0, none⟩) 1 1)
  {ty : TypeId} (hb : w.heap[b]? = some (.cells #[.int .i64 t.kind, .int .i64 t.pos, .string t.text, .bool t.neg, .slice At t.mag.length ct, .slice Kt t.kids.length dt] ty)) (hks : ks.length ≤ 1000000000) (hlo : lo ≤ w.heap.size) (hx : x < w.heap.size) (hP : Old P X w.heap.size)
  (k : ∀ g cap w', RowS P lo x w' (some ⟨g, 0, none⟩) cap (ks ++ [t]) → Below lo w w' → g < w'.heap.size → w.grownBy w' (Value.slice A ks.length c).ownBlock → wpList Tryz.prog ops F rest (a.put o.dst (.slice (some ⟨g, 0, none⟩) (ks.length + 1) cap)) w') : wpList Tryz.prog ops F (o :: rest) a w := by
 obtain ⟨i0, hi0, hz0, hz1, hz2⟩ := info_parts nd_infoP
 have hlt := hr.lt
 obtain ⟨xs, h1, h2, h3⟩ := hr
 refine wpList_append_lies w hgd s y 27 ho lo 29 i0 _ 6 88 Tryz.underlying27 hi0 hz0 hz1 hz2 rfl lq16 (.slice A ks.length c) ks.length xs hs h1 ⟨b, 0, none⟩ 1 1 (ndC t At ct Kt dt) hy rfl (fun j u hj => ?_) (by simp [ndC, Value.oneCell']) lq16 lq13 lq17 hlo _ rfl (fun g cap w' hown hg hat hgl => ?_)
 ·exact lv58
 ·exact lv43
theorem RowS.first (hr : RowS P lo x w A c ks) (h0 : ks[0]? = some t) : ∃ g, A = some ⟨g, 0, none⟩ ∧ w.cell? ⟨g, 0, none⟩ = some (.int .i64 t.kind) ∧ w.cell? ⟨g, 1, none⟩ = some (.int .i64 t.pos) ∧ I64 t.pos ∧ 0 < ks.length := by
 have hk := hr.kids (W := w) fun _ _ => rfl
 obtain ⟨b, off, A', c', K', d', e, hC, hN⟩ := hk.kid h0
 obtain ⟨xs, h1, _, _⟩ := hr
 have hl := (List.getElem?_eq_some_iff.1 h0).1
 rcases h1.2 with ⟨_, hn0⟩ | ⟨g', cap', cur', hv', _, _, _⟩
 ·omega
 have hA : A = some ⟨g', 0, none⟩ := by injection hv'
 rw [hA] at e
 injection e with e; injection e with e1 e2
 subst e1 e2
 simp only [CellsN, Nat.zero_add, Nat.zero_mul] at hC
 exact ⟨_, hA, hC.1, hC.2.1, hN.parts.2.2.2.2.2.2.2.1, hl⟩
theorem RowS.snocs {ks' : List Nd} {g cap : Nat} {xs ys : List Value}
  (ho : ∀ i t, ks[i]? = some t → ∃ A' c' K' d', (∀ j, j < 6 → xs[i * 6 + j]? = (ndC t A' c' K' d')[j]?) ∧ St (fun k => Pt P lo x w.heap.size k ∧ some k ≠ own) w t A' c' K' d')
  (ho' : ∀ i t, ks'[i]? = some t → ∃ A' c' K' d', (∀ j, j < 6 → ys[i * 6 + j]? = (ndC t A' c' K' d')[j]?) ∧ St (fun k => Pt P lo x w.heap.size k ∧ some k ≠ own) w t A' c' K' d')
  (hl : xs.length = ks.length * 6) (hown : w'.ownsRow lo 29 6 (.slice (some ⟨g, 0, none⟩) (ks.length + ks'.length) cap) (ks.length + ks'.length) (xs ++ ys))
  (hne : own ≠ some x) (hxw : x < w.heap.size) (hP : Old P X w.heap.size) (hg : w.grownBy w' own) (hat : own = some g ∨ g = w.heap.size) : RowS P lo x w' (some ⟨g, 0, none⟩) cap (ks ++ ks') := by
 have hl2 : (ks ++ ks').length = ks.length + ks'.length := length_append
 have hmv : ∀ {t : Nd} {A' K' : Option Addr} {c' d' : Nat}, St (fun k => Pt P lo x w.heap.size k ∧ some k ≠ own) w t A' c' K' d' → St (fun k => Pt P lo x w'.heap.size k ∧ some k ≠ some g) w' t A' c' K' d' := fun hs =>
  hs.move (fun k q => hg.block k (q.1.elim (fun q => (hP k q).2) fun ⟨_, b, _⟩ => b) q.2) fun k q => ⟨q.1.grow hg.size, by
   rcases hat with e | e
   ·rw [← e]; exact q.2
   ·have : k < w.heap.size := q.1.elim (fun q => (hP k q).2) fun ⟨_, b, _⟩ => b
    intro e2; injection e2 with e2; omega⟩
 refine ⟨xs ++ ys, by rw [hl2]; exact hown, ?_, fun i s hi => ?_⟩
 ·rw [hl2]; simp only [Value.ownBlock, ne_eq, Option.some.injEq]
  rcases hat with e | e
  ·intro e2; exact hne (by rw [e, e2])
  ·omega
 rw [hl2]
 show ∃ A' c' K' d', _ ∧ St (fun k => Pt P lo x w'.heap.size k ∧ some k ≠ some g) w' s A' c' K' d'
 by_cases hil : i < ks.length
 ·exact lv39
 ·rw [List.getElem?_append_right lq17] at hi; obtain ⟨A', c', K', d', k1, k2⟩ := ho' _ s hi
  refine ⟨A', c', K', d', fun j hj => ?_, hmv k2⟩
  rw [List.getElem?_append_right (by rw [hl]; omega), hl, show i * 6 + j - ks.length * 6 = (i - ks.length) * 6 + j by omega]; exact k1 j hj
theorem ndC_one (t : Nd) (A : Option Addr) (c : Nat) (K : Option Addr) (d : Nat) : ∀ u ∈ ndC t A c K d, u.oneCell' = true := by simp [ndC, Value.oneCell']
theorem wp_append_rows {ops : Array Oper} {rest : List Oper} {o : Oper} {a : Act} {F : Exit → Act → World → Prop} {ks' : List Nd} {A' : Option Addr} {c' : Nat} (hgd : o.guard = none) (s y : Operand)
  (ho : o.op = .call { callee := .builtin .append, args := #[s, y], argTypes := #[27, 27] })
  (hr : RowS P lo x w A c ks) (hs : a.eval s = .slice A ks.length c) (hr' : RowS Q lo' x' w A' c' ks') (hy : a.eval y = .slice A' ks'.length c')
  (haw : ∀ k, Pt Q lo' x' w.heap.size k → Pt P lo x w.heap.size k ∧ some k ≠ (Value.slice A ks.length c).ownBlock) (h0 : 0 < ks'.length)
  (hks : ks.length + ks'.length ≤ 1000000000) (hlo : lo ≤ w.heap.size) (hx : x < w.heap.size) (hP : Old P X w.heap.size)
  (k : ∀ g cap w', RowS P lo x w' (some ⟨g, 0, none⟩) cap (ks ++ ks') → Below lo w w' → g < w'.heap.size → w.grownBy w' (Value.slice A ks.length c).ownBlock → wpList Tryz.prog ops F rest (a.put o.dst (.slice (some ⟨g, 0, none⟩) (ks.length + ks'.length) cap)) w') : wpList Tryz.prog ops F (o :: rest) a w := by
 obtain ⟨i0, hi0, hz0, hz1, hz2⟩ := info_parts nd_infoP
 have hlt := hr.lt
 obtain ⟨xs, h1, h2, h3⟩ := hr
 obtain ⟨ys, g1, g2, g3⟩ := hr'
 rcases g1.2 with ⟨_, hn0⟩ | ⟨g', cap', cur', hv', _, _, _⟩
 ·omega
 have hA : A' = some ⟨g', 0, none⟩ := by injection hv'
 subst hA
 have hone : ∀ u ∈ ys, u.oneCell' = true := by
  intro u hu; obtain ⟨j, hj, rfl⟩ := List.getElem_of_mem hu; have hl := g1.1; have hi : j / 6 < ks'.length := by omega
  obtain ⟨A2, c2, K2, d2, k1, _⟩ := g3 (j / 6) _ (List.getElem?_eq_getElem hi); have := k1 (j % 6) lq17; rw [show j / 6 * 6 + j % 6 = j by omega, List.getElem?_eq_getElem hj] at this; exact ndC_one _ _ _ _ _ _ (mog this.symm)
 refine wpList_append_lies w hgd s y 27 ho lo 29 i0 _ 6 88 Tryz.underlying27 hi0 hz0 hz1 hz2 rfl lq16 (.slice A ks.length c) ks.length xs hs h1 ⟨g', 0, none⟩ ks'.length c' ys hy g1.1 (fun j u hj => g1.cells rfl j u hj) hone h0 lq13 lq17 hlo _ rfl (fun g cap w' hown hg hat hgl => ?_)
 refine k g cap w' (RowS.snocs h3 (fun i t hi => ?_) h1.1 hown h2 hx hP hg hat) ⟨hg.os, hg.tape, hg.output, hg.size, fun q hq => hg.block q lq17 (fun e => ?_)⟩ hgl hg
 ·obtain ⟨A2, c2, K2, d2, k1, k2⟩ := g3 i t hi; exact ⟨A2, c2, K2, d2, k1, k2.mono fun k q => haw k q.1⟩
 ·have := hlt q e.symm
  omega
theorem step_append_row {ops : Array Oper} {o : Oper} {a : Act} {K : Act → World → Prop} {F : Exit → Act → World → Prop} {E : Prop} (hgd : o.guard = none) (s y : Operand)
  (ho : o.op = .call { callee := .builtin .append, args := #[s, y], argTypes := #[27, 27] })
  (hr : RowS P lo x w A c ks) (hs : a.eval s = .slice A ks.length c) (hn : St (fun k => Pt P lo x w.heap.size k ∧ some k ≠ (Value.slice A ks.length c).ownBlock) w t At ct Kt dt) (b : Nat) (hy : a.eval y = .slice (some ⟨b, 0, none⟩) 1 1)
  {ty : TypeId} (hb : w.heap[b]? = some (.cells #[.int .i64 t.kind, .int .i64 t.pos, .string t.text, .bool t.neg, .slice At t.mag.length ct, .slice Kt t.kids.length dt] ty)) (hks : ks.length ≤ 1000000000) (hlo : lo ≤ w.heap.size) (hx : x < w.heap.size) (hP : Old P X w.heap.size)
  (k : ∀ g cap w', RowS P lo x w' (some ⟨g, 0, none⟩) cap (ks ++ [t]) → Below lo w w' → g < w'.heap.size → w.grownBy w' (Value.slice A ks.length c).ownBlock → K (a.put o.dst (.slice (some ⟨g, 0, none⟩) (ks.length + 1) cap)) w') : if Region.wanted o (yielded ops a.tmps) = true then Oper.wp Tryz.prog o a w K F else E := by
 obtain ⟨i0, hi0, hz0, hz1, hz2⟩ := info_parts nd_infoP
 have hlt := hr.lt
 obtain ⟨xs, h1, h2, h3⟩ := hr
 refine step_append_lies w hgd s y 27 ho lo 29 i0 _ 6 88 Tryz.underlying27 hi0 hz0 hz1 hz2 rfl lq16 (.slice A ks.length c) ks.length xs hs h1 ⟨b, 0, none⟩ 1 1 (ndC t At ct Kt dt) hy rfl (fun j u hj => ?_) (by simp [ndC, Value.oneCell']) lq16 lq13 lq17 hlo _ rfl (fun g cap w' hown hg hat hgl => ?_)
 ·exact lv58
 ·exact lv43
theorem args_pre (nB gB : ByteArray → Bool) (nO : ByteArray → Option (List Int)) (e : Int) : ∀ (D st : Nat) (pre ks : List Nd) (l : List Tok), (Pp nB gB nO e D).qargs st (pre ++ ks) l = ((Pp nB gB nO e D).qargs st ks l).bind fun r q => .ok (pre ++ r) q
 | 0, _, _, _, _ => rfl
 | D + 1, st, pre, ks, l => by
  show s_args nB e (Pp nB gB nO e D) st (pre ++ ks) l = (s_args nB e (Pp nB gB nO e D) st ks l).bind _
  unfold s_args
  split
  ·rfl
  ·rw [Rs.bind_assoc]
   congr 1
   funext a r
   split
   ·split
    ·rw [List.append_assoc]; exact args_pre nB gB nO e D a.1 pre (ks ++ [a.2]) _
    ·rw [Rs.bind_ok, List.append_assoc]
   ·rw [Rs.bind_ok, List.append_assoc]
theorem args_some (nB gB : ByteArray → Bool) (nO : ByteArray → Option (List Int)) (e : Int) : ∀ (D st : Nat) (ks : List Nd) (l : List Tok) (r : List Nd) (q : List Tok), (Pp nB gB nO e D).qargs st ks l = .ok r q → 0 < r.length
 | 0, _, _, _, _, _, h => by cases h
 | D + 1, st, ks, l, r, q, h => by
  have h : s_args nB e (Pp nB gB nO e D) st ks l = .ok r q := h; unfold s_args at h
  split at h
  ·cases h
  ·generalize (if isS e _ l then _ else _ : Rs (Nat × Nd)) = z at h
   cases z with
   | oof => cases h
   | bad c a => cases h
   | ok a r1 =>
    rw [Rs.bind_ok] at h
    split at h
    ·split at h
     ·exact args_some nB gB nO e D _ _ _ _ _ h
     ·cases h; simp
    ·cases h; simp
theorem args_len (nB gB : ByteArray → Bool) (nO : ByteArray → Option (List Int)) (e : Int) : ∀ (D st : Nat) (ks : List Nd) (l : List Tok) (r : List Nd) (q : List Tok), (Pp nB gB nO e D).qargs st ks l = .ok r q → r.length + q.length ≤ ks.length + l.length + 1
 | 0, _, _, _, _, _, h => by cases h
 | D + 1, st, ks, l, r, q, h0 => by
  have h1 : s_args nB e (Pp nB gB nO e D) st ks l = .ok r q := h0; have h := ef_all nB gB nO e D; unfold s_args at h1
  split at h1
  ·cases h1
  ·generalize hz : (if isS e _ l then _ else _ : Rs (Nat × Nd)) = z at h1
   have hlf : Lf l.length 0 z := by
    rw [← hz]; exact eAf
   cases z with
   | oof => cases h1
   | bad c a => cases h1
   | ok a r1 =>
    have hr1 := hlf _ _ rfl; rw [Rs.bind_ok] at h1
    split at h1
    ·have ht := tlSf ‹isS e _ r1 = true›
     split at h1
     ·have := args_len nB gB nO e D _ _ _ _ _ h1; simp only [length_append, length_cons, length_nil] at this
      omega
     ·cases h1; simp only [length_append, length_cons, length_nil]; omega
    ·cases h1; simp only [length_append, length_cons, length_nil]; omega
end
theorem bx_three {w : World} {b : Nat} {v0 v1 v2 : Value} {t : TypeId} (h : w.heap[b]? = some (.cells #[v0, v1, v2] t)) : w.cell? ⟨b, 0, none⟩ = some v0 ∧ w.cell? ⟨b, 1, none⟩ = some v1 ∧ w.cell? ⟨b, 2, none⟩ = some v2 :=
 ⟨cell_of_row _ _ 0 _ _ _ h, cell_of_row _ _ 1 _ _ _ h, cell_of_row _ _ 2 _ _ _ h⟩
theorem bx_two {w : World} {b : Nat} {v0 v1 : Value} {t : TypeId} (h : w.heap[b]? = some (.cells #[v0, v1] t)) : w.cell? ⟨b, 0, none⟩ = some v0 ∧ w.cell? ⟨b, 1, none⟩ = some v1 :=
 ⟨cell_of_row _ _ 0 _ _ _ h, cell_of_row _ _ 1 _ _ _ h⟩
section
variable {nB gB : ByteArray → Bool} {nO : ByteArray → Option (List Int)} {e : Int} {p : Ps} {l : List Tok}
theorem atom_1 (h : (hd e l).kind = 1) : s_atom nB gB nO e p l = (tokN nB e l).bind fun t r => .ok (Nd.mk 31 (hd e l).pos t.text false [] []) r := by
 unfold s_atom; rw [h]; rfl
theorem atom_3 (h : (hd e l).kind = 3) : s_atom nB gB nO e p l = match nO (hd e l).text with | some m => .ok (Nd.mk 32 (hd e l).pos ⟨#[]⟩ false m []) l.tail | none => .bad 106 (hd e l).pos := by
 unfold s_atom; rw [h]; rfl
theorem atom_4 (h : (hd e l).kind = 4) : s_atom nB gB nO e p l = if gB (hd e l).text then .ok (Nd.mk 33 (hd e l).pos (hd e l).text false [] []) l.tail else .bad 106 (hd e l).pos := by
 unfold s_atom; rw [h]; rfl
theorem atom_x (h1 : (hd e l).kind ≠ 1) (h3 : (hd e l).kind ≠ 3) (h4 : (hd e l).kind ≠ 4) : s_atom nB gB nO e p l = if isW e ⟨#[78, 111, 110, 101]⟩ l || isW e ⟨#[84, 114, 117, 101]⟩ l || isW e ⟨#[70, 97, 108, 115, 101]⟩ l then .ok (Nd.mk 34 (hd e l).pos (hd e l).text false [] []) l.tail else if isS e ⟨#[40]⟩ l then p.qround (hd e l).pos l.tail else if isS e ⟨#[91]⟩ l then p.qsquare (hd e l).pos l.tail else if isS e ⟨#[123]⟩ l then p.qcurly (hd e l).pos l.tail else .bad 106 (hd e l).pos := by
 unfold s_atom
 split
 ·exact absurd ‹(hd e l).kind = 1› h1
 ·exact absurd ‹(hd e l).kind = 3› h3
 ·exact absurd ‹(hd e l).kind = 4› h4
 ·rfl
end
def defQ (nB : ByteArray → Bool) (e : Int) (p : Ps) (at_ : Int) (l : List Tok) : Rs Nd :=
 (tokN nB e l).bind fun t r => (needS e ⟨#[40]⟩ r).bind fun _ r => (if isS e ⟨#[41]⟩ r then .ok [] r else p.qparams false [] r).bind fun ks r => (needS e ⟨#[41]⟩ r).bind fun _ r => (p.qblock r).bind fun b r => .ok (Nd.mk 18 at_ t.text false [] (ks ++ [b])) r
def classQ (nB : ByteArray → Bool) (e : Int) (p : Ps) (at_ : Int) (l : List Tok) : Rs Nd :=
 (tokN nB e l).bind fun t r => (if isS e ⟨#[40]⟩ r then (p.qexpr r.tail).bind fun x r => (needS e ⟨#[41]⟩ r).bind fun _ r => .ok x r else .ok (Nd.mk 0 at_ ⟨#[]⟩ false [] []) r).bind fun x r => (p.qblock r).bind fun b r => .ok (Nd.mk 20 at_ t.text false [] [x, b]) r
def tryQ (e : Int) (p : Ps) (at_ : Int) (l : List Tok) : Rs Nd :=
 (p.qblock l).bind fun b r => (if isW e ⟨#[101, 120, 99, 101, 112, 116]⟩ r then p.qexcepts false [b] r else .bad 106 (hd e r).pos).bind fun ks r => .ok (Nd.mk 21 at_ ⟨#[]⟩ false [] ks) r
theorem stmt_eq {nB : ByteArray → Bool} {e : Int} {p : Ps} (l : List Tok) : s_stmt nB e p l = if isW e ⟨#[105, 102]⟩ l then p.qchoice (hd e l).pos l.tail else if isW e ⟨#[119, 104, 105, 108, 101]⟩ l then (p.qexpr l.tail).bind fun t r => (p.qblock r).bind fun b r => .ok (Nd.mk 16 (hd e l).pos ⟨#[]⟩ false [] [t, b]) r else if isW e ⟨#[102, 111, 114]⟩ l then (p.qtargets l.tail).bind fun t r => (needW e ⟨#[105, 110]⟩ r).bind fun _ r => (p.qexprs r).bind fun x r => (p.qblock r).bind fun b r => .ok (Nd.mk 17 (hd e l).pos ⟨#[]⟩ false [] [t, x, b]) r else if isW e ⟨#[100, 101, 102]⟩ l then defQ nB e p (hd e l).pos l.tail else if isW e ⟨#[99, 108, 97, 115, 115]⟩ l then classQ nB e p (hd e l).pos l.tail else if isW e ⟨#[116, 114, 121]⟩ l then tryQ e p (hd e l).pos l.tail else (p.qsimple (hd e l).pos l).bind fun n r => (needK e 6 r).bind fun _ r => .ok n r := rfl
theorem tk_info : (Tryz.prog.info? 39).map (fun i => (i.zero, i.size, i.bytes)) = some (some (.agg #[.int .i64 0, .string ⟨#[]⟩, .int .i64 0]), 3, 32) := by kernel_rfl
def tkC (t : Tok) : List Value := [.int .i64 t.kind, .string t.text, .int .i64 t.pos]
def tkVl (l : List Tok) : List Value := l.flatMap tkC
theorem tkVl_len (l : List Tok) : (tkVl l).length = l.length * 3 := by
 unfold tkVl
 induction l with
 | nil => rfl
 | cons a r ih => rw [List.flatMap_cons, length_append, ih, length_cons]; simp only [tkC, length_cons, length_nil]; omega
theorem tkVl_get (l : List Tok) (i : Nat) (t : Tok) (h : l[i]? = some t) (j : Nat) (hj : j < 3) : (tkVl l)[i * 3 + j]? = (tkC t)[j]? := by
 induction l generalizing i with
 | nil => simp at h
 | cons a r ih =>
  have e : tkVl (a :: r) = tkC a ++ tkVl r := rfl; rw [e]
  cases i with
  | zero =>
   simp at h; subst h
   rw [List.getElem?_append_left (by simp only [tkC, length_cons, length_nil]; omega)]
   simp
  | succ i =>
   simp at h
   rw [List.getElem?_append_right (by simp only [tkC, length_cons, length_nil]; omega), ← ih i h]
   congr 1
   simp only [tkC, length_cons, length_nil]; omega
def TkOwn (lo : Nat) (w : World) (A : Option Addr) (c : Nat) (l : List Tok) : Prop := w.ownsRow lo 39 3 (.slice A l.length c) l.length (tkVl l)
section
variable {lo : Nat} {w : World} {A : Option Addr} {c : Nat} {l : List Tok} (h : TkOwn lo w A c l)
include lo w A c l h
theorem TkOwn.at : TksAt w w.heap.size A l := fun i t hi => by
 have hil := (List.getElem?_eq_some_iff.1 hi).1
 rcases h.2 with ⟨_, h0⟩ | ⟨g, cap, cur, hg, hg2, hh, _⟩
 ·omega
 ·have hA : A = some ⟨g, 0, none⟩ := by injection hg
  have hc : ∀ j u, (tkVl l)[j]? = some u → w.cell? ⟨g, j, none⟩ = some u := fun j u hj => by
   have := World.ownsRow.cells h (g := g) (by rw [hg]; rfl) j u hj; rw [Addr.add_lit, Nat.zero_add] at this; exact this
  refine ⟨g, 0, hA, (Array.getElem?_eq_some_iff.1 hh).1, ?_, ?_, ?_⟩ <;> rw [Nat.zero_add]
  ·exact hc _ _ (tkVl_get l i t hi 0 lq16)
  ·exact hc _ _ (tkVl_get l i t hi 1 lq16)
  ·exact hc _ _ (tkVl_get l i t hi 2 lq16)
theorem TkOwn.form : l.length ≤ c ∧ c ≤ maxLen := by
 have _ := lo
 have _ := w
 have _ := A
 rcases h.2 with ⟨h1, h0⟩ | ⟨g, cap, cur, hg, _, _, h1, h2, _⟩
 ·injection h1 with _ _ h2
  exact ⟨by omega, by subst h2; exact Nat.zero_le _⟩
 ·injection hg with _ _ h3
  subst h3; exact ⟨h1, h2⟩
end
theorem step_append_tok {ops : Array Oper} {o : Oper} {a : Act} {K : Act → World → Prop} {F : Exit → Act → World → Prop} {E : Prop} {w : World} {lo n c b : Nat} {A : Option Addr} {xs : List Value} {t : Tok} (hgd : o.guard = none) (s y : Operand)
  (ho : o.op = .call { callee := .builtin .append, args := #[s, y], argTypes := #[36, 36] })
  (h1 : w.ownsRow lo 39 3 (.slice A n c) n xs) (hs : a.eval s = .slice A n c) (hy : a.eval y = .slice (some ⟨b, 0, none⟩) 1 1) {ty : TypeId} (hb : w.heap[b]? = some (.cells #[.int .i64 t.kind, .string t.text, .int .i64 t.pos] ty)) (hn : n ≤ 1000000000) (hlo : lo ≤ w.heap.size)
  (k : ∀ g cap w', w'.ownsRow lo 39 3 (.slice (some ⟨g, 0, none⟩) (n + 1) cap) (n + 1) (xs ++ tkC t) → w.grownBy w' (Value.slice A n c).ownBlock → g < w'.heap.size → K (a.put o.dst (.slice (some ⟨g, 0, none⟩) (n + 1) cap)) w') : if Region.wanted o (yielded ops a.tmps) = true then Oper.wp Tryz.prog o a w K F else E := by
 obtain ⟨i0, hi0, hz0, hz1, hz2⟩ := info_parts tk_info
 refine step_append_lies w hgd s y 36 ho lo 39 i0 _ 3 32 Tryz.underlying36 hi0 hz0 hz1 hz2 rfl lq16 (.slice A n c) n xs hs h1 ⟨b, 0, none⟩ 1 1 (tkC t) hy rfl (fun j u hj => ?_) (by simp [tkC, Value.oneCell']) lq16 lq13 lq17 hlo _ rfl (fun g cap w' hown hg hat hgl => k g cap w' hown hg hgl)
 exact lv58
def plc : Nat → List Tok → List Tok
 | _, [] => []
 | i, t :: r => ⟨t.kind, t.text, (i : Int)⟩ :: plc (i + 1) r
theorem plc_len (i : Nat) (l : List Tok) : (plc i l).length = l.length := by
 induction l generalizing i with
 | nil => rfl
 | cons t r ih => simp [plc, ih]
theorem plc_get (i : Nat) (l : List Tok) (j : Nat) : (plc i l)[j]? = (l[j]?).map fun t => ⟨t.kind, t.text, ((i + j : Nat) : Int)⟩ := by
 induction l generalizing i j with
 | nil => rfl
 | cons t r ih =>
  cases j with
  | zero => rfl
  | succ j => rw [plc, List.getElem?_cons_succ, List.getElem?_cons_succ, ih, show i + 1 + j = i + (j + 1) by omega]
theorem TksAt.later {w w' : World} {A : Option Addr} {l : List Tok} (h : TksAt w w.heap.size A l) (hb : Below w.heap.size w w') : TksAt w' w'.heap.size A l := fun i t hi => by
 obtain ⟨b, off, e, hbX, h1, h2, h3⟩ := h i t hi
 have hk := hb.5 b hbX
 exact ⟨b, off, e, by have := hb.size; omega, (World.cell?_of_block hk).trans h1, (World.cell?_of_block hk).trans h2, (World.cell?_of_block hk).trans h3⟩
def wei (l : List Tok) : Nat := (l.map fun t => t.text.size).sum
section
variable (l : List Tok) (A : Option Addr) (C : Nat) (w : World) (hT : TksAt w w.heap.size A l) (hle : l.length ≤ C) (hC : C ≤ maxLen) (hl : l.length ≤ 1048576)
include l A C w hT hle hC hl
theorem much_ok (hw : wei l ≤ 1048576) :
  Calls Tryz.prog 13 #[.slice A l.length C] w fun E w' => E = .returned (.bool (decide (20000 < l.length + wei l))) ∧ w = w' := by
 have _ := hC
 have _ := hle
 have _ := hl
 unfold maxLen at hC
 have HT := Lh hT
 obtain ⟨rv, hrv⟩ : ∃ r, decide (20000 < l.length + wei l) = r := ⟨_, rfl⟩
 rw [hrv]
 go_enter Tryz.func13, Tryz.ntmps13
 go_wp2_with fail
 go_loopg [3, 4] l.length (fun k vn vi wr => ∃ (n i : Nat), vn = .int .i64 n ∧ vi = .int .i64 i ∧ wr = w ∧ i + k = l.length ∧ n = l.length + wei (l.take i))
 case atStart => exact ⟨l.length, 0, rfl, rfl, rfl, by omega, by simp [wei]⟩
 case round =>
  obtain ⟨n, i, rfl, rfl, rfl, hik, hn⟩ := hrel; have htk : wei (l.take i) + wei (l.drop i) = wei l := by unfold wei; rw [← List.sum_append_nat, ← List.map_append, List.take_append_drop]
  by_cases hm : n ≤ 20000
  ·have i2 : (n : Int) ≤ 20000 := by omega
   cases gk with
   | zero =>
    have i1 : ¬ ((i : Int) < (l.length : Int)) := by omega
    have hr : rv = false := hrv ▸ dFa (by rw [List.take_of_length_le lq17] at hn; omega); have i3 : ¬ (20000 : Int) < (n : Int) := by omega
    clear hn htk hm i2; go_wp2_with fail; go_ret
    first | exact ⟨rfl, rfl⟩ | exact ⟨by rw [hr], rfl⟩
   | succ gk =>
    have hil : i < l.length := by omega
    have i1 : (i : Int) < (l.length : Int) := by omega
    obtain ⟨t, ht⟩ : ∃ t, l[i]? = some t := ⟨_, List.getElem?_eq_getElem hil⟩; obtain ⟨tb, off, rfl, htb, t0, t1, t2⟩ := HT.out i t ht; have hs : wei (l.take (i + 1)) = wei (l.take i) + t.text.size := by unfold wei; rw [List.take_add_one, ht]; simp
    have hsz : t.text.size ≤ 1048576 := by
     have : wei (l.take (i + 1)) ≤ wei l := by
      have : wei (l.take (i + 1)) + wei (l.drop (i + 1)) = wei l := by unfold wei; rw [← List.sum_append_nat, ← List.map_append, List.take_append_drop]
      omega
     omega
    have hle2 : wei (l.take (i + 1)) ≤ wei l := by
     have : wei (l.take (i + 1)) + wei (l.drop (i + 1)) = wei l := by unfold wei; rw [← List.sum_append_nat, ← List.map_append, List.take_append_drop]
     omega
    clear hle2; have z1 : (0 : Int) ≤ (i : Int) := by omega
    have HN := Lh (show _ ∧ _ from ⟨hn, hs⟩); clear htk t0 t2 hn hs; go_wp2_with fail
    go_roundg gk
    case measure => omega
    case rel => exact ⟨n + t.text.size, i + 1, by simp, by simp, rfl, by omega, by have := HN.out.1; have := HN.out.2; omega⟩
  ·have i2 : ¬ (n : Int) ≤ 20000 := by omega
   have hr : rv = true := hrv ▸ dTo; have i3 : (20000 : Int) < (n : Int) := by omega
   clear hn htk hm
   by_cases h1 : (i : Int) < (l.length : Int)
   ·go_wp2_with fail; go_ret
    first | exact ⟨rfl, rfl⟩ | exact ⟨by rw [hr], rfl⟩
   ·go_wp2_with fail; go_ret
    first | exact ⟨rfl, rfl⟩ | exact ⟨by rw [hr], rfl⟩
theorem placed_ok :
  Calls Tryz.prog 21 #[.slice A l.length C] w fun E w' => ∃ B c, E = .returned (.slice B (plc 0 l).length c) ∧ TkOwn w.heap.size w' B c (plc 0 l) ∧ Below w.heap.size w w' := by
 have _ := hC
 have _ := hle
 have _ := hl
 unfold maxLen at hC
 have HT := Lh hT
 have hpl := plc_len 0 l
 obtain ⟨x, hx⟩ : ∃ x, plc 0 l = x := ⟨_, rfl⟩
 have hxg : ∀ (i : Nat) (t : Tok), l[i]? = some t → x[i]? = some ⟨t.kind, t.text, (i : Int)⟩ := fun i t ht => by rw [← hx, plc_get, ht, Nat.zero_add]; rfl
 rw [hx] at hpl ⊢
 have HX := Lh hxg
 clear hxg hx
 go_enter Tryz.func21, Tryz.ntmps21
 go_wp2_with fail
 go_loopg [3, 4] l.length (fun k v vi wr => ∃ (i : Nat) (A1 : Option Addr) (c1 : Nat), v = .slice A1 i c1 ∧ vi = .int .i64 i ∧ i + k = l.length ∧ Hid (wr.ownsRow w.heap.size 39 3 (.slice A1 i c1) i (tkVl (x.take i)) ∧ Below w.heap.size w wr))
 case atStart => exact ⟨0, none, 0, rfl, rfl, by omega, Lh ⟨World.ownsRow_nil _ _ _ _, Below.refl _ _⟩⟩
 case round =>
  obtain ⟨i, A1, c1, rfl, rfl, hik, hH⟩ := hrel
  cases gk with
  | zero =>
   have i1 : ¬ ((i : Int) < (l.length : Int)) := by omega
   have hi2 : i = x.length := by omega
   go_wp2_with fail; go_ret; obtain ⟨ho, hb⟩ := hH.out; subst hi2; rw [List.take_length] at ho; exact ⟨A1, c1, rfl, ho, hb⟩
  | succ gk =>
   have hil : i < l.length := by omega
   have i1 : (i : Int) < (l.length : Int) := by omega
   obtain ⟨t, ht⟩ : ∃ t, l[i]? = some t := ⟨_, List.getElem?_eq_getElem hil⟩; have hxi := HX.out i t ht; obtain ⟨tb, off, rfl, htb, t0, t1, t2⟩ := HT.out i t ht; obtain ⟨ho, hb⟩ := hH.out; have s0 := (hb.cell (p := ⟨tb, off + i * 3, none⟩) (by show tb < _; omega)).trans t0; have s1 := (hb.cell (p := ⟨tb, off + i * 3 + 1, none⟩) (by show tb < _; omega)).trans t1; have z1 : (0 : Int) ≤ (i : Int) := by omega
   clear t0 t1 t2 hH
   go_upto_region 5 with fail
   refine region_anyZ (fun W => W.cell? ⟨tb, off + i * 3, none⟩ = some (.int .i64 t.kind) ∧ W.cell? ⟨tb, off + i * 3 + 1, none⟩ = some (.string t.text)) 15 lq15 ?_
   refine zt 0 (.slice A1 i c1) rfl (Or.inl ⟨by rfl, ?_⟩) ⟨s0, s1⟩ ?_
   ·exact lv77
   try simp only [Act.put, xA, xB, xC]
   refine zt 1 (.slice (some ⟨tb, off, none⟩) l.length C) rfl (Or.inl ⟨by rfl, ?_⟩) ⟨s0, s1⟩ ?_
   ·exact lv77
   try simp only [Act.put, xA, xB, xC]
   refine zt 2 (.int .i64 i) rfl (Or.inl ⟨by rfl, ?_⟩) ⟨s0, s1⟩ ?_
   ·exact lv77
   try simp only [Act.put, xA, xB, xC]
   refine zt 3 (.pointer (some ⟨tb, off + i * 3, none⟩)) rfl (Or.inl ⟨by rfl, ?_⟩) ⟨s0, s1⟩ ?_
   ·exact lv77
   try simp only [Act.put, xA, xB, xC]
   refine zt 4 (.pointer (some ⟨tb, off + i * 3, none⟩)) rfl (Or.inl ⟨by rfl, ?_⟩) ⟨s0, s1⟩ ?_
   ·exact lv77
   try simp only [Act.put, xA, xB, xC]
   refine zt 5 (.int .i64 t.kind) rfl (Or.inl ⟨by rfl, ?_⟩) ⟨s0, s1⟩ ?_
   ·exact lv77
   try simp only [Act.put, xA, xB, xC]
   refine zt 6 (.slice (some ⟨tb, off, none⟩) l.length C) rfl (Or.inl ⟨by rfl, ?_⟩) ⟨s0, s1⟩ ?_
   ·exact lv77
   try simp only [Act.put, xA, xB, xC]
   refine zt 7 (.int .i64 i) rfl (Or.inl ⟨by rfl, ?_⟩) ⟨s0, s1⟩ ?_
   ·exact lv77
   try simp only [Act.put, xA, xB, xC]
   refine zt 8 (.pointer (some ⟨tb, off + i * 3, none⟩)) rfl (Or.inl ⟨by rfl, ?_⟩) ⟨s0, s1⟩ ?_
   ·exact lv77
   try simp only [Act.put, xA, xB, xC]
   refine zt 9 (.pointer (some ⟨tb, off + i * 3 + 1, none⟩)) rfl (Or.inl ⟨by rfl, ?_⟩) ⟨s0, s1⟩ ?_
   ·exact lv77
   try simp only [Act.put, xA, xB, xC]
   refine zt 10 (.string t.text) rfl (Or.inl ⟨by rfl, ?_⟩) ⟨s0, s1⟩ ?_
   ·exact lv77
   try simp only [Act.put, xA, xB, xC]
   refine zt 11 (.int .i64 i) rfl (Or.inl ⟨by rfl, ?_⟩) ⟨s0, s1⟩ ?_
   ·exact lv77
   try simp only [Act.put, xA, xB, xC]
   refine zt 12 (.agg #[.int .i64 t.kind, .string t.text, .int .i64 i]) rfl (Or.inl ⟨by rfl, ?_⟩) ⟨s0, s1⟩ ?_
   ·exact lv77
   try simp only [Act.put, xA, xB, xC]
   refine zo 13 rfl fun K hK => ?_
   go_simp
   have hb1 := bl_drew ((Below.refl wr.heap.size wr).alloc (Nat.le_refl _) (.cells #[.int .i64 t.kind, .string t.text, .int .i64 i] 39)); have hbq : (wr.alloc (.cells #[.int .i64 t.kind, .string t.text, .int .i64 i] 39)).drew.heap[wr.heap.size]? = some _ := heap_alloc_new wr (.cells #[.int .i64 t.kind, .string t.text, .int .i64 i] 39); have hse : wr.heap.size + 1 ≤ (wr.alloc (.cells #[.int .i64 t.kind, .string t.text, .int .i64 i] 39)).drew.heap.size := (show wr.heap.size + 1 ≤ (wr.alloc (.cells #[.int .i64 t.kind, .string t.text, .int .i64 i] 39)).heap.size by simp)
   have u0 := (hb1.cell (p := ⟨tb, off + i * 3, none⟩) (blt s0)).trans s0; have u1 := (hb1.cell (p := ⟨tb, off + i * 3 + 1, none⟩) (blt s1)).trans s1; have ho1 := own_agreeG ho (W := (wr.alloc (.cells #[.int .i64 t.kind, .string t.text, .int .i64 i] 39)).drew) fun g e g1 g2 => hb1.5 g g2
   have hbw := hb.trans (hb1.mono hb.size); have hzs := hb.size; have hlt := ho.lt
   generalize (wr.alloc (.cells #[.int .i64 t.kind, .string t.text, .int .i64 i] 39)).drew = w1 at *
   clear s0 s1 ho hb
   refine hK.out _ _ (fun _ => ⟨u0, u1⟩) ?_
   clear hK K
   try simp only [Act.put, xA, xB, xC]
   refine zo 14 rfl fun K hK => ?_
   refine step_append_tok (t := ⟨t.kind, t.text, (i : Int)⟩) rfl _ _ rfl ho1 rfl rfl hbq lq17 lq17 ?_
   intro g cap w2 hown hg hgl; have hgb : ∀ k, k < w.heap.size → w2.heap[k]? = w1.heap[k]? := fun k hk => hg.block k lq17 (fun e => by have := hlt _ e.symm; omega)
   have v0 := (World.cell?_of_block (hgb tb htb)).trans u0; have v1 := (World.cell?_of_block (hgb tb htb)).trans u1
   refine hK.out _ _ (fun _ => ⟨v0, v1⟩) ?_
   clear hK K
   try simp only [Act.put, xA, xB, xC]
   refine zo 15 rfl fun K hK => ?_
   go_simp
   refine hK.out _ _ (fun h => absurd rfl h) ?_
   clear hK K
   try simp only [Act.put, xA, xB, xC]
   refine anyZ_end lq15 ?_ _
   have hbf : Below w.heap.size w w2 := hbw.trans ⟨hg.os, hg.tape, hg.output, hg.size, hgb⟩; have htk : tkVl (x.take i) ++ tkC ⟨t.kind, t.text, (i : Int)⟩ = tkVl (x.take (i + 1)) := by unfold tkVl; rw [List.take_add_one, hxi]; simp
   rw [htk] at hown; have HE := Lh (show _ ∧ _ from ⟨hown, hbf⟩); clear hown hbf hg hgl hgb v0 v1 u0 u1 ho1 hbq hbw hb1; go_wp2_with fail
   go_roundg gk
   case measure => omega
   case rel => exact ⟨i + 1, some ⟨g, 0, none⟩, cap, rfl, by simp, by omega, HE⟩
end

end
end Go.Proofs.YtjndbcnmmnkilaaGreatDoor
