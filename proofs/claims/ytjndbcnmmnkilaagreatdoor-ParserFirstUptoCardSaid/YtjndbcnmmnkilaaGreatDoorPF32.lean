/- Joined by a program: PaI, Lf2, Utf. -/
import Derived.Test.YtjndbcnmmnkilaaGreatDoorPF28
import Derived.Test.YtjndbcnmmnkilaaGreatDoorPF29
import Derived.Test.YtjndbcnmmnkilaaGreatDoorPF30
import Derived.Test.YtjndbcnmmnkilaaGreatDoorPF31
namespace Go.Proofs.YtjndbcnmmnkilaaGreatDoor
set_option linter.unusedVariables false
set_option linter.unusedSimpArgs false
set_option maxRecDepth 1000000
set_option maxHeartbeats 16000000
section
open List (length_append length_cons length_nil length_singleton)
section
variable {nB gB : ByteArray → Bool} {nO : ByteArray → Option (List Int)}
theorem deeps_np {P : Int → Prop} {z a : Int} : ∀ (ks : List Nd), (∀ t ∈ ks, ∀ z a, NP P t → deepQ z t = some a → P a) → LN P ks → deepsQ z ks = some a → P a
 | [], _, _, h => by rw [deepsQ] at h; cases h
 | t :: r, ih, hl, h => by
  rw [deepsQ] at h
  split at h
  ·cases h
   exact ih t (List.mem_cons_self ..) _ _ hl.head (by assumption)
  ·exact deeps_np r (fun t ht => ih t (List.mem_cons_of_mem _ ht)) hl.rest h
theorem deep_np {P : Int → Prop} (T : Nd) : ∀ (z a : Int), NP P T → deepQ z T = some a → P a := by
 induction T using Nd.ind with
 | h T ih =>
  intro z a hn h; rw [deepQ_eq] at h
  split at h
  ·cases h; exact hn.pos
  ·exact deeps_np T.kids (fun t ht => ih t ht) hn.kids h
theorem parse_places {P : Int → Prop} (D : Nat) (l : List Tok) (hl : Lp P l) (h0 : P 0) (he : P (endAt l)) {c p : Int} (h : parseF nB gB nO D l = .bad c p) : P p := by
 unfold parseF modQ at h
 have hg := (ga_all (P := P) nB gB nO he D).gstmts 9 [] l LN.nil hl
 cases hs : (Pp nB gB nO (endAt l) D).qstmts 9 [] l with
 | oof => rw [hs] at h; cases h
 | bad c' a => rw [hs] at h hg; cases h; exact hg
 | ok ks r =>
  rw [hs] at h hg; simp only [Rs.bind_ok] at h
  split at h
  ·cases h
   refine deep_np _ _ _ ?_ (by assumption)
   refine NP.mk h0 (LN.cons (NP.mk ?_ hg.1) LN.nil)
   cases ks with
   | nil => exact h0
   | cons t r => exact (LN.head hg.1).pos
  ·cases h
theorem end_placed {x : List Tok} (hx : ∀ (j : Nat) (t : Tok), x[j]? = some t → t.pos = (j : Int)) : (x = [] ∧ endAt x = 0) ∨ (0 < x.length ∧ endAt x = (x.length : Int) - 1) := by
 unfold endAt
 rw [List.getLast?_eq_getElem?]
 cases x with
 | nil => exact .inl ⟨rfl, rfl⟩
 | cons a r =>
  refine .inr ⟨Nat.succ_pos _, ?_⟩
  have h : (a :: r)[(a :: r).length - 1]? = some ((a :: r)[(a :: r).length - 1]'lq18) := List.getElem?_eq_getElem _; rw [h]; have := hx _ _ h
  show ((a :: r)[(a :: r).length - 1]'lq18).pos = _
  rw [this]
  simp
theorem first_places (D : Nat) (x : List Tok) (hx : ∀ (j : Nat) (t : Tok), x[j]? = some t → t.pos = (j : Int)) {c p : Int} (h : parseF nB gB nO D x = .bad c p) : 0 ≤ p ∧ p ≤ (x.length : Int) := by
 refine parse_places (P := fun p => 0 ≤ p ∧ p ≤ (x.length : Int)) D x (fun t ht => ?_) ⟨Int.le_refl _, by omega⟩ ?_ h
 ·obtain ⟨j, hj⟩ := List.mem_iff_getElem?.1 ht; have := hx j t hj; have := (List.getElem?_eq_some_iff.1 hj).1
  omega
 ·rcases end_placed hx with ⟨h1, h2⟩ | ⟨h1, h2⟩ <;> rw [h2]
  ·exact ⟨Int.le_refl _, by omega⟩
  ·omega
theorem first_same (D : Nat) (x y : List Tok) (n : Nat) (hn : n ≤ x.length) (hx : ∀ (j : Nat) (t : Tok), x[j]? = some t → t.pos = (j : Int)) (hy : ∀ j, j < n → x[j]? = y[j]?) {p : Int} (h : parseF nB gB nO D x = .bad 106 p) (hp : p + 2 ≤ (n : Int)) : parseF nB gB nO D y = .bad 106 p := by
 have hT : Two x y (endAt x) (endAt y) n := ⟨hn, hy, hx, by
  rcases end_placed hx with ⟨h1, h2⟩ | ⟨h1, h2⟩
  ·rw [h2, h1]; simp
  ·rw [h2]; omega⟩
 have hs := (fa_all hT nB gB nO D).f_stmts 9 [] 0
 rw [List.drop_zero, List.drop_zero] at hs
 unfold parseF modQ at h ⊢
 cases hq : (Pp nB gB nO (endAt x) D).qstmts 9 [] x with
 | oof => rw [hq] at h; cases h
 | bad c' a =>
  rw [hq] at h hs
  cases h
  rw [(hs.2 p rfl).2 hp]
  rfl
 | ok ks r =>
  rw [hq] at h; simp only [Rs.bind_ok] at h
  split at h
  ·injection h with h _
   exact absurd h lq16
  ·cases h
theorem mod_enough (D : Nat) (l : List Tok) (e : Int) (hD : 20 * l.length + 18 ≤ D) : modQ (Pp nB gB nO e D) l ≠ .oof := by
 unfold modQ
 have := pp_enough nB gB nO e l D hD 9
 cases h : (Pp nB gB nO e D).qstmts 9 [] l with
 | oof => exact absurd h this
 | bad c a => intro h; cases h
 | ok ks r => intro h; cases h
end
end
section
open Go.RowKit
open List (length_append length_cons length_nil length_singleton)
theorem tks_cells {w : World} {X : Nat} {ad : Addr} {l : List Tok} (h : TksAt w X (some ad) l) : ∀ j u, (tkVl l)[j]? = some u → w.cell? (ad.add j) = some u := by
 intro j u hu
 have hj := (List.getElem?_eq_some_iff.1 hu).1
 rw [tkVl_len] at hj
 have hi : j / 3 < l.length := by omega
 have hli : l[j / 3]? = some l[j / 3] := List.getElem?_eq_getElem hi
 obtain ⟨b, off, e, _, h1, h2, h3⟩ := h _ _ hli
 injection e with e
 subst e
 have hg := tkVl_get l _ _ hli (j % 3) (Nat.mod_lt _ lq16)
 rw [show j / 3 * 3 + j % 3 = j by omega, hu] at hg
 rw [Addr.add_lit]
 have hm : j % 3 = 0 ∨ j % 3 = 1 ∨ j % 3 = 2 := by omega
 rcases hm with hm | hm | hm <;> rw [hm] at hg <;> simp only [tkC] at hg <;> simp at hg <;> subst hg
 ·rw [show off + j = off + j / 3 * 3 by omega]; exact h1
 ·rw [show off + j = off + j / 3 * 3 + 1 by omega]; exact h2
 ·rw [show off + j = off + j / 3 * 3 + 2 by omega]; exact h3
theorem wpList_append_toks {ops : Array Oper} {rest : List Oper} {o : Oper} {a : Act} {Q : Exit → Act → World → Prop} {w : World} {lo X c1 c : Nat} {A1 A : Option Addr} {xs ys : List Tok} (hgd : o.guard = none) (s x : Operand)
  (ho : o.op = .call { callee := .builtin .append, args := #[s, x], argTypes := #[36, 36] })
  (hown : TkOwn lo w A1 c1 xs) (hs : a.eval s = .slice A1 xs.length c1) (hx : a.eval x = .slice A ys.length c) (hr : TksAt w X A ys) (hb : xs.length + ys.length ≤ 1000000) (hlo : lo ≤ w.heap.size)
  (h : ∀ A' c' w', TkOwn lo w' A' c' (xs ++ ys) → Below lo w w' → wpList Tryz.prog ops Q rest (a.put o.dst (.slice A' (xs ++ ys).length c')) w') : wpList Tryz.prog ops Q (o :: rest) a w := by
 obtain ⟨i0, hi0, hz0, hz1, hz2⟩ := info_parts tk_info
 refine wpList_plain hgd fun K hK => ?_
 have hlt := World.ownsRow.lt hown
 have hv : tkVl (xs ++ ys) = tkVl xs ++ tkVl ys := by unfold tkVl; rw [List.flatMap_append]
 have hlen : (xs ++ ys).length = xs.length + ys.length := length_append
 have key : ∃ v' w', (Builtin.append_ #[36, 36] o.type #[.slice A1 xs.length c1, .slice A ys.length c]).run Tryz.prog w = .ok v' w' ∧ w'.ownsRow lo 39 3 v' (xs.length + ys.length) (tkVl xs ++ tkVl ys) ∧ w.grownBy w' (Value.slice A1 xs.length c1).ownBlock := by
  cases A with
  | none =>
   cases ys with
   | nil => exact ⟨_, w, run_append_nilsrc w lo 36 o.type 39 i0 3 Tryz.underlying36 hi0 _ _ _ hown c, by simpa [tkVl, TkOwn] using hown, World.grownBy.refl w _⟩
   | cons y ys =>
    obtain ⟨b, off, e, _⟩ := hr 0 y rfl
    cases e
  | some ad =>
   obtain ⟨v', w', h1, h2, h3, _, _⟩ := run_append_own_at (P := Tryz.prog) w lo 36 o.type 39 i0 _ 3 32 Tryz.underlying36 hi0 hz0 hz1 hz2 rfl lq16 (.slice A1 xs.length c1) xs.length (tkVl xs) hown ad ys.length c (tkVl ys) (tkVl_len ys) (tks_cells hr)
    (by
     intro u hu; unfold tkVl at hu; rw [List.mem_flatMap] at hu; obtain ⟨t, _, hu⟩ := hu; simp only [tkC, List.mem_cons, List.not_mem_nil, or_false] at hu
     rcases hu with rfl | rfl | rfl <;> rfl) lq13 lq17 hlo
   exact ⟨v', w', h1, h2, h3⟩
 obtain ⟨v', w', h1, h2, h3⟩ := key
 obtain ⟨A', c', rfl, _⟩ := own_formN h2
 unfold Oper.wp execOp
 simp only [ho, resolve, invoke, builtin, Sem.run_bind, Sem.run_pure, Result.andThen_ok, List.map_toArray, List.map_cons, List.map_nil, hs, hx, h1]
 rw [← hlen]
 refine hK _ _ (h A' c' w' ?_ ⟨h3.os, h3.tape, h3.output, h3.size, fun k hk => h3.block k lq17 (fun e => by have := (hlt k e.symm).1; omega)⟩)
 unfold TkOwn
 rw [hv, hlen]
 exact h2
section
variable {wB nB gB : ByteArray → Bool} {nO : ByteArray → Option (List Int)}
theorem utabs_of {w V : World} (hT : Lib.Utf8Tabs 0 1 w) (h : ∀ k, k < w.heap.size → V.heap[k]? = w.heap[k]?) : Lib.Utf8Tabs 0 1 V :=
 have hc : ∀ {a : Addr} {v : Value}, w.cell? a = some v → V.cell? a = some v := fun {a v} hc => by
  have := blt hc; obtain ⟨b, o, p⟩ := a; exact (World.cell?_of_block (h _ this)).trans hc
 ⟨fun c hc2 => hc (hT.1 c hc2), fun i hi => ⟨hc (hT.2 i hi).1, hc (hT.2 i hi).2⟩⟩
theorem plc_ok {l : List Tok} (hk : ∀ t ∈ l, I64 t.kind) (hl : l.length ≤ 1000000) (hw : ∀ t ∈ l, t.text.size ≤ 65536) : ∀ t ∈ plc 0 l, OkT t := by
 intro t ht
 obtain ⟨j, hj⟩ := List.mem_iff_getElem?.1 ht
 rw [plc_get] at hj
 cases hl2 : l[j]? with
 | none => rw [hl2] at hj; cases hj
 | some u =>
  rw [hl2] at hj; injection hj with hj
  subst hj; have hm := mog hl2; have := (List.getElem?_eq_some_iff.1 hl2).1; exact ⟨hk u hm, ⟨by show (-9223372036854775808 : Int) ≤ ((0 + j : Nat) : Int); omega, by show ((0 + j : Nat) : Int) ≤ 9223372036854775807; omega⟩, hw u hm⟩
theorem plc_pos (l : List Tok) : ∀ (j : Nat) (t : Tok), (plc 0 l)[j]? = some t → t.pos = (j : Int) := by
 intro j t h
 rw [plc_get] at h
 cases hl2 : l[j]? with
 | none => rw [hl2] at h; cases h
 | some u => rw [hl2] at h; injection h with h; subst h; show ((0 + j : Nat) : Int) = j; rw [Nat.zero_add]
theorem wei_mem {l : List Tok} : ∀ t ∈ l, t.text.size ≤ wei l := by
 induction l with
 | nil => intro t h; cases h
 | cons a r ih =>
  intro t h; have e : wei (a :: r) = a.text.size + wei r := by unfold wei; simp
  rcases List.mem_cons.1 h with rfl | h
  ·omega
  ·have := ih t h; omega
theorem first_any (hD : Deps wB nB gB nO) (hC : Cst wB) (hAw : ∀ W : World, Lib.Utf8Tabs 0 1 W → Calls Tryz.prog 9 #[] W fun E w' => E = .returned (.bool true) ∧ Below W.heap.size W w')
  (l : List Tok) (A : Option Addr) (C : Nat) (o : List Tok) (B : Option Addr) (C2 : Nat) (w : World) (hl : TksAt w w.heap.size A l) (hlC : l.length ≤ C) (hC1 : C ≤ maxLen) (hll : l.length ≤ 1048576) (hlw : wei l ≤ 1048576) (hlk : ∀ t ∈ l, I64 t.kind)
  (ho : TksAt w w.heap.size B o) (hoC : o.length ≤ C2) (hC22 : C2 ≤ maxLen) (hol : o.length ≤ 1048576) (how : wei o ≤ 1048576) (hok : ∀ t ∈ o, I64 t.kind)
  (hT : Lib.Utf8Tabs 0 1 w) : Calls Tryz.prog 6 #[.slice A l.length C, .slice B o.length C2] w fun E w' => E = .returned (.bool true) ∧ Below w.heap.size w w' := by
 have hMl := Lh (much_ok l A C w hl hlC hC1 hll hlw)
 have hMo := Lh (much_ok o B C2 w ho hoC hC22 hol how)
 have HA := Lh (fun (W : World) (hb : Below w.heap.size w W) => hAw W (Utf8Tabs_below hT hb))
 clear hAw
 by_cases hg1 : 20000 < l.length + wei l
 ·rw [dTr hg1] at hMl; clear hl ho hlk hok hMo; go_enter Tryz.func6, Tryz.ntmps6; go_wp2_with fail
  go_at_call 13
  refine hMl.out.mono ?_
  rintro E w1 ⟨rfl, rfl⟩; go_wp2_with fail
  go_at_call 9
  refine (HA.out _ (Below.refl _ _)).mono ?_
  rintro E w2 ⟨rfl, hb⟩; go_wp2_with fail; go_ret; exact ⟨rfl, hb⟩
 by_cases hg2 : 20000 < o.length + wei o
 ·rw [dFa hg1] at hMl; rw [dTr hg2] at hMo; clear hl ho hlk hok; go_enter Tryz.func6, Tryz.ntmps6; go_wp2_with fail
  go_at_call 13
  refine hMl.out.mono ?_
  rintro E w1 ⟨rfl, rfl⟩; go_wp2_with fail
  go_at_call 13
  refine hMo.out.mono ?_
  rintro E w1 ⟨rfl, rfl⟩; go_wp2_with fail
  go_at_call 9
  refine (HA.out _ (Below.refl _ _)).mono ?_
  rintro E w2 ⟨rfl, hb⟩; go_wp2_with fail; go_ret; exact ⟨rfl, hb⟩
 rw [dFa hg1] at hMl
 rw [dFa hg2] at hMo
 obtain ⟨D, hDD⟩ : ∃ D : Nat, 2000018 ≤ D := ⟨_, Nat.le_refl _⟩
 have hlt := fun t ht => Nat.le_trans (wei_mem (l := l) t ht) (show wei l ≤ 65536 by omega)
 have hot := fun t ht => Nat.le_trans (wei_mem (l := o) t ht) (show wei o ≤ 65536 by omega)
 have hpl := plc_len 0 l
 have hxo := plc_ok hlk lq17 hlt
 have hxp := plc_pos l
 obtain ⟨x, hx⟩ : ∃ x, plc 0 l = x := ⟨_, rfl⟩
 have hPl := placed_ok l A C w hl hlC hC1 hll
 have hPa := fun (B1 : Option Addr) (c1 : Nat) (W : World) (hb : Below w.heap.size w W) (h : TkOwn w.heap.size W B1 c1 x) => parse_ok hD hC D x B1 c1 W h.at h.form.1 h.form.2 (hx ▸ hxo) (by rw [← hx, hpl]; omega) (fun V hV => utabs_of hT fun k hk => (hV k (by have := hb.size; omega)).trans (hb.5 k hk)) (mod_enough D x _ (by rw [← hx, hpl]; omega))
 rw [hx] at hPl hpl hxo hxp
 obtain ⟨R, hR⟩ : ∃ R, parseF nB gB nO D x = R := ⟨_, rfl⟩
 rw [hR] at hPa
 have HPl := Lh hPl
 have HPa := Lh hPa
 have hxl : x.length ≤ 20000 := by omega
 have HX := Lh (show _ ∧ _ ∧ _ ∧ _ from ⟨hxo, hxp, hx, hpl⟩)
 have HO := Lh (show _ ∧ _ ∧ _ from ⟨ho, hok, hot⟩)
 clear hPl hPa hxo hxp hx hpl ho hok hot hl hlk hlt
 go_enter Tryz.func6, Tryz.ntmps6
 go_wp2_with fail
 go_at_call 13
 refine hMl.out.mono ?_
 rintro E w1 ⟨rfl, rfl⟩
 go_wp2_with fail
 go_at_call 13
 refine hMo.out.mono ?_
 rintro E w1 ⟨rfl, rfl⟩
 clear hMl hMo
 go_wp2_with fail
 go_at_call 21
 refine HPl.out.mono ?_
 rintro E w1 ⟨B1, c1, rfl, hX1, hb1⟩
 have hfm := hX1.form
 obtain ⟨hf1, hf2⟩ := hfm
 unfold maxLen at hf2
 have hPa := Lh (HPa.out B1 c1 w1 hb1 hX1)
 clear HPl HPa
 go_wp2_with fail
 go_at_call 14
 refine hPa.out.mono ?_
 intro E w2 hE
 clear hPa
 rcases hE with ⟨c, p, rfl, rfl, hq⟩ | ⟨T, r, A2, c2, K2, d2, rfl, rfl, hF2, hq⟩
 ·have hpp := first_places D x HX.out.2.1 hR; obtain ⟨hp1, hp2⟩ := hpp; have hX2 := hX1.at.later hq; have hb2 := hb1.trans (hq.mono hb1.size)
  go_upto_region 5 with fail
  have hbx := ((Below.refl w2.heap.size w2).alloc (Nat.le_refl _) (.cells #[.int .i64 0, .int .i64 0, .string ⟨#[]⟩, .bool false, .slice none 0 0, .slice none 0 0] 29)).alloc lq18 (.cells #[.int .i64 c, .int .i64 p] 31); have hf3 : ((w2.alloc (.cells #[.int .i64 0, .int .i64 0, .string ⟨#[]⟩, .bool false, .slice none 0 0, .slice none 0 0] 29)).alloc (.cells #[.int .i64 c, .int .i64 p] 31)).heap[w2.heap.size + 1]? = some (.cells #[.int .i64 c, .int .i64 p] 31) := by
   have := heap_alloc_new (w2.alloc (.cells #[.int .i64 0, .int .i64 0, .string ⟨#[]⟩, .bool false, .slice none 0 0, .slice none 0 0] 29)) (.cells #[.int .i64 c, .int .i64 p] 31)
   simpa using this
  generalize ((w2.alloc (.cells #[.int .i64 0, .int .i64 0, .string ⟨#[]⟩, .bool false, .slice none 0 0, .slice none 0 0] 29)).alloc (.cells #[.int .i64 c, .int .i64 p] 31)) = w3 at *
  have hX3 := hX2.later hbx; have hb3 := hb2.trans (hbx.mono hb2.size); obtain ⟨g0, g1⟩ := bx_two2 hf3; clear hX2 hX1 hb1 hq hb2 hbx; have j1 : ¬ p < 0 := by omega
  have j2 : (0 : Int) ≤ p := hp1
  by_cases h106 : c = 106
  ·subst h106
   by_cases hp3 : p + 2 ≤ (x.length : Int)
   ·have j3 : ¬ (x.length : Int) < p + 2 := by omega
    obtain ⟨y1, hy1⟩ : ∃ y1, x.take (p + 2).toNat = y1 := ⟨_, rfl⟩; have hyl : p + 2 = (y1.length : Int) := by rw [← hy1, List.length_take]; omega
    have hyx : TksAt w3 w3.heap.size B1 y1 := fun i t hi => by
     rw [← hy1] at hi
     refine hX3 i t ?_
     rw [List.getElem?_take] at hi
     split at hi
     ·exact hi
     ·cases hi
    have hyle : y1.length ≤ x.length := by omega
    have hyg : ∀ i, i < y1.length → x[i]? = y1[i]? := fun i hi => by rw [← hy1, List.getElem?_take, if_pos lq17]
    have HY := Lh hyg; have hnil : TkOwn w3.heap.size w3 none 0 [] := World.ownsRow_nil _ _ _ _; have hyc : (y1.length : Int) ≤ (c1 : Int) := by omega
    have hyc2 : y1.length ≤ c1 := by omega
    have hz3 := hb3.size; clear hy1 hX3 hyg
    go_upto_region 8 with fail
    have hyo : y1.length + o.length ≤ 100000 := by omega
    go_wp2_with (first
     | (at_builtin; refine wpList_append_toks rfl _ _ rfl hnil rfl rfl hyx (by simp only [length_nil]; omega) (Nat.le_refl _) ?_; intro A4 c4 w4 hO4 hb4; rw [List.nil_append] at hO4 ⊢)
     | (at_builtin; refine wpList_append_toks rfl _ _ rfl hO4 rfl rfl (HO.out.1.later (hb3.trans (hb4.mono hz3))) lq17 hb4.size ?_; intro A5 c5 w5 hO5 hb5; obtain ⟨Y, hY⟩ : ∃ Y, y1 ++ o = Y := ⟨_, rfl⟩; rw [hY] at hO5 ⊢))
    have hz4 := hb4.size; have hz5 := hb5.size; have hz2 := (Array.getElem?_eq_some_iff.1 hf3).1; have hbw5 := (hb3.trans (hb4.mono hz3)).trans (hb5.mono hz3); have hf5 := (hb5.5 _ hz2).trans ((hb4.5 _ hz2).trans hf3); have hYl : Y.length ≤ 100000 := by rw [← hY, length_append]; exact hyo
    have hYk : ∀ t ∈ Y, I64 t.kind ∧ t.text.size ≤ 65536 := fun t ht => by
     rw [← hY, List.mem_append] at ht
     rcases ht with ht | ht
     ·obtain ⟨i, hi⟩ := List.mem_iff_getElem?.1 ht; have := HX.out.1 t (mog ((HY.out i (List.getElem?_eq_some_iff.1 hi).1).trans hi)); exact ⟨this.1, this.2.2⟩
     ·exact ⟨HO.out.2.1 t ht, HO.out.2.2 t ht⟩
    have hPl2 := placed_ok Y A5 c5 w5 hO5.at hO5.form.1 hO5.form.2 lq17; have hZo := plc_ok (l := Y) (fun t ht => (hYk t ht).1) lq17 (fun t ht => (hYk t ht).2); have hZl := plc_len 0 Y
    have hR2 : parseF nB gB nO D (plc 0 Y) = .bad 106 p := first_same D x (plc 0 Y) y1.length hyle HX.out.2.1 (fun j hj => by
     rw [plc_get, ← hY, List.getElem?_append_left hj, ← HY.out j hj]; have hxj : x[j]? = some x[j] := gEo; have hp := HX.out.2.1 j _ hxj; rw [hxj]
     show some x[j] = some ⟨x[j].kind, x[j].text, ((0 + j : Nat) : Int)⟩
     rw [Nat.zero_add, ← hp]) hR lq17
    obtain ⟨Z, hZ⟩ : ∃ Z, plc 0 Y = Z := ⟨_, rfl⟩; rw [hZ] at hPl2 hZo hZl hR2; have HZ := Lh (show _ ∧ _ from ⟨hZo, hZl⟩); have hZ6 : Z.length ≤ 100000 := by omega
    clear hb4 hb5 hO4 hf3 g0 g1 hnil hyx hY hYk hZo hZl hZ
    go_at_call 21
    refine hPl2.mono ?_
    rintro E w6 ⟨B6, c6, rfl, hO6, hb6⟩; have hbw6 := hbw5.trans (hb6.mono hbw5.size); have hf6 := (hb6.5 _ lq17).trans hf5; have hfm := hO6.form; have hP6 := Lh (parse_ok hD hC D Z B6 c6 w6 hO6.at hfm.1 hfm.2 HZ.out.1 lq17 (fun V hV => utabs_of hT fun k hk => (hV k (by have := hbw6.size; omega)).trans (hbw6.5 k hk)) (mod_enough D Z _ lq17)); rw [hR2] at hP6; have hz6 := hb6.size; clear hPl2 hfm hO5 hbw5 hb6 hR hR2; go_wp2_with fail
    go_at_call 14
    refine hP6.out.mono ?_
    intro E w7 hE
    rcases hE with ⟨c', p', he, rfl, hq⟩ | ⟨T, r, A7, c7, K7, d7, he, _⟩
    ·injection he with e1 e2
     subst e1 e2; have hbw7 := hbw6.trans (hq.mono hbw6.size); have hf7 := (hq.5 _ lq17).trans hf6; have hz7 := hq.size; clear hP6 hO6 hbw6 hf6 hf5 hq
     go_upto_region 11 with fail
     have hbx := ((Below.refl w7.heap.size w7).alloc (Nat.le_refl _) (.cells #[.int .i64 0, .int .i64 0, .string ⟨#[]⟩, .bool false, .slice none 0 0, .slice none 0 0] 29)).alloc lq18 (.cells #[.int .i64 106, .int .i64 p] 31); have hf8 := (hbx.5 _ lq17).trans hf7
     have hn8 : ((w7.alloc (.cells #[.int .i64 0, .int .i64 0, .string ⟨#[]⟩, .bool false, .slice none 0 0, .slice none 0 0] 29)).alloc (.cells #[.int .i64 106, .int .i64 p] 31)).heap[w7.heap.size]? = some (.cells #[.int .i64 0, .int .i64 0, .string ⟨#[]⟩, .bool false, .slice none 0 0, .slice none 0 0] 29) := by rw [heap_alloc_old _ _ lq18]; exact heap_alloc_new _ _
     have hg8 : ((w7.alloc (.cells #[.int .i64 0, .int .i64 0, .string ⟨#[]⟩, .bool false, .slice none 0 0, .slice none 0 0] 29)).alloc (.cells #[.int .i64 106, .int .i64 p] 31)).heap[w7.heap.size + 1]? = some (.cells #[.int .i64 106, .int .i64 p] 31) := by
      have := heap_alloc_new (w7.alloc (.cells #[.int .i64 0, .int .i64 0, .string ⟨#[]⟩, .bool false, .slice none 0 0, .slice none 0 0] 29)) (.cells #[.int .i64 106, .int .i64 p] 31)
      simpa using this
     generalize ((w7.alloc (.cells #[.int .i64 0, .int .i64 0, .string ⟨#[]⟩, .bool false, .slice none 0 0, .slice none 0 0] 29)).alloc (.cells #[.int .i64 106, .int .i64 p] 31)) = w8 at *
     have hb8 := hbw7.trans (hbx.mono hbw7.size); obtain ⟨g0, g1⟩ := bx_two2 hf8; obtain ⟨q0, q1⟩ := bx_two2 hg8; obtain ⟨n0, n1, n2, n3, n4, n5⟩ := bx_cells hn8; clear hbx hf7 hf8 hn8 hg8 hbw7; go_wp2_with fail
     go_at_call 9
     refine (HA.out _ hb8).mono ?_
     rintro E w9 ⟨rfl, hq⟩; go_wp2_with fail; go_ret; exact ⟨rfl, hb8.trans (hq.mono hb8.size)⟩
    ·cases he
   ·have j3 : (x.length : Int) < p + 2 := by omega
    clear hX3; exact lv50
  ·have o1 : (c != 106) = true := by simp [h106]
   clear hX3 h106 hR
   by_cases h0 : c = 0
   ·subst h0; clear o1; exact lv50
   ·have o2 : (c == 0) = false := by simp [h0]
    clear h0; exact lv50
 ·unfold ndV; have hb2 := hb1.trans (hq.mono hb1.size); clear hF2 hX1 hb1
  go_upto_region 5 with fail
  have hbx := ((Below.refl w2.heap.size w2).alloc (Nat.le_refl _) (.cells #[.int .i64 T.kind, .int .i64 T.pos, .string T.text, .bool T.neg, .slice A2 T.mag.length c2, .slice K2 T.kids.length d2] 29)).alloc lq18 (.cells #[.int .i64 0, .int .i64 0] 31); have hf3 : ((w2.alloc (.cells #[.int .i64 T.kind, .int .i64 T.pos, .string T.text, .bool T.neg, .slice A2 T.mag.length c2, .slice K2 T.kids.length d2] 29)).alloc (.cells #[.int .i64 0, .int .i64 0] 31)).heap[w2.heap.size + 1]? = some (.cells #[.int .i64 0, .int .i64 0] 31) := by
   have := heap_alloc_new (w2.alloc (.cells #[.int .i64 T.kind, .int .i64 T.pos, .string T.text, .bool T.neg, .slice A2 T.mag.length c2, .slice K2 T.kids.length d2] 29)) (.cells #[.int .i64 0, .int .i64 0] 31)
   simpa using this
  generalize ((w2.alloc (.cells #[.int .i64 T.kind, .int .i64 T.pos, .string T.text, .bool T.neg, .slice A2 T.mag.length c2, .slice K2 T.kids.length d2] 29)).alloc (.cells #[.int .i64 0, .int .i64 0] 31)) = w3 at *
  have hb3 := hb2.trans (hbx.mono hb2.size); obtain ⟨g0, g1⟩ := bx_two2 hf3; clear hq hb2 hbx; exact lv50
end
end
section
open Go.Lib
open List (length_append length_cons length_nil length_singleton)
def enc (r : Nat) : List UInt8 := (Utf8.encode (r : Int)).data.toList
def Sc (r : Nat) : Prop := r < 55296 ∨ (57344 ≤ r ∧ r ≤ 1114111)
instance (r : Nat) : Decidable (Sc r) := by unfold Sc; infer_instance
theorem valid_of (r : Nat) (h : Sc r) : Utf8.valid (r : Int) = true := by
 unfold Sc at h; simp [Utf8.valid]; omega
theorem valid_not (r : Nat) (h : ¬ Sc r) : Utf8.valid (r : Int) = false := by
 unfold Sc at h; simp [Utf8.valid]; omega
theorem enc1 (r : Nat) (c1 : r < 128) : enc r = [UInt8.ofNat r] := by
 have v : Utf8.valid (r : Int) = true := valid_of r (by unfold Sc; omega)
 simp [enc, Utf8.encode, v, c1]
theorem enc2 (r : Nat) (c1 : ¬ r < 128) (c2 : r < 2048) : enc r = [UInt8.ofNat (192 + r / 64), UInt8.ofNat (128 + r % 64)] := by
 have v : Utf8.valid (r : Int) = true := valid_of r (by unfold Sc; omega)
 simp [enc, Utf8.encode, v, c1, c2]
theorem enc3 (r : Nat) (c2 : ¬ r < 2048) (c3 : r < 65536) (hv : Sc r) : enc r = [UInt8.ofNat (224 + r / 4096), UInt8.ofNat (128 + r / 64 % 64), UInt8.ofNat (128 + r % 64)] := by
 have v : Utf8.valid (r : Int) = true := valid_of r hv
 have c1 : ¬ r < 128 := by omega
 simp [enc, Utf8.encode, v, c1, c2, c3]
theorem enc4 (r : Nat) (c3 : ¬ r < 65536) (hv : Sc r) : enc r = [UInt8.ofNat (240 + r / 262144), UInt8.ofNat (128 + r / 4096 % 64), UInt8.ofNat (128 + r / 64 % 64), UInt8.ofNat (128 + r % 64)] := by
 have v : Utf8.valid (r : Int) = true := valid_of r hv
 have c1 : ¬ r < 128 := by omega
 have c2 : ¬ r < 2048 := by omega
 simp [enc, Utf8.encode, v, c1, c2, c3]
theorem encBad (r : Nat) (h : ¬ Sc r) : enc r = [239, 191, 189] := by
 simp [enc, Utf8.encode, valid_not r h, Utf8.runeError]
theorem enc_len (r : Nat) : 1 ≤ (enc r).length ∧ (enc r).length ≤ 4 := by
 by_cases hv : Sc r
 ·by_cases c1 : r < 128
  ·simp [enc1 r c1]
  by_cases c2 : r < 2048
  ·simp [enc2 r c1 c2]
  by_cases c3 : r < 65536
  ·simp [enc3 r c2 c3 hv]
  ·simp [enc4 r c3 hv]
 ·simp [encBad r hv]
theorem dec_sc (l : List UInt8) : Sc (decodeL l).1 := by
 rw [decodeL_N]
 have h0 := (l.getD 0 0).toNat_lt; have h1 := (l.getD 1 0).toNat_lt
 generalize (l.getD 0 0).toNat = a at *
 generalize (l.getD 1 0).toNat = b at *
 generalize (l.getD 2 0).toNat = c at *
 generalize (l.getD 3 0).toNat = d at *
 unfold decodeN Sc
 repeat' split
 all_goals simp only
 all_goals omega
def Bad (l : List UInt8) : Prop := (decodeL l).1 = 65533 ∧ (decodeL l).2 = 1
instance (l : List UInt8) : Decidable (Bad l) := by unfold Bad; infer_instance
theorem enc_Z (r : Nat) : enc r = encodeRune (r : Int) := by
 by_cases hv : Sc r
 ·by_cases c1 : r < 128
  ·rw [enc1 r c1, encodeRune, encodeRuneZ_one lq17 lq17]; simp
  by_cases c2 : r < 2048
  ·rw [enc2 r c1 c2, encodeRune, encodeRuneZ_two lq17 lq17]; simp only [List.map_cons, List.map_nil]
   congr 1
  by_cases c3 : r < 65536
  ·unfold Sc at hv; rw [enc3 r c2 c3 hv, encodeRune, encodeRuneZ_three lq17]; simp only [List.map_cons, List.map_nil]
   congr 1
  ·unfold Sc at hv; rw [enc4 r c3 hv, encodeRune, encodeRuneZ_four lq17 lq17]; simp only [List.map_cons, List.map_nil]
   congr 1
 ·rw [encBad r hv, encodeRune, encodeRuneZ_bad (by unfold Sc at hv; omega)]
  rfl
theorem enc_dec (l : List UInt8) (hne : l ≠ []) (hb : ¬ Bad l) : enc (decodeL l).1 = l.take (decodeL l).2 := by
 rw [enc_Z]; exact encode_decode l hne hb
theorem enc_fffd : enc 65533 = [239, 191, 189] := by rfl
def pc : Nat → List UInt8 → List Nat
 | 0, _ => []
 | f + 1, l => if l = [] then [] else (decodeL l).1 :: pc f (l.drop (decodeL l).2)
def pieces (l : List UInt8) : List Nat := pc l.length l
def encs (rs : List Nat) : List UInt8 := rs.flatMap enc
theorem pc_nil : ∀ f, pc f [] = [] := by intro f; cases f <;> simp [pc]
theorem pc_fuel : ∀ (f g : Nat) (l : List UInt8), l.length ≤ f → l.length ≤ g → pc f l = pc g l
 | 0, g, l, h, _ => by
  have : l = [] := List.length_eq_zero_iff.1 lq17; rw [this, pc_nil, pc_nil]
 | f + 1, 0, l, _, h => by
  have : l = [] := List.length_eq_zero_iff.1 lq17; rw [this, pc_nil, pc_nil]
 | f + 1, g + 1, l, hf, hg => by
  simp only [pc]
  by_cases hne : l = []
  ·simp [hne]
  ·have hw := decodeL_width l; rw [if_neg hne, if_neg hne, pc_fuel f g _ (by rw [List.length_drop]; omega) (by rw [List.length_drop]; omega)]
theorem pieces_nil : pieces [] = [] := rfl
theorem pieces_step (l : List UInt8) (hne : l ≠ []) : pieces l = (decodeL l).1 :: pieces (l.drop (decodeL l).2) := by
 have hl : 0 < l.length := List.length_pos_iff.2 hne
 have hw := decodeL_width l
 obtain ⟨n, hn⟩ : ∃ n, l.length = n + 1 := ⟨l.length - 1, by omega⟩
 unfold pieces
 rw [hn]
 show (if l = [] then [] else _) = _
 rw [if_neg hne, pc_fuel n (l.drop (decodeL l).2).length _ (by rw [List.length_drop]; omega) (Nat.le_refl _)]
theorem encs_nil : encs [] = [] := rfl
theorem encs_cons (r : Nat) (rs : List Nat) : encs (r :: rs) = enc r ++ encs rs := rfl
theorem rune_ind {p : List UInt8 → Prop} (h0 : p []) (hs : ∀ l, l ≠ [] → p (l.drop (decodeL l).2) → p l) : ∀ l, p l := by
 have : ∀ (n : Nat) (l : List UInt8), l.length ≤ n → p l := by
  intro n
  induction n with
  | zero => intro l h; rw [List.length_eq_zero_iff.1 (by omega : l.length = 0)]; exact h0
  | succ n ih =>
   intro l h
   by_cases hne : l = []
   ·rw [hne]; exact h0
   ·have hw := decodeL_width l; have hl : 0 < l.length := List.length_pos_iff.2 hne; exact hs l hne (ih _ (by rw [List.length_drop]; omega))
 exact fun l => this l.length l (Nat.le_refl _)
theorem pieces_len : ∀ l, (pieces l).length ≤ l.length := by
 apply rune_ind
 ·simp [pieces_nil]
 ·intro l hne ih; have hw := decodeL_width l; have hle := decodeL_le l hne; rw [List.length_drop] at ih; rw [pieces_step l hne, length_cons]
  omega
theorem encs_len : ∀ l, l.length ≤ (encs (pieces l)).length := by
 apply rune_ind
 ·simp
 ·intro l hne ih; have hle := decodeL_le l hne; rw [List.length_drop] at ih; rw [pieces_step l hne, encs_cons, length_append]
  by_cases hb : Bad l
  ·rw [hb.1, enc_fffd]; have := hb.2
   simp
   omega
  ·rw [enc_dec l hne hb, List.length_take]
   omega
theorem good_iff : ∀ l, (encs (pieces l) = l ↔ validD l = true) := by
 apply rune_ind
 ·simp [pieces_nil, encs_nil, validD_nil]
 ·intro l hne ih; have hle := decodeL_le l hne; rw [validD_step l hne, pieces_step l hne, encs_cons]
  by_cases hb : Bad l
  ·rw [if_pos (show (decodeL l).1 = 65533 ∧ (decodeL l).2 = 1 from hb)]
   constructor
   ·intro h
    exfalso
    have h1 := congrArg List.length h; have h2 := encs_len (l.drop (decodeL l).2); rw [List.length_drop] at h2; rw [hb.1, enc_fffd, length_append] at h1; have := hb.2
    simp at h1
    omega
   ·simp
  ·rw [if_neg (show ¬ ((decodeL l).1 = 65533 ∧ (decodeL l).2 = 1) from hb), ← ih]; rw [enc_dec l hne hb]
   constructor
   ·intro h; have : l.take (decodeL l).2 ++ encs (pieces (l.drop (decodeL l).2)) = l.take (decodeL l).2 ++ l.drop (decodeL l).2 := by rw [h, List.take_append_drop]
    exact List.append_cancel_left this
   ·intro h; rw [h, List.take_append_drop]
theorem dec_head (b : UInt8) (t : List UInt8) : (b.toNat < 128 ∧ decodeL (b :: t) = (b.toNat, 1)) ∨ (128 ≤ b.toNat ∧ 128 ≤ (decodeL (b :: t)).1) := by
 by_cases h : b.toNat < 128
 ·exact Or.inl ⟨h, decodeL_ascii b t h⟩
 ·refine Or.inr ⟨by omega, ?_⟩
  have hz : 0 < (⟨(b :: t).toArray⟩ : ByteArray).size := by simp [ByteArray.size]
  exact (decode_high (⟨(b :: t).toArray⟩ : ByteArray) 0 hz (by show 128 ≤ ((b :: t).toArray[0]).toNat; simp; omega)).1
end
end Go.Proofs.YtjndbcnmmnkilaaGreatDoor
