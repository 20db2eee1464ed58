/- Joined by a program: Lx11, Lx12, Scopes, Lx13. -/
import Derived.Test.YtjndbcnmmnkilaaGreatDoorPF37
namespace Go.Proofs.YtjndbcnmmnkilaaGreatDoor
set_option linter.unusedVariables false
set_option linter.unusedSimpArgs false
set_option maxRecDepth 1000000
set_option maxHeartbeats 16000000
section
open Go.RowKit
open List (length_append length_cons length_nil length_singleton)
def blM (X : Nat) (w : World) : Nat := match w.cell? ⟨X, 4, none⟩ with | some (.slice _ n _) => n | _ => 0
theorem blM_eq {w : World} {X n c : Nat} {A : Option Addr} (h : w.cell? ⟨X, 4, none⟩ = some (.slice A n c)) : blM X w = n := by unfold blM; rw [h]
theorem pop_more {n d : Nat} {r : List Nat} (h : n < d) : popL n (d :: r) = popL n r := by rw [popL, if_pos h]
theorem pop_done {n d : Nat} {r : List Nat} (h : ¬ n < d) : popL n (d :: r) = d :: r := by rw [popL, if_neg h]
theorem pop_le (n : Nat) : ∀ l : List Nat, (popL n l).length ≤ l.length
 | [] => Nat.le_refl _
 | d :: r => by
  rw [popL]
  split
  ·have := pop_le n r; rw [length_cons]
   omega
  ·exact Nat.le_refl _
theorem last_more {d : Nat} {r : List Nat} (h : (d :: r).getLast? = some 0) (hd : d ≠ 0) : r.getLast? = some 0 := by
 cases r with
 | nil => simp at h; omega
 | cons a b => rw [List.getLast?_cons_cons] at h; exact h
section
variable {w : World} {base X : Nat} {s : ByteArray} {p o : Nat} {st : List Nat} {toks : List Tk}
theorem lxInd_less {d n : Nat} {r : List Nat} (hst : st = d :: r) (hL : LxS w base X s p o st toks) (hz : base ≤ w.heap.size) (hn : toks.length + st.length ≤ 1000000) (hp : p ≤ 1099511) (hd : n ≤ d) (hn2 : n ≤ 1099511) (hbot : st.getLast? = some 0) :
  Calls Tryz.prog 87 #[.pointer (some ⟨X, 0, none⟩), .int .i64 n] w (IndR w base X s p o (if (popL n st).headD 0 = n then .inl (popL n st, toks ++ List.replicate (st.length - (popL n st).length) ⟨8, [], p⟩) else .inr 103)) := by
 have hmf : ∀ (fn : Fn) (first cap : Array Value) (w : World), (Instr.makeFunc fn first cap).run Tryz.prog w = .ok (.func fn first cap) w := fun _ _ _ _ => rfl
 obtain ⟨R, hR⟩ : ∃ R, IndR w base X s p o (if (popL n st).headD 0 = n then .inl (popL n st, toks ++ List.replicate (st.length - (popL n st).length) ⟨8, [], p⟩) else .inr 103) = R := ⟨_, rfl⟩
 have hBad := Lh (fun (h : (popL n st).headD 0 ≠ n) e w' (he : e = .panicked [{ v := stopV 103 p, recovered := false }]) (hb : Below base w w') => show R e w' by rw [← hR, if_neg h]; exact ⟨he, hb⟩)
 have hGood := Lh (fun (h : (popL n st).headD 0 = n) e w' (he : e = .returned (.tuple #[])) (hl : LxS w' base X s p o (popL n st) (toks ++ List.replicate (st.length - (popL n st).length) ⟨8, [], p⟩)) (hb : Below base w w') => show R e w' by rw [← hR, if_pos h]; exact ⟨he, hl, hb⟩)
 rw [hR]
 clear hR
 have hLB := lxB_new hL
 obtain ⟨W1, hW1⟩ : ∃ W1, w.alloc (.cells #[.pointer (some ⟨X, 0, none⟩)] 82) = W1 := ⟨_, rfl⟩
 have hb1 : Below w.heap.size w W1 := by rw [← hW1]; exact (Below.refl _ _).alloc (Nat.le_refl _) _
 rw [hW1] at hLB
 have hzb := hb1.mono hz
 have hz1 := Nat.le_trans hz hb1.size
 have hdn : (n : Int) ≤ (d : Int) := by omega
 have hdb : decide (d < n) = false := dFo
 clear hL hb1
 rw [hst] at hLB
 have hrl : st.length = r.length + 1 := by rw [hst]; rfl
 go_enter Tryz.func87, Tryz.ntmps87
 go_wp2_with fail
 clear hW1
 go_at_call 165
 refine (lxLast_ok w.heap.size hLB.box.1 hLB.lx lq17).mono ?_
 rintro e w2 ⟨rfl, hb2⟩
 replace hLB := hLB.later hb2
 have hz2 := Nat.le_trans hz1 hb2.size
 have hzb2 := hzb.trans (hb2.mono hz1)
 rw [← hst] at hLB
 clear hb2 hzb hz1 hrl
 obtain ⟨B, hBe⟩ : ∃ B, w.heap.size = B := ⟨_, rfl⟩
 rw [hBe] at hLB
 rw [hBe]
 clear hBe
 have HL := Lh hbot
 clear hst hbot hd
 go_wp2_with fail
 clear hdn
 go_loopw [38] (fun v wr => ∃ (st' : List Nat) (toks' : List Tk), LxB wr base X s p o st' toks' B ∧ Below base w wr ∧ base ≤ wr.heap.size ∧ Hid (st'.getLast? = some 0) ∧ Hid (popL n st' = popL n st) ∧ Hid (toks' = toks ++ List.replicate (st.length - st'.length) ⟨8, [], p⟩) ∧ st'.length ≤ st.length ∧ toks'.length + st'.length ≤ 1000000) (fun v wr => blM X wr)
 case atStart => exact ⟨st, toks, hLB, hzb2, hz2, HL, Lh rfl, Lh lq18, Nat.le_refl _, hn⟩
 case round =>
  obtain ⟨st', toks', hLr, hbr, hzr, hl0, hpop, htk, hlen, hcnt⟩ := hrel; clear hLB hzb2 hz2 HL hn
  cases st' with
  | nil => exact absurd hl0.out lq18
  | cons d' r' =>
   have hlr : r'.length + 1 ≤ st.length := by simpa using hlen
   have hM : Hid (blM X wr = r'.length + 1) := by
    obtain ⟨g, BC, q4, hl4, hm4, f4, _⟩ := hLr.lx.cellB; exact Lh (blM_eq q4)
   by_cases hlt : n < d'
   ·have hlt2 : (n : Int) < (d' : Int) := by omega
    have hl0' := Lh (last_more hl0.out lq17); have hpop' := Lh (show popL n r' = popL n st by rw [← hpop.out, pop_more hlt]); clear hl0 hpop hlt; go_wp2_with fail
    go_at_call 165
    refine (lxLast_ok B hLr.box.1 hLr.lx (by simp at hcnt; omega)).mono ?_
    rintro e w3 ⟨rfl, hb3⟩
    replace hLr := hLr.later hb3
    have hz3 := Nat.le_trans hzr hb3.size; have hzb3 := hbr.trans (hb3.mono hzr); obtain ⟨hB2, hBs2, hBX2⟩ := hLr.box; obtain ⟨q0, q1, q3, f1, f3, hX, hbX⟩ := hLr.lx.cells; clear hb3 hbr hzr; go_wp2_with fail
    go_region_held3 (fun W => W.cell? ⟨B, 0, none⟩ = some (.pointer (some ⟨X, 0, none⟩)) ∧ W.cell? ⟨X, 1, none⟩ = some (.int .i64 p)) (first | exact ⟨hB2, q1⟩ | exact ⟨hB3, q13⟩ | go_keep) (first | (go_at_call 89; refine (lxPutB_ok 8 ⟨#[]⟩ p (hLr.later (below_draws w3 1)) hz3 lq16 (by simp at hcnt; omega)).mono ?_; rintro e w4 ⟨rfl, hL4, hb4⟩; obtain ⟨hB3, hBs3, hBX3⟩ := hL4.box; obtain ⟨q03, q13, q33, f13, f33, hX3, hbX3⟩ := hL4.lx.cells))
    clear q0 q1 q3 f1 f3 hB2 hBs2; have hz4 := Nat.le_trans hz3 hb4.size; have hzb4 := hzb3.trans (((below_draws w3 1).mono hz3).trans hb4); obtain ⟨g, BC, q4, hl4, hm4, f4, _⟩ := hL4.lx.cellB; have i1 : ((r'.length + 1 : Nat) : Int) - 1 = (r'.length : Int) := by omega
    have i2 : (r'.length : Int) + 1 - 1 = (r'.length : Int) := by omega
    have i3 : (r'.length : Int) ≤ (BC : Int) := by omega
    have i5 : IntKind.i64.wrap (r'.length : Int) = (r'.length : Int) := by rw [IntKind.wrap_i64]; omega
    have i6 : IntKind.i64.wrap ((r'.length : Int) + 1 - 1) = (r'.length : Int) := by rw [IntKind.wrap_i64]; omega
    have i7 : IntKind.i64.wrap (((r'.length + 1 : Nat) : Int) - 1) = (r'.length : Int) := by rw [IntKind.wrap_i64]; omega
    have i8 : ¬ ((BC : Int) < (r'.length : Int)) := by omega
    have i9 : r'.length ≤ BC := by omega
    have i4 : (0 : Int) ≤ (r'.length : Int) := by omega
    go_wp2_with fail
    go_still_tail 14, lq15
    obtain ⟨v5, hv5, hb5⟩ : ∃ u, u = w4.drew ∧ Below w4.heap.size w4 u := ⟨_, rfl, lxDrew (Below.refl _ _)⟩; change wpList _ _ _ _ _ w4.drew; rw [← hv5]; have hL5 := (hL4.later hb5).pop (cLt hb5 q4); have f45 : v5.frozen? ⟨X, 4, none⟩ = false := by rw [hv5]; exact f4
    have q45 := cLt hb5 q4; have hX5 : X < v5.heap.size := Nat.lt_of_lt_of_le hX3 hb5.size; have hz5 := Nat.le_trans hz4 hb5.size; have hzb5 := hzb4.trans (hb5.mono hz4); clear hv5; go_wp2
    go_roundw
    case rel =>
     exact ⟨r', _, hL5, Below.setCell (p := ⟨X, 4, none⟩) hzb5 hbX3 _, by rw [World.size_setCell]; exact hz5, hl0', hpop', Lh (by
      rw [htk.out, List.append_assoc]
      congr 1
      rw [show st.length - r'.length = st.length - (d' :: r').length + 1 by rw [length_cons]; omega, List.replicate_succ']), by omega, by rw [length_append]; simp at hcnt ⊢; omega⟩
    case measure =>
     rw [hM.out, blM_eq (cell_set_eq q45)]
     omega
   ·have hge : (d' : Int) ≤ (n : Int) := by omega
    have hpe : popL n st = d' :: r' := by rw [← hpop.out, pop_done hlt]
    by_cases he : d' = n
    ·have ne1 : ((d' : Int) != (n : Int)) = false := by simp; omega
     have hfin : Hid ((popL n st).headD 0 = n ∧ ∀ W, LxS W base X s p o (d' :: r') toks' → LxS W base X s p o (popL n st) (toks ++ List.replicate (st.length - (popL n st).length) ⟨8, [], p⟩)) := Lh ⟨by rw [hpe]; exact he, fun W h => by rw [hpe, ← htk.out]; exact h⟩; clear he hpe hlt hpop hl0; go_wp2_with fail
     go_at_call 165
     refine (lxLast_ok B hLr.box.1 hLr.lx (by simp at hcnt; omega)).mono ?_
     rintro e w3 ⟨rfl, hb3⟩
     replace hLr := hLr.later hb3
     have hz3 := Nat.le_trans hzr hb3.size; have hzb3 := hbr.trans (hb3.mono hzr); go_wp2_with fail
     go_at_call 165
     refine (lxLast_ok B hLr.box.1 hLr.lx (by simp at hcnt; omega)).mono ?_
     rintro e w4 ⟨rfl, hb4⟩
     replace hLr := hLr.later hb4
     have hzb4 := hzb3.trans (hb4.mono hz3); go_wp2
     go_end0
     exact hGood.out hfin.out.1 _ _ rfl (hfin.out.2 _ hLr.lx) hzb4
    ·have ne1 : ((d' : Int) != (n : Int)) = true := by simp; omega
     have hfin := Lh (show (popL n st).headD 0 ≠ n by rw [hpe]; exact he); clear he hpe hlt hpop hl0; go_wp2_with fail
     go_at_call 165
     refine (lxLast_ok B hLr.box.1 hLr.lx (by simp at hcnt; omega)).mono ?_
     rintro e w3 ⟨rfl, hb3⟩
     replace hLr := hLr.later hb3
     have hz3 := Nat.le_trans hzr hb3.size; have hzb3 := hbr.trans (hb3.mono hzr); go_wp2_with fail
     go_at_call 165
     refine (lxLast_ok B hLr.box.1 hLr.lx (by simp at hcnt; omega)).mono ?_
     rintro e w4 ⟨rfl, hb4⟩
     replace hLr := hLr.later hb4
     have hz4 := Nat.le_trans hz3 hb4.size; have hzb4 := hzb3.trans (hb4.mono hz3); obtain ⟨hB2, hBs2, hBX2⟩ := hLr.box; obtain ⟨q0, q1, q3, f1, f3, hX, hbX⟩ := hLr.lx.cells; clear hb3 hb4 hbr hzr hzb3 hz3; go_wp2_with fail
     go_still_tail 5, lq15
     go_wp2_with (go_at_call 166; refine (lxFail_ok X 103 p _).mono ?_; rintro e w' ⟨rfl, rfl⟩); exact ⟨rfl, hBad.out hfin.out _ _ rfl (hzb4.trans ((below_draws w4 1).mono hz4))⟩
end
section
variable {w : World} {base X : Nat} {s : ByteArray} {p o : Nat} {st : List Nat} {toks : List Tk}
theorem lxIndent_ok {n : Nat} (hL : LxS w base X s p o st toks) (hz : base ≤ w.heap.size) (hn : toks.length + st.length ≤ 1000000) (hst : st.length ≤ 1000) (hp : p ≤ 1099511) (hn2 : n ≤ 1099511) (hbot : st.getLast? = some 0) :
  Calls Tryz.prog 87 #[.pointer (some ⟨X, 0, none⟩), .int .i64 n] w (IndR w base X s p o (beginL n p st toks)) := by
 cases st with
 | nil => exact absurd hbot lq18
 | cons d r =>
  rw [beginL, List.headD_cons]
  by_cases h : d < n
  ·rw [if_pos h]; exact lxInd_more hL hz lq17 (by simp at hst; omega) hp h hn2
  ·rw [if_neg h]; exact lxInd_less rfl hL hz hn hp lq17 hn2 hbot
theorem Lx.lastTok {l : List Tk} {t : Tk} {LA BA : Option Addr} {LC BC : Nat} (h : Lx w base X s p o st (l ++ [t]) LA LC BA BC) : ∃ g, LA = some ⟨g, 0, none⟩ ∧ w.cell? ⟨g, l.length * 3, none⟩ = some (.int .i64 t.kind) ∧ l.length + 1 ≤ LC ∧ LC ≤ 9223372036854775807 := by
 rcases h.ol.2 with ⟨_, hn⟩ | ⟨g, cap, cur, hv, hb, hg, hc, hmx, hs, ht⟩
 ·simp at hn
 ·injection hv with e1 e2 e3
  subst e1 e3
  refine ⟨g, rfl, ?_, by simpa using hc, hmx⟩
  have hcl := h.ol.cells (g := g) rfl (l.length * 3) (.int .i64 t.kind) (by
   rw [tkVs_snoc, List.getElem?_append_right (by rw [tkVs_len]; omega), tkVs_len, Nat.sub_self]; rfl)
  rw [Addr.add_lit, Nat.zero_add] at hcl; exact hcl
def offB (t : Option Tk) : Bool := match t with | some t => decide (t.kind < 6) || decide (8 < t.kind) | none => false
theorem lxEnd_tail {d : Nat} {r : List Nat} (hL : LxS w base X s p o (d :: r) toks) (hz : base ≤ w.heap.size) (hs : s.size ≤ 1099511) (hn : toks.length + r.length ≤ 900000) (b : Bool) (t : Option Tk) (ht : toks.getLast? = t) (hb : b = offB t) (T0 : List Tk) (hT0 : toks ++ (if b then [⟨6, [], s.size⟩] else []) = T0) :
  Calls Tryz.prog 90 #[.pointer (some ⟨X, 0, none⟩)] w fun e w' => e = .returned (.tuple #[]) ∧ LxS w' base X s p o (d :: r) (T0 ++ List.replicate r.length ⟨8, [], s.size⟩ ++ [⟨9, [], s.size⟩]) ∧ Below base w w' := by
 have hTl : T0.length ≤ toks.length + 1 := by rw [← hT0, length_append]; split <;> simp
 cases t with
 | some t' =>
  obtain ⟨l, rfl⟩ : ∃ l, toks = l ++ [t'] := by
   obtain ⟨l, e⟩ := List.getLast?_eq_some_iff.1 ht; exact ⟨l, e⟩
  obtain ⟨g, LC, hk, hl, hm, q2⟩ : ∃ g LC, w.cell? ⟨g, l.length * 3, none⟩ = some (.int .i64 t'.kind) ∧ l.length + 1 ≤ LC ∧ LC ≤ 9223372036854775807 ∧ w.cell? ⟨X, 2, none⟩ = some (.slice (some ⟨g, 0, none⟩) (l.length + 1) LC) := by
   obtain ⟨LA, LC, BA, BC, hx⟩ := hL; obtain ⟨g, rfl, hk, hl, hm⟩ := hx.lastTok; have q2 := hx.c2; rw [length_append] at q2; exact ⟨g, LC, hk, hl, hm, q2⟩
  have hcnt : l.length + 1 + r.length ≤ 900000 := by simpa using hn
  rw [length_append] at hTl; simp only [length_cons, length_nil] at hTl; obtain ⟨q0, q1, q3, f1, f3, hX, hbX⟩ := hL.cells; obtain ⟨b1, e1⟩ : ∃ b, decide (t'.kind < 6) = b := ⟨_, rfl⟩; obtain ⟨b2, e2⟩ : ∃ b, decide (8 < t'.kind) = b := ⟨_, rfl⟩; unfold offB at hb
  dsimp only at hb
  rw [e1, e2] at hb; subst hb; have HT := Lh hT0; clear hT0 ht hn; have i1 : decide (0 < l.length + 1) = true := by simp
  have i2 : ((l.length + 1 : Nat) : Int) - 1 = (l.length : Int) := by omega
  have i3 : (l.length : Int) + 1 - 1 = (l.length : Int) := by omega
  have i4 : (0 : Int) ≤ (l.length : Int) := by omega
  have i5 : (0 : Int) < ((l.length + 1 : Nat) : Int) := by omega
  have i6 : (l.length : Int) < ((l.length + 1 : Nat) : Int) := by omega
  cases b1 <;> cases b2
  ·have hL2 : LxS w base X s p o (d :: r) T0 := by rw [← HT.out]; simpa using hL
   have hb2 := Below.refl base w; have hz2 := hz
   generalize w = w2 at *
   clear hL q0 q1 q3 f1 f3 hX hbX; obtain ⟨q0, q1, q3, f1, f3, hX2, hbX2⟩ := hL2.cells; obtain ⟨g4, BC, q4, hl4, hm4, f4⟩ : ∃ g BC, w2.cell? ⟨X, 4, none⟩ = some (.slice (some ⟨g, 0, none⟩) (r.length + 1) BC) ∧ r.length + 1 ≤ BC ∧ BC ≤ 9223372036854775807 ∧ True := by
    obtain ⟨g, BC, q4, hl4, hm4, f4, _⟩ := hL2.cellB; exact ⟨g, BC, q4, hl4, hm4, trivial⟩
   have j1 : (1 : Int) ≤ (r.length : Int) + 1 := by omega
   have j2 : (r.length : Int) + 1 ≤ (BC : Int) := by omega
   have j3 : (1 : Int) ≤ ((r.length + 1 : Nat) : Int) := by omega
   have j4 : 1 ≤ r.length + 1 := by omega
   have j5 : r.length + 1 - 1 = r.length := by omega
   rcases (by omega : ¬ (BC = 1) ∨ BC = 1) with hbc | hbc
   all_goals
    go_enter Tryz.func90, Tryz.ntmps90; go_wp2_with fail; clear q0 q1 q3 f1 f3 q4 hbc q2 hk j1 j2 j3 j4 j5 hl4 hm4; exact lv4
  all_goals
   go_enter Tryz.func90, Tryz.ntmps90; go_wp2_with fail
   go_at_call 89
   refine (lxPut_ok 6 ⟨#[]⟩ s.size hL hz lq16 (by simp; omega)).mono ?_
   rintro e w2 ⟨rfl, hL2, hb2⟩; have hz2 := Nat.le_trans hz hb2.size
   replace hL2 : LxS w2 base X s p o (d :: r) T0 := by rw [← HT.out]; exact hL2
   clear q0 q1 q3 f1 f3 q2 hk hX hbX hL; obtain ⟨q0, q1, q3, f1, f3, hX2, hbX2⟩ := hL2.cells; obtain ⟨g4, BC, q4, hl4, hm4, f4⟩ : ∃ g BC, w2.cell? ⟨X, 4, none⟩ = some (.slice (some ⟨g, 0, none⟩) (r.length + 1) BC) ∧ r.length + 1 ≤ BC ∧ BC ≤ 9223372036854775807 ∧ True := by
    obtain ⟨g, BC, q4, hl4, hm4, f4, _⟩ := hL2.cellB; exact ⟨g, BC, q4, hl4, hm4, trivial⟩
   have j1 : (1 : Int) ≤ (r.length : Int) + 1 := by omega
   have j2 : (r.length : Int) + 1 ≤ (BC : Int) := by omega
   have j3 : (1 : Int) ≤ ((r.length + 1 : Nat) : Int) := by omega
   have j4 : 1 ≤ r.length + 1 := by omega
   have j5 : r.length + 1 - 1 = r.length := by omega
   rcases (by omega : ¬ (BC = 1) ∨ BC = 1) with hbc | hbc
   all_goals
    go_wp2_with fail; clear q0 q1 q3 f1 f3 q4 hbc j1 j2 j3 j4 j5 hl4 hm4; exact lv4
 | none =>
  have htn : toks = [] := List.getLast?_eq_none_iff.1 ht; unfold offB at hb
  dsimp only at hb
  subst hb htn; have hL2 : LxS w base X s p o (d :: r) T0 := by rw [← hT0]; simpa using hL
  have hcnt : r.length ≤ 900000 := by simpa using hn
  replace hTl : T0.length ≤ 1 := by simpa using hTl
  clear hT0 ht hn; obtain ⟨A2, C2, q2⟩ : ∃ A C, w.cell? ⟨X, 2, none⟩ = some (.slice A 0 C) := by
   obtain ⟨LA, LC, BA, BC, hx⟩ := hL; exact ⟨LA, LC, hx.c2⟩
  have hb2 := Below.refl base w; have hz2 := hz
  generalize w = w2 at *
  clear hL; obtain ⟨q0, q1, q3, f1, f3, hX2, hbX2⟩ := hL2.cells; obtain ⟨g4, BC, q4, hl4, hm4, f4⟩ : ∃ g BC, w2.cell? ⟨X, 4, none⟩ = some (.slice (some ⟨g, 0, none⟩) (r.length + 1) BC) ∧ r.length + 1 ≤ BC ∧ BC ≤ 9223372036854775807 ∧ True := by
   obtain ⟨g, BC, q4, hl4, hm4, f4, _⟩ := hL2.cellB; exact ⟨g, BC, q4, hl4, hm4, trivial⟩
  have j1 : (1 : Int) ≤ (r.length : Int) + 1 := by omega
  have j2 : (r.length : Int) + 1 ≤ (BC : Int) := by omega
  have j3 : (1 : Int) ≤ ((r.length + 1 : Nat) : Int) := by omega
  have j4 : 1 ≤ r.length + 1 := by omega
  have j5 : r.length + 1 - 1 = r.length := by omega
  rcases (by omega : ¬ (BC = 1) ∨ BC = 1) with hbc | hbc
  all_goals
   go_enter Tryz.func90, Tryz.ntmps90; go_wp2_with fail; clear q0 q1 q3 f1 f3 q4 hbc q2 j1 j2 j3 j4 j5 hl4 hm4; exact lv4
theorem endL_eq {n d : Nat} {r : List Nat} {toks : List Tk} : endL n (d :: r) toks = toks ++ (if offB toks.getLast? then [⟨6, [], n⟩] else []) ++ List.replicate r.length ⟨8, [], n⟩ ++ [⟨9, [], n⟩] := by
 unfold endL
 cases toks.getLast? with
 | none => simp [offB]
 | some t =>
  dsimp only
  by_cases h : 6 ≤ t.kind ∧ t.kind ≤ 8
  ·have : offB (some t) = false := by simp [offB]; omega
   rw [if_pos h, this]; simp
  ·have : offB (some t) = true := by simp [offB]; omega
   rw [if_neg h, this]; simp
theorem lxEnd_ok (hL : LxS w base X s p o st toks) (hz : base ≤ w.heap.size) (hs : s.size ≤ 1099511) (hn : toks.length + st.length ≤ 900000) (hst : st ≠ []) :
  Calls Tryz.prog 90 #[.pointer (some ⟨X, 0, none⟩)] w fun e w' => e = .returned (.tuple #[]) ∧ LxS w' base X s p o st (endL s.size st toks) ∧ Below base w w' := by
 cases st with
 | nil => exact absurd rfl hst
 | cons d r =>
  rw [endL_eq]; exact lxEnd_tail hL hz hs (by simp at hn; omega) _ _ rfl rfl _ rfl
end
end
section
open List (length_append length_cons length_nil length_singleton)
def jumps (J : Nat → Act → World → Prop) (Q : Exit → Act → World → Prop) : Exit → Act → World → Prop
 | .goto l, a, w => J l a w
 | e, a, w => Q e a w
theorem wp_scope_many {P : Program} {a : Act} {w : World} {Q : Exit → Act → World → Prop} {c : Code} (J : Nat → Act → World → Prop) (μ : Nat → Act → World → Nat)
  (first : c.wp P (jumps J Q) a w)
  (pass : ∀ l a w, J l a w → ∃ rest, findLabel c l = some rest ∧ rest.wp P (jumps (fun l' a' w' => J l' a' w' ∧ μ l' a' w' < μ l a w) Q) a w) : (Code.scope c).wp P Q a w := by
 intro b k cs
 have key : ∀ n l a w, μ l a w = n → J l a w → ∃ rest, findLabel c l = some rest ∧ ∃ e a' w', Q e a' w' ∧ Arrives P (lone (b.at a (.code rest :: .inScope c :: k)) cs w) b k cs e a' w' := by
  intro n
  induction n using Nat.strongRecOn with
  | _ n ih =>
   intro l a w hn hJ; obtain ⟨rest, hf, hp⟩ := pass l a w hJ
   refine ⟨rest, hf, ?_⟩
   obtain ⟨e, a₁, w₁, hq, harr⟩ := hp b (.inScope c :: k) cs
   cases e with
   | normal => exact ⟨.normal, a₁, w₁, hq, Steps.trans harr (.one step_inScope)⟩
   | exit id => exact ⟨.exit id, a₁, w₁, hq, fun k' hk => harr k' (by simp [exitTo, hk])⟩
   | goto l' =>
    obtain ⟨hJ', hlt⟩ := hq; obtain ⟨rest', hf', e₂, a₂, w₂, hq₂, harr₂⟩ := ih _ lq17 l' a₁ w₁ rfl hJ'; exact ⟨e₂, a₂, w₂, hq₂, .of_steps (harr _ (by simp [gotoIn, hf'])) harr₂⟩
   | ret => exact ⟨_, a₁, w₁, hq, harr⟩
   | panic ch => exact ⟨_, a₁, w₁, hq, harr⟩
   | outgrown => exact ⟨_, a₁, w₁, hq, harr⟩
 obtain ⟨e, a₁, w₁, hq, harr⟩ := first b (.inScope c :: k) cs
 cases e with
 | normal => exact ⟨.normal, a₁, w₁, hq, .head step_scope (Steps.trans harr (.one step_inScope))⟩
 | exit id => exact ⟨.exit id, a₁, w₁, hq, fun k' hk => .head step_scope (harr k' (by simp [exitTo, hk]))⟩
 | goto l' =>
  have hJ' : J l' a₁ w₁ := hq; obtain ⟨rest, hf, e₂, a₂, w₂, hq₂, harr₂⟩ := key _ l' a₁ w₁ rfl hJ'; exact ⟨e₂, a₂, w₂, hq₂, .of_steps (.head step_scope (harr _ (by simp [gotoIn, hf]))) harr₂⟩
 | ret => exact ⟨_, a₁, w₁, hq, .of_steps (.one step_scope) harr⟩
 | panic ch => exact ⟨_, a₁, w₁, hq, .of_steps (.one step_scope) harr⟩
 | outgrown => exact ⟨_, a₁, w₁, hq, .of_steps (.one step_scope) harr⟩
end
section
open Go.RowKit
open List (length_append length_cons length_nil length_singleton)
theorem list_map_get (l : List Value) : l = (List.range l.length).map fun i => l.getD i undef := by
 refine List.ext_getElem lq18 fun i h1 h2 => ?_
 simp [h1]
theorem frame_out (t : Array Value) (X : Nat) (hs : t.size = 103) (h0 : t[0]? = some (.pointer (some ⟨X, 0, none⟩))) : ∃ f : Nat → Value, t = #[.pointer (some ⟨X, 0, none⟩), f 1, f 2, f 3, f 4, f 5, f 6, f 7, f 8, f 9, f 10, f 11, f 12, f 13, f 14, f 15, f 16, f 17, f 18, f 19, f 20, f 21, f 22, f 23, f 24, f 25, f 26, f 27, f 28, f 29, f 30, f 31, f 32, f 33, f 34, f 35, f 36, f 37, f 38, f 39, f 40, f 41, f 42, f 43, f 44, f 45, f 46, f 47, f 48, f 49, f 50, f 51, f 52, f 53, f 54, f 55, f 56, f 57, f 58, f 59, f 60, f 61, f 62, f 63, f 64, f 65, f 66, f 67, f 68, f 69, f 70, f 71, f 72, f 73, f 74, f 75, f 76, f 77, f 78, f 79, f 80, f 81, f 82, f 83, f 84, f 85, f 86, f 87, f 88, f 89, f 90, f 91, f 92, f 93, f 94, f 95, f 96, f 97, f 98, f 99, f 100, f 101, f 102] := by
 refine ⟨fun i => t.toList.getD i undef, ?_⟩
 have h := list_map_get t.toList
 rw [show t.toList.length = 103 by simpa using hs] at h
 have h00 : t.toList.getD 0 undef = .pointer (some ⟨X, 0, none⟩) := by
  have : t.toList[0]? = some (.pointer (some ⟨X, 0, none⟩)) := by simpa using h0
  rw [List.getD_eq_getElem?_getD, this]; rfl
 rw [← h00]
 apply Array.toList_inj.1
 rw [h]
 rfl
def AllR (w : World) (base X : Nat) (s : ByteArray) (R : LR) (e : Ending) (w' : World) : Prop :=
 match R with
 | .ok l => e = .returned (.tuple #[]) ∧ (∃ p o st, LxS w' base X s p o st l) ∧ Below base w w'
 | .bad c a => e = .panicked [{ v := stopV c a, recovered := false }] ∧ Below base w w'
structure Ok (s : ByteArray) (p o : Nat) (st : List Nat) (toks : List Tk) (k : Nat) : Prop where
 hp : p ≤ s.size
 ho : o ≤ 60
 hb : st.getLast? = some 0
 hc : toks.length + st.length ≤ k
 hd : st.length ≤ 41
def Kept (w0 : World) (base X : Nat) (s : ByteArray) (p o : Nat) (st : List Nat) (toks : List Tk) (k : Nat) (w : World) : Prop :=
 LxS w base X s p o st toks ∧ Below base w0 w ∧ base ≤ w.heap.size ∧ Ok s p o st toks k
def AtL (w0 : World) (base X : Nat) (s : ByteArray) (R : LR) (l : Nat) (w : World) : Prop :=
 match l with
 | 0 => ∃ p st toks, Kept w0 base X s p 0 st toks (3 * p + 1) w ∧ lexR s.data.toList ⟨p, 0, true, 0, st, toks⟩ = R
 | 1 => ∃ p b st toks, Kept w0 base X s p 0 st toks (3 * p + 4) w ∧ lexR s.data.toList ⟨p, b, true, 0, st, toks⟩ = R ∧ (∀ h : p < s.size, s[p] = 10)
 | 2 => ∃ p o b st toks, Kept w0 base X s p o st toks (3 * p + 3) w ∧ lexR s.data.toList ⟨p, b, false, o, st, toks⟩ = R
 | 3 => ∃ p o st toks, Kept w0 base X s p o st toks (3 * p + 4) w ∧ R = .ok (endL s.size st toks)
 | _ => False
def JL (w0 : World) (base X : Nat) (s : ByteArray) (R : LR) (l : Nat) (a : Act) (w : World) : Prop :=
 a.tmps.size = 103 ∧ a.tmps[0]? = some (.pointer (some ⟨X, 0, none⟩)) ∧ a.defers = [] ∧ AtL w0 base X s R l w
def rk (l : Nat) : Nat := if l = 0 then 3 else if l = 2 then 2 else if l = 1 then 1 else 0
def muL (s : ByteArray) (X : Nat) (l : Nat) (a : Act) (w : World) : Nat := 4 * atM s X w + rk l
theorem mu_eq {w : World} {s : ByteArray} {X p : Nat} {a : Act} {l k : Nat} (h : w.cell? ⟨X, 1, none⟩ = some (.int .i64 p)) (hk : rk l = k) : muL s X l a w = 4 * (s.size - p) + k := by rw [muL, atM_eq h, hk]
theorem step_end {s : List UInt8} {S : LS} (h : s.length ≤ S.pos) : lexR s S = .ok (endL s.length S.st S.toks) := by
 refine lexR_end ?_
 unfold stepL
 rw [List.drop_eq_nil_of_le h]
theorem step_nl {s : ByteArray} {p b o : Nat} {h : Bool} {st : List Nat} {toks : List Tk} (hp : p < s.size) (hc : s[p] = 10) :
  lexR s.data.toList ⟨p, b, h, o, st, toks⟩ = lexR s.data.toList ⟨p + 1, 0, h || decide (o = 0), o, st, if o = 0 ∧ h = false then toks ++ [⟨6, [], p⟩] else toks⟩ := by
 refine lexR_step ?_
 unfold stepL
 dsimp only
 rw [drop_cons s p hp, hc]
 rfl
theorem bl_lex (s : ByteArray) (h : Bool) (o : Nat) (st : List Nat) (toks : List Tk) : ∀ (n p b : Nat), blL (s.data.toList.drop p) = n → p ≤ s.size → p + n ≤ s.size ∧ lexR s.data.toList ⟨p, b, h, o, st, toks⟩ = lexR s.data.toList ⟨p + n, b + n, h, o, st, toks⟩ ∧ blL (s.data.toList.drop (p + n)) = 0
 | 0, p, b, hn, hp => ⟨hp, rfl, hn⟩
 | n + 1, p, b, hn, hp => by
  by_cases hlt : p < s.size
  ·by_cases h32 : s[p] = 32
   ·rw [blL_step s p hlt h32] at hn; obtain ⟨a1, a2, a3⟩ := bl_lex s h o st toks n (p + 1) (b + 1) lq17 lq17; have e : lexR s.data.toList ⟨p, b, h, o, st, toks⟩ = lexR s.data.toList ⟨p + 1, b + 1, h, o, st, toks⟩ := by
     refine lexR_step ?_
     unfold stepL
     dsimp only
     rw [drop_cons s p hlt, h32]
     rfl
    have e1 : p + (n + 1) = p + 1 + n := by omega
    have e2 : b + (n + 1) = b + 1 + n := by omega
    rw [e1, e2]; exact ⟨a1, e.trans a2, a3⟩
   ·rw [blL_stop s p hlt h32] at hn; omega
  ·have : p = s.size := by omega
   subst this; rw [blL_end] at hn; omega
theorem rem_stop : ∀ (l : List UInt8) (c : UInt8), l[remL l]? = some c → c = 10
 | [], c, h => by simp at h
 | d :: t, c, h => by
  by_cases hd : d = 10
  ·subst hd; have : remL (10 :: t) = 0 := by rw [remL, List.takeWhile_cons, if_neg lq16]; rfl
   rw [this] at h
   simpa using h.symm
  ·have : remL (d :: t) = remL t + 1 := by rw [remL, List.takeWhile_cons, if_pos (by simpa using hd), length_cons, remL]
   rw [this, List.getElem?_cons_succ] at h; exact rem_stop t c h
theorem past_lexE (s : ByteArray) (p b : Nat) (h : Bool) (o : Nat) (st : List Nat) (toks : List Tk) (hp : p ≤ s.size) : p ≤ pastP s p ∧ pastP s p ≤ s.size ∧ lexR s.data.toList ⟨p, b, h, o, st, toks⟩ = lexR s.data.toList ⟨pastP s p, b + blL (s.data.toList.drop p), h, o, st, toks⟩ ∧ ∀ (hlt : pastP s p < s.size), s[pastP s p] ≠ 10 → s[pastP s p] ≠ 32 ∧ s[pastP s p] ≠ 35 := by
 obtain ⟨a1, a2, a3⟩ := bl_lex s h o st toks _ p b rfl hp
 have hpq : p ≤ p + blL (s.data.toList.drop p) := Nat.le_add_right _ _
 unfold pastP
 generalize p + blL (s.data.toList.drop p) = q at *
 by_cases hlt : q < s.size
 ·by_cases h35 : s[q] = 35
  ·have hh : (s.data.toList.drop q).head? = some 35 := by rw [drop_cons s q hlt, List.head?_cons, h35]
   have hrl := rem_le (s.data.toList.drop q); rw [List.length_drop] at hrl; have hlen : s.data.toList.length = s.size := by simp
   rw [hlen] at hrl; have hst : lexR s.data.toList ⟨q, b + blL (s.data.toList.drop p), h, o, st, toks⟩ = lexR s.data.toList ⟨q + remL (s.data.toList.drop q), b + blL (s.data.toList.drop p), h, o, st, toks⟩ := by
    refine lexR_step ?_
    unfold stepL
    dsimp only
    rw [drop_cons s q hlt, h35]
    rfl
   have h10 : ∀ (hl : q + remL (s.data.toList.drop q) < s.size), s[q + remL (s.data.toList.drop q)] = 10 := fun hl => by
    refine rem_stop (s.data.toList.drop q) _ ?_
    rw [List.getElem?_drop, List.getElem?_eq_getElem (by rw [hlen]; exact hl)]
    rfl
   simp only [hh, if_true]; exact ⟨by omega, by omega, a2.trans hst, fun hl hne => absurd (h10 hl) hne⟩
  ·have hh : ¬ ((s.data.toList.drop q).head? = some 35) := by rw [drop_cons s q hlt, List.head?_cons]; intro e; injection e with e; exact h35 e
   simp only [hh, if_false, Nat.add_zero]
   refine ⟨hpq, a1, a2, fun hl _ => ⟨?_, h35⟩⟩
   intro e; rw [blL_step s q hlt e] at a3
   omega
 ·have hq : q = s.size := by omega
  have hh : ¬ ((s.data.toList.drop q).head? = some 35) := by rw [hq, List.drop_eq_nil_of_le lq18]; simp
  simp only [hh, if_false, Nat.add_zero]; exact ⟨hpq, a1, a2, fun hl => absurd hl hlt⟩
theorem past_lex (s : ByteArray) (p b : Nat) (h : Bool) (o : Nat) (st : List Nat) (toks : List Tk) (hp : p ≤ s.size) : p ≤ pastP s p ∧ pastP s p ≤ s.size ∧ (∃ b', lexR s.data.toList ⟨p, b, h, o, st, toks⟩ = lexR s.data.toList ⟨pastP s p, b', h, o, st, toks⟩) ∧ ∀ (hlt : pastP s p < s.size), s[pastP s p] ≠ 10 → s[pastP s p] ≠ 32 ∧ s[pastP s p] ≠ 35 := by
 obtain ⟨a, b, c, d⟩ := past_lexE s p b h o st toks hp
 exact ⟨a, b, ⟨_, c⟩, d⟩
theorem pop_last (n : Nat) : ∀ l : List Nat, l.getLast? = some 0 → (popL n l).getLast? = some 0
 | [], h => by simp at h
 | d :: r, h => by
  rw [popL]
  split
  ·exact pop_last n r (last_more h lq17)
  ·exact h
theorem begin_in {n a : Nat} {st : List Nat} {toks : List Tk} {y : List Nat × List Tk} (h : beginL n a st toks = .inl y) (hl : st.getLast? = some 0) (hd : st.length ≤ 41) : y.1.getLast? = some 0 ∧ y.2.length + y.1.length ≤ toks.length + st.length + 2 ∧ y.1.length ≤ 41 := by
 unfold beginL at h
 split at h
 ·split at h
  ·cases h
  ·injection h with h
   subst h
   refine ⟨?_, ?_, ?_⟩
   ·cases st with
    | nil => simp at hl
    | cons d r => rw [List.getLast?_cons_cons]; exact hl
   ·simp; omega
   ·simp; omega
 ·split at h
  ·injection h with h
   subst h; have := pop_le n st; exact ⟨pop_last n st hl, by simp; omega, by simp; omega⟩
  ·cases h
theorem head_lex {s : ByteArray} {q b o : Nat} {st : List Nat} {toks : List Tk} (hq : q < s.size) (h10 : s[q] ≠ 10) (h32 : s[q] ≠ 32) (h35 : s[q] ≠ 35) : lexR s.data.toList ⟨q, b, true, o, st, toks⟩ = (match beginL b q st toks with | .inl x => lexR s.data.toList ⟨q, b, false, o, x.1, x.2⟩ | .inr c => .bad c q) := by
 cases h : beginL b q st toks with
 | inl x =>
  refine lexR_step ?_
  unfold stepL
  dsimp only
  rw [drop_cons s q hq]
  dsimp only
  rw [if_neg h35, if_neg h32, if_neg h10, if_pos rfl, h]
 | inr c =>
  refine lexR_end ?_
  unfold stepL
  dsimp only
  rw [drop_cons s q hq]
  dsimp only
  rw [if_neg h35, if_neg h32, if_neg h10, if_pos rfl, h]
theorem tokL_opn {o : Nat} {l t : List UInt8} {k : Int} {n o' : Nat} (h : tokL o l = .tok k t n o') (ho : o ≤ 60) : o' ≤ 60 := by
 unfold tokL at h
 cases l with
 | nil => cases h
 | cons c r =>
  simp only at h
  split at h
  ·injection h with _ _ _ d; omega
  ·split at h
   ·split at h
    ·injection h with _ _ _ d; omega
    ·cases h
   ·split at h
    ·split at h
     ·cases h
     ·injection h with _ _ _ d; omega
    ·unfold signT at h
     split at h
     ·cases h
     ·split at h
      ·split at h
       ·cases h
       ·injection h with _ _ _ d; omega
      ·split at h
       ·injection h with _ _ _ d; omega
       ·injection h with _ _ _ d; omega
end
end Go.Proofs.YtjndbcnmmnkilaaGreatDoor
