/- The lexer's indent: blocks that end. -/
import Derived.Test.YtgheejogpbhokaaDoorLx10
namespace Go.Proofs.YtgheejogpbhokaaDoor
set_option linter.unusedVariables false
set_option linter.unusedSimpArgs false
open Go.RowKit
set_option maxRecDepth 1000000

def blM (X : Nat) (w : World) : Nat := match w.cell? ⟨X, 4, none⟩ with | some (.slice _ n _) => n | _ => 0
theorem blM_eq {w : World} {X n c : Nat} {A : Option Addr} (h : w.cell? ⟨X, 4, none⟩ = some (.slice A n c)) : blM X w = n := by unfold blM; rw [h]
theorem pop_more {n d : Nat} {r : List Nat} (h : n < d) : popL n (d :: r) = popL n r := by rw [popL, if_pos h]
theorem pop_done {n d : Nat} {r : List Nat} (h : ¬ n < d) : popL n (d :: r) = d :: r := by rw [popL, if_neg h]
theorem pop_le (n : Nat) : ∀ l : List Nat, (popL n l).length ≤ l.length
  | [] => Nat.le_refl _
  | d :: r => by
    rw [popL]
    split
    · have := pop_le n r
      rw [List.length_cons]
      omega
    · exact Nat.le_refl _
theorem last_more {d : Nat} {r : List Nat} (h : (d :: r).getLast? = some 0) (hd : d ≠ 0) : r.getLast? = some 0 := by
  cases r with
  | nil => simp at h; omega
  | cons a b => rw [List.getLast?_cons_cons] at h; exact h

section
variable {w : World} {base X : Nat} {s : ByteArray} {p o : Nat} {st : List Nat} {toks : List Tk}
set_option maxHeartbeats 4000000 in
theorem lxInd_less {d n : Nat} {r : List Nat} (hst : st = d :: r) (hL : LxS w base X s p o st toks) (hz : base ≤ w.heap.size) (hn : toks.length + st.length ≤ 1000000) (hp : p ≤ 1099511) (hd : n ≤ d) (hn2 : n ≤ 1099511) (hbot : st.getLast? = some 0) :
    Calls Tryd.prog 26 #[.pointer (some ⟨X, 0, none⟩), .int .i64 n] w (IndR w base X s p o (if (popL n st).headD 0 = n then .inl (popL n st, toks ++ List.replicate (st.length - (popL n st).length) ⟨8, [], p⟩) else .inr 103)) := by
  have hmf : ∀ (fn : Fn) (first cap : Array Value) (w : World), (Instr.makeFunc fn first cap).run Tryd.prog w = .ok (.func fn first cap) w := fun _ _ _ _ => rfl
  obtain ⟨R, hR⟩ : ∃ R, IndR w base X s p o (if (popL n st).headD 0 = n then .inl (popL n st, toks ++ List.replicate (st.length - (popL n st).length) ⟨8, [], p⟩) else .inr 103) = R := ⟨_, rfl⟩
  have hBad := Lib.hid (fun (h : (popL n st).headD 0 ≠ n) e w' (he : e = .panicked [{ v := stopV 103 p, recovered := false }]) (hb : Below base w w') => show R e w' by rw [← hR, if_neg h]; exact ⟨he, hb⟩)
  have hGood := Lib.hid (fun (h : (popL n st).headD 0 = n) e w' (he : e = .returned (.tuple #[])) (hl : LxS w' base X s p o (popL n st) (toks ++ List.replicate (st.length - (popL n st).length) ⟨8, [], p⟩)) (hb : Below base w w') => show R e w' by rw [← hR, if_pos h]; exact ⟨he, hl, hb⟩)
  rw [hR]
  clear hR
  have hLB := lxB_new hL
  obtain ⟨W1, hW1⟩ : ∃ W1, w.alloc (.cells #[.pointer (some ⟨X, 0, none⟩)] 48) = W1 := ⟨_, rfl⟩
  have hb1 : Below w.heap.size w W1 := by rw [← hW1]; exact (Below.refl _ _).alloc (Nat.le_refl _) _
  rw [hW1] at hLB
  have hzb := hb1.mono hz
  have hz1 := Nat.le_trans hz hb1.size
  have hdn : (n : Int) ≤ (d : Int) := by omega
  have hdb : decide (d < n) = false := decide_eq_false (by omega)
  clear hL hb1
  rw [hst] at hLB
  have hrl : st.length = r.length + 1 := by rw [hst]; rfl
  go_enter Tryd.func26, Tryd.ntmps26
  go_wp2_with fail
  clear hW1
  go_at_call 38
  refine (lxLast_ok w.heap.size hLB.box.1 hLB.lx (by omega)).mono ?_
  rintro e w2 ⟨rfl, hb2⟩
  replace hLB := hLB.later hb2
  have hz2 := Nat.le_trans hz1 hb2.size
  have hzb2 := hzb.trans (hb2.mono hz1)
  rw [← hst] at hLB
  clear hb2 hzb hz1 hrl
  obtain ⟨B, hBe⟩ : ∃ B, w.heap.size = B := ⟨_, rfl⟩
  rw [hBe] at hLB
  rw [hBe]
  clear hBe
  have HL := Lib.hid hbot
  clear hst hbot hd
  go_wp2_with fail
  clear hdn
  go_loopw [38] (fun v wr => ∃ (st' : List Nat) (toks' : List Tk), LxB wr base X s p o st' toks' B ∧ Below base w wr ∧ base ≤ wr.heap.size ∧ Hid (st'.getLast? = some 0) ∧ Hid (popL n st' = popL n st) ∧ Hid (toks' = toks ++ List.replicate (st.length - st'.length) ⟨8, [], p⟩) ∧ st'.length ≤ st.length ∧ toks'.length + st'.length ≤ 1000000) (fun v wr => blM X wr)
  case atStart => exact ⟨st, toks, hLB, hzb2, hz2, HL, Lib.hid rfl, Lib.hid (by simp), Nat.le_refl _, hn⟩
  case round =>
    obtain ⟨st', toks', hLr, hbr, hzr, hl0, hpop, htk, hlen, hcnt⟩ := hrel
    clear hLB hzb2 hz2 HL hn
    cases st' with
    | nil => exact absurd hl0.out (by simp)
    | cons d' r' =>
      have hlr : r'.length + 1 ≤ st.length := by simpa using hlen
      have hM : Hid (blM X wr = r'.length + 1) := by
        obtain ⟨g, BC, q4, hl4, hm4, f4, _⟩ := hLr.lx.cellB
        exact Lib.hid (blM_eq q4)
      by_cases hlt : n < d'
      · have hlt2 : (n : Int) < (d' : Int) := by omega
        have hl0' := Lib.hid (last_more hl0.out (by omega))
        have hpop' := Lib.hid (show popL n r' = popL n st by rw [← hpop.out, pop_more hlt])
        clear hl0 hpop hlt
        go_wp2_with fail
        go_at_call 38
        refine (lxLast_ok B hLr.box.1 hLr.lx (by simp at hcnt; omega)).mono ?_
        rintro e w3 ⟨rfl, hb3⟩
        replace hLr := hLr.later hb3
        have hz3 := Nat.le_trans hzr hb3.size
        have hzb3 := hbr.trans (hb3.mono hzr)
        obtain ⟨hB2, hBs2, hBX2⟩ := hLr.box
        obtain ⟨q0, q1, q3, f1, f3, hX, hbX⟩ := hLr.lx.cells
        clear hb3 hbr hzr
        go_wp2_with fail
        go_region_held3 (fun W => W.cell? ⟨B, 0, none⟩ = some (.pointer (some ⟨X, 0, none⟩)) ∧ W.cell? ⟨X, 1, none⟩ = some (.int .i64 p)) (first | exact ⟨hB2, q1⟩ | exact ⟨hB3, q13⟩ | go_keep) (first | (go_at_call 28; refine (lxPutB_ok 8 ⟨#[]⟩ p (hLr.later (below_draws w3 1)) hz3 (by decide) (by simp at hcnt; omega)).mono ?_; rintro e w4 ⟨rfl, hL4, hb4⟩; obtain ⟨hB3, hBs3, hBX3⟩ := hL4.box; obtain ⟨q03, q13, q33, f13, f33, hX3, hbX3⟩ := hL4.lx.cells))
        clear q0 q1 q3 f1 f3 hB2 hBs2
        have hz4 := Nat.le_trans hz3 hb4.size
        have hzb4 := hzb3.trans (((below_draws w3 1).mono hz3).trans hb4)
        obtain ⟨g, BC, q4, hl4, hm4, f4, _⟩ := hL4.lx.cellB
        have i1 : ((r'.length + 1 : Nat) : Int) - 1 = (r'.length : Int) := by omega
        have i2 : (r'.length : Int) + 1 - 1 = (r'.length : Int) := by omega
        have i3 : (r'.length : Int) ≤ (BC : Int) := by omega
        have i5 : IntKind.i64.wrap (r'.length : Int) = (r'.length : Int) := by rw [IntKind.wrap_i64]; omega
        have i6 : IntKind.i64.wrap ((r'.length : Int) + 1 - 1) = (r'.length : Int) := by rw [IntKind.wrap_i64]; omega
        have i7 : IntKind.i64.wrap (((r'.length + 1 : Nat) : Int) - 1) = (r'.length : Int) := by rw [IntKind.wrap_i64]; omega
        have i8 : ¬ ((BC : Int) < (r'.length : Int)) := by omega
        have i9 : r'.length ≤ BC := by omega
        have i4 : (0 : Int) ≤ (r'.length : Int) := by omega
        go_wp2_with fail
        go_still_tail 14, (by kernel_rfl)
        obtain ⟨v5, hv5, hb5⟩ : ∃ u, u = w4.drew ∧ Below w4.heap.size w4 u := ⟨_, rfl, lxDrew (Below.refl _ _)⟩
        change wpList _ _ _ _ _ w4.drew
        rw [← hv5]
        have hL5 := (hL4.later hb5).pop (cell_later hb5 q4)
        have f45 : v5.frozen? ⟨X, 4, none⟩ = false := by rw [hv5]; exact f4
        have q45 := cell_later hb5 q4
        have hX5 : X < v5.heap.size := Nat.lt_of_lt_of_le hX3 hb5.size
        have hz5 := Nat.le_trans hz4 hb5.size
        have hzb5 := hzb4.trans (hb5.mono hz4)
        clear hv5
        go_wp2
        go_roundw
        case rel =>
          exact ⟨r', _, hL5, Below.setCell (p := ⟨X, 4, none⟩) hzb5 hbX3 _, by rw [World.size_setCell]; exact hz5, hl0', hpop', Lib.hid (by
            rw [htk.out, List.append_assoc]
            congr 1
            rw [show st.length - r'.length = st.length - (d' :: r').length + 1 by rw [List.length_cons]; omega, List.replicate_succ']), by omega, by rw [List.length_append]; simp at hcnt ⊢; omega⟩
        case measure =>
          rw [hM.out, blM_eq (cell_set_eq q45)]
          omega
      · have hge : (d' : Int) ≤ (n : Int) := by omega
        have hpe : popL n st = d' :: r' := by rw [← hpop.out, pop_done hlt]
        by_cases he : d' = n
        · have ne1 : ((d' : Int) != (n : Int)) = false := by simp; omega
          have hfin : Hid ((popL n st).headD 0 = n ∧ ∀ W, LxS W base X s p o (d' :: r') toks' → LxS W base X s p o (popL n st) (toks ++ List.replicate (st.length - (popL n st).length) ⟨8, [], p⟩)) := Lib.hid ⟨by rw [hpe]; exact he, fun W h => by rw [hpe, ← htk.out]; exact h⟩
          clear he hpe hlt hpop hl0
          go_wp2_with fail
          go_at_call 38
          refine (lxLast_ok B hLr.box.1 hLr.lx (by simp at hcnt; omega)).mono ?_
          rintro e w3 ⟨rfl, hb3⟩
          replace hLr := hLr.later hb3
          have hz3 := Nat.le_trans hzr hb3.size
          have hzb3 := hbr.trans (hb3.mono hzr)
          go_wp2_with fail
          go_at_call 38
          refine (lxLast_ok B hLr.box.1 hLr.lx (by simp at hcnt; omega)).mono ?_
          rintro e w4 ⟨rfl, hb4⟩
          replace hLr := hLr.later hb4
          have hzb4 := hzb3.trans (hb4.mono hz3)
          go_wp2
          go_end0
          exact hGood.out hfin.out.1 _ _ rfl (hfin.out.2 _ hLr.lx) hzb4
        · have ne1 : ((d' : Int) != (n : Int)) = true := by simp; omega
          have hfin := Lib.hid (show (popL n st).headD 0 ≠ n by rw [hpe]; exact he)
          clear he hpe hlt hpop hl0
          go_wp2_with fail
          go_at_call 38
          refine (lxLast_ok B hLr.box.1 hLr.lx (by simp at hcnt; omega)).mono ?_
          rintro e w3 ⟨rfl, hb3⟩
          replace hLr := hLr.later hb3
          have hz3 := Nat.le_trans hzr hb3.size
          have hzb3 := hbr.trans (hb3.mono hzr)
          go_wp2_with fail
          go_at_call 38
          refine (lxLast_ok B hLr.box.1 hLr.lx (by simp at hcnt; omega)).mono ?_
          rintro e w4 ⟨rfl, hb4⟩
          replace hLr := hLr.later hb4
          have hz4 := Nat.le_trans hz3 hb4.size
          have hzb4 := hzb3.trans (hb4.mono hz3)
          obtain ⟨hB2, hBs2, hBX2⟩ := hLr.box
          obtain ⟨q0, q1, q3, f1, f3, hX, hbX⟩ := hLr.lx.cells
          clear hb3 hb4 hbr hzr hzb3 hz3
          go_wp2_with fail
          go_still_tail 5, (by kernel_rfl)
          go_wp2_with (go_at_call 39; refine (lxFail_ok X 103 p _).mono ?_; rintro e w' ⟨rfl, rfl⟩)
          exact ⟨rfl, hBad.out hfin.out _ _ rfl (hzb4.trans ((below_draws w4 1).mono hz4))⟩
end
end Go.Proofs.YtgheejogpbhokaaDoor
