/- The lexer's indent, whole; its end. -/
import Derived.Test.YtgheejogpbhokaaDoorLx11
namespace Go.Proofs.YtgheejogpbhokaaDoor
set_option linter.unusedVariables false
set_option linter.unusedSimpArgs false
open Go.RowKit
set_option maxRecDepth 1000000

section
variable {w : World} {base X : Nat} {s : ByteArray} {p o : Nat} {st : List Nat} {toks : List Tk}
theorem lxIndent_ok {n : Nat} (hL : LxS w base X s p o st toks) (hz : base ≤ w.heap.size) (hn : toks.length + st.length ≤ 1000000) (hst : st.length ≤ 1000) (hp : p ≤ 1099511) (hn2 : n ≤ 1099511) (hbot : st.getLast? = some 0) :
    Calls Tryd.prog 26 #[.pointer (some ⟨X, 0, none⟩), .int .i64 n] w (IndR w base X s p o (beginL n p st toks)) := by
  cases st with
  | nil => exact absurd hbot (by simp)
  | cons d r =>
    rw [beginL, List.headD_cons]
    by_cases h : d < n
    · rw [if_pos h]
      exact lxInd_more hL hz (by omega) (by simp at hst; omega) hp h hn2
    · rw [if_neg h]
      exact lxInd_less rfl hL hz hn hp (by omega) hn2 hbot

theorem Lx.lastTok {l : List Tk} {t : Tk} {LA BA : Option Addr} {LC BC : Nat} (h : Lx w base X s p o st (l ++ [t]) LA LC BA BC) : ∃ g, LA = some ⟨g, 0, none⟩ ∧ w.cell? ⟨g, l.length * 3, none⟩ = some (.int .i64 t.kind) ∧ l.length + 1 ≤ LC ∧ LC ≤ 9223372036854775807 := by
  rcases h.ol.2 with ⟨_, hn⟩ | ⟨g, cap, cur, hv, hb, hg, hc, hmx, hs, ht⟩
  · simp at hn
  · injection hv with e1 e2 e3
    subst e1 e3
    refine ⟨g, rfl, ?_, by simpa using hc, hmx⟩
    have hcl := h.ol.cells (g := g) rfl (l.length * 3) (.int .i64 t.kind) (by
      rw [tkVs_snoc, List.getElem?_append_right (by rw [tkVs_len]; omega), tkVs_len, Nat.sub_self]; rfl)
    rw [Addr.add_lit, Nat.zero_add] at hcl
    exact hcl

/-- is the last token none of a line's ends? -/
def offB (t : Option Tk) : Bool := match t with | some t => decide (t.kind < 6) || decide (8 < t.kind) | none => false
set_option maxHeartbeats 4000000 in
theorem lxEnd_tail {d : Nat} {r : List Nat} (hL : LxS w base X s p o (d :: r) toks) (hz : base ≤ w.heap.size) (hs : s.size ≤ 1099511) (hn : toks.length + r.length ≤ 900000) (b : Bool) (t : Option Tk) (ht : toks.getLast? = t) (hb : b = offB t) (T0 : List Tk) (hT0 : toks ++ (if b then [⟨6, [], s.size⟩] else []) = T0) :
    Calls Tryd.prog 29 #[.pointer (some ⟨X, 0, none⟩)] w fun e w' => e = .returned (.tuple #[]) ∧ LxS w' base X s p o (d :: r) (T0 ++ List.replicate r.length ⟨8, [], s.size⟩ ++ [⟨9, [], s.size⟩]) ∧ Below base w w' := by
  have hTl : T0.length ≤ toks.length + 1 := by rw [← hT0, List.length_append]; split <;> simp
  cases t with
  | some t' =>
    obtain ⟨l, rfl⟩ : ∃ l, toks = l ++ [t'] := by
      obtain ⟨l, e⟩ := List.getLast?_eq_some_iff.1 ht
      exact ⟨l, e⟩
    obtain ⟨g, LC, hk, hl, hm, q2⟩ : ∃ g LC, w.cell? ⟨g, l.length * 3, none⟩ = some (.int .i64 t'.kind) ∧ l.length + 1 ≤ LC ∧ LC ≤ 9223372036854775807 ∧ w.cell? ⟨X, 2, none⟩ = some (.slice (some ⟨g, 0, none⟩) (l.length + 1) LC) := by
      obtain ⟨LA, LC, BA, BC, hx⟩ := hL
      obtain ⟨g, rfl, hk, hl, hm⟩ := hx.lastTok
      have q2 := hx.c2
      rw [List.length_append] at q2
      exact ⟨g, LC, hk, hl, hm, q2⟩
    have hcnt : l.length + 1 + r.length ≤ 900000 := by simpa using hn
    rw [List.length_append] at hTl
    simp only [List.length_cons, List.length_nil] at hTl
    obtain ⟨q0, q1, q3, f1, f3, hX, hbX⟩ := hL.cells
    obtain ⟨b1, e1⟩ : ∃ b, decide (t'.kind < 6) = b := ⟨_, rfl⟩
    obtain ⟨b2, e2⟩ : ∃ b, decide (8 < t'.kind) = b := ⟨_, rfl⟩
    unfold offB at hb
    dsimp only at hb
    rw [e1, e2] at hb
    subst hb
    have HT := Lib.hid hT0
    clear hT0 ht hn
    have i1 : decide (0 < l.length + 1) = true := by simp
    have i2 : ((l.length + 1 : Nat) : Int) - 1 = (l.length : Int) := by omega
    have i3 : (l.length : Int) + 1 - 1 = (l.length : Int) := by omega
    have i4 : (0 : Int) ≤ (l.length : Int) := by omega
    have i5 : (0 : Int) < ((l.length + 1 : Nat) : Int) := by omega
    have i6 : (l.length : Int) < ((l.length + 1 : Nat) : Int) := by omega
    cases b1 <;> cases b2
    · have hL2 : LxS w base X s p o (d :: r) T0 := by rw [← HT.out]; simpa using hL
      have hb2 := Below.refl base w
      have hz2 := hz
      generalize w = w2 at *
      clear hL q0 q1 q3 f1 f3 hX hbX
      obtain ⟨q0, q1, q3, f1, f3, hX2, hbX2⟩ := hL2.cells
      obtain ⟨g4, BC, q4, hl4, hm4, f4⟩ : ∃ g BC, w2.cell? ⟨X, 4, none⟩ = some (.slice (some ⟨g, 0, none⟩) (r.length + 1) BC) ∧ r.length + 1 ≤ BC ∧ BC ≤ 9223372036854775807 ∧ True := by
        obtain ⟨g, BC, q4, hl4, hm4, f4, _⟩ := hL2.cellB
        exact ⟨g, BC, q4, hl4, hm4, trivial⟩
      have j1 : (1 : Int) ≤ (r.length : Int) + 1 := by omega
      have j2 : (r.length : Int) + 1 ≤ (BC : Int) := by omega
      have j3 : (1 : Int) ≤ ((r.length + 1 : Nat) : Int) := by omega
      have j4 : 1 ≤ r.length + 1 := by omega
      have j5 : r.length + 1 - 1 = r.length := by omega
      rcases (by omega : ¬ (BC = 1) ∨ BC = 1) with hbc | hbc
      all_goals
        go_enter Tryd.func29, Tryd.ntmps29
        go_wp2_with fail
        clear q0 q1 q3 f1 f3 q4 hbc q2 hk j1 j2 j3 j4 j5 hl4 hm4
        go_loopw [47] (fun v wr => ∃ k : Nat, v = .int .i64 k ∧ k ≤ r.length ∧ LxS wr base X s p o (d :: r) (T0 ++ List.replicate k ⟨8, [], s.size⟩) ∧ Below base w2 wr ∧ base ≤ wr.heap.size) (fun v _ => r.length - (intOf v).toNat)
        case atStart => exact ⟨0, rfl, Nat.zero_le _, by rw [List.replicate_zero, List.append_nil]; exact hL2, Below.refl _ _, hz2⟩
        case round =>
          obtain ⟨k, rfl, hk, hLk, hbk, hzk⟩ := hrel
          clear hL2
          obtain ⟨q0, q1, q3, f1, f3, hXk, hbXk⟩ := hLk.cells
          have hTk : (T0 ++ List.replicate k (⟨8, [], s.size⟩ : Tk)).length ≤ 1000000 := by rw [List.length_append, List.length_replicate]; omega
          by_cases hlt : k < r.length
          · go_wp2_with (go_at_call 28; refine (lxPut_ok 8 ⟨#[]⟩ s.size hLk hzk (by decide) hTk).mono ?_; rintro e w3 ⟨rfl, hL3, hb3⟩)
            go_roundw
            case rel => exact ⟨k + 1, by go_num, by omega, by rw [List.replicate_succ', ← List.append_assoc]; exact hL3, hbk.trans hb3, Nat.le_trans hzk hb3.size⟩
            case measure => simp [intOf]; omega
          · have hke : k = r.length := by omega
            subst hke
            go_wp2_with (go_at_call 28; refine (lxPut_ok 9 ⟨#[]⟩ s.size hLk hzk (by decide) hTk).mono ?_; rintro e w3 ⟨rfl, hL3, hb3⟩)
            go_end0
            exact ⟨rfl, hL3, hb2.trans (hbk.trans hb3)⟩
    all_goals
      go_enter Tryd.func29, Tryd.ntmps29
      go_wp2_with fail
      go_at_call 28
      refine (lxPut_ok 6 ⟨#[]⟩ s.size hL hz (by decide) (by simp; omega)).mono ?_
      rintro e w2 ⟨rfl, hL2, hb2⟩
      have hz2 := Nat.le_trans hz hb2.size
      replace hL2 : LxS w2 base X s p o (d :: r) T0 := by rw [← HT.out]; exact hL2
      clear q0 q1 q3 f1 f3 q2 hk hX hbX hL
      obtain ⟨q0, q1, q3, f1, f3, hX2, hbX2⟩ := hL2.cells
      obtain ⟨g4, BC, q4, hl4, hm4, f4⟩ : ∃ g BC, w2.cell? ⟨X, 4, none⟩ = some (.slice (some ⟨g, 0, none⟩) (r.length + 1) BC) ∧ r.length + 1 ≤ BC ∧ BC ≤ 9223372036854775807 ∧ True := by
        obtain ⟨g, BC, q4, hl4, hm4, f4, _⟩ := hL2.cellB
        exact ⟨g, BC, q4, hl4, hm4, trivial⟩
      have j1 : (1 : Int) ≤ (r.length : Int) + 1 := by omega
      have j2 : (r.length : Int) + 1 ≤ (BC : Int) := by omega
      have j3 : (1 : Int) ≤ ((r.length + 1 : Nat) : Int) := by omega
      have j4 : 1 ≤ r.length + 1 := by omega
      have j5 : r.length + 1 - 1 = r.length := by omega
      rcases (by omega : ¬ (BC = 1) ∨ BC = 1) with hbc | hbc
      all_goals
        go_wp2_with fail
        clear q0 q1 q3 f1 f3 q4 hbc j1 j2 j3 j4 j5 hl4 hm4
        go_loopw [47] (fun v wr => ∃ k : Nat, v = .int .i64 k ∧ k ≤ r.length ∧ LxS wr base X s p o (d :: r) (T0 ++ List.replicate k ⟨8, [], s.size⟩) ∧ Below base w2 wr ∧ base ≤ wr.heap.size) (fun v _ => r.length - (intOf v).toNat)
        case atStart => exact ⟨0, rfl, Nat.zero_le _, by rw [List.replicate_zero, List.append_nil]; exact hL2, Below.refl _ _, hz2⟩
        case round =>
          obtain ⟨k, rfl, hk, hLk, hbk, hzk⟩ := hrel
          clear hL2
          obtain ⟨q0, q1, q3, f1, f3, hXk, hbXk⟩ := hLk.cells
          have hTk : (T0 ++ List.replicate k (⟨8, [], s.size⟩ : Tk)).length ≤ 1000000 := by rw [List.length_append, List.length_replicate]; omega
          by_cases hlt : k < r.length
          · go_wp2_with (go_at_call 28; refine (lxPut_ok 8 ⟨#[]⟩ s.size hLk hzk (by decide) hTk).mono ?_; rintro e w3 ⟨rfl, hL3, hb3⟩)
            go_roundw
            case rel => exact ⟨k + 1, by go_num, by omega, by rw [List.replicate_succ', ← List.append_assoc]; exact hL3, hbk.trans hb3, Nat.le_trans hzk hb3.size⟩
            case measure => simp [intOf]; omega
          · have hke : k = r.length := by omega
            subst hke
            go_wp2_with (go_at_call 28; refine (lxPut_ok 9 ⟨#[]⟩ s.size hLk hzk (by decide) hTk).mono ?_; rintro e w3 ⟨rfl, hL3, hb3⟩)
            go_end0
            exact ⟨rfl, hL3, hb2.trans (hbk.trans hb3)⟩
  | none =>
    have htn : toks = [] := List.getLast?_eq_none_iff.1 ht
    unfold offB at hb
    dsimp only at hb
    subst hb htn
    have hL2 : LxS w base X s p o (d :: r) T0 := by rw [← hT0]; simpa using hL
    have hcnt : r.length ≤ 900000 := by simpa using hn
    replace hTl : T0.length ≤ 1 := by simpa using hTl
    clear hT0 ht hn
    obtain ⟨A2, C2, q2⟩ : ∃ A C, w.cell? ⟨X, 2, none⟩ = some (.slice A 0 C) := by
      obtain ⟨LA, LC, BA, BC, hx⟩ := hL
      exact ⟨LA, LC, hx.c2⟩
    have hb2 := Below.refl base w
    have hz2 := hz
    generalize w = w2 at *
    clear hL
    obtain ⟨q0, q1, q3, f1, f3, hX2, hbX2⟩ := hL2.cells
    obtain ⟨g4, BC, q4, hl4, hm4, f4⟩ : ∃ g BC, w2.cell? ⟨X, 4, none⟩ = some (.slice (some ⟨g, 0, none⟩) (r.length + 1) BC) ∧ r.length + 1 ≤ BC ∧ BC ≤ 9223372036854775807 ∧ True := by
      obtain ⟨g, BC, q4, hl4, hm4, f4, _⟩ := hL2.cellB
      exact ⟨g, BC, q4, hl4, hm4, trivial⟩
    have j1 : (1 : Int) ≤ (r.length : Int) + 1 := by omega
    have j2 : (r.length : Int) + 1 ≤ (BC : Int) := by omega
    have j3 : (1 : Int) ≤ ((r.length + 1 : Nat) : Int) := by omega
    have j4 : 1 ≤ r.length + 1 := by omega
    have j5 : r.length + 1 - 1 = r.length := by omega
    rcases (by omega : ¬ (BC = 1) ∨ BC = 1) with hbc | hbc
    all_goals
      go_enter Tryd.func29, Tryd.ntmps29
      go_wp2_with fail
      clear q0 q1 q3 f1 f3 q4 hbc q2 j1 j2 j3 j4 j5 hl4 hm4
      go_loopw [47] (fun v wr => ∃ k : Nat, v = .int .i64 k ∧ k ≤ r.length ∧ LxS wr base X s p o (d :: r) (T0 ++ List.replicate k ⟨8, [], s.size⟩) ∧ Below base w2 wr ∧ base ≤ wr.heap.size) (fun v _ => r.length - (intOf v).toNat)
      case atStart => exact ⟨0, rfl, Nat.zero_le _, by rw [List.replicate_zero, List.append_nil]; exact hL2, Below.refl _ _, hz2⟩
      case round =>
        obtain ⟨k, rfl, hk, hLk, hbk, hzk⟩ := hrel
        clear hL2
        obtain ⟨q0, q1, q3, f1, f3, hXk, hbXk⟩ := hLk.cells
        have hTk : (T0 ++ List.replicate k (⟨8, [], s.size⟩ : Tk)).length ≤ 1000000 := by rw [List.length_append, List.length_replicate]; omega
        by_cases hlt : k < r.length
        · go_wp2_with (go_at_call 28; refine (lxPut_ok 8 ⟨#[]⟩ s.size hLk hzk (by decide) hTk).mono ?_; rintro e w3 ⟨rfl, hL3, hb3⟩)
          go_roundw
          case rel => exact ⟨k + 1, by go_num, by omega, by rw [List.replicate_succ', ← List.append_assoc]; exact hL3, hbk.trans hb3, Nat.le_trans hzk hb3.size⟩
          case measure => simp [intOf]; omega
        · have hke : k = r.length := by omega
          subst hke
          go_wp2_with (go_at_call 28; refine (lxPut_ok 9 ⟨#[]⟩ s.size hLk hzk (by decide) hTk).mono ?_; rintro e w3 ⟨rfl, hL3, hb3⟩)
          go_end0
          exact ⟨rfl, hL3, hb2.trans (hbk.trans hb3)⟩
theorem endL_eq {n d : Nat} {r : List Nat} {toks : List Tk} : endL n (d :: r) toks = toks ++ (if offB toks.getLast? then [⟨6, [], n⟩] else []) ++ List.replicate r.length ⟨8, [], n⟩ ++ [⟨9, [], n⟩] := by
  unfold endL
  cases toks.getLast? with
  | none => simp [offB]
  | some t =>
    dsimp only
    by_cases h : 6 ≤ t.kind ∧ t.kind ≤ 8
    · have : offB (some t) = false := by simp [offB]; omega
      rw [if_pos h, this]; simp
    · have : offB (some t) = true := by simp [offB]; omega
      rw [if_neg h, this]; simp
theorem lxEnd_ok (hL : LxS w base X s p o st toks) (hz : base ≤ w.heap.size) (hs : s.size ≤ 1099511) (hn : toks.length + st.length ≤ 900000) (hst : st ≠ []) :
    Calls Tryd.prog 29 #[.pointer (some ⟨X, 0, none⟩)] w fun e w' => e = .returned (.tuple #[]) ∧ LxS w' base X s p o st (endL s.size st toks) ∧ Below base w w' := by
  cases st with
  | nil => exact absurd rfl hst
  | cons d r =>
    rw [endL_eq]
    exact lxEnd_tail hL hz hs (by simp at hn; omega) _ _ rfl rfl _ rfl
end
end Go.Proofs.YtgheejogpbhokaaDoor
