/- The lexer's indent: the closure that tells the innermost block. -/
import Derived.Test.YtgheejogpbhokaaDoorLx9
import Derived.Deep.RegionWith
import Derived.StillTailTactics
namespace Go.Proofs.YtgheejogpbhokaaDoor
set_option linter.unusedVariables false
set_option linter.unusedSimpArgs false
open Go.RowKit
set_option maxRecDepth 1000000

section
variable {w : World} {base X : Nat} {s : ByteArray} {p o : Nat} {st : List Nat} {toks : List Tk}
set_option maxHeartbeats 1000000 in
theorem lxLast_ok {d : Nat} (B : Nat) (hB : w.cell? ⟨B, 0, none⟩ = some (.pointer (some ⟨X, 0, none⟩))) (hL : LxS w base X s p o (d :: st) toks) (hn : st.length ≤ 1000000) :
    Calls Tryd.prog 38 #[.pointer (some ⟨B, 0, none⟩)] w fun e w' => e = .returned (.int .i64 d) ∧ Below w.heap.size w w' := by
  obtain ⟨LA, LC, BA, BC, h⟩ := hL
  obtain ⟨g, rfl, hc, hl, hm⟩ := h.top
  have q4 := h.c4
  rw [List.length_cons] at q4
  have hX := h.lt
  clear h
  generalize st.length = m at *
  have i0 : (0 : Int) ≤ (m : Int) := by omega
  have i1 : (m : Int) < ((m + 1 : Nat) : Int) := by omega
  have i2 : ((m + 1 : Nat) : Int) - 1 = (m : Int) := by omega
  have i3 : (m : Int) + 1 - 1 = (m : Int) := by omega
  go_enter Tryd.func38, Tryd.ntmps38
  go_wp2_with fail
  go_quiet (fail)
  go_wp2
  go_ret
  exact ⟨rfl, below_draws _ _⟩

/-- what comes of a line's blanks. -/
def IndR (w : World) (base X : Nat) (s : ByteArray) (p o : Nat) (r : (List Nat × List Tk) ⊕ Int) (e : Ending) (w' : World) : Prop :=
  match r with
  | .inl y => e = .returned (.tuple #[]) ∧ LxS w' base X s p o y.1 y.2 ∧ Below base w w'
  | .inr c => e = .panicked [{ v := stopV c p, recovered := false }] ∧ Below base w w'

theorem LxS.cellB {d : Nat} (hL : LxS w base X s p o (d :: st) toks) : ∃ g BC, w.cell? ⟨X, 4, none⟩ = some (.slice (some ⟨g, 0, none⟩) (st.length + 1) BC) ∧ st.length + 1 ≤ BC ∧ BC ≤ 9223372036854775807 ∧ w.frozen? ⟨X, 4, none⟩ = false ∧ LxS (w.setCell ⟨X, 4, none⟩ (.slice (some ⟨g, 0, none⟩) st.length BC)) base X s p o st toks := by
  obtain ⟨LA, LC, BA, BC, h⟩ := hL
  obtain ⟨g, rfl, hc, hl, hm⟩ := h.top
  exact ⟨g, BC, h.c4, hl, hm, h.f4, ⟨LA, LC, _, BC, h.popB⟩⟩

theorem lxDrew {B : Nat} {a u : World} (h : Below B a u) : Below B a u.drew := h.trans ⟨rfl, rfl, rfl, Nat.le_refl _, fun _ _ => rfl⟩
/-- a lexer, and a box that holds its pointer. -/
def LxB (w : World) (base X : Nat) (s : ByteArray) (p o : Nat) (st : List Nat) (toks : List Tk) (B : Nat) : Prop :=
  ∃ LA LC BA BC, Lx w base X s p o st toks LA LC BA BC ∧ w.cell? ⟨B, 0, none⟩ = some (.pointer (some ⟨X, 0, none⟩)) ∧ B ≠ X ∧ (Value.slice LA toks.length LC).ownBlock ≠ some B ∧ (Value.slice BA st.length BC).ownBlock ≠ some B
theorem LxB.lx {B : Nat} (h : LxB w base X s p o st toks B) : LxS w base X s p o st toks := by
  obtain ⟨LA, LC, BA, BC, h, _⟩ := h
  exact ⟨LA, LC, BA, BC, h⟩
theorem LxB.box {B : Nat} (h : LxB w base X s p o st toks B) : w.cell? ⟨B, 0, none⟩ = some (.pointer (some ⟨X, 0, none⟩)) ∧ B < w.heap.size ∧ B ≠ X := by
  obtain ⟨LA, LC, BA, BC, h, h1, h2, _⟩ := h
  exact ⟨h1, World.block_lt_of_cell? w _ h1, h2⟩
theorem LxB.later {B : Nat} {w' : World} (h : LxB w base X s p o st toks B) (hb : Below w.heap.size w w') : LxB w' base X s p o st toks B := by
  obtain ⟨LA, LC, BA, BC, h, h1, h2⟩ := h
  exact ⟨LA, LC, BA, BC, h.later hb, cell_later hb h1, h2⟩
theorem lxB_new (hL : LxS w base X s p o st toks) : LxB (w.alloc (.cells #[.pointer (some ⟨X, 0, none⟩)] 48)) base X s p o st toks w.heap.size := by
  obtain ⟨LA, LC, BA, BC, h⟩ := hL
  refine ⟨LA, LC, BA, BC, h.later ((Below.refl _ _).alloc (Nat.le_refl _) _), by simp, ?_, ?_, ?_⟩
  · have := h.lt; omega
  · intro e; have := h.ol.lt _ e; omega
  · intro e; have := h.ob.lt _ e; omega
theorem LxB.pop {B d : Nat} {BA : Option Addr} {BC : Nat} (h : LxB w base X s p o (d :: st) toks B) (hc : w.cell? ⟨X, 4, none⟩ = some (.slice BA (st.length + 1) BC)) : LxB (w.setCell ⟨X, 4, none⟩ (.slice BA st.length BC)) base X s p o st toks B := by
  obtain ⟨LA, LC, BA', BC', h, h1, h2, h3, h4⟩ := h
  have h5 := h.c4
  rw [List.length_cons, hc] at h5
  injection h5 with h5
  injection h5 with e1 _ e3
  subst e1 e3
  refine ⟨LA, LC, BA, BC, h.popB, ?_, h2, h3, own_len_ne h4⟩
  rw [World.cell?_setCell_other _ _ _ _ (fun e => h2 (by injection e with e; first | exact e | exact e.symm))]; exact h1
theorem lxPutB_ok {B : Nat} (kind : Int) (T : ByteArray) (a : Nat) (hL : LxB w base X s p o st toks B) (hz : base ≤ w.heap.size) (hT : T.size ≤ 1099511627776) (hn : toks.length ≤ 1000000) :
    Calls Tryd.prog 28 #[.pointer (some ⟨X, 0, none⟩), .int .i64 kind, .string T, .int .i64 a] w fun e w' => e = .returned (.tuple #[]) ∧ LxB w' base X s p o st (toks ++ [⟨kind, T.data.toList, a⟩]) B ∧ Below base w w' := by
  have hbx := hL.box
  obtain ⟨LA, LC, BA, BC, h, h1, h2, h3, h4⟩ := hL
  refine (lxPutX_ok kind T a h hz hT hn).mono ?_
  rintro e w' ⟨he, ⟨LA', LC', hl, hk⟩, hb⟩
  obtain ⟨k1, k2⟩ := hk B hbx.2.1 h2 h3
  exact ⟨he, ⟨LA', LC', BA, BC, hl, (World.cell?_of_block (a := ⟨B, 0, none⟩) k1).trans h1, h2, by rw [List.length_append]; exact k2, h4⟩, hb⟩

set_option maxHeartbeats 4000000 in
theorem lxInd_more {d n : Nat} (hL : LxS w base X s p o (d :: st) toks) (hz : base ≤ w.heap.size) (hn : toks.length ≤ 1000000) (hst : st.length ≤ 1000) (hp : p ≤ 1099511) (hd : d < n) (hn2 : n ≤ 1099511) :
    Calls Tryd.prog 26 #[.pointer (some ⟨X, 0, none⟩), .int .i64 n] w (IndR w base X s p o (if 40 < (d :: st).length then .inr 107 else .inl (n :: d :: st, toks ++ [⟨7, [], p⟩]))) := by
  have hmf : ∀ (fn : Fn) (first cap : Array Value) (w : World), (Instr.makeFunc fn first cap).run Tryd.prog w = .ok (.func fn first cap) w := fun _ _ _ _ => rfl
  have hLB := lxB_new hL
  obtain ⟨W1, hW1⟩ : ∃ W1, w.alloc (.cells #[.pointer (some ⟨X, 0, none⟩)] 48) = W1 := ⟨_, rfl⟩
  have hb1 : Below w.heap.size w W1 := by rw [← hW1]; exact (Below.refl _ _).alloc (Nat.le_refl _) _
  rw [hW1] at hLB
  have hzb := hb1.mono hz
  have hz1 := Nat.le_trans hz hb1.size
  have hdn : (d : Int) < (n : Int) := by omega
  clear hL hb1
  obtain ⟨i0, hi0, hz0, hzz1, hzz2⟩ := info_parts int_info
  by_cases h40 : 40 < (d :: st).length
  · rw [if_pos h40]
    unfold IndR
    dsimp only
    have e40 : decide (40 < ((st.length : Nat) : Int) + 1) = true := decide_eq_true (by simp at h40; omega)
    go_enter Tryd.func26, Tryd.ntmps26
    go_wp2_with fail
    clear hW1
    go_at_call 38
    refine (lxLast_ok w.heap.size hLB.box.1 hLB.lx (by omega)).mono ?_
    rintro e w2 ⟨rfl, hb2⟩
    replace hLB := hLB.later hb2
    have hz2 := Nat.le_trans hz1 hb2.size
    have hzb2 := hzb.trans (hb2.mono hz1)
    clear hb2 hzb hz1
    obtain ⟨B, hBe⟩ : ∃ B, w.heap.size = B := ⟨_, rfl⟩
    rw [hBe] at hLB
    rw [hBe]
    clear hBe
    obtain ⟨hB2, hBs2, hBX2⟩ := hLB.box
    obtain ⟨q0, q1, q3, f1, f3, hX, hbX⟩ := hLB.lx.cells
    obtain ⟨g, BC, q4, hl4, hm4, f4, _⟩ := hLB.lx.cellB
    go_wp2_with fail
    go_still_tail 5, (by kernel_rfl)
    go_wp2_with (go_at_call 39; refine (lxFail_ok X 107 p _).mono ?_; rintro e w' ⟨rfl, rfl⟩)
    exact ⟨rfl, rfl, hzb2.trans ((below_draws w2 1).mono hz2)⟩
  · rw [if_neg h40]
    unfold IndR
    dsimp only
    have e40 : decide (40 < ((st.length : Nat) : Int) + 1) = false := decide_eq_false (by simp at h40; omega)
    have e41 : ¬ (40 < ((st.length : Nat) : Int) + 1) := by simp at h40; omega
    go_enter Tryd.func26, Tryd.ntmps26
    go_wp2_with fail
    clear hW1
    go_at_call 38
    refine (lxLast_ok w.heap.size hLB.box.1 hLB.lx (by omega)).mono ?_
    rintro e w2 ⟨rfl, hb2⟩
    replace hLB := hLB.later hb2
    have hz2 := Nat.le_trans hz1 hb2.size
    have hzb2 := hzb.trans (hb2.mono hz1)
    clear hb2 hzb hz1
    obtain ⟨B, hBe⟩ : ∃ B, w.heap.size = B := ⟨_, rfl⟩
    rw [hBe] at hLB
    rw [hBe]
    clear hBe
    obtain ⟨hB2, hBs2, hBX2⟩ := hLB.box
    obtain ⟨q0, q1, q3, f1, f3, hX, hbX⟩ := hLB.lx.cells
    obtain ⟨g, BC, q4, hl4, hm4, f4, _⟩ := hLB.lx.cellB
    go_wp2_with fail
    go_region_held3 (fun W => W.cell? ⟨B, 0, none⟩ = some (.pointer (some ⟨X, 0, none⟩)) ∧ W.cell? ⟨X, 1, none⟩ = some (.int .i64 p)) (first | exact ⟨hB2, q1⟩ | exact ⟨hB3, q13⟩ | go_keep) (first | (go_at_call 28; refine (lxPutB_ok 7 ⟨#[]⟩ p (hLB.later (below_draws w2 1)) hz2 (by decide) hn).mono ?_; rintro e w3 ⟨rfl, hL3, hb3⟩; obtain ⟨hB3, hBs3, hBX3⟩ := hL3.box; obtain ⟨q03, q13, q33, f13, f33, hX3, hbX3⟩ := hL3.lx.cells))
    clear q0 q1 q3 f1 f3 q4 f4 hl4 hm4 hB2 hBs2
    have hz3 := Nat.le_trans hz2 hb3.size
    have hzb3 := hzb2.trans (((below_draws w2 1).mono hz2).trans hb3)
    obtain ⟨LA, LC, BA, BC, hx, h1, h2, h3, h4⟩ := hL3
    have q4 := hx.c4
    go_wp2_with fail
    have f4 := hx.f4
    have hob : w3.ownsRow base 3 1 (.slice BA (st.length + 1) BC) (st.length + 1) (stVs (d :: st)) := hx.ob
    rw [List.length_cons] at q4
    have hz4 : base ≤ w3.heap.size := hz3
    go_region_law (first
      | (refine step_append_lies _ (by rfl) _ _ _ (by rfl) base 3 i0 _ 1 8 Tryd.underlying37 hi0 hz0 hzz1 hzz2 rfl (by omega) (.slice BA (st.length + 1) BC) (st.length + 1) (stVs (d :: st)) (by rfl) (hob.alloc _) ⟨w3.heap.size, 0, none⟩ 1 1 [.int .i64 n] (by rfl) (by rfl) (World.news_of_block (cs := #[.int .i64 n]) (t := 3) (fr := (0, 0)) (heap_alloc_new w3 _)) (by simp [Value.oneCell']) (by omega) (by unfold maxLen; omega) (by omega) (by simp; omega) (w3.heap.size + 1) (by simp) ?_; intro gg cap w4 hown4 hgrow hat hlt; have hx2 := hx.later (lxDrew ((Below.refl _ _).alloc (Nat.le_refl w3.heap.size) (.cells #[.int .i64 n] 3))); have k4 := hgrow.cell hx2.c4 (fun e => hx2.nb e.symm); have kf : w4.frozen? ⟨X, 4, none⟩ = false := (World.frozen?_of_block (a := ⟨X, 4, none⟩) (hgrow.block X hx2.lt (fun e => hx2.nb e.symm))).trans hx2.f4; have hX4 : X < w4.heap.size := Nat.lt_of_lt_of_le hx2.lt hgrow.size; have kB : w4.cell? ⟨B, 0, none⟩ = some (.pointer (some ⟨X, 0, none⟩)) := hgrow.cell (cell_later (lxDrew ((Below.refl _ _).alloc (Nat.le_refl w3.heap.size) (.cells #[.int .i64 n] 3))) hB3) (fun e => h4 e.symm)))
    all_goals
      go_wp2
      refine bodyPost_ret (results_none rfl _ _ _) rfl ?_
      refine ⟨rfl, ⟨LA, LC, some ⟨gg, 0, none⟩, cap, hx2.addB (by simp; omega) n hown4 hgrow ?_⟩, ?_⟩
      · rcases hat with e | e
        · exact Or.inl e
        · exact Or.inr (by rw [e]; simp)
      · refine Below.setCell (p := ⟨X, 4, none⟩) ?_ hx.bX _
        refine Below.grown ?_ hgrow (by simp; omega) ?_
        · exact lxDrew (hzb3.alloc hz3 _)
        · exact fun k hk => (hx2.ob.lt k hk).1
end
end Go.Proofs.YtgheejogpbhokaaDoor
