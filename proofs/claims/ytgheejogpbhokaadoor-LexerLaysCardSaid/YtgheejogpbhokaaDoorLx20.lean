/- Tokens: the tokens of a source, or its fault. -/
import Derived.Test.YtgheejogpbhokaaDoorLx19
namespace Go.Proofs.YtgheejogpbhokaaDoor
set_option linter.unusedVariables false
set_option linter.unusedSimpArgs false
open Go.RowKit
set_option maxRecDepth 1000000

/-- what Tokens hands back. -/
def TokensR (w : World) (R : LR) (e : Ending) (w' : World) : Prop :=
  match R with
  | .ok l => ∃ A C, e = .returned (.tuple #[.slice A l.length C, .agg #[.int .i64 0, .int .i64 0]]) ∧ w'.ownsRow w.heap.size 35 3 (.slice A l.length C) l.length (tkVs l) ∧ Below w.heap.size w w'
  | .bad c a => e = .returned (.tuple #[.slice none 0 0, .agg #[.int .i64 c, .int .i64 a]]) ∧ Below w.heap.size w w'
theorem lx_new (W2 : World) (s : ByteArray) : LxS ((W2.alloc (.cells #[.int .i64 0] 3)).alloc (.cells #[.string s, .int .i64 0, .slice none 0 0, .int .i64 0, .slice (some ⟨W2.heap.size, 0, none⟩) 1 1] 50)) W2.heap.size (W2.heap.size + 1) s 0 0 [0] [] := by
  have hs : (W2.alloc (.cells #[.int .i64 0] 3)).heap.size = W2.heap.size + 1 := by simp
  refine ⟨none, 0, some ⟨W2.heap.size, 0, none⟩, 1, ⟨by omega, by simp [go_sem], by simp [go_sem], by simp [go_sem], by simp [go_sem], by simp [go_sem], by simp [go_sem], by simp [go_sem], by simp [go_sem], by simp [go_sem], World.ownsRow_nil _ _ _ _, ?_, by simp [Value.ownBlock], by simp [Value.ownBlock], by simp [Value.ownBlock]⟩⟩
  refine ⟨by simp [stVs], .inr ⟨W2.heap.size, 1, #[.int .i64 0], rfl, Nat.le_refl _, ?_, Nat.le_refl _, by unfold maxLen; omega, by simp, by simp [stVs]⟩⟩
  have := heap_alloc_old (W2.alloc (.cells #[.int .i64 0] 3)) (.cells #[.string s, .int .i64 0, .slice none 0 0, .int .i64 0, .slice (some ⟨W2.heap.size, 0, none⟩) 1 1] 50) (r := W2.heap.size) (by omega)
  rw [this]
  exact heap_alloc_new W2 _
/-- an owned row's block stands behind its base. -/
theorem own_ne {w : World} {base : Nat} {e : TypeId} {size n : Nat} {v : Value} {xs : List Value} (h : w.ownsRow base e size v n xs) {X : Nat} (hX : X < base) : v.ownBlock ≠ some X := by
  intro he
  rcases h.2 with ⟨hv, hn⟩ | ⟨g, cap, cur, hv, hg, rest⟩
  · subst hv; simp [Value.ownBlock] at he
  · subst hv; simp [Value.ownBlock] at he; omega
theorem own_less {base base' : Nat} {e : TypeId} {size : Nat} {v : Value} {n : Nat} {xs : List Value} {w : World} (h : w.ownsRow base e size v n xs) (hb : base' ≤ base) : w.ownsRow base' e size v n xs := by
  refine ⟨h.1, ?_⟩
  rcases h.2 with hn | ⟨g, cap, cur, hv, hg, rest⟩
  · exact .inl hn
  · exact .inr ⟨g, cap, cur, hv, Nat.le_trans hb hg, rest⟩
set_option maxHeartbeats 2000000 in
theorem lxTokens_ok {A : Option Addr} {s : ByteArray} (c : Nat) (w : World) (h : BsAt w A s) (hs : s.size ≤ 65536) (hl : s.size ≤ c) (hc : c ≤ 9223372036854775807) (hT : Lib.Utf8Tabs 1 2 w) :
    Calls Tryd.prog 10 #[.slice A s.size c] w (TokensR w (lexR s.data.toList lexS)) := by
  have hmf : ∀ (fn : Fn) (first cap : Array Value) (w : World), (Instr.makeFunc fn first cap).run Tryd.prog w = .ok (.func fn first cap) w := fun _ _ _ _ => rfl
  obtain ⟨W2, hW2⟩ : ∃ W2, (w.alloc (.cells #[.slice none 0 0] 24)).alloc (.cells #[.int .i64 0, .int .i64 0] 26) = W2 := ⟨_, rfl⟩
  have hb2 : Below w.heap.size w W2 := by rw [← hW2]; exact ((Below.refl _ _).alloc (Nat.le_refl _) _).alloc (by simp) _
  have hcv := conv_ok (h.later hb2) c
  have i1 : ¬ ((65536 : Int) < (s.size : Int)) := by omega
  go_enter_defers Tryd.func10, Tryd.ntmps10
  go_wp2_with fail
  have hX := lx_new W2 s
  obtain ⟨W3, hW3⟩ : ∃ W3, (W2.alloc (.cells #[.int .i64 0] 3)).alloc (.cells #[.string s, .int .i64 0, .slice none 0 0, .int .i64 0, .slice (some ⟨W2.heap.size, 0, none⟩) 1 1] 50) = W3 := ⟨_, rfl⟩
  rw [hW3] at hX ⊢
  have hb3 : Below W2.heap.size W2 W3 := by rw [← hW3]; exact ((Below.refl _ _).alloc (Nat.le_refl _) _).alloc (by simp) _
  have hz3 : W2.heap.size ≤ W3.heap.size := hb3.size
  refine (lxAll_ok hX hz3 hs (fun W hW => Utf8Tabs_below hT (hb2.trans ((hb3.trans hW).mono hb2.size)))).mono ?_
  intro e w4 hA
  have hlt : w.heap.size + 1 < W2.heap.size := by rw [← hW2]; simp
  cases hR : lexR s.data.toList lexS with
  | ok l =>
    rw [hR] at hA
    obtain ⟨rfl, ⟨p, o, st, LA, LC, BA, BC, hL⟩, hB⟩ := hA
    have c2 := hL.c2
    have hol := hL.ol
    have hX4 : W2.heap.size + 1 < w4.heap.size := hL.lt
    have hbw := hb2.trans ((hb3.trans hB).mono hb2.size)
    have hB4 := hb3.trans hB
    have q0 : w4.cell? ⟨w.heap.size, 0, none⟩ = some (.slice none 0 0) := by
      rw [hB4.cell (by show w.heap.size < _; omega), ← hW2]; simp [go_sem]
    have q1 : w4.cell? ⟨w.heap.size + 1, 0, none⟩ = some (.int .i64 0) := by
      rw [hB4.cell (by show w.heap.size + 1 < _; omega), ← hW2]; simp [go_sem]
    have q2 : w4.cell? ⟨w.heap.size + 1, 1, none⟩ = some (.int .i64 0) := by
      rw [hB4.cell (by show w.heap.size + 1 < _; omega), ← hW2]; simp [go_sem]
    have f0 : w4.frozen? ⟨w.heap.size, 0, none⟩ = false := by
      rw [hB4.frozen (by show w.heap.size < _; omega), ← hW2]; simp [go_sem]
    have f1 : w4.frozen? ⟨w.heap.size + 1, 0, none⟩ = false := by
      rw [hB4.frozen (by show w.heap.size + 1 < _; omega), ← hW2]; simp [go_sem]
    have f2 : w4.frozen? ⟨w.heap.size + 1, 1, none⟩ = false := by
      rw [hB4.frozen (by show w.heap.size + 1 < _; omega), ← hW2]; simp [go_sem]
    have hs0 : w.heap.size < w4.heap.size := by omega
    have hs1 : w.heap.size + 1 < w4.heap.size := by omega
    go_wp2
    have k0 : (((w4.setCell ⟨w.heap.size, 0, none⟩ (.slice LA l.length LC)).setCell ⟨w.heap.size + 1, 0, none⟩ (.int .i64 0)).setCell ⟨w.heap.size + 1, 1, none⟩ (.int .i64 0)).cell? ⟨w.heap.size, 0, none⟩ = some (.slice LA l.length LC) := cell_blk (cell_blk (cell_set_eq q0) (by omega)) (by omega)
    have k1 : (((w4.setCell ⟨w.heap.size, 0, none⟩ (.slice LA l.length LC)).setCell ⟨w.heap.size + 1, 0, none⟩ (.int .i64 0)).setCell ⟨w.heap.size + 1, 1, none⟩ (.int .i64 0)).cell? ⟨w.heap.size + 1, 0, none⟩ = some (.int .i64 0) := cell_set_ne (cell_set_eq (cell_blk q1 (by omega))) (by decide)
    have k2 : (((w4.setCell ⟨w.heap.size, 0, none⟩ (.slice LA l.length LC)).setCell ⟨w.heap.size + 1, 0, none⟩ (.int .i64 0)).setCell ⟨w.heap.size + 1, 1, none⟩ (.int .i64 0)).cell? ⟨w.heap.size + 1, 1, none⟩ = some (.int .i64 0) := cell_set_eq (cell_set_ne (cell_blk q2 (by omega)) (by decide))
    have ko := own_set (own_set (own_set hol (own_ne hol (X := w.heap.size) (by omega)) 0 (.slice LA l.length LC)) (own_ne hol (X := w.heap.size + 1) (by omega)) 0 (.int .i64 0)) (own_ne hol (X := w.heap.size + 1) (by omega)) 1 (.int .i64 0)
    have kb := ((hbw.setCell (p := ⟨w.heap.size, 0, none⟩) (Nat.le_refl _) (.slice LA l.length LC)).setCell (p := ⟨w.heap.size + 1, 0, none⟩) (Nat.le_succ _) (.int .i64 0)).setCell (p := ⟨w.heap.size + 1, 1, none⟩) (Nat.le_succ _) (.int .i64 0)
    generalize (((w4.setCell ⟨w.heap.size, 0, none⟩ (.slice LA l.length LC)).setCell ⟨w.heap.size + 1, 0, none⟩ (.int .i64 0)).setCell ⟨w.heap.size + 1, 1, none⟩ (.int .i64 0)) = W5 at *
    show Leaves Tryd.prog _ _ _ _ .returning W5
    refine leaves_cons (f := 17) (args := #[.pointer (some ⟨w.heap.size, 0, none⟩), .pointer (some ⟨w.heap.size + 1, 0, none⟩)]) (by simp) (by simp [go_sem]) ?_
    refine (catch_idle _ _ _).mono ?_
    rintro e u' w'' ⟨rfl, rfl, rfl⟩
    simp [Leaves, settle, results, Tryd.results10, go_sem, k0, k1, k2]
    rw [hR]
    exact ⟨LA, LC, rfl, own_less ko (by omega), kb⟩
  | bad c a =>
    rw [hR] at hA
    obtain ⟨rfl, hB⟩ := hA
    have hB4 := hb3.trans hB
    have hbw := hb2.trans (hB4.mono hb2.size)
    have hs4 : W2.heap.size ≤ w4.heap.size := hB4.size
    have q0 : w4.cell? ⟨w.heap.size, 0, none⟩ = some (.slice none 0 0) := by
      rw [hB4.cell (by show w.heap.size < _; omega), ← hW2]; simp [go_sem]
    have q1 : w4.cell? ⟨w.heap.size + 1, 0, none⟩ = some (.int .i64 0) := by
      rw [hB4.cell (by show w.heap.size + 1 < _; omega), ← hW2]; simp [go_sem]
    have q2 : w4.cell? ⟨w.heap.size + 1, 1, none⟩ = some (.int .i64 0) := by
      rw [hB4.cell (by show w.heap.size + 1 < _; omega), ← hW2]; simp [go_sem]
    have f0 : w4.frozen? ⟨w.heap.size, 0, none⟩ = false := by
      rw [hB4.frozen (by show w.heap.size < _; omega), ← hW2]; simp [go_sem]
    have f1 : w4.frozen? ⟨w.heap.size + 1, 0, none⟩ = false := by
      rw [hB4.frozen (by show w.heap.size + 1 < _; omega), ← hW2]; simp [go_sem]
    have f2 : w4.frozen? ⟨w.heap.size + 1, 1, none⟩ = false := by
      rw [hB4.frozen (by show w.heap.size + 1 < _; omega), ← hW2]; simp [go_sem]
    show Leaves Tryd.prog _ _ _ _ (.panicking _) w4
    refine leaves_cons (f := 17) (args := #[.pointer (some ⟨w.heap.size, 0, none⟩), .pointer (some ⟨w.heap.size + 1, 0, none⟩)]) (by simp) (by simp [go_sem]) ?_
    refine (catch_stop w.heap.size (w.heap.size + 1) c a [] w4 q0 q1 q2 f0 f1 f2 (by omega) (by omega) (by omega)).mono ?_
    rintro e u' w'' ⟨rfl, rfl, k0, k1, k2, hk⟩
    simp [Leaves, settle, results, Tryd.results10, go_sem, k0, k1, k2]
    first | rw [hR] | skip
    exact ⟨rfl, hbw.trans (hk _ (Nat.le_refl _) (Nat.le_succ _))⟩
end Go.Proofs.YtgheejogpbhokaaDoor
