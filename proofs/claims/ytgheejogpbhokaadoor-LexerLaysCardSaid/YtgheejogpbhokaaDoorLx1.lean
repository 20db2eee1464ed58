/- The lexer's put and fail; what a letter, a digit is. -/
import Derived.Test.YtgheejogpbhokaaDoorLx0
import Derived.Deep.RegionHeld3
import Derived.Deep.RegionLaw
import Derived.BigQuiet
import Derived.Deep.QuietTactic
namespace Go.Proofs.YtgheejogpbhokaaDoor
set_option linter.unusedVariables false
set_option linter.unusedSimpArgs false
open Go.RowKit
set_option maxRecDepth 1000000

theorem tok_info : (Tryd.prog.info? 35).map (fun i => (i.zero, i.size, i.bytes)) = some (some (.agg #[.int .i64 0, .string ⟨#[]⟩, .int .i64 0]), 3, 32) := by kernel_rfl
theorem int_info : (Tryd.prog.info? 3).map (fun i => (i.zero, i.size, i.bytes)) = some (some (.int .i64 0), 1, 8) := by kernel_rfl
theorem undrew {u W : World} (h : Below u.drew.heap.size u.drew W) : Below u.heap.size u W := (⟨rfl, rfl, rfl, Nat.le_refl _, fun _ _ => rfl⟩ : Below u.heap.size u u.drew).trans h
theorem isDig_ok (c : UInt8) (w : World) : Calls Tryd.prog 42 #[.int .u8 c.toNat] w fun e w' => e = .returned (.bool (isDig c)) ∧ w = w' := by
  obtain ⟨k, hk⟩ : ∃ k, c.toNat = k := ⟨_, rfl⟩
  have hd : isDig c = (decide (48 ≤ k) && decide (k ≤ 57)) := by rw [isDig, hk]
  rw [hd, hk]
  clear hd hk c
  by_cases h1 : 48 ≤ k
  · by_cases h2 : k ≤ 57
    · have e1 : decide (48 ≤ (k : Int)) = true := decide_eq_true (by omega)
      have e2 : decide ((k : Int) ≤ 57) = true := decide_eq_true (by omega)
      rw [decide_eq_true h1, decide_eq_true h2]
      go_enter Tryd.func42, Tryd.ntmps42
      go_wp2
      go_ret
      exact ⟨rfl, rfl⟩
    · have e1 : decide (48 ≤ (k : Int)) = true := decide_eq_true (by omega)
      have e2 : decide ((k : Int) ≤ 57) = false := decide_eq_false (by omega)
      rw [decide_eq_true h1, decide_eq_false h2]
      go_enter Tryd.func42, Tryd.ntmps42
      go_wp2
      go_ret
      exact ⟨rfl, rfl⟩
  · have e1 : decide (48 ≤ (k : Int)) = false := decide_eq_false (by omega)
    rw [decide_eq_false h1]
    go_enter Tryd.func42, Tryd.ntmps42
    go_wp2
    go_ret
    exact ⟨rfl, rfl⟩

theorem tkV_mk (kind : Int) (T : ByteArray) (a : Nat) : tkV ⟨kind, T.data.toList, a⟩ = [.int .i64 kind, .string T, .int .i64 a] := by simp [tkV]

/-- what a panic of the lexer carries. -/
def stopV (c : Int) (a : Nat) : Value := .iface 46 (.agg #[.int .i64 c, .int .i64 a])
theorem lxFail_ok (X : Nat) (c : Int) (a : Nat) (w : World) : Calls Tryd.prog 39 #[.pointer (some ⟨X, 0, none⟩), .int .i64 c, .int .i64 a] w fun e w' => e = .panicked [{ v := stopV c a, recovered := false }] ∧ w = w' := by
  unfold stopV
  go_enter Tryd.func39, Tryd.ntmps39
  go_wp2
  exact ⟨rfl, rfl, rfl⟩

set_option maxHeartbeats 1000000 in
theorem lxPutX_ok {w : World} {base X : Nat} {s : ByteArray} {p o : Nat} {st : List Nat} {toks : List Tk} {LA BA : Option Addr} {LC BC : Nat} (kind : Int) (T : ByteArray) (a : Nat) (h : Lx w base X s p o st toks LA LC BA BC) (hz : base ≤ w.heap.size) (hT : T.size ≤ 1099511627776) (hn : toks.length ≤ 1000000) :
    Calls Tryd.prog 28 #[.pointer (some ⟨X, 0, none⟩), .int .i64 kind, .string T, .int .i64 a] w fun e w' => e = .returned (.tuple #[]) ∧ (∃ LA' LC', Lx w' base X s p o st (toks ++ [⟨kind, T.data.toList, a⟩]) LA' LC' BA BC ∧ ∀ B, B < w.heap.size → B ≠ X → (Value.slice LA toks.length LC).ownBlock ≠ some B → w'.heap[B]? = w.heap[B]? ∧ (Value.slice LA' (toks.length + 1) LC').ownBlock ≠ some B) ∧ Below base w w' := by
  obtain ⟨i0, hi0, hz0, hz1, hz2⟩ := info_parts tok_info
  have hX := h.lt
  have q2 := h.c2
  have hC := fun W => clone_ok T W hT
  go_enter Tryd.func28, Tryd.ntmps28
  go_wp2_with fail
  go_region_law (first
    | (refine step_append_lies _ (by rfl) _ _ _ (by rfl) base 35 i0 _ 3 32 Tryd.underlying24 hi0 hz0 hz1 hz2 rfl (by omega) (.slice LA toks.length LC) toks.length (tkVs toks) (by rfl) (h1.ol.alloc _) ⟨w1.heap.size, 0, none⟩ 1 1 [.int .i64 kind, .string T, .int .i64 a] (by rfl) (by rfl) (World.news_of_block (cs := #[.int .i64 kind, .string T, .int .i64 a]) (t := 35) (fr := (0, 0)) (heap_alloc_new w1 _)) (by simp [Value.oneCell']) (by omega) (by unfold maxLen; omega) (by omega) (by have := hb.size; simp; omega) (w1.heap.size + 1) (by simp) ?_; intro gg cap w2 hown2 hgrow hat hlt; have h2 := h1.later ((Below.refl _ _).alloc (Nat.le_refl w1.heap.size) (.cells #[.int .i64 kind, .string T, .int .i64 a] 35)); have k2 := hgrow.cell h2.c2 (fun e => h2.nl e.symm); have kf : w2.frozen? ⟨X, 2, none⟩ = false := (World.frozen?_of_block (a := ⟨X, 2, none⟩) (hgrow.block X h2.lt (fun e => h2.nl e.symm))).trans h2.f2; have hX2 : X < w2.heap.size := Nat.lt_of_lt_of_le h2.lt hgrow.size)
    | (go_simp; go_at_call 46; refine (hC _).mono ?_; rintro e w1 ⟨rfl, hb⟩; have hb := undrew hb; have h1 := h.later hb; have q2' := h1.c2; have hX1 := h1.lt))
  all_goals
    go_end0
    refine ⟨rfl, ⟨some ⟨gg, 0, none⟩, cap, ?_, ?_⟩, ?_⟩
    · refine h2.addTok (by have := hb.size; simp; omega) ⟨kind, T.data.toList, a⟩ (by rw [tkV_mk]; exact hown2) hgrow ?_
      rcases hat with e | e
      · exact Or.inl e
      · exact Or.inr (by rw [e]; simp)
    · intro B hB hBX hBL
      have hB1 : B < w1.heap.size := Nat.lt_of_lt_of_le hB hb.size
      refine ⟨?_, ?_⟩
      · rw [Below.heap_setCell _ _ _ _ hBX, hgrow.block B (by simp; omega) (fun e => hBL e.symm), heap_alloc_old w1 _ hB1]
        exact hb.5 B hB
      · simp only [Value.ownBlock, ne_eq, Option.some.injEq]
        rcases hat with e | e
        · exact fun e2 => hBL (by rw [e, e2])
        · omega
    · refine Below.setCell (p := ⟨X, 2, none⟩) ?_ h.bX _
      refine Below.grown ?_ hgrow (by have := hb.size; simp; omega) ?_
      · exact (hb.mono hz).alloc (Nat.le_trans hz hb.size) _
      · exact fun k hk => (h2.ol.lt k hk).1
theorem lxPut_ok {w : World} {base X : Nat} {s : ByteArray} {p o : Nat} {st : List Nat} {toks : List Tk} (kind : Int) (T : ByteArray) (a : Nat) (hL : LxS w base X s p o st toks) (hz : base ≤ w.heap.size) (hT : T.size ≤ 1099511627776) (hn : toks.length ≤ 1000000) :
    Calls Tryd.prog 28 #[.pointer (some ⟨X, 0, none⟩), .int .i64 kind, .string T, .int .i64 a] w fun e w' => e = .returned (.tuple #[]) ∧ LxS w' base X s p o st (toks ++ [⟨kind, T.data.toList, a⟩]) ∧ Below base w w' := by
  obtain ⟨LA, LC, BA, BC, h⟩ := hL
  refine (lxPutX_ok kind T a h hz hT hn).mono ?_
  rintro e w' ⟨he, ⟨LA', LC', hl, _⟩, hb⟩
  exact ⟨he, ⟨LA', LC', BA, BC, hl⟩, hb⟩
end Go.Proofs.YtgheejogpbhokaaDoor
