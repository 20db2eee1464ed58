/- The reference's letter, digit, add and fault. -/
import Derived.Test.YtgheejogpbhokaaDoorRx0
namespace Go.Proofs.YtgheejogpbhokaaDoor
set_option linter.unusedVariables false
set_option linter.unusedSimpArgs false
open Go.RowKit
set_option maxRecDepth 1000000

theorem refLet_ok (c : UInt8) (w : World) : Calls Tryd.prog 31 #[.int .u8 c.toNat] w fun e w' => e = .returned (.bool (isLet c)) ∧ w = w' := by
  obtain ⟨k, hk⟩ : ∃ k, c.toNat = k := ⟨_, rfl⟩
  have hd : isLet c = ((decide (97 ≤ k) && decide (k ≤ 122)) || (decide (65 ≤ k) && decide (k ≤ 90)) || k == 95) := by rw [isLet, hk]
  rw [hd, hk]
  clear hd hk c
  rcases (by omega : k < 65 ∨ (65 ≤ k ∧ k ≤ 90) ∨ (90 < k ∧ k < 95) ∨ k = 95 ∨ k = 96 ∨ (97 ≤ k ∧ k ≤ 122) ∨ 122 < k) with h | h | h | h | h | h | h
  · have hr : ((decide (97 ≤ k) && decide (k ≤ 122)) || (decide (65 ≤ k) && decide (k ≤ 90)) || k == 95) = false := by simp; omega
    rw [hr]
    clear hr
    have e1 : decide (97 ≤ (k : Int)) = false := decide_eq_false (by omega)
    have e3 : decide (65 ≤ (k : Int)) = false := decide_eq_false (by omega)
    have e5 : ((k : Int) == 95) = false := by simp; omega
    clear h
    go_enter Tryd.func31, Tryd.ntmps31
    go_wp2
    go_ret
    exact ⟨rfl, rfl⟩
  · have hr : ((decide (97 ≤ k) && decide (k ≤ 122)) || (decide (65 ≤ k) && decide (k ≤ 90)) || k == 95) = true := by simp; omega
    rw [hr]
    clear hr
    have e1 : decide (97 ≤ (k : Int)) = false := decide_eq_false (by omega)
    have e3 : decide (65 ≤ (k : Int)) = true := decide_eq_true (by omega)
    have e4 : decide ((k : Int) ≤ 90) = true := decide_eq_true (by omega)
    clear h
    go_enter Tryd.func31, Tryd.ntmps31
    go_wp2
    go_ret
    exact ⟨rfl, rfl⟩
  · have hr : ((decide (97 ≤ k) && decide (k ≤ 122)) || (decide (65 ≤ k) && decide (k ≤ 90)) || k == 95) = false := by simp; omega
    rw [hr]
    clear hr
    have e1 : decide (97 ≤ (k : Int)) = false := decide_eq_false (by omega)
    have e3 : decide (65 ≤ (k : Int)) = true := decide_eq_true (by omega)
    have e4 : decide ((k : Int) ≤ 90) = false := decide_eq_false (by omega)
    have e5 : ((k : Int) == 95) = false := by simp; omega
    clear h
    go_enter Tryd.func31, Tryd.ntmps31
    go_wp2
    go_ret
    exact ⟨rfl, rfl⟩
  · have hr : ((decide (97 ≤ k) && decide (k ≤ 122)) || (decide (65 ≤ k) && decide (k ≤ 90)) || k == 95) = true := by simp; omega
    rw [hr]
    clear hr
    have e1 : decide (97 ≤ (k : Int)) = false := decide_eq_false (by omega)
    have e3 : decide (65 ≤ (k : Int)) = true := decide_eq_true (by omega)
    have e4 : decide ((k : Int) ≤ 90) = false := decide_eq_false (by omega)
    have e5 : ((k : Int) == 95) = true := by simp; omega
    clear h
    go_enter Tryd.func31, Tryd.ntmps31
    go_wp2
    go_ret
    exact ⟨rfl, rfl⟩
  · have hr : ((decide (97 ≤ k) && decide (k ≤ 122)) || (decide (65 ≤ k) && decide (k ≤ 90)) || k == 95) = false := by simp; omega
    rw [hr]
    clear hr
    have e1 : decide (97 ≤ (k : Int)) = false := decide_eq_false (by omega)
    have e3 : decide (65 ≤ (k : Int)) = true := decide_eq_true (by omega)
    have e4 : decide ((k : Int) ≤ 90) = false := decide_eq_false (by omega)
    have e5 : ((k : Int) == 95) = false := by simp; omega
    clear h
    go_enter Tryd.func31, Tryd.ntmps31
    go_wp2
    go_ret
    exact ⟨rfl, rfl⟩
  · have hr : ((decide (97 ≤ k) && decide (k ≤ 122)) || (decide (65 ≤ k) && decide (k ≤ 90)) || k == 95) = true := by simp; omega
    rw [hr]
    clear hr
    have e1 : decide (97 ≤ (k : Int)) = true := decide_eq_true (by omega)
    have e2 : decide ((k : Int) ≤ 122) = true := decide_eq_true (by omega)
    clear h
    go_enter Tryd.func31, Tryd.ntmps31
    go_wp2
    go_ret
    exact ⟨rfl, rfl⟩
  · have hr : ((decide (97 ≤ k) && decide (k ≤ 122)) || (decide (65 ≤ k) && decide (k ≤ 90)) || k == 95) = false := by simp; omega
    rw [hr]
    clear hr
    have e1 : decide (97 ≤ (k : Int)) = true := decide_eq_true (by omega)
    have e2 : decide ((k : Int) ≤ 122) = false := decide_eq_false (by omega)
    have e3 : decide (65 ≤ (k : Int)) = true := decide_eq_true (by omega)
    have e4 : decide ((k : Int) ≤ 90) = false := decide_eq_false (by omega)
    have e5 : ((k : Int) == 95) = false := by simp; omega
    clear h
    go_enter Tryd.func31, Tryd.ntmps31
    go_wp2
    go_ret
    exact ⟨rfl, rfl⟩

theorem refDig_ok (c : UInt8) (w : World) : Calls Tryd.prog 32 #[.int .u8 c.toNat] w fun e w' => e = .returned (.bool (isDig c)) ∧ w = w' := by
  obtain ⟨k, hk⟩ : ∃ k, c.toNat = k := ⟨_, rfl⟩
  have hd : isDig c = (decide (48 ≤ k) && decide (k ≤ 57)) := by rw [isDig, hk]
  rw [hd, hk]
  clear hd hk c
  by_cases h1 : 48 ≤ k
  · by_cases h2 : k ≤ 57
    · have e1 : decide (48 ≤ (k : Int)) = true := decide_eq_true (by omega)
      have e2 : decide ((k : Int) ≤ 57) = true := decide_eq_true (by omega)
      rw [decide_eq_true h1, decide_eq_true h2]
      go_enter Tryd.func32, Tryd.ntmps32
      go_wp2
      go_ret
      exact ⟨rfl, rfl⟩
    · have e1 : decide (48 ≤ (k : Int)) = true := decide_eq_true (by omega)
      have e2 : decide ((k : Int) ≤ 57) = false := decide_eq_false (by omega)
      rw [decide_eq_true h1, decide_eq_false h2]
      go_enter Tryd.func32, Tryd.ntmps32
      go_wp2
      go_ret
      exact ⟨rfl, rfl⟩
  · have e1 : decide (48 ≤ (k : Int)) = false := decide_eq_false (by omega)
    rw [decide_eq_false h1]
    go_enter Tryd.func32, Tryd.ntmps32
    go_wp2
    go_ret
    exact ⟨rfl, rfl⟩

theorem below_dN {B : Nat} {a w : World} (h : Below B a w) (n : Nat) : Below B a (w.drewN n) := h.trans ⟨rfl, rfl, rfl, Nat.le_refl _, fun _ _ => rfl⟩
theorem drew_ok {B : Nat} {a u : World} (h : Below B a u) : Below B a u.drew := h.trans ⟨rfl, rfl, rfl, Nat.le_refl _, fun _ _ => rfl⟩
section
variable {w : World} {base X : Nat} {SA : Option Addr} {sc : Nat} {s : ByteArray} {o : Nat} {st : List Nat} {toks : List Tk} {fc : Int} {fa : Nat}
set_option maxHeartbeats 1000000 in
theorem rxAdd_ok (kind : Int) (T : ByteArray) (a : Nat) (hL : RxS w base X SA sc s o st toks fc fa) (hn : toks.length ≤ 1000000) :
    Calls Tryd.prog 19 #[.pointer (some ⟨X, 0, none⟩), .int .i64 kind, .string T, .int .i64 a] w fun e w' => e = .returned (.tuple #[]) ∧ RxS w' base X SA sc s o st (toks ++ [⟨kind, T.data.toList, a⟩]) fc fa ∧ Below base w w' := by
  obtain ⟨LA, LC, BA, BC, h⟩ := hL
  obtain ⟨i0, hi0, hz0, hz1, hz2⟩ := info_parts tok_info
  have hX := h.lt
  have hz := h.hz
  have q2 := h.c1
  go_enter Tryd.func19, Tryd.ntmps19
  go_wp2_with (at_builtin; refine wpList_append_lies _ rfl _ _ 24 rfl base 35 i0 _ 3 32 Tryd.underlying24 hi0 hz0 hz1 hz2 rfl (by omega) (.slice LA toks.length LC) toks.length (tkVs toks) rfl (h.ol.alloc _) ⟨w.heap.size, 0, none⟩ 1 1 [.int .i64 kind, .string T, .int .i64 a] rfl rfl (World.news_of_block (cs := #[.int .i64 kind, .string T, .int .i64 a]) (t := 35) (fr := (0, 0)) (heap_alloc_new w _)) (by simp [Value.oneCell']) (by omega) (by unfold maxLen; omega) (by omega) (by simp; omega) (w.heap.size + 1) (by simp) ?_; intro gg cap w4 hown4 hgrow hat hlt; have h2 := h.later ((Below.refl _ _).alloc (Nat.le_refl w.heap.size) (.cells #[.int .i64 kind, .string T, .int .i64 a] 35)); have k4 := hgrow.cell h2.c1 (fun e => h2.nl e.symm); have kf : w4.frozen? ⟨X, 1, none⟩ = false := (World.frozen?_of_block (a := ⟨X, 1, none⟩) (hgrow.block X h2.lt (fun e => h2.nl e.symm))).trans h2.f1; have hX4 : X < w4.heap.size := Nat.lt_of_lt_of_le h2.lt hgrow.size)
  all_goals
    go_end0
    refine ⟨rfl, ⟨some ⟨gg, 0, none⟩, cap, BA, BC, ?_⟩, ?_⟩
    · refine h2.addTok ⟨kind, T.data.toList, a⟩ (by rw [tkV_mk]; exact hown4) hgrow ?_
      rcases hat with e | e
      · exact Or.inl e
      · exact Or.inr (by rw [e]; simp)
    · refine Below.setCell (p := ⟨X, 1, none⟩) ?_ h.bX _
      refine Below.grown ?_ hgrow (by simp; omega) ?_
      · exact (Below.refl _ _).alloc hz _
      · exact fun k hk => (h2.ol.lt k hk).1
theorem RxS.setFault (h : RxS w base X SA sc s o st toks fc fa) (c : Int) (a : Nat) : RxS ((w.setCell ⟨X, 4, none⟩ (.int .i64 c)).setCell ⟨X, 5, none⟩ (.int .i64 a)) base X SA sc s o st toks c a := by
  obtain ⟨LA, LC, BA, BC, h⟩ := h
  exact ⟨LA, LC, BA, BC, (h.setFc c).setFa a⟩
theorem rxFault_ok (c : Int) (a : Nat) (hL : RxS w base X SA sc s o st toks fc fa) :
    Calls Tryd.prog 30 #[.pointer (some ⟨X, 0, none⟩), .int .i64 c, .int .i64 a] w fun e w' => e = .returned (.tuple #[]) ∧ RxS w' base X SA sc s o st toks c a ∧ Below base w w' := by
  obtain ⟨q4, q5, f4, f5, hX, hbX⟩ : w.cell? ⟨X, 4, none⟩ = some (.int .i64 fc) ∧ w.cell? ⟨X, 5, none⟩ = some (.int .i64 fa) ∧ w.frozen? ⟨X, 4, none⟩ = false ∧ w.frozen? ⟨X, 5, none⟩ = false ∧ X < w.heap.size ∧ base ≤ X := by
    obtain ⟨LA, LC, BA, BC, h⟩ := hL
    exact ⟨h.c4, h.c5, h.f4, h.f5, h.lt, h.bX⟩
  go_enter Tryd.func30, Tryd.ntmps30
  go_wp2
  go_end0
  exact ⟨rfl, hL.setFault c a, Below.setCell (p := ⟨X, 5, none⟩) (Below.setCell (p := ⟨X, 4, none⟩) (Below.refl _ _) hbX _) hbX _⟩
end
end Go.Proofs.YtgheejogpbhokaaDoor
