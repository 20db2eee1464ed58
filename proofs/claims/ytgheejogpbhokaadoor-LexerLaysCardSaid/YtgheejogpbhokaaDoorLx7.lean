/- The lexer's sign and token. -/
import Derived.Test.YtgheejogpbhokaaDoorLx6
namespace Go.Proofs.YtgheejogpbhokaaDoor
set_option linter.unusedVariables false
set_option linter.unusedSimpArgs false
open Go.RowKit
set_option maxRecDepth 1000000

theorem lit_of {T : ByteArray} {c : UInt8} (h : T.data.toList = [c]) : T = ⟨#[c]⟩ := by
  cases T with | mk d => simp only at h; congr 1; exact Array.toList_inj.1 h
theorem lit_nil {T : ByteArray} (h : T.data.toList = []) : T = ⟨#[]⟩ := by
  cases T with | mk d => simp only at h; congr 1; exact Array.toList_inj.1 h
theorem ne_lit {T : ByteArray} {x y : List UInt8} (h : T.data.toList = x) (hn : x ≠ y) : (T.toList == y) = false := by
  rw [Lib.toList_data, h]; simpa using hn
section
variable {w : World} {base X : Nat} {s : ByteArray} {p o : Nat} {st : List Nat} {toks : List Tk}
set_option maxHeartbeats 2000000 in
theorem lxSgn_none (x : List UInt8) (hx : signL (s.data.toList.drop p) = x) (hL : LxS w base X s p o st toks) (hz : base ≤ w.heap.size) (hs : s.size ≤ 1099511) (hp : p ≤ s.size) (hn : toks.length ≤ 1000000) (ho : o ≤ 60) (h0 : x = []) :
    Calls Tryd.prog 45 #[.pointer (some ⟨X, 0, none⟩)] w (TokR w base X s p st toks (signT o x)) := by
  have hS := fun W => lxSign_ok (s.extract p s.size) W (by have := rest_size s p; omega)
  have hTl := sgS_list (s.extract p s.size)
  rw [rest_list, hx] at hTl
  have hle := signL_len (s.data.toList.drop p)
  rw [hx, List.length_drop] at hle
  have hsz : s.data.toList.length = s.size := by simp
  rw [hsz] at hle
  generalize sgS (s.extract p s.size) = T at *
  have i1 : (p : Int) ≤ (s.size : Int) := by omega
  have i2 : (0 : Int) ≤ (p : Int) := by omega
  have hTn : T.size = x.length := by rw [← hTl]; simp
  obtain ⟨q0, q1, q3, f1, f3, hX, hbX⟩ := hL.cells
  clear hx hsz
  subst h0
  obtain rfl := lit_nil hTl
  clear hTl hTn hle
  unfold signT TokR
  rw [if_pos rfl]
  dsimp only
  go_enter Tryd.func45, Tryd.ntmps45
  go_wp2_with fail
  go_region_held3 (fun W => W.cell? ⟨X, 0, none⟩ = some (.string s) ∧ W.cell? ⟨X, 1, none⟩ = some (.int .i64 p)) (first | exact ⟨q0, q1⟩ | go_keep) (first | (go_at_call 52; refine (hS _).mono ?_; rintro e w' ⟨rfl, rfl⟩))
  clear q0 q1 q3 f1 f3
  obtain ⟨wr, hwr, hbr⟩ : ∃ u, u = w.drew ∧ Below w.heap.size w u := ⟨_, rfl, ⟨rfl, rfl, rfl, Nat.le_refl _, fun _ _ => rfl⟩⟩
  rw [← hwr]
  clear hwr
  replace hL := hL.later hbr
  have hz1 := Nat.le_trans hz hbr.size
  replace hbr := hbr.mono hz
  obtain ⟨q0, q1, q3, f1, f3, hX, hbX⟩ := hL.cells
  go_wp2_with (go_at_call 39; refine (lxFail_ok X 102 p _).mono ?_; rintro e w' ⟨rfl, rfl⟩)
  exact ⟨rfl, rfl, hbr⟩
set_option maxHeartbeats 2000000 in
theorem lxSgn_open (x : List UInt8) (hx : signL (s.data.toList.drop p) = x) (hL : LxS w base X s p o st toks) (hz : base ≤ w.heap.size) (hs : s.size ≤ 1099511) (hp : p ≤ s.size) (hn : toks.length ≤ 1000000) (ho : o ≤ 60) (h0 : x = [40] ∨ x = [91] ∨ x = [123]) :
    Calls Tryd.prog 45 #[.pointer (some ⟨X, 0, none⟩)] w (TokR w base X s p st toks (signT o x)) := by
  have hS := fun W => lxSign_ok (s.extract p s.size) W (by have := rest_size s p; omega)
  have hTl := sgS_list (s.extract p s.size)
  rw [rest_list, hx] at hTl
  have hle := signL_len (s.data.toList.drop p)
  rw [hx, List.length_drop] at hle
  have hsz : s.data.toList.length = s.size := by simp
  rw [hsz] at hle
  generalize sgS (s.extract p s.size) = T at *
  have i1 : (p : Int) ≤ (s.size : Int) := by omega
  have i2 : (0 : Int) ≤ (p : Int) := by omega
  have hTn : T.size = x.length := by rw [← hTl]; simp
  obtain ⟨q0, q1, q3, f1, f3, hX, hbX⟩ := hL.cells
  clear hx hsz
  have hgo : signT o x = (if o = 60 then .bad 107 else .tok 5 x 1 (o + 1)) := by rcases h0 with rfl | rfl | rfl <;> rfl
  rw [hgo]
  clear hgo
  by_cases h60 : o = 60
  · subst h60
    rw [if_pos rfl]
    unfold TokR
    dsimp only
    rcases h0 with rfl | rfl | rfl
    all_goals
      obtain rfl := lit_of hTl
      clear hTl hTn hle
      go_enter Tryd.func45, Tryd.ntmps45
      go_wp2_with fail
      go_region_held3 (fun W => W.cell? ⟨X, 0, none⟩ = some (.string s) ∧ W.cell? ⟨X, 1, none⟩ = some (.int .i64 p)) (first | exact ⟨q0, q1⟩ | go_keep) (first | (go_at_call 52; refine (hS _).mono ?_; rintro e w' ⟨rfl, rfl⟩))
      clear q0 q1 q3 f1 f3
      obtain ⟨wr, hwr, hbr⟩ : ∃ u, u = w.drew ∧ Below w.heap.size w u := ⟨_, rfl, ⟨rfl, rfl, rfl, Nat.le_refl _, fun _ _ => rfl⟩⟩
      rw [← hwr]
      clear hwr
      replace hL := hL.later hbr
      have hz1 := Nat.le_trans hz hbr.size
      replace hbr := hbr.mono hz
      obtain ⟨q0, q1, q3, f1, f3, hX, hbX⟩ := hL.cells
      go_wp2_with (go_at_call 39; refine (lxFail_ok X 107 p _).mono ?_; rintro e w' ⟨rfl, rfl⟩)
      exact ⟨rfl, rfl, hbr⟩
  · rw [if_neg h60]
    have e60 : ((o : Int) == 60) = false := by simp; omega
    clear h60
    unfold TokR
    dsimp only
    rcases h0 with rfl | rfl | rfl
    all_goals
      obtain rfl := lit_of hTl
      clear hTl hTn
      go_enter Tryd.func45, Tryd.ntmps45
      go_wp2_with fail
      go_region_held3 (fun W => W.cell? ⟨X, 0, none⟩ = some (.string s) ∧ W.cell? ⟨X, 1, none⟩ = some (.int .i64 p)) (first | exact ⟨q0, q1⟩ | go_keep) (first | (go_at_call 52; refine (hS _).mono ?_; rintro e w' ⟨rfl, rfl⟩))
      clear q0 q1 q3 f1 f3
      obtain ⟨wr, hwr, hbr⟩ : ∃ u, u = w.drew ∧ Below w.heap.size w u := ⟨_, rfl, ⟨rfl, rfl, rfl, Nat.le_refl _, fun _ _ => rfl⟩⟩
      rw [← hwr]
      clear hwr
      replace hL := hL.later hbr
      have hz1 := Nat.le_trans hz hbr.size
      replace hbr := hbr.mono hz
      obtain ⟨q0, q1, q3, f1, f3, hX, hbX⟩ := hL.cells
      have hL3 := hL.setOpn (o + 1) ((o : Int) + 1) (by omega)
      go_wp2_with (go_at_call 28; refine (lxPut_ok 5 _ p hL3 (by rw [World.size_setCell]; exact hz1) (by decide) hn).mono ?_; rintro e w2 ⟨rfl, hL2, hb2⟩; clear q0 q1 q3 f1 f3; obtain ⟨q0, q1, q3, f1, f3, hX, hbX⟩ := hL2.cells)
      go_end0
      exact ⟨rfl, hL2.setPos _ _ (by omega), Below.setCell (p := ⟨X, 1, none⟩) ((Below.setCell (p := ⟨X, 3, none⟩) hbr hbX _).trans hb2) hbX _⟩
set_option maxHeartbeats 2000000 in
theorem lxSgn_shut (x : List UInt8) (hx : signL (s.data.toList.drop p) = x) (hL : LxS w base X s p o st toks) (hz : base ≤ w.heap.size) (hs : s.size ≤ 1099511) (hp : p ≤ s.size) (hn : toks.length ≤ 1000000) (ho : o ≤ 60) (h0 : x = [41] ∨ x = [93] ∨ x = [125]) :
    Calls Tryd.prog 45 #[.pointer (some ⟨X, 0, none⟩)] w (TokR w base X s p st toks (signT o x)) := by
  have hS := fun W => lxSign_ok (s.extract p s.size) W (by have := rest_size s p; omega)
  have hTl := sgS_list (s.extract p s.size)
  rw [rest_list, hx] at hTl
  have hle := signL_len (s.data.toList.drop p)
  rw [hx, List.length_drop] at hle
  have hsz : s.data.toList.length = s.size := by simp
  rw [hsz] at hle
  generalize sgS (s.extract p s.size) = T at *
  have i1 : (p : Int) ≤ (s.size : Int) := by omega
  have i2 : (0 : Int) ≤ (p : Int) := by omega
  have hTn : T.size = x.length := by rw [← hTl]; simp
  obtain ⟨q0, q1, q3, f1, f3, hX, hbX⟩ := hL.cells
  clear hx hsz
  have hgo : signT o x = .tok 5 x 1 (o - 1) := by rcases h0 with rfl | rfl | rfl <;> rfl
  rw [hgo]
  clear hgo
  have hm : max (0 : Int) ((o : Int) - 1) = ((o - 1 : Nat) : Int) := by omega
  unfold TokR
  dsimp only
  rcases h0 with rfl | rfl | rfl
  all_goals
    obtain rfl := lit_of hTl
    clear hTl hTn
    go_enter Tryd.func45, Tryd.ntmps45
    go_wp2_with fail
    go_region_held3 (fun W => W.cell? ⟨X, 0, none⟩ = some (.string s) ∧ W.cell? ⟨X, 1, none⟩ = some (.int .i64 p)) (first | exact ⟨q0, q1⟩ | go_keep) (first | (go_at_call 52; refine (hS _).mono ?_; rintro e w' ⟨rfl, rfl⟩))
    clear q0 q1 q3 f1 f3
    obtain ⟨wr, hwr, hbr⟩ : ∃ u, u = w.drew ∧ Below w.heap.size w u := ⟨_, rfl, ⟨rfl, rfl, rfl, Nat.le_refl _, fun _ _ => rfl⟩⟩
    rw [← hwr]
    clear hwr
    replace hL := hL.later hbr
    have hz1 := Nat.le_trans hz hbr.size
    replace hbr := hbr.mono hz
    obtain ⟨q0, q1, q3, f1, f3, hX, hbX⟩ := hL.cells
    have hL3 := hL.setOpn (o - 1) ((o - 1 : Nat) : Int) rfl
    go_wp2_with (go_at_call 28; refine (lxPut_ok 5 _ p hL3 (by rw [World.size_setCell]; exact hz1) (by decide) hn).mono ?_; rintro e w2 ⟨rfl, hL2, hb2⟩; clear q0 q1 q3 f1 f3; obtain ⟨q0, q1, q3, f1, f3, hX, hbX⟩ := hL2.cells)
    go_end0
    exact ⟨rfl, hL2.setPos _ _ (by omega), Below.setCell (p := ⟨X, 1, none⟩) ((Below.setCell (p := ⟨X, 3, none⟩) hbr hbX _).trans hb2) hbX _⟩
set_option maxHeartbeats 2000000 in
theorem lxSgn_else (x : List UInt8) (hx : signL (s.data.toList.drop p) = x) (hL : LxS w base X s p o st toks) (hz : base ≤ w.heap.size) (hs : s.size ≤ 1099511) (hp : p ≤ s.size) (hn : toks.length ≤ 1000000) (ho : o ≤ 60) (h0 : x ≠ []) (h1 : ¬ (x = [40] ∨ x = [91] ∨ x = [123])) (h2 : ¬ (x = [41] ∨ x = [93] ∨ x = [125])) :
    Calls Tryd.prog 45 #[.pointer (some ⟨X, 0, none⟩)] w (TokR w base X s p st toks (signT o x)) := by
  have hS := fun W => lxSign_ok (s.extract p s.size) W (by have := rest_size s p; omega)
  have hTl := sgS_list (s.extract p s.size)
  rw [rest_list, hx] at hTl
  have hle := signL_len (s.data.toList.drop p)
  rw [hx, List.length_drop] at hle
  have hsz : s.data.toList.length = s.size := by simp
  rw [hsz] at hle
  generalize sgS (s.extract p s.size) = T at *
  have i1 : (p : Int) ≤ (s.size : Int) := by omega
  have i2 : (0 : Int) ≤ (p : Int) := by omega
  have hTn : T.size = x.length := by rw [← hTl]; simp
  obtain ⟨q0, q1, q3, f1, f3, hX, hbX⟩ := hL.cells
  clear hx hsz
  unfold signT TokR
  rw [if_neg h0, if_neg h1, if_neg h2]
  dsimp only
  simp only [not_or] at h1 h2
  have e0 := ne_lit hTl h0
  have e0' : T.toList.isEmpty = false := by rw [Lib.toList_data, hTl]; cases x with | nil => exact absurd rfl h0 | cons a b => rfl
  have e1 := ne_lit hTl h1.1
  have e2 := ne_lit hTl h1.2.1
  have e3 := ne_lit hTl h1.2.2
  have e4 := ne_lit hTl h2.1
  have e5 := ne_lit hTl h2.2.1
  have e6 := ne_lit hTl h2.2.2
  have hP := fun (k : Int) (W : World) (h : LxS W base X s p o st toks) (h2 : base ≤ W.heap.size) => lxPut_ok k T p h h2 (by omega) hn
  rw [hTl] at hP
  rw [← hTn] at hle ⊢
  clear h0 h1 h2 hTl hTn
  go_enter Tryd.func45, Tryd.ntmps45
  go_wp2_with fail
  go_region_held3 (fun W => W.cell? ⟨X, 0, none⟩ = some (.string s) ∧ W.cell? ⟨X, 1, none⟩ = some (.int .i64 p)) (first | exact ⟨q0, q1⟩ | go_keep) (first | (go_at_call 52; refine (hS _).mono ?_; rintro e w' ⟨rfl, rfl⟩))
  clear q0 q1 q3 f1 f3
  obtain ⟨wr, hwr, hbr⟩ : ∃ u, u = w.drew ∧ Below w.heap.size w u := ⟨_, rfl, ⟨rfl, rfl, rfl, Nat.le_refl _, fun _ _ => rfl⟩⟩
  rw [← hwr]
  clear hwr
  replace hL := hL.later hbr
  have hz1 := Nat.le_trans hz hbr.size
  replace hbr := hbr.mono hz
  obtain ⟨q0, q1, q3, f1, f3, hX, hbX⟩ := hL.cells
  go_wp2_with (go_at_call 28; refine (hP _ _ hL hz1).mono ?_; rintro e w2 ⟨rfl, hL2, hb2⟩; clear q0 q1 q3 f1 f3; obtain ⟨q0, q1, q3, f1, f3, hX, hbX⟩ := hL2.cells)
  go_end0
  exact ⟨rfl, hL2.setPos _ _ (by omega), Below.setCell (p := ⟨X, 1, none⟩) (hbr.trans hb2) hbX _⟩
end
end Go.Proofs.YtgheejogpbhokaaDoor
