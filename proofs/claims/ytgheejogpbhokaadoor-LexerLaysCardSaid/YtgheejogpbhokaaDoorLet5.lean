/- The reference's width. -/
import Derived.Test.YtgheejogpbhokaaDoorLet4
import Derived.Laws.Cover4
namespace Go.Proofs.YtgheejogpbhokaaDoor
set_option linter.unusedVariables false
set_option linter.unusedSimpArgs false
open Go.RowKit Go.Shelf
set_option maxRecDepth 1000000

/-- the runes' bytes as a string. -/
def encsB (rs : List Nat) : ByteArray := ⟨(encs rs).toArray⟩
theorem encsB_list (rs : List Nat) : (encsB rs).data.toList = encs rs := by simp [encsB]
theorem runesBytes_eq (rs : List Nat) : runesBytes (nums rs) = encsB rs := by
  have h : ∀ (rs : List Nat) (b : ByteArray), ((nums rs).foldl (fun r n => r ++ Utf8.encode n) b).data.toList = b.data.toList ++ encs rs := by
    intro rs
    induction rs with
    | nil => intro b; simp [nums, encs]
    | cons r rs ih =>
      intro b
      have := ih (b ++ Utf8.encode (r : Int))
      simp only [nums, List.map_cons, List.foldl_cons] at this ⊢
      refine Eq.trans this ?_
      simp [encs, enc, ByteArray.data_append]
  have h2 := h rs ByteArray.empty
  refine ByteArray.ext (Array.ext' ?_)
  rw [encsB_list]
  simpa [runesBytes] using h2
theorem conv_runes (w : World) (A : Option Addr) (c : Nat) (rs : List Nat) (h : RdI w .i32 A (nums rs)) :
    (convert 65 9 (.slice A rs.length c)).run Tryd.prog w = .ok (.string (encsB rs)) w := by
  cases A with
  | none =>
    have hrs : rs = [] := by
      cases rs with
      | nil => rfl
      | cons r rs => obtain ⟨b, off, z, hA, _⟩ := h 0 (by simp [nums]); cases hA
    subst hrs
    exact run_convert_runes_nil w _ _ _ _ _ Tryd.underlying65 Tryd.underlying21 Tryd.underlying9
  | some a =>
    have := run_convert_runes (P := Tryd.prog) w 65 9 21 a rs.length c (nums rs) (by rw [nums_length]; exact Nat.le_refl _) Tryd.underlying65 Tryd.underlying21 Tryd.underlying9 (by
      intro j hj
      obtain ⟨b, off, z, hA, hz, hc⟩ := h j hj
      injection hA with hA
      subst hA
      rw [Addr.add_lit, hc]
      congr 2
      rw [List.getD_eq_getElem?_getD, hz]; rfl)
    rw [this, List.take_of_length_le (by rw [nums_length]; exact Nat.le_refl _), runesBytes_eq]

theorem dec_w4 (l : List UInt8) (hne : l ≠ []) : (Lib.decodeL l).2 ≤ 4 := by
  by_cases hb : Bad l
  · rw [hb.2]; decide
  · have h1 := enc_dec l hne hb
    have h2 := (enc_len (Lib.decodeL l).1).2
    have h3 := Lib.decodeL_le l hne
    rw [h1, List.length_take] at h2
    omega
theorem widthV_le (l : List UInt8) : widthV l ≤ 4 ∧ widthV l ≤ l.length := by
  unfold widthV
  by_cases h : l = [] ∨ Bad l
  · rw [if_pos h]; omega
  · rw [if_neg h]
    have hne : l ≠ [] := fun e => h (Or.inl e)
    exact ⟨dec_w4 l hne, Lib.decodeL_le l hne⟩
theorem widthV_iff (l : List UInt8) (n : Nat) (hn : 1 ≤ n) (hnl : n ≤ l.length) : ((pieces (l.take n)).length = 1 ∧ encs (pieces (l.take n)) = l.take n) ↔ widthV l = n := by
  have hne : l ≠ [] := by intro h; rw [h] at hnl; simp at hnl; omega
  rw [width_at l n hn hnl]
  unfold widthV
  constructor
  · rintro ⟨h1, h2⟩
    rw [if_neg (by rintro (h | h); exact hne h; exact h1 h), h2]
  · intro h
    by_cases hb : l = [] ∨ Bad l
    · rw [if_pos hb] at h; omega
    · rw [if_neg hb] at h
      exact ⟨fun e => hb (Or.inr e), h.symm⟩

theorem ext_take (s : ByteArray) (p n : Nat) : (s.extract p (p + n)).data.toList = (s.data.toList.drop p).take n := by
  rw [Lib.extract_data]; congr 1; omega

set_option maxRecDepth 100000 in
set_option maxHeartbeats 2000000 in
theorem width_ok (s : ByteArray) (p : Nat) (hp : p ≤ s.size) (w : World) (hs : s.size ≤ 1099511627776) :
    Calls Tryd.prog 48 #[.string s, .int .i64 p] w fun e w' => e = .returned (.int .i64 (widthV (s.data.toList.drop p))) ∧ Below w.heap.size w w' := by
  have hw4 := widthV_le (s.data.toList.drop p)
  rw [List.length_drop, show s.data.toList.length = s.size by simp] at hw4
  have hwi := widthV_iff (s.data.toList.drop p)
  rw [List.length_drop, show s.data.toList.length = s.size by simp] at hwi
  obtain ⟨W, hW⟩ : ∃ W, widthV (s.data.toList.drop p) = W := ⟨_, rfl⟩
  rw [hW] at hw4 hwi ⊢
  have HW := Lib.hid hw4
  have HI := Lib.hid hwi
  clear hw4 hwi hW
  go_enter Tryd.func48, Tryd.ntmps48
  go_wp2
  go_loopw [5] (fun v wr => ∃ n : Nat, v = .int .i64 n ∧ 1 ≤ n ∧ n ≤ 5 ∧ Below w.heap.size w wr ∧ Hid (W = 0 ∨ n ≤ W)) (fun v _ => 5 - (intOf v).toNat)
  case atStart => exact ⟨1, rfl, Nat.le_refl _, by omega, Below.refl _ _, by show W = 0 ∨ 1 ≤ W; omega⟩
  case round =>
    obtain ⟨n, rfl, h1, h5, hbw, hT⟩ := hrel
    by_cases hc : n ≤ 4 ∧ p + n ≤ s.size
    · obtain ⟨hc1, hc2⟩ := hc
      have hpc := fun wx => pieces_ok (s.extract p (p + n)) wx (by simp; omega)
      have hiff := HI.out n h1 (by omega)
      rw [← ext_take] at hiff
      obtain ⟨rs, hrs⟩ : ∃ rs, pieces (s.extract p (p + n)).data.toList = rs := ⟨_, rfl⟩
      rw [hrs] at hiff
      simp only [hrs] at hpc
      have HF := Lib.hid hiff
      clear hiff hrs
      go_wp2_with (go_at_call 35; refine (hpc wr).mono ?_; rintro e w1 ⟨A, c, rfl, l1, l2, fr, hb1⟩; have hcv := fun m => conv_runes (w1.drewN m) A c rs (fr.later (below_drewN (Below.refl _ _) m)).rd)
      clear hpc
      have hb2 := hbw.trans (hb1.mono hbw.size)
      have hcase : (((rs.length : Int) == 1) = true ∧ ((encsB rs).toList == (s.extract p (p + n)).toList) = true ∧ Hid (W = n)) ∨ (((rs.length : Int) == 1) = true ∧ ((encsB rs).toList == (s.extract p (p + n)).toList) = false ∧ Hid (W ≠ n)) ∨ (((rs.length : Int) == 1) = false ∧ Hid (W ≠ n)) := by
        have h := HF.out
        rw [Lib.toList_data, Lib.toList_data, encsB_list]
        by_cases e1 : rs.length = 1
        · by_cases e2 : encs rs = (s.extract p (p + n)).data.toList
          · exact Or.inl ⟨by rw [e1]; rfl, by rw [e2]; simp, h.1 ⟨e1, e2⟩⟩
          · exact Or.inr (Or.inl ⟨by rw [e1]; rfl, by simpa using e2, fun e => e2 (h.2 e).2⟩)
        · exact Or.inr (Or.inr ⟨beqI (b := 1) e1, fun e => e1 (h.2 e).1⟩)
      rcases hcase with ⟨x1, x2, x3⟩ | ⟨x1, x2, x3⟩ | ⟨x1, x3⟩
      · have hWn : W = n := x3
        clear hT HI HW HF x3
        subst hWn
        go_quiet (fail)
        go_wp2
        go_ret
        exact ⟨rfl, below_drewN hb2 nq⟩
      · go_quiet (fail)
        go_wp2
        go_round
        case rel => exact ⟨n + 1, by go_num, by omega, by omega, below_drewN hb2 nq, by have := hT.out; have := x3.out; show W = 0 ∨ n + 1 ≤ W; omega⟩
        case measure => simp [intOf]; omega
      · go_quiet (fail)
        go_wp2
        go_round
        case rel => exact ⟨n + 1, by go_num, by omega, by omega, below_drewN hb2 nq, by have := hT.out; have := x3.out; show W = 0 ∨ n + 1 ≤ W; omega⟩
        case measure => simp [intOf]; omega
    · have hW0 : W = 0 := by have := hT.out; have := HW.out; omega
      subst hW0
      clear hT HI HW
      have hc2 : (4 : Int) < n ∨ ((n : Int) ≤ 4 ∧ (s.size : Int) < (p : Int) + n) := by omega
      clear hc
      rcases hc2 with g | ⟨g, g2⟩
      all_goals
        go_wp2
        go_ret
        exact ⟨rfl, hbw⟩
end Go.Proofs.YtgheejogpbhokaaDoor
