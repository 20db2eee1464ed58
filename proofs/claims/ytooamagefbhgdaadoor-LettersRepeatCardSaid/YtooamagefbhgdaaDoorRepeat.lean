/- letters.Repeat and the reference's; the walk of the law LettersRepeat. -/
import Derived.Test.YtooamagefbhgdaaDoorTell1
import Derived.Deep.RegionWith
namespace Go.Proofs.YtooamagefbhgdaaDoor
open Go.RowKit Go.Shelf
set_option maxRecDepth 1000000

theorem encs_len4 : ∀ rs : List Nat, (encs rs).length ≤ 4 * rs.length
  | [] => by simp [encs]
  | r :: rs => by
    have := encs_len4 rs
    have := (enc_len r).2
    rw [encs_cons, List.length_append, List.length_cons]; omega
theorem pieces_ge (l : List UInt8) : l.length ≤ 4 * (pieces l).length := Nat.le_trans (encs_len l) (encs_len4 _)
theorem repeat_pieces (l : List UInt8) (hg : encs (pieces l) = l) : ∀ n, ∃ qs, Lib.repeatL l n = encs qs ∧ (∀ r ∈ qs, Sc r) ∧ qs.length = n * (pieces l).length
  | 0 => ⟨[], rfl, by simp, by simp⟩
  | n + 1 => by
    obtain ⟨qs, h1, h2, h3⟩ := repeat_pieces l hg n
    refine ⟨pieces l ++ qs, ?_, ?_, ?_⟩
    · rw [Lib.repeatL, h1, encs_append, hg]
    · intro r hr
      rcases List.mem_append.1 hr with h | h
      · exact pieces_sc l r h
      · exact h2 r h
    · rw [List.length_append, h3, Nat.succ_mul]; omega
theorem repeat_len (l : List UInt8) (hg : encs (pieces l) = l) (n : Nat) : (pieces (Lib.repeatL l n)).length = n * (pieces l).length := by
  obtain ⟨qs, h1, h2, h3⟩ := repeat_pieces l hg n
  rw [h1, pieces_encs qs h2, h3]

/-- a text so many times. -/
def repS (s : ByteArray) (n : Nat) : ByteArray := ⟨(Lib.repeatL s.data.toList n).toArray⟩
/-- what Repeat hands back. -/
def repR (x : ByteArray) (e : Int) : Value := .tuple #[.string x, .int .i64 e]

set_option maxHeartbeats 1000000 in
/-- nothing to repeat. -/
theorem repeat_none (s : ByteArray) (n : Int) (w : World) (hn : -9223372036854775808 ≤ n ∧ n ≤ 9223372036854775807) (h : n < 1 ∨ s.size = 0) :
    Calls Tryd.prog 25 #[.string s, .int .i64 n] w fun e w' => e = .returned (repR ⟨#[]⟩ 0) ∧ Below w.heap.size w w' := by
  have h : n < 1 ∨ (1 ≤ n ∧ s.size = 0) := by omega
  rcases h with h | ⟨h0, h⟩
  · go_enter Tryd.func25, Tryd.ntmps25
    go_wp2
    go_ret2
    exact ⟨rfl, Below.refl _ _⟩
  · have hse : s.toList.isEmpty = true := by rw [Lib.toList_data, List.eq_nil_of_length_eq_zero (l := s.data.toList) (by simpa using h)]; rfl
    go_enter Tryd.func25, Tryd.ntmps25
    go_wp2
    go_ret2
    exact ⟨rfl, Below.refl _ _⟩
set_option maxHeartbeats 1000000 in
theorem refRepeat_none (s : ByteArray) (n : Int) (w : World) (hn : -9223372036854775808 ≤ n ∧ n ≤ 9223372036854775807) (h : n < 1 ∨ s.size = 0) :
    Calls Tryd.prog 26 #[.string s, .int .i64 n] w fun e w' => e = .returned (repR ⟨#[]⟩ 0) ∧ Below w.heap.size w w' := by
  have h : n < 1 ∨ (1 ≤ n ∧ s.size = 0) := by omega
  rcases h with h | ⟨h0, h⟩
  · go_enter Tryd.func26, Tryd.ntmps26
    go_wp2
    go_ret2
    exact ⟨rfl, Below.refl _ _⟩
  · have hse : s.toList.isEmpty = true := by rw [Lib.toList_data, List.eq_nil_of_length_eq_zero (l := s.data.toList) (by simpa using h)]; rfl
    go_enter Tryd.func26, Tryd.ntmps26
    go_wp2
    go_ret2
    exact ⟨rfl, Below.refl _ _⟩

theorem below_drew {B : Nat} {a w : World} (h : Below B a w) : Below B a w.drew := h.trans ⟨rfl, rfl, rfl, Nat.le_refl _, fun _ _ => rfl⟩

theorem div_facts (n D : Nat) (hD : 65536 / n = D) : (65536 : Int).tdiv (n : Int) = (D : Int) ∧ (65536 : Int) / (n : Int) = (D : Int) := by
  have h : (65536 : Int) / (n : Int) = (D : Int) := by rw [← hD]; rfl
  exact ⟨by rw [Int.tdiv_eq_ediv_of_nonneg (by decide)]; exact h, h⟩

set_option maxHeartbeats 1000000 in
/-- too long. -/
theorem repeat_big (s : ByteArray) (n : Nat) (w : World) (hs : s.size ≤ 3000) (h0 : 0 < s.size) (hn : 1 ≤ n) (hn2 : n ≤ 9223372036854775807) (hb : 65536 < (pieces s.data.toList).length * n) :
    Calls Tryd.prog 25 #[.string s, .int .i64 n] w fun e w' => e = .returned (repR ⟨#[]⟩ 3) ∧ Below w.heap.size w w' := by
  have hse : s.toList.isEmpty = false := by rw [Lib.toList_data, bytes_cons s h0]; rfl
  have hl := fun wx => len_ok s wx (by omega)
  generalize (pieces s.data.toList).length = L at *
  obtain ⟨D, hD⟩ : ∃ D, 65536 / n = D := ⟨_, rfl⟩
  obtain ⟨d1, d2⟩ := div_facts n D hD
  have hlt : D < L := by rw [← hD, Nat.div_lt_iff_lt_mul (by omega)]; exact hb
  have hD9 : D ≤ 65536 := by rw [← hD]; exact Nat.div_le_self _ _
  clear hb hD
  go_enter Tryd.func25, Tryd.ntmps25
  go_wp2_with fail
  go_region_with (go_at_call 21; refine (hl _).mono ?_; rintro e w1 ⟨rfl, hb1⟩)
  all_goals go_wp2
  all_goals go_ret2
  all_goals exact ⟨rfl, (below_drew (Below.refl _ w)).trans hb1⟩
set_option maxHeartbeats 1000000 in
theorem refRepeat_big (s : ByteArray) (n : Nat) (w : World) (hs : s.size ≤ 3000) (h0 : 0 < s.size) (hn : 1 ≤ n) (hn2 : n ≤ 9223372036854775807) (hb : 65536 < (pieces s.data.toList).length * n) :
    Calls Tryd.prog 26 #[.string s, .int .i64 n] w fun e w' => e = .returned (repR ⟨#[]⟩ 3) ∧ Below w.heap.size w w' := by
  have hse : s.toList.isEmpty = false := by rw [Lib.toList_data, bytes_cons s h0]; rfl
  have hl := fun wx => refLen_ok s wx (by omega)
  have hg := pieces_ge s.data.toList
  have hpl := pieces_len s.data.toList
  rw [show s.data.toList.length = s.size by simp] at hg hpl
  generalize (pieces s.data.toList).length = L at *
  obtain ⟨D, hD⟩ : ∃ D, 65536 / L = D := ⟨_, rfl⟩
  obtain ⟨d1, d2⟩ := div_facts L D hD
  have hlt : D < n := by rw [← hD, Nat.div_lt_iff_lt_mul (by omega), Nat.mul_comm]; exact hb
  have hD9 : D ≤ 65536 := by rw [← hD]; exact Nat.div_le_self _ _
  have hL0 : 0 < L := by omega
  clear hb hD
  go_enter Tryd.func26, Tryd.ntmps26
  go_wp2_with (go_at_call 22; refine (hl _).mono ?_; rintro e w1 ⟨rfl, hb1⟩)
  go_ret2
  exact ⟨rfl, hb1⟩

set_option maxHeartbeats 1000000 in
theorem repeat_fits (s : ByteArray) (n : Nat) (w : World) (hs : s.size ≤ 3000) (h0 : 0 < s.size) (hn : 1 ≤ n) (hb : (pieces s.data.toList).length * n ≤ 65536) :
    Calls Tryd.prog 25 #[.string s, .int .i64 n] w fun e w' => e = .returned (repR (repS s n) 0) ∧ Below w.heap.size w w' := by
  have hse : s.toList.isEmpty = false := by rw [Lib.toList_data, bytes_cons s h0]; rfl
  have hl := fun wx => len_ok s wx (by omega)
  have hg := pieces_ge s.data.toList
  rw [show s.data.toList.length = s.size by simp] at hg
  generalize (pieces s.data.toList).length = L at *
  have hL0 : 0 < L := by omega
  have hn9 : n ≤ 65536 := Nat.le_trans (Nat.le_mul_of_pos_left n hL0) hb
  have hsn : s.size * n ≤ 140737488355328 := by
    have : s.size * n ≤ 3000 * 65536 := Nat.mul_le_mul hs hn9
    omega
  have hr := fun wx => Tryd.strings_Repeat s n wx (by omega) hsn
  obtain ⟨D, hD⟩ : ∃ D, 65536 / n = D := ⟨_, rfl⟩
  obtain ⟨d1, d2⟩ := div_facts n D hD
  have hlt : L ≤ D := by rw [← hD, Nat.le_div_iff_mul_le (by omega)]; exact hb
  have hD9 : D ≤ 65536 := by rw [← hD]; exact Nat.div_le_self _ _
  simp only [show (⟨(Lib.repeatL s.data.toList n).toArray⟩ : ByteArray) = repS s n from rfl] at hr
  generalize repS s n = X at *
  clear hb hD hsn hg
  go_enter Tryd.func25, Tryd.ntmps25
  go_wp2_with fail
  go_region_with (go_at_call 21; refine (hl _).mono ?_; rintro e w1 ⟨rfl, hb1⟩)
  all_goals
    have hb1 := (below_drew (Below.refl _ w)).trans hb1
    go_wp2_with (go_at_call 42; refine (hr _).mono ?_; rintro e w2 ⟨rfl, hb2⟩)
    have hb3 := hb1.trans (hb2.mono hb1.size)
    go_ret2
    exact ⟨rfl, hb3⟩

set_option maxHeartbeats 2000000 in
theorem refRepeat_fits (s : ByteArray) (n : Nat) (w : World) (hs : s.size ≤ 3000) (h0 : 0 < s.size) (hn : 1 ≤ n) (hb : (pieces s.data.toList).length * n ≤ 65536) :
    Calls Tryd.prog 26 #[.string s, .int .i64 n] w fun e w' => e = .returned (repR (repS s n) 0) ∧ Below w.heap.size w w' := by
  obtain ⟨i0, hi0, hz0, hz1, hz2⟩ := info_parts u8_info
  have hse : s.toList.isEmpty = false := by rw [Lib.toList_data, bytes_cons s h0]; rfl
  have hl := fun wx => refLen_ok s wx (by omega)
  have hg := pieces_ge s.data.toList
  have hpl := pieces_len s.data.toList
  rw [show s.data.toList.length = s.size by simp] at hg hpl
  generalize (pieces s.data.toList).length = L at *
  have hL0 : 0 < L := by omega
  have hn9 : n ≤ 65536 := Nat.le_trans (Nat.le_mul_of_pos_left n hL0) hb
  obtain ⟨D, hD⟩ : ∃ D, 65536 / L = D := ⟨_, rfl⟩
  obtain ⟨d1, d2⟩ := div_facts L D hD
  have hlt : n ≤ D := by rw [← hD, Nat.le_div_iff_mul_le (by omega), Nat.mul_comm]; exact hb
  have hD9 : D ≤ 65536 := by rw [← hD]; exact Nat.div_le_self _ _
  obtain ⟨X, hX⟩ : ∃ X, repS s n = X := ⟨_, rfl⟩
  rw [hX]
  have HX := Lib.hid hX
  have y1 : decide ((n : Int) < 1) = false := by simp; omega
  have y2 : decide ((D : Int) < (n : Int)) = false := by simp; omega
  have y3 : decide (D < n) = false := by simp; omega
  clear hb hD hg hX
  go_enter Tryd.func26, Tryd.ntmps26
  go_wp2_with (go_at_call 22; refine (hl _).mono ?_; rintro e w1 ⟨rfl, hb1⟩)
  have hsz1 := hb1.size
  go_loopw [6, 7] (fun v iv wr => ∃ (k : Nat) (acc : List UInt8), iv = .int .i64 k ∧ k ≤ n ∧ wr.ownsRow w1.heap.size 5 1 v acc.length (Lib.byteCells acc) ∧ Below w1.heap.size w1 wr ∧ Hid (acc = Lib.repeatL s.data.toList k)) (fun _ iv _ => n - (intOf iv).toNat)
  case atStart => exact ⟨0, [], rfl, Nat.zero_le _, World.ownsRow_nil w1 w1.heap.size 5 1, Below.refl _ _, rfl⟩
  case round =>
    obtain ⟨k, acc, rfl, hk, hown, hbw, hT⟩ := hrel
    have hsz := hbw.size
    have hal : acc.length ≤ 65536 * 3000 := by
      rw [hT.out, Lib.repeatL_length, show s.data.toList.length = s.size by simp]
      exact Nat.mul_le_mul (by omega) hs
    obtain ⟨B, cB, rfl, _, _, _⟩ := own_form hown
    by_cases hp : k < n
    · have HA := Lib.hid (show acc.length + s.size ≤ 140737488355328 by omega)
      have HM := Lib.hid (show acc.length + s.size ≤ maxLen by unfold maxLen; omega)
      have hT2 : Hid (acc ++ s.data.toList = Lib.repeatL s.data.toList (k + 1)) := Lib.hid (by rw [Lib.repeatL_add, Lib.repeatL_one, hT.out])
      clear hT hal
      go_wp2_with (at_builtin; refine Lib.wpList_append_own_string _ rfl _ _ 46 9 rfl w1.heap.size 5 i0 Tryd.underlying46 Tryd.underlying9 hi0 hz0 hz1 hz2 _ acc.length _ rfl hown s rfl HM.out HA.out hsz ?_; intro v3 w3 hown3 hg3 _)
      go_roundw
      case rel =>
        refine ⟨k + 1, acc ++ s.data.toList, by go_num, by omega, ?_, hbw.grown hg3 hsz (own_base hown), hT2⟩
        rw [List.length_append, show s.data.toList.length = s.size by simp, Lib.byteCells_append]
        exact hown3
      case measure => simp [intOf]; omega
    · have hk2 : k = n := by omega
      subst hk2
      have hcv := fun m => conv_bytes (wr.drewN m) w1.heap.size B acc.length cB acc rfl (ownsRow_later hown (below_drewN (Below.refl _ _) m))
      have hcv0 := conv_bytes wr w1.heap.size B acc.length cB acc rfl hown
      have hAX : (⟨acc.toArray⟩ : ByteArray) = X := by rw [← HX.out, repS, hT.out]
      simp only [hAX] at hcv hcv0
      clear hT hal hAX
      go_wp2
      go_ret2
      exact ⟨rfl, hb1.trans (hbw.mono hsz1)⟩
end Go.Proofs.YtooamagefbhgdaaDoor
