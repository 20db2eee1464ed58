/- The walk of the law LettersRepeat. -/
import Derived.Test.YtooamagefbhgdaaDoorRepeat
namespace Go.Proofs.YtooamagefbhgdaaDoor
open Go.RowKit Go.Shelf
set_option maxRecDepth 1000000

theorem repS_list (s : ByteArray) (n : Nat) : (repS s n).data.toList = Lib.repeatL s.data.toList n := by simp [repS]
theorem repS_size (s : ByteArray) (n : Nat) : (repS s n).size = n * s.size := by
  have h : (repS s n).size = (Lib.repeatL s.data.toList n).length := by rw [← repS_list]; rfl
  rw [h, Lib.repeatL_length]; simp

set_option maxHeartbeats 4000000 in
theorem lawRepeat_any (s : ByteArray) (n : Int) (w : World) (hs : s.size ≤ maxLen) (hn : -9223372036854775808 ≤ n ∧ n ≤ 9223372036854775807) (hT : Lib.Utf8Tabs 0 1 w) :
    Calls Tryd.prog 8 #[.string s, .int .i64 n] w fun e w' => e = .returned (.bool true) ∧ Below w.heap.size w w' := by
  unfold maxLen at hs
  have ha := fun wx h => awake_any wx h
  by_cases c1 : s.size ≤ 3000
  · have hls := fun wx => len_ok s wx (by omega)
    have hgd := fun wx h => good_ok s wx (by omega) h
    by_cases hnone : n < 1 ∨ s.size = 0
    · have f1 := fun wx => repeat_none s n wx hn hnone
      have f2 := fun wx => refRepeat_none s n wx hn hnone
      simp only [repR] at f1 f2
      have hB : Below w.heap.size w w := Below.refl _ _
      by_cases h1 : n < 1
      · clear hls hgd hnone
        go_enter Tryd.func8, Tryd.ntmps8
        go_wp2_with fail
        go_at_call 25
        refine (f1 _).mono ?_
        rintro e w1 ⟨rfl, hb1⟩
        have hB := hB.trans (hb1.mono hB.size)
        have hT := Utf8Tabs_below hT hb1
        clear hb1
        go_wp2_with fail
        go_at_call 26
        refine (f2 _).mono ?_
        rintro e w1 ⟨rfl, hb1⟩
        have hB := hB.trans (hb1.mono hB.size)
        have hT := Utf8Tabs_below hT hb1
        clear hb1
        go_wp2_with fail
        go_at_call 9
        refine (ha _ hT).mono ?_
        rintro e w1 ⟨rfl, hb1⟩
        have hB := hB.trans (hb1.mono hB.size)
        have hT := Utf8Tabs_below hT hb1
        clear hb1
        go_wp2
        go_ret
        exact ⟨rfl, hB⟩
      · have h0 : s.size = 0 := by omega
        have hnil : s.data.toList = [] := List.eq_nil_of_length_eq_zero (by simpa using h0)
        have hg : goodB s = true := by rw [goodB, hnil]; rfl
        have hl0 : (pieces s.data.toList).length = 0 := by rw [hnil]; rfl
        have hle := fun wx => len_ok ⟨#[]⟩ wx (by decide)
        have hse : s = ⟨#[]⟩ := str_eq (by rw [hnil])
        rw [hl0] at hls
        rw [hg] at hgd
        simp only [show (pieces (⟨#[]⟩ : ByteArray).data.toList).length = 0 from rfl] at hle
        clear hnone hnil hg hl0 h0
        subst hse
        clear hle
        go_enter Tryd.func8, Tryd.ntmps8
        go_wp2_with fail
        go_at_call 25
        refine (f1 _).mono ?_
        rintro e w1 ⟨rfl, hb1⟩
        have hB := hB.trans (hb1.mono hB.size)
        have hT := Utf8Tabs_below hT hb1
        clear hb1
        go_wp2_with fail
        go_at_call 26
        refine (f2 _).mono ?_
        rintro e w1 ⟨rfl, hb1⟩
        have hB := hB.trans (hb1.mono hB.size)
        have hT := Utf8Tabs_below hT hb1
        clear hb1
        go_wp2_with fail
        go_at_call 17
        refine (hgd _ hT).mono ?_
        rintro e w1 ⟨rfl, hb1⟩
        have hB := hB.trans (hb1.mono hB.size)
        have hT := Utf8Tabs_below hT hb1
        clear hb1
        go_wp2_with fail
        go_at_call 21
        refine (hls _).mono ?_
        rintro e w1 ⟨rfl, hb1⟩
        have hB := hB.trans (hb1.mono hB.size)
        have hT := Utf8Tabs_below hT hb1
        clear hb1
        go_wp2_with fail
        go_at_call 21
        refine (hls _).mono ?_
        rintro e w1 ⟨rfl, hb1⟩
        have hB := hB.trans (hb1.mono hB.size)
        have hT := Utf8Tabs_below hT hb1
        clear hb1
        go_wp2_with fail
        go_at_call 9
        refine (ha _ hT).mono ?_
        rintro e w1 ⟨rfl, hb1⟩
        have hB := hB.trans (hb1.mono hB.size)
        have hT := Utf8Tabs_below hT hb1
        clear hb1
        go_wp2
        go_ret
        exact ⟨rfl, hB⟩
    · obtain ⟨m, rfl⟩ : ∃ m : Nat, n = m := ⟨n.toNat, by omega⟩
      have h0 : 0 < s.size := by omega
      have h1 : 1 ≤ m := by omega
      have hpl := pieces_len s.data.toList
      have hge := pieces_ge s.data.toList
      rw [show s.data.toList.length = s.size by simp] at hpl hge
      by_cases hb : 65536 < (pieces s.data.toList).length * m
      · have f1 := fun wx => repeat_big s m wx c1 h0 h1 (by omega) hb
        have f2 := fun wx => refRepeat_big s m wx c1 h0 h1 (by omega) hb
        simp only [repR] at f1 f2
        generalize (pieces s.data.toList).length = L at *
        have hL0 : 0 < L := by omega
        obtain ⟨D, hD⟩ : ∃ D, 65536 / L = D := ⟨_, rfl⟩
        obtain ⟨d1, d2⟩ := div_facts L D hD
        have hlt : D < m := by rw [← hD, Nat.div_lt_iff_lt_mul (by omega), Nat.mul_comm]; exact hb
        have hD9 : D ≤ 65536 := by rw [← hD]; exact Nat.div_le_self _ _
        have hB : Below w.heap.size w w := Below.refl _ _
        clear hb hD hgd hnone hge
        go_enter Tryd.func8, Tryd.ntmps8
        go_wp2_with fail
        go_at_call 25
        refine (f1 _).mono ?_
        rintro e w1 ⟨rfl, hb1⟩
        have hB := hB.trans (hb1.mono hB.size)
        have hT := Utf8Tabs_below hT hb1
        clear hb1
        go_wp2_with fail
        go_at_call 26
        refine (f2 _).mono ?_
        rintro e w1 ⟨rfl, hb1⟩
        have hB := hB.trans (hb1.mono hB.size)
        have hT := Utf8Tabs_below hT hb1
        clear hb1
        go_wp2_with fail
        go_at_call 21
        refine (hls _).mono ?_
        rintro e w1 ⟨rfl, hb1⟩
        have hB := hB.trans (hb1.mono hB.size)
        have hT := Utf8Tabs_below hT hb1
        clear hb1
        go_wp2_with fail
        go_at_call 21
        refine (hls _).mono ?_
        rintro e w1 ⟨rfl, hb1⟩
        have hB := hB.trans (hb1.mono hB.size)
        have hT := Utf8Tabs_below hT hb1
        clear hb1
        go_wp2_with fail
        go_at_call 9
        refine (ha _ hT).mono ?_
        rintro e w1 ⟨rfl, hb1⟩
        have hB := hB.trans (hb1.mono hB.size)
        have hT := Utf8Tabs_below hT hb1
        clear hb1
        go_wp2
        go_ret
        exact ⟨rfl, hB⟩
      · have f1 := fun wx => repeat_fits s m wx c1 h0 h1 (by omega)
        have f2 := fun wx => refRepeat_fits s m wx c1 h0 h1 (by omega)
        simp only [repR] at f1 f2
        have hL0 : 0 < (pieces s.data.toList).length := by omega
        have hm9 : m ≤ 65536 := Nat.le_trans (Nat.le_mul_of_pos_left m hL0) (by omega)
        have hrs : (repS s m).size ≤ 1099511627776 := by
          rw [repS_size]
          have : m * s.size ≤ 65536 * 3000 := Nat.mul_le_mul hm9 c1
          omega
        have x1 : ((repS s m).toList != (repS s m).toList) = false := by simp
        have hB : Below w.heap.size w w := Below.refl _ _
        cases hg : goodB s with
        | false =>
          rw [hg] at hgd
          generalize repS s m = X at *
          clear hls hb hnone hge hg
          go_enter Tryd.func8, Tryd.ntmps8
          go_wp2_with fail
          go_at_call 25
          refine (f1 _).mono ?_
          rintro e w1 ⟨rfl, hb1⟩
          have hB := hB.trans (hb1.mono hB.size)
          have hT := Utf8Tabs_below hT hb1
          clear hb1
          go_wp2_with fail
          go_at_call 26
          refine (f2 _).mono ?_
          rintro e w1 ⟨rfl, hb1⟩
          have hB := hB.trans (hb1.mono hB.size)
          have hT := Utf8Tabs_below hT hb1
          clear hb1
          go_wp2_with fail
          go_at_call 17
          refine (hgd _ hT).mono ?_
          rintro e w1 ⟨rfl, hb1⟩
          have hB := hB.trans (hb1.mono hB.size)
          have hT := Utf8Tabs_below hT hb1
          clear hb1
          go_wp2_with fail
          go_at_call 9
          refine (ha _ hT).mono ?_
          rintro e w1 ⟨rfl, hb1⟩
          have hB := hB.trans (hb1.mono hB.size)
          have hT := Utf8Tabs_below hT hb1
          clear hb1
          go_wp2
          go_ret
          exact ⟨rfl, hB⟩
        | true =>
          rw [hg] at hgd
          have hlx := fun wx => len_ok (repS s m) wx hrs
          have hll : (pieces (repS s m).data.toList).length = m * (pieces s.data.toList).length := by rw [repS_list]; exact repeat_len _ ((goodB_iff s).1 hg) m
          rw [hll] at hlx
          rw [Nat.mul_comm] at hb
          generalize repS s m = X at *
          generalize (pieces s.data.toList).length = L at *
          obtain ⟨P, hP⟩ : ∃ P, m * L = P := ⟨_, rfl⟩
          rw [hP] at hlx hb
          have hP2 : (m : Int) * (L : Int) = (P : Int) := by rw [← hP]; simp
          have x2 : ((P : Int) == (P : Int)) = true := by simp
          clear hll hP hnone hge hg
          go_enter Tryd.func8, Tryd.ntmps8
          go_wp2_with fail
          go_at_call 25
          refine (f1 _).mono ?_
          rintro e w1 ⟨rfl, hb1⟩
          have hB := hB.trans (hb1.mono hB.size)
          have hT := Utf8Tabs_below hT hb1
          clear hb1
          go_wp2_with fail
          go_at_call 26
          refine (f2 _).mono ?_
          rintro e w1 ⟨rfl, hb1⟩
          have hB := hB.trans (hb1.mono hB.size)
          have hT := Utf8Tabs_below hT hb1
          clear hb1
          go_wp2_with fail
          go_at_call 17
          refine (hgd _ hT).mono ?_
          rintro e w1 ⟨rfl, hb1⟩
          have hB := hB.trans (hb1.mono hB.size)
          have hT := Utf8Tabs_below hT hb1
          clear hb1
          go_wp2_with fail
          go_at_call 21
          refine (hlx _).mono ?_
          rintro e w1 ⟨rfl, hb1⟩
          have hB := hB.trans (hb1.mono hB.size)
          have hT := Utf8Tabs_below hT hb1
          clear hb1
          go_wp2_with fail
          go_at_call 21
          refine (hls _).mono ?_
          rintro e w1 ⟨rfl, hb1⟩
          have hB := hB.trans (hb1.mono hB.size)
          have hT := Utf8Tabs_below hT hb1
          clear hb1
          go_wp2_with fail
          go_at_call 9
          refine (ha _ hT).mono ?_
          rintro e w1 ⟨rfl, hb1⟩
          have hB := hB.trans (hb1.mono hB.size)
          have hT := Utf8Tabs_below hT hb1
          clear hb1
          go_wp2
          go_ret
          exact ⟨rfl, hB⟩
  · go_enter Tryd.func8, Tryd.ntmps8
    go_wp2_with (go_at_call 9; refine (ha _ hT).mono ?_; rintro e w1 ⟨rfl, hb1⟩)
    go_ret
    exact ⟨rfl, hb1⟩
end Go.Proofs.YtooamagefbhgdaaDoor
