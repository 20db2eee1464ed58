/- The walk of the law LettersEnds. -/
import Derived.Test.YtooamagefbhgdaaDoorRefGood
namespace Go.Proofs.YtooamagefbhgdaaDoor
open Go.RowKit Go.Shelf
set_option maxRecDepth 1000000

/-- a text in quotes. -/
def quoteS (s : ByteArray) : ByteArray := ⟨(quoteL (pieces s.data.toList)).toArray⟩
theorem quoteS_list (s : ByteArray) : (quoteS s).data.toList = quoteL (pieces s.data.toList) := by simp [quoteS]
theorem quoteS_size (s : ByteArray) : 2 ≤ (quoteS s).size ∧ (quoteS s).size ≤ 6 * s.size + 2 := by
  have h1 : (quoteS s).size = (quoteL (pieces s.data.toList)).length := by rw [← quoteS_list]; rfl
  have h2 := quoteL_len (pieces s.data.toList)
  have h3 := quoteds_len (pieces s.data.toList)
  have h4 := pieces_len s.data.toList
  have h5 : s.data.toList.length = s.size := by simp
  omega

set_option maxHeartbeats 4000000 in
theorem lawEnds_any (s other behind : ByteArray) (cut : Int) (w : World) (hs : s.size ≤ maxLen) (ho : other.size ≤ maxLen) (hbs : behind.size ≤ maxLen) (hc : -9223372036854775808 ≤ cut ∧ cut ≤ 9223372036854775807) (hT : Lib.Utf8Tabs 0 1 w) :
    Calls Tryd.prog 4 #[.string s, .string other, .string behind, .int .i64 cut] w fun e w' => e = .returned (.bool true) ∧ Below w.heap.size w w' := by
  unfold maxLen at hs ho hbs
  have ha := fun wx h => awake_any wx h
  by_cases c1 : s.size ≤ 3000 ∧ other.size ≤ 3000 ∧ behind.size ≤ 3000
  · obtain ⟨c1, c2, c3⟩ := c1
    have hg1 := fun wx => refGood_ok s wx (by omega)
    have hg2 := fun wx => refGood_ok other wx (by omega)
    cases g1 : goodB s with
    | false =>
      rw [g1] at hg1
      have hB : Below w.heap.size w w := Below.refl _ _
      go_enter Tryd.func4, Tryd.ntmps4
      go_wp2_with (first
        | (go_at_call 12; refine (hg1 _).mono ?_; rintro e w1 ⟨rfl, hb1⟩; have hB := hB.trans (hb1.mono hB.size); have hT := Utf8Tabs_below hT hB)
        | (go_at_call 9; refine (ha _ hT).mono ?_; rintro e w1 ⟨rfl, hb1⟩; have hB := hB.trans (hb1.mono hB.size)))
      go_ret
      exact ⟨rfl, hB⟩
    | true =>
      rw [g1] at hg1
      cases g2 : goodB other with
      | false =>
        rw [g2] at hg2
        have hB : Below w.heap.size w w := Below.refl _ _
        go_enter Tryd.func4, Tryd.ntmps4
        go_wp2_with fail
        go_at_call 12
        refine (hg1 _).mono ?_
        rintro e w1 ⟨rfl, hb1⟩
        have hB := hB.trans (hb1.mono hB.size)
        have hT := Utf8Tabs_below hT hB
        go_wp2_with (first
          | (go_at_call 12; refine (hg2 _).mono ?_; rintro e w1 ⟨rfl, hb1⟩; have hB := hB.trans (hb1.mono hB.size); have hT := Utf8Tabs_below hT hb1)
          | (go_at_call 9; refine (ha _ hT).mono ?_; rintro e w1 ⟨rfl, hb1⟩; have hB := hB.trans (hb1.mono hB.size)))
        go_ret
        exact ⟨rfl, hB⟩
      | true =>
        rw [g2] at hg2
        rw [goodB_iff] at g1 g2
        have hsc := pieces_sc s.data.toList
        have hsc2 := pieces_sc other.data.toList
        have hq1 := fun wx => quote_ok s wx (by omega)
        have hq2 := fun wx => quote_ok other wx (by omega)
        have hz := quoteS_size s
        have hz2 := quoteS_size other
        have hu : ∀ wx, Lib.Utf8Tabs 0 1 wx → Calls Tryd.prog 10 #[.string (quoteS s ++ behind)] wx fun e w' => e = .returned (.tuple #[.string s, .int .i64 (quoteS s).size, .int .i64 0]) ∧ Below wx.heap.size wx w' := by
          intro wx h
          have := unquote_ok (quoteS s ++ behind) wx (by rw [ByteArray.size_append]; omega) h
          rw [str_app, quoteS_list, unquote_quote_app _ _ hsc, g1] at this
          have e1 : (⟨s.data.toList.toArray⟩ : ByteArray) = s := str_eq (by simp)
          have e2 : (quoteL (pieces s.data.toList)).length = (quoteS s).size := by rw [← quoteS_list]; rfl
          simp only [unqR, e1, e2] at this
          exact this
        have hx : ∀ wx (m : Nat), m < (quoteS s).size → Lib.Utf8Tabs 0 1 wx → Calls Tryd.prog 10 #[.string ((quoteS s).extract 0 m)] wx fun e w' => e = .returned (.tuple #[.string ⟨#[]⟩, .int .i64 0, .int .i64 4]) ∧ Below wx.heap.size wx w' := by
          intro wx m hm h
          have := unquote_ok ((quoteS s).extract 0 m) wx (by rw [ByteArray.size_extract]; omega) h
          have e3 : ((quoteS s).extract 0 m).data.toList = (quoteL (pieces s.data.toList)).take m := by
            rw [Lib.extract_data, quoteS_list, List.drop_zero, Nat.sub_zero]
          rw [e3, quote_cut _ hsc m (by rw [show (quoteL (pieces s.data.toList)).length = (quoteS s).size by rw [← quoteS_list]; rfl]; exact hm)] at this
          exact this
        have hinj : quoteS other = quoteS s → other = s := by
          intro h
          have h2 : quoteL (pieces other.data.toList) = quoteL (pieces s.data.toList) := by rw [← quoteS_list, ← quoteS_list, h]
          have h3 := quoteL_inj _ _ hsc2 hsc h2
          rw [g1, g2] at h3
          exact str_eq h3
        have hcong : other = s → quoteS other = quoteS s := fun h => by rw [h]
        simp only [show ∀ x : ByteArray, (⟨(quoteL (pieces x.data.toList)).toArray⟩ : ByteArray) = quoteS x from fun _ => rfl] at hq1 hq2
        generalize quoteS s = q at *
        generalize quoteS other = q2 at *
        have hcmp : ((q2.toList == q.toList) = true ∧ (other.toList == s.toList) = true) ∨ ((q2.toList == q.toList) = false ∧ (other.toList == s.toList) = false) := by
          by_cases e : other = s
          · exact Or.inl ⟨by rw [hcong e]; simp, by rw [e]; simp⟩
          · refine Or.inr ⟨?_, ?_⟩
            · simp only [Lib.toList_data, beq_eq_false_iff_ne]
              exact fun h => e (hinj (str_eq h))
            · simp only [Lib.toList_data, beq_eq_false_iff_ne]
              exact fun h => e (str_eq h)
        have e1 : (s.toList != s.toList) = false := by simp
        have e2 : ((q.size : Int) != (q.size : Int)) = false := by simp
        obtain ⟨K, hK⟩ : ∃ K, q.size = K := ⟨_, rfl⟩
        rw [hK] at hu e2 hz
        simp only [hK] at hx
        have q0 : -(K : Int) < cut.tmod K ∧ cut.tmod K < K := by
          have h1 := Int.tmod_lt_of_pos cut (show (0 : Int) < K by omega)
          have h2 := Int.neg_tmod cut K
          have h3 := Int.tmod_lt_of_pos (-cut) (show (0 : Int) < K by omega)
          omega
        obtain ⟨z, hzz⟩ : ∃ z, cut.tmod K = z := ⟨_, rfl⟩
        rw [hzz] at q0
        obtain ⟨q0, q1⟩ := q0
        obtain ⟨m, hml, hm⟩ : ∃ m : Nat, m < K ∧ ((z < 0 ∧ z + (K : Int) = (m : Int)) ∨ (0 ≤ z ∧ z = (m : Int))) := by
          rcases Int.lt_or_le z 0 with h1 | h1
          · exact ⟨(z + K).toNat, by omega, .inl ⟨h1, by omega⟩⟩
          · exact ⟨z.toNat, by omega, .inr ⟨h1, by omega⟩⟩
        have hx := fun wx => hx wx m hml
        have HX := Lib.hid hx
        have HZ := Lib.hid hzz
        have hab : (q ++ behind).size ≤ 100000 := by rw [ByteArray.size_append]; omega
        have HAB := Lib.hid hab
        clear hinj hcong g1 g2 hsc hsc2 hx hzz hab
        obtain ⟨hz0, hz1⟩ := hz
        rcases hcmp with ⟨x1, x2⟩ | ⟨x1, x2⟩
        all_goals
          rcases hm with ⟨hq0, hqm⟩ | ⟨hq0, hqm⟩
          · have hq' : cut.tmod K = z := HZ.out
            have hB : Below w.heap.size w w := Below.refl _ _
            go_enter Tryd.func4, Tryd.ntmps4
            go_wp2_with fail
            go_at_call 12
            refine (hg1 _).mono ?_
            rintro e w1 ⟨rfl, hb1⟩
            have hB := hB.trans (hb1.mono hB.size)
            have hT := Utf8Tabs_below hT hb1
            clear hb1
            go_wp2_with fail
            go_at_call 12
            refine (hg2 _).mono ?_
            rintro e w1 ⟨rfl, hb1⟩
            have hB := hB.trans (hb1.mono hB.size)
            have hT := Utf8Tabs_below hT hb1
            clear hb1
            go_wp2_with fail
            go_at_call 13
            refine (hq1 _).mono ?_
            rintro e w1 ⟨rfl, hb1⟩
            have hB := hB.trans (hb1.mono hB.size)
            have hT := Utf8Tabs_below hT hb1
            clear hb1
            go_wp2_with fail
            go_at_call 10
            refine (hu _ hT).mono ?_
            rintro e w1 ⟨rfl, hb1⟩
            have hB := hB.trans (hb1.mono hB.size)
            have hT := Utf8Tabs_below hT hb1
            clear hb1
            go_wp2_with fail
            go_at_call 13
            refine (hq2 _).mono ?_
            rintro e w1 ⟨rfl, hb1⟩
            have hB := hB.trans (hb1.mono hB.size)
            have hT := Utf8Tabs_below hT hb1
            clear hb1
            go_wp2_with fail
            go_at_call 10
            refine (HX.out _ hT).mono ?_
            rintro e w1 ⟨rfl, hb1⟩
            have hB := hB.trans (hb1.mono hB.size)
            have hT := Utf8Tabs_below hT hb1
            clear hb1
            go_wp2_with fail
            go_at_call 9
            refine (ha _ hT).mono ?_
            rintro e w1 ⟨rfl, hb1⟩
            have hB := hB.trans (hb1.mono hB.size)
            have hT := Utf8Tabs_below hT hb1
            clear hb1
            go_wp2
            go_ret
            exact ⟨rfl, hB⟩
          · have hq' : cut.tmod K = (m : Int) := HZ.out.trans hqm
            subst hqm
            have hB : Below w.heap.size w w := Below.refl _ _
            go_enter Tryd.func4, Tryd.ntmps4
            go_wp2_with fail
            go_at_call 12
            refine (hg1 _).mono ?_
            rintro e w1 ⟨rfl, hb1⟩
            have hB := hB.trans (hb1.mono hB.size)
            have hT := Utf8Tabs_below hT hb1
            clear hb1
            go_wp2_with fail
            go_at_call 12
            refine (hg2 _).mono ?_
            rintro e w1 ⟨rfl, hb1⟩
            have hB := hB.trans (hb1.mono hB.size)
            have hT := Utf8Tabs_below hT hb1
            clear hb1
            go_wp2_with fail
            go_at_call 13
            refine (hq1 _).mono ?_
            rintro e w1 ⟨rfl, hb1⟩
            have hB := hB.trans (hb1.mono hB.size)
            have hT := Utf8Tabs_below hT hb1
            clear hb1
            go_wp2_with fail
            go_at_call 10
            refine (hu _ hT).mono ?_
            rintro e w1 ⟨rfl, hb1⟩
            have hB := hB.trans (hb1.mono hB.size)
            have hT := Utf8Tabs_below hT hb1
            clear hb1
            go_wp2_with fail
            go_at_call 13
            refine (hq2 _).mono ?_
            rintro e w1 ⟨rfl, hb1⟩
            have hB := hB.trans (hb1.mono hB.size)
            have hT := Utf8Tabs_below hT hb1
            clear hb1
            go_wp2_with fail
            go_at_call 10
            refine (HX.out _ hT).mono ?_
            rintro e w1 ⟨rfl, hb1⟩
            have hB := hB.trans (hb1.mono hB.size)
            have hT := Utf8Tabs_below hT hb1
            clear hb1
            go_wp2_with fail
            go_at_call 9
            refine (ha _ hT).mono ?_
            rintro e w1 ⟨rfl, hb1⟩
            have hB := hB.trans (hb1.mono hB.size)
            have hT := Utf8Tabs_below hT hb1
            clear hb1
            go_wp2
            go_ret
            exact ⟨rfl, hB⟩
  · have c1 : 3000 < (s.size : Int) ∨ ((s.size : Int) ≤ 3000 ∧ 3000 < (other.size : Int)) ∨ ((s.size : Int) ≤ 3000 ∧ (other.size : Int) ≤ 3000 ∧ 3000 < (behind.size : Int)) := by omega
    rcases c1 with d1 | ⟨d1, d2⟩ | ⟨d1, d2, d3⟩
    all_goals
      go_enter Tryd.func4, Tryd.ntmps4
      go_wp2_with (go_at_call 9; refine (ha _ hT).mono ?_; rintro e w1 ⟨rfl, hb1⟩)
      go_ret
      exact ⟨rfl, hb1⟩
end Go.Proofs.YtooamagefbhgdaaDoor
