/- The walk of the law LettersAll. -/
import Derived.Test.YtooamagefbhgdaaDoorAll1
namespace Go.Proofs.YtooamagefbhgdaaDoor
open Go.RowKit Go.Shelf
set_option maxRecDepth 1000000

theorem all_ok (s : ByteArray) (w : World) :
    Calls Tryd.prog 14 #[.string s] w fun e w' => e = .returned (.func (.func 37) #[] #[.pointer (some ⟨w.heap.size, 0, none⟩)]) ∧ w' = w.alloc (.cells #[.string s] 9) := by
  go_enter Tryd.func14, Tryd.ntmps14
  go_wp2
  go_ret
  exact ⟨rfl, rfl⟩

theorem own_row {base : Nat} {v : Value} {rs : List Nat} {w : World} (h : w.ownsRow base 9 1 v rs.length (strsOf rs)) :
    ∃ A c, v = .slice A rs.length c ∧ rs.length ≤ c ∧ c ≤ maxLen ∧ (0 < rs.length → ∃ g, A = some ⟨g, 0, none⟩ ∧ g < w.heap.size ∧ RowOf g rs w) := by
  obtain ⟨A, c, hv, h1, h2, _⟩ := own_form h
  refine ⟨A, c, hv, h1, h2, fun h0 => ?_⟩
  obtain ⟨g, c2, u, hv2, _, _, hgl⟩ := own_cell h 0 h0
  rw [hv] at hv2
  injection hv2 with hA _ _
  refine ⟨g, hA, hgl, fun k r hr => ?_⟩
  have hk : k < rs.length := (List.getElem?_eq_some_iff.1 hr).1
  obtain ⟨g2, c3, u2, hv3, hx, hct, _⟩ := own_cell h k hk
  rw [hv] at hv3
  injection hv3 with hA3 _ _
  have hgg : g = g2 := by
    rw [hA] at hA3
    injection hA3 with h; injection h
  subst hgg
  rw [hct]
  simp only [strsOf, List.getElem?_map, hr, Option.map_some, Option.some.injEq] at hx
  rw [hx]

set_option maxHeartbeats 4000000 in
theorem lawAll_any (s : ByteArray) (stop : Int) (w : World) (hs : s.size ≤ maxLen) (hstop : -9223372036854775808 ≤ stop ∧ stop ≤ 9223372036854775807) (hT : Lib.Utf8Tabs 0 1 w) :
    Calls Tryd.prog 5 #[.string s, .int .i64 stop] w fun e w' => e = .returned (.bool true) ∧ Below w.heap.size w w' := by
  unfold maxLen at hs
  have ha := fun wx h => awake_any wx h
  by_cases c1 : s.size ≤ 3000
  · have hl := fun wx => refAll_ok s wx (by omega)
    have hal := fun wx => all_ok s wx
    have hgo := fun cA sb A st wx h1 h2 h3 h4 => goes_ok s (by omega) cA sb A st wx h1 h2 h3 h4
    have hgd := fun wx h => good_ok s wx (by omega) h
    have hsc := pieces_sc s.data.toList
    have hg : ((encsB (pieces s.data.toList)).toList == s.toList) = goodB s := by rw [Lib.toList_data, Lib.toList_data, encsB_list, goodB]
    have hpl := pieces_len s.data.toList
    rw [show s.data.toList.length = s.size by simp] at hpl
    generalize goodB s = gb at *
    generalize pieces s.data.toList = rs at *
    have hM4 := encsB_size rs
    have hgM : goodB (encsB rs) = true := by rw [goodB_iff, encsB_list, pieces_encs rs hsc]
    have hgd2 := fun wx h => good_ok (encsB rs) wx (by omega) h
    rw [hgM] at hgd2
    obtain ⟨M, hM⟩ : ∃ M, encsB rs = M := ⟨_, rfl⟩
    rw [hM] at hg hgd2
    have HM := Lib.hid hM
    have x4 : (gb == gb) = true := by simp
    clear hM hsc hgM hM4
    have hnf : ∀ (W : World) (b : Nat), (binOp BinOp.eql 32 (.func (.func 37) #[] #[.pointer (some ⟨b, 0, none⟩)]) .nilFunc).run Tryd.prog W = .ok (.bool false) W := fun W b => by first | rfl | simp [binOp, go_sem]
    have hB : Below w.heap.size w w := Below.refl _ _
    go_enter Tryd.func5, Tryd.ntmps5
    go_wp2_with fail
    go_at_call 14
    refine (hal _).mono ?_
    rintro e w1 ⟨rfl, hw1⟩
    have hb1 : Below w.heap.size w w1 := by rw [hw1]; exact (Below.refl _ w).alloc (Nat.le_refl _) _
    have hcs : w1.cell? ⟨w.heap.size, 0, none⟩ = some (.string s) := by rw [hw1, World.cell?_alloc_at _ _ _ _ rfl]; rfl
    have hsb : w.heap.size < w1.heap.size := by rw [hw1]; simp
    have hcl0 := hcs
    clear hw1
    have hT := Utf8Tabs_below hT hb1
    go_wp2_with fail
    go_at_call 15
    refine (hl _).mono ?_
    rintro e w2 ⟨v, rfl, hown, hb2⟩
    obtain ⟨A, cA, rfl, hc1, hc2, hrow⟩ := own_row hown
    have hT := Utf8Tabs_below hT hb2
    have hB := hb1.trans (hb2.mono hb1.size)
    have hcs2 := cell_later hb2 hcs
    have hsb2 : w.heap.size < w2.heap.size := Nat.lt_of_lt_of_le hsb hb2.size
    go_wp2_with fail
    go_at_call 16
    refine (hgo cA w.heap.size A stop _ hstop hsb2 hcs2 hrow).mono ?_
    rintro e w3 ⟨rfl, hb3⟩
    have hT := Utf8Tabs_below hT hb3
    have hB := hB.trans (hb3.mono hB.size)
    have hcs3 := cell_later hb3 hcs2
    have hsb3 : w.heap.size < w3.heap.size := Nat.lt_of_lt_of_le hsb2 hb3.size
    have hown3 := ownsRow_later hown hb3
    obtain ⟨A3, c3, hv3, _, _, hrow3⟩ := own_row hown3
    injection hv3 with hA3 _ hc3
    subst hA3 hc3
    go_wp2_with fail
    go_at_call 16
    refine (hgo cA w.heap.size A 0 _ (by omega) hsb3 hcs3 hrow3).mono ?_
    rintro e w4 ⟨rfl, hb4⟩
    have hT := Utf8Tabs_below hT hb4
    have hB := hB.trans (hb4.mono hB.size)
    have HO := Lib.hid (ownsRow_later hown3 hb4)
    clear hown hown3 hrow hrow3 hcs hcs2 hcs3 hgo hal hl hb1 hb2 hb3 hb4 hcl0 hc1 hc2 hsb hsb2 hsb3
    go_wp2
    go_loopw [7, 8] (fun v iv wr => ∃ k : Nat, v = .string (encsB (rs.take k)) ∧ iv = .int .i64 k ∧ k ≤ rs.length ∧ Below w4.heap.size w4 wr) (fun _ iv _ => rs.length - (intOf iv).toNat)
    case atStart => exact ⟨0, rfl, rfl, Nat.zero_le _, Below.refl _ _⟩
    case round =>
      obtain ⟨k, rfl, rfl, hk, hbw⟩ := hrel
      by_cases hp : k < rs.length
      · obtain ⟨g, c, u, he, hx, hct, hgl⟩ := own_cell HO.out k hp
        injection he with he1 _ he3
        have hue : u = .string (Utf8.encode (rs[k] : Int)) := by
          simp only [strsOf, List.getElem?_map, List.getElem?_eq_getElem hp, Option.map_some, Option.some.injEq] at hx
          exact hx.symm
        subst hue
        have hct2 := cell_later hbw hct
        have hgr : g < wr.heap.size := Nat.lt_of_lt_of_le hgl hbw.size
        have htk : rs.take (k + 1) = rs.take k ++ [rs[k]] := (List.take_append_getElem hp).symm
        have hsn := encsB_snoc (rs.take k) rs[k]
        rw [← htk] at hsn
        have hsz := encsB_size (rs.take k)
        rw [List.length_take] at hsz
        have he4 := (enc_len rs[k]).2
        have hes : (Utf8.encode (rs[k] : Int)).size = (enc rs[k]).length := rfl
        clear htk hx hct
        generalize rs[k] = r at *
        generalize hE : Utf8.encode (r : Int) = E at *
        generalize encsB (rs.take k) = acc at *
        have HSN := Lib.hid hsn
        have hsum : acc.size + E.size ≤ 20000 := by omega
        clear hsn hE hes he4 hsz
        subst he1
        go_wp2
        go_roundw
        case rel => exact ⟨k + 1, by rw [HSN.out], by go_num, by omega, hbw⟩
        case measure => simp [intOf]; omega
      · have hk2 : k = rs.length := by omega
        subst hk2
        rw [List.take_length, HM.out]
        have hB := hB.trans (hbw.mono hB.size)
        have hT := Utf8Tabs_below hT hbw
        go_wp2_with fail
        go_at_call 17
        refine (hgd _ hT).mono ?_
        rintro e w5 ⟨rfl, hb5⟩
        have hB := hB.trans (hb5.mono hB.size)
        have hT := Utf8Tabs_below hT hb5
        go_wp2_with fail
        go_at_call 17
        refine (hgd2 _ hT).mono ?_
        rintro e w6 ⟨rfl, hb6⟩
        have hB := hB.trans (hb6.mono hB.size)
        have hT := Utf8Tabs_below hT hb6
        go_wp2_with (go_at_call 9; refine (ha _ hT).mono ?_; rintro e w7 ⟨rfl, hb7⟩)
        go_ret
        exact ⟨rfl, hB.trans (hb7.mono hB.size)⟩
  · go_enter Tryd.func5, Tryd.ntmps5
    go_wp2_with (go_at_call 9; refine (ha _ hT).mono ?_; rintro e w1 ⟨rfl, hb1⟩)
    go_ret
    exact ⟨rfl, hb1⟩
end Go.Proofs.YtooamagefbhgdaaDoor
