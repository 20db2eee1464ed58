/- letters.Good; the walk of the law LettersQuote. -/
import Derived.Test.YtooamagefbhgdaaDoorRefQuote
import Derived.Test.YtooamagefbhgdaaDoorEnds
import Derived.Test.YtooamagefbhgdaaDoorValidLay
namespace Go.Proofs.YtooamagefbhgdaaDoor
open Go.RowKit Go.Shelf
set_option maxRecDepth 1000000

theorem good_ok (s : ByteArray) (w : World) (hs : s.size ≤ 9223372036854775807) (hT : Lib.Utf8Tabs 0 1 w) :
    Calls Tryd.prog 17 #[.string s] w fun e w' => e = .returned (.bool (goodB s)) ∧ Below w.heap.size w w' := by
  have hv := fun wx h => Tryd.utf8_ValidString s wx hs h
  have hg : Lib.validD s.data.toList = goodB s := by
    rw [Bool.eq_iff_iff, goodB_iff, good_iff]
  rw [hg] at hv
  clear hg
  go_enter Tryd.func17, Tryd.ntmps17
  go_wp2_with (go_at_call 39; refine (hv _ hT).mono ?_; rintro e w1 ⟨rfl, hb1⟩)
  go_ret
  exact ⟨rfl, hb1⟩

/-- a cell of a row of the call's own. -/
theorem own_cell {base : Nat} {e : TypeId} {v : Value} {n : Nat} {xs : List Value} {w : World} (h : w.ownsRow base e 1 v n xs) (k : Nat) (hk : k < n) :
    ∃ g c u, v = .slice (some ⟨g, 0, none⟩) n c ∧ xs[k]? = some u ∧ w.cell? ⟨g, k, none⟩ = some u ∧ g < w.heap.size := by
  have hl : xs.length = n := by have := h.1; omega
  rcases h.2 with ⟨_, h0⟩ | ⟨g, cap, cur, hv, _, hg, _⟩
  · omega
  · subst hv
    have hx : xs[k]? = some xs[k] := List.getElem?_eq_getElem (by omega)
    have hc := World.ownsRow.cells h (g := g) rfl k _ hx
    rw [Addr.add_lit, Nat.zero_add] at hc
    exact ⟨g, cap, xs[k], rfl, hx, hc, (Array.getElem?_eq_some_iff.1 hg).1⟩

theorem encsB_size (rs : List Nat) : (encsB rs).size ≤ 4 * rs.length := by
  have h : (encsB rs).size = (encs rs).length := by rw [← encsB_list]; rfl
  rw [h]
  induction rs with
  | nil => simp [encs]
  | cons r rs ih =>
    have := (enc_len r).2
    have h2 : (encsB rs).size = (encs rs).length := by rw [← encsB_list]; rfl
    rw [encs_cons, List.length_append, List.length_cons]
    have := ih h2
    omega
theorem encsB_snoc (rs : List Nat) (r : Nat) : encsB rs ++ Utf8.encode (r : Int) = encsB (rs ++ [r]) := by
  apply str_eq
  rw [str_app, encsB_list, encsB_list, encs_append]
  simp [encs, enc]

set_option maxHeartbeats 4000000 in
theorem lawQuote_any (s : ByteArray) (w : World) (hs : s.size ≤ maxLen) (hT : Lib.Utf8Tabs 0 1 w) :
    Calls Tryd.prog 6 #[.string s] w fun e w' => e = .returned (.bool true) ∧ Below w.heap.size w w' := by
  unfold maxLen at hs
  have ha := fun wx h => awake_any wx h
  by_cases c1 : s.size ≤ 3000
  · have hsc := pieces_sc s.data.toList
    have hq1 := fun wx => quote_ok s wx (by omega)
    have hq2 := fun wx => refQuote_ok s wx (by omega)
    have hz := quoteS_size s
    have hl := fun wx => refAll_ok s wx (by omega)
    have hgd := fun wx h => good_ok s wx (by omega) h
    have hu : ∀ wx, Lib.Utf8Tabs 0 1 wx → Calls Tryd.prog 10 #[.string (quoteS s)] wx fun e w' => e = .returned (.tuple #[.string (encsB (pieces s.data.toList)), .int .i64 (quoteS s).size, .int .i64 0]) ∧ Below wx.heap.size wx w' := by
      intro wx h
      have := unquote_ok (quoteS s) wx (by omega) h
      rw [quoteS_list, unquote_quoteL _ hsc] at this
      have e2 : (quoteL (pieces s.data.toList)).length = (quoteS s).size := by rw [← quoteS_list]; rfl
      simp only [unqR, e2] at this
      exact this
    have hg : ((encsB (pieces s.data.toList)).toList == s.toList) = goodB s := by rw [Lib.toList_data, Lib.toList_data, encsB_list, goodB]
    have hpl := pieces_len s.data.toList
    rw [show s.data.toList.length = s.size by simp] at hpl
    simp only [show (⟨(quoteL (pieces s.data.toList)).toArray⟩ : ByteArray) = quoteS s from rfl] at hq1 hq2
    clear hsc
    generalize quoteS s = q at *
    generalize goodB s = gb at *
    generalize pieces s.data.toList = rs at *
    obtain ⟨M, hM⟩ : ∃ M, encsB rs = M := ⟨_, rfl⟩
    rw [hM] at hg hu
    have HM := Lib.hid hM
    clear hM
    have x1 : (q.toList == q.toList) = true := by simp
    have x2 : ((q.size : Int) == (q.size : Int)) = true := by simp
    have x3 : (M.toList == M.toList) = true := by simp
    have x4 : (gb == gb) = true := by simp
    obtain ⟨hz0, hz1⟩ := hz
    have hB : Below w.heap.size w w := Below.refl _ _
    go_enter Tryd.func6, Tryd.ntmps6
    go_wp2_with fail
    go_at_call 13
    refine (hq1 _).mono ?_
    rintro e w1 ⟨rfl, hb1⟩
    have hB := hB.trans (hb1.mono hB.size)
    have hT := Utf8Tabs_below hT hb1
    clear hb1
    go_wp2_with fail
    go_at_call 10
    refine (hu _ hT).mono ?_
    rintro e w2 ⟨rfl, hb1⟩
    have hB := hB.trans (hb1.mono hB.size)
    have hT := Utf8Tabs_below hT hb1
    clear hb1
    go_wp2_with fail
    go_at_call 15
    refine (hl _).mono ?_
    rintro e w3 ⟨v, rfl, hown, hb1⟩
    have hB := hB.trans (hb1.mono hB.size)
    have hT := Utf8Tabs_below hT hb1
    clear hb1
    obtain ⟨A, cA, rfl, _, _, _⟩ := own_form hown
    have HO := Lib.hid hown
    clear hown
    go_wp2
    go_loopw [7, 9] (fun v iv wr => ∃ k : Nat, v = .string (encsB (rs.take k)) ∧ iv = .int .i64 k ∧ k ≤ rs.length ∧ Below w3.heap.size w3 wr) (fun _ iv _ => rs.length - (intOf iv).toNat)
    case atStart => exact ⟨0, rfl, rfl, Nat.zero_le _, Below.refl _ _⟩
    case round =>
      obtain ⟨k, rfl, rfl, hk, hbw⟩ := hrel
      by_cases hp : k < rs.length
      · obtain ⟨g, c, u, he, hx, hct, hgl⟩ := own_cell HO.out k hp
        injection he with he1 _ he3
        have hue : u = .string (Utf8.encode (rs[k] : Int)) := by
          simp only [strsOf, List.getElem?_map, List.getElem?_eq_getElem hp, Option.map_some, Option.some.injEq] at hx
          exact hx.symm
        subst hue
        have hct2 := cell_later hbw hct
        have hgr : g < wr.heap.size := Nat.lt_of_lt_of_le hgl hbw.size
        have htk : rs.take (k + 1) = rs.take k ++ [rs[k]] := (List.take_append_getElem hp).symm
        have hsn := encsB_snoc (rs.take k) rs[k]
        rw [← htk] at hsn
        have hsz := encsB_size (rs.take k)
        rw [List.length_take] at hsz
        have he4 := (enc_len rs[k]).2
        have hes : (Utf8.encode (rs[k] : Int)).size = (enc rs[k]).length := rfl
        clear htk hx hct
        generalize rs[k] = r at *
        generalize hE : Utf8.encode (r : Int) = E at *
        generalize encsB (rs.take k) = acc at *
        have HSN := Lib.hid hsn
        have hsum : acc.size + E.size ≤ 20000 := by omega
        clear hsn hE hes he4 hsz
        subst he1
        go_wp2
        go_roundw
        case rel => exact ⟨k + 1, by rw [HSN.out], by go_num, by omega, hbw⟩
        case measure => simp [intOf]; omega
      · have hk2 : k = rs.length := by omega
        subst hk2
        rw [List.take_length, HM.out]
        have hB := hB.trans (hbw.mono hB.size)
        have hT := Utf8Tabs_below hT hbw
        go_wp2_with (first
          | (go_at_call 18; refine (hq2 _).mono ?_; rintro e w1 ⟨rfl, hb1⟩; have hB := hB.trans (hb1.mono hB.size); have hT := Utf8Tabs_below hT hb1)
          | (go_at_call 17; refine (hgd _ hT).mono ?_; rintro e w1 ⟨rfl, hb1⟩; have hB := hB.trans (hb1.mono hB.size); have hT := Utf8Tabs_below hT hb1)
          | (go_at_call 9; refine (ha _ hT).mono ?_; rintro e w1 ⟨rfl, hb1⟩; have hB := hB.trans (hb1.mono hB.size)))
        go_ret
        exact ⟨rfl, hB⟩
  · go_enter Tryd.func6, Tryd.ntmps6
    go_wp2_with (go_at_call 9; refine (ha _ hT).mono ?_; rintro e w1 ⟨rfl, hb1⟩)
    go_ret
    exact ⟨rfl, hb1⟩
end Go.Proofs.YtooamagefbhgdaaDoor
