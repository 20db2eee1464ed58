/- The reference's Quote. -/
import Derived.Test.YtooamagefbhgdaaDoorRefAll
namespace Go.Proofs.YtooamagefbhgdaaDoor
open Go.RowKit Go.Shelf
set_option maxRecDepth 1000000

set_option maxHeartbeats 8000000 in
theorem refQuote_ok (s : ByteArray) (w : World) (hs : s.size ≤ 1099511627776) :
    Calls Tryd.prog 18 #[.string s] w fun e w' => e = .returned (.string ⟨(quoteL (pieces s.data.toList)).toArray⟩) ∧ Below w.heap.size w w' := by
  obtain ⟨i0, hi0, hz0, hz1, hz2⟩ := info_parts u8_info
  have hpc := fun wx => pieces_ok s wx hs
  have hpl := pieces_len s.data.toList
  have hscs := pieces_sc s.data.toList
  rw [show s.data.toList.length = s.size by simp] at hpl
  obtain ⟨rs, hrs⟩ : ∃ rs, pieces s.data.toList = rs := ⟨_, rfl⟩
  simp only [hrs] at hpc
  rw [hrs] at hpl hscs ⊢
  clear hrs
  obtain ⟨Q, hQ⟩ : ∃ Q, quoteL rs = Q := ⟨_, rfl⟩
  rw [hQ]
  have HQ := Lib.hid hQ
  clear hQ
  go_enter Tryd.func18, Tryd.ntmps18
  go_wp2_with (go_at_call 33; refine (hpc w).mono ?_; rintro e w1 ⟨A, c, rfl, l1, l2, fr, hb1⟩)
  have hrd := fr.rd
  have HF := Lib.hid hrd
  have hsz1 := hb1.size
  clear fr hrd
  go_loopw [4, 5] (fun v iv wr => ∃ (k : Nat) (acc : List UInt8), iv = .int .i64 k ∧ k ≤ rs.length ∧ acc.length ≤ 1 + 6 * k ∧ wr.ownsRow w1.heap.size 5 1 v acc.length (Lib.byteCells acc) ∧ Below w1.heap.size w1 wr ∧ Hid (acc ++ (rs.drop k).flatMap quotedL = 39 :: rs.flatMap quotedL)) (fun _ iv _ => rs.length - (intOf iv).toNat)
  case atStart => exact ⟨0, [39], rfl, Nat.zero_le _, by simp, World.ownsRow_lit w1 #[.int .u8 39] 1 (Nat.le_refl _) (by decide) rfl, (Below.refl _ _).alloc (Nat.le_refl _) _, Lib.hid (by rw [List.drop_zero]; rfl)⟩
  case round =>
    obtain ⟨k, acc, rfl, hk, hal, hown, hbw, hT⟩ := hrel
    have hsz := hbw.size
    obtain ⟨B, cB, rfl, _, _, _⟩ := own_form hown
    by_cases hp : k < rs.length
    · obtain ⟨b, off, t, hA, ht, hct⟩ := HF.out k (by rw [nums_length]; exact hp)
      have htr : t = (rs[k] : Int) := by
        simp only [nums, List.getElem?_map, List.getElem?_eq_getElem hp, Option.map_some, Option.some.injEq] at ht
        exact ht.symm
      subst htr
      have hbl : b < w1.heap.size := World.block_lt_of_cell? w1 _ hct
      have hct2 : wr.cell? ⟨b, off + k, none⟩ = some (.int .i32 (rs[k] : Int)) := cell_later hbw hct
      have hbr : b < wr.heap.size := by omega
      have hsc := hscs rs[k] (List.getElem_mem hp)
      rw [List.drop_eq_getElem_cons hp, List.flatMap_cons, ← List.append_assoc] at hT
      clear ht
      generalize rs[k] = r at *
      subst hA
      have hq6 := quotedL_len r
      obtain ⟨X, hX⟩ : ∃ X, (⟨(quotedL r).toArray⟩ : ByteArray) = X := ⟨_, rfl⟩
      have hXl : X.data.toList = quotedL r := by rw [← hX, str_of]
      clear hX
      have hXs : X.size = (quotedL r).length := by rw [← hXl]; rfl
      have HA := Lib.hid (show acc.length + X.size ≤ 140737488355328 by rw [hXs]; omega)
      have HM := Lib.hid (show acc.length + X.size ≤ maxLen by unfold maxLen; rw [hXs]; omega)
      have REL : ∀ (v3 : Value) (w3 : World), w3.ownsRow w1.heap.size 5 1 v3 (acc.length + X.size) (Lib.byteCells acc ++ Lib.strCells X) → Below w1.heap.size w1 w3 → ∃ (k' : Nat) (acc' : List UInt8), Value.int .i64 ((k : Int) + 1) = .int .i64 k' ∧ k' ≤ rs.length ∧ acc'.length ≤ 1 + 6 * k' ∧ w3.ownsRow w1.heap.size 5 1 v3 acc'.length (Lib.byteCells acc') ∧ Below w1.heap.size w1 w3 ∧ Hid (acc' ++ (rs.drop k').flatMap quotedL = 39 :: rs.flatMap quotedL) := by
        intro v3 w3 h1 h2
        refine ⟨k + 1, acc ++ quotedL r, by go_num, by omega, by rw [List.length_append]; omega, ?_, h2, hT⟩
        rw [List.length_append, ← hXs, Lib.byteCells_append, ← hXl]
        exact h1
      have hr0 : r ≤ 1114111 := by unfold Sc at hsc; omega
      have hh2 := fun wx => refHex_ok r 2 (Or.inl rfl) hr0 wx
      have hh4 := fun wx => refHex_ok r 4 (Or.inr rfl) hr0 wx
      have hal2 : acc.length + 6 ≤ 140737488355328 := by omega
      have HAL := Lib.hid hal2
      clear hXs hq6 hT hal hal2 hsc hpl hs
      unfold quotedL at hXl
      by_cases h39 : r = 39
      · subst h39
        have hX2 : Lib.strCells X = [.int .u8 92, .int .u8 39] := by rw [strCells_bytes, hXl]; rfl
        have hXs2 : X.size = 2 := by have := Lib.strCells_length X; rw [hX2] at this; exact this.symm
        rw [hX2, hXs2] at REL
        have hbw2 : Below w1.heap.size w1 (wr.alloc (.cells #[.int .u8 92, .int .u8 39] 5)) := hbw.alloc hsz _
        have hown2 := hown.alloc (.cells #[.int .u8 92, .int .u8 39] 5)
        clear hXl hX2 hXs2 hh2 hh4 HA HM
        go_wp2_with (at_builtin; refine wpList_append_own _ rfl _ _ 46 rfl w1.heap.size 5 i0 _ 1 1 Tryd.underlying46 hi0 hz0 hz1 hz2 rfl (by decide) _ acc.length _ rfl hown2 _ 2 2 [.int .u8 92, .int .u8 39] rfl rfl (news_two _ _ _ _) (by simp [Value.oneCell']) (by unfold maxLen; have := HAL.out; omega) (by have := HAL.out; omega) hbw2.size ?_; intro v3 w3 hown3 hg3 _)
        have hg4 : (wr.alloc (.cells #[.int .u8 92, .int .u8 39] 5)).grownBy w3 (Value.slice B acc.length cB).ownBlock := hg3
        go_roundw
        case rel => exact REL v3 w3 hown3 (hbw2.grown hg4 hbw2.size (own_base hown2))
        case measure => simp [intOf]; omega
      by_cases h92 : r = 92
      · subst h92
        have hX2 : Lib.strCells X = [.int .u8 92, .int .u8 92] := by rw [strCells_bytes, hXl]; rfl
        have hXs2 : X.size = 2 := by have := Lib.strCells_length X; rw [hX2] at this; exact this.symm
        rw [hX2, hXs2] at REL
        have hbw2 : Below w1.heap.size w1 (wr.alloc (.cells #[.int .u8 92, .int .u8 92] 5)) := hbw.alloc hsz _
        have hown2 := hown.alloc (.cells #[.int .u8 92, .int .u8 92] 5)
        clear hXl hX2 hXs2 hh2 hh4 HA HM
        go_wp2_with (at_builtin; refine wpList_append_own _ rfl _ _ 46 rfl w1.heap.size 5 i0 _ 1 1 Tryd.underlying46 hi0 hz0 hz1 hz2 rfl (by decide) _ acc.length _ rfl hown2 _ 2 2 [.int .u8 92, .int .u8 92] rfl rfl (news_two _ _ _ _) (by simp [Value.oneCell']) (by unfold maxLen; have := HAL.out; omega) (by have := HAL.out; omega) hbw2.size ?_; intro v3 w3 hown3 hg3 _)
        have hg4 : (wr.alloc (.cells #[.int .u8 92, .int .u8 92] 5)).grownBy w3 (Value.slice B acc.length cB).ownBlock := hg3
        go_roundw
        case rel => exact REL v3 w3 hown3 (hbw2.grown hg4 hbw2.size (own_base hown2))
        case measure => simp [intOf]; omega
      rw [if_neg (by omega)] at hXl
      by_cases h10 : r = 10
      · subst h10
        have hX2 : X = ⟨#[92, 110]⟩ := str_eq (by rw [hXl]; rfl)
        clear hXl hh2 hh4
        subst hX2
        go_wp2_with (at_builtin; refine Lib.wpList_append_own_string _ rfl _ _ 46 9 rfl w1.heap.size 5 i0 Tryd.underlying46 Tryd.underlying9 hi0 hz0 hz1 hz2 _ acc.length _ rfl hown (⟨#[92, 110]⟩ : ByteArray) rfl HM.out HA.out hsz ?_; intro v3 w3 hown3 hg3 _)
        go_roundw
        case rel => exact REL v3 w3 hown3 ((hbw).grown hg3 (hbw).size (own_base hown))
        case measure => simp [intOf]; omega
      rw [if_neg h10] at hXl
      by_cases h9 : r = 9
      · subst h9
        have hX2 : X = ⟨#[92, 116]⟩ := str_eq (by rw [hXl]; rfl)
        clear hXl hh2 hh4
        subst hX2
        go_wp2_with (at_builtin; refine Lib.wpList_append_own_string _ rfl _ _ 46 9 rfl w1.heap.size 5 i0 Tryd.underlying46 Tryd.underlying9 hi0 hz0 hz1 hz2 _ acc.length _ rfl hown (⟨#[92, 116]⟩ : ByteArray) rfl HM.out HA.out hsz ?_; intro v3 w3 hown3 hg3 _)
        go_roundw
        case rel => exact REL v3 w3 hown3 ((hbw).grown hg3 (hbw).size (own_base hown))
        case measure => simp [intOf]; omega
      rw [if_neg h9] at hXl
      have b39 : ((r : Int) == 39) = false := beqI (b := 39) h39
      have b92 : ((r : Int) == 92) = false := beqI (b := 92) h92
      have b10 : ((r : Int) == 10) = false := beqI (b := 10) h10
      have b9 : ((r : Int) == 9) = false := beqI (b := 9) h9
      clear h39 h92 h10 h9
      have hr1 : (r : Int) ≤ 1114111 := by omega
      by_cases hx : r < 32 ∨ r = 127
      · rw [if_pos hx] at hXl
        obtain ⟨Y, hY⟩ : ∃ Y, (⟨(numb r 2).toArray⟩ : ByteArray) = Y := ⟨_, rfl⟩
        have hX2 : (⟨#[92, 120]⟩ : ByteArray) ++ Y = X := str_eq (by rw [hXl, str_app, ← hY, str_of]; rfl)
        have hYs : Y.size = 2 := by rw [← hY]; exact numb_len 2 r
        rw [hY] at hh2
        subst hX2
        clear hXl hh4 hY hr0
        have hx2 : (r : Int) < 32 ∨ r = 127 := by omega
        clear hx
        rcases hx2 with hx2 | rfl
        all_goals
          go_wp2_with (first | (go_at_call 40; refine (hh2 _).mono ?_; rintro e W3 ⟨rfl, hb3⟩; have hown2 := ownsRow_later hown hb3; have hbw2 := hbw.trans (hb3.mono hsz)) | (at_builtin; refine Lib.wpList_append_own_string _ rfl _ _ 46 9 rfl w1.heap.size 5 i0 Tryd.underlying46 Tryd.underlying9 hi0 hz0 hz1 hz2 _ acc.length _ rfl hown2 (⟨#[92, 120]⟩ ++ Y) rfl HM.out HA.out hbw2.size ?_; intro v3 w3 hown3 hg3 _))
          go_roundw
          case rel => exact REL v3 w3 hown3 ((hbw2).grown hg3 (hbw2).size (own_base hown2))
          case measure => simp [intOf]; omega
      rw [if_neg hx] at hXl
      have x32 : 32 ≤ (r : Int) := by omega
      have b127 : ((r : Int) == 127) = false := beqI (b := 127) (by omega)
      by_cases hw : Wide r
      · rw [if_pos hw] at hXl
        obtain ⟨Y, hY⟩ : ∃ Y, (⟨(numb r 4).toArray⟩ : ByteArray) = Y := ⟨_, rfl⟩
        have hX2 : (⟨#[92, 117]⟩ : ByteArray) ++ Y = X := str_eq (by rw [hXl, str_app, ← hY, str_of]; rfl)
        have hYs : Y.size = 4 := by rw [← hY]; exact numb_len 4 r
        rw [hY] at hh4
        subst hX2
        have hw2 : (128 ≤ (r : Int) ∧ (r : Int) ≤ 159) ∨ r = 8232 ∨ r = 8233 ∨ r = 65279 := by unfold Wide at hw; omega
        clear hXl hh2 hY hx hr0 hw
        rcases hw2 with ⟨y1, y2⟩ | rfl | rfl | rfl
        all_goals
          go_wp2_with (first | (go_at_call 40; refine (hh4 _).mono ?_; rintro e W3 ⟨rfl, hb3⟩; have hown2 := ownsRow_later hown hb3; have hbw2 := hbw.trans (hb3.mono hsz)) | (at_builtin; refine Lib.wpList_append_own_string _ rfl _ _ 46 9 rfl w1.heap.size 5 i0 Tryd.underlying46 Tryd.underlying9 hi0 hz0 hz1 hz2 _ acc.length _ rfl hown2 (⟨#[92, 117]⟩ ++ Y) rfl HM.out HA.out hbw2.size ?_; intro v3 w3 hown3 hg3 _))
          go_roundw
          case rel => exact REL v3 w3 hown3 ((hbw2).grown hg3 (hbw2).size (own_base hown2))
          case measure => simp [intOf]; omega
      · rw [if_neg hw] at hXl
        have hX2 : Utf8.encode (r : Int) = X := str_eq (by rw [hXl]; rfl)
        have hw2 : ((r : Int) < 128 ∨ (128 ≤ (r : Int) ∧ 159 < (r : Int))) ∧ r ≠ 8232 ∧ r ≠ 8233 ∧ r ≠ 65279 := by unfold Wide at hw; omega
        obtain ⟨hw2, z1, z2, z3⟩ := hw2
        have b1 : ((r : Int) == 8232) = false := beqI (b := 8232) z1
        have b2 : ((r : Int) == 8233) = false := beqI (b := 8233) z2
        have b3 : ((r : Int) == 65279) = false := beqI (b := 65279) z3
        clear hXl hh2 hh4 hx hr0 hw z1 z2 z3
        rcases hw2 with y1 | ⟨y1, y2⟩
        all_goals
          go_wp2_with (at_builtin; refine Lib.wpList_append_own_string _ rfl _ _ 46 9 rfl w1.heap.size 5 i0 Tryd.underlying46 Tryd.underlying9 hi0 hz0 hz1 hz2 _ acc.length _ rfl hown X rfl HM.out HA.out hsz ?_; intro v3 w3 hown3 hg3 _)
          go_roundw
          case rel => exact REL v3 w3 hown3 ((hbw).grown hg3 (hbw).size (own_base hown))
          case measure => simp [intOf]; omega
    · have hk2 : k = rs.length := by omega
      subst hk2
      rw [List.drop_length, List.flatMap_nil, List.append_nil] at hT
      have HE : acc ++ [39] = Q := by rw [← HQ.out, hT.out, quoteL]; rfl
      have hbw2 : Below w1.heap.size w1 (wr.alloc (.cells #[.int .u8 39] 5)) := hbw.alloc hsz _
      have hown2 := hown.alloc (.cells #[.int .u8 39] 5)
      have hal2 : acc.length + 6 ≤ 140737488355328 := by omega
      have HAL := Lib.hid hal2
      have HE2 := Lib.hid HE
      clear hal hal2 hpl hs HE hT
      go_wp2_with (at_builtin; refine wpList_append_own _ rfl _ _ 46 rfl w1.heap.size 5 i0 _ 1 1 Tryd.underlying46 hi0 hz0 hz1 hz2 rfl (by decide) _ acc.length _ rfl hown2 _ 1 1 [.int .u8 39] rfl rfl (news_one _ _ _) (by simp [Value.oneCell']) (by unfold maxLen; have := HAL.out; omega) (by have := HAL.out; omega) hbw2.size ?_; intro v3 w3 hown3 hg3 _; obtain ⟨A3, c3, rfl, _, _, _⟩ := own_form hown3; have hcv := conv_bytes w3 w1.heap.size A3 (acc.length + 1) c3 Q (by rw [← HE2.out, List.length_append]; rfl) (by rw [← HE2.out, Lib.byteCells_append]; exact hown3))
      have hg4 : (wr.alloc (.cells #[.int .u8 39] 5)).grownBy w3 (Value.slice B acc.length cB).ownBlock := hg3
      go_ret
      exact ⟨rfl, hb1.trans ((hbw2.grown hg4 hbw2.size (own_base hown2)).mono hsz1)⟩
end Go.Proofs.YtooamagefbhgdaaDoor
