/- Joined by a program: RefQuote, ValidLay, LawQuote, Txt2, Wr1. -/
import Derived.Test.YtjefhdlncikhmaaGreatDoorPT06
namespace Go.Proofs.YtjefhdlncikhmaaGreatDoor
set_option linter.unusedVariables false
set_option linter.unusedSimpArgs false
set_option maxRecDepth 1000000
set_option maxHeartbeats 16000000
section
open Go.RowKit Go.Shelf
open List (length_append length_cons length_nil length_singleton)
theorem refQuote_ok (s : ByteArray) (w : World) (hs : s.size ≤ 1099511627776) :
  Calls Tryz.prog 159 #[.string s] w fun e w' => e = .returned (.string ⟨(quoteL (pieces s.data.toList)).toArray⟩) ∧ Below w.heap.size w w' := by
 obtain ⟨i0, hi0, hz0, hz1, hz2⟩ := info_parts u8_info
 have hpc := fun wx => pieces_ok s wx hs
 have hpl := pieces_len s.data.toList
 have hscs := pieces_sc s.data.toList
 rw [show s.data.toList.length = s.size by simp] at hpl
 obtain ⟨rs, hrs⟩ : ∃ rs, pieces s.data.toList = rs := ⟨_, rfl⟩
 simp only [hrs] at hpc
 rw [hrs] at hpl hscs ⊢
 clear hrs
 obtain ⟨Q, hQ⟩ : ∃ Q, quoteL rs = Q := ⟨_, rfl⟩
 rw [hQ]
 have HQ := Lh hQ
 clear hQ
 go_enter Tryz.func159, Tryz.ntmps159
 go_wp2_with (go_at_call 195; refine (hpc w).mono ?_; rintro e w1 ⟨A, c, rfl, l1, l2, fr, hb1⟩)
 have hrd := fr.rd
 have HF := Lh hrd
 have hsz1 := hb1.size
 clear fr hrd
 go_loopw [4, 5] (fun v iv wr => ∃ (k : Nat) (acc : List UInt8), iv = .int .i64 k ∧ k ≤ rs.length ∧ acc.length ≤ 1 + 6 * k ∧ wr.ownsRow w1.heap.size 5 1 v acc.length (Lib.byteCells acc) ∧ Below w1.heap.size w1 wr ∧ Hid (acc ++ (rs.drop k).flatMap quotedL = 39 :: rs.flatMap quotedL)) (fun _ iv _ => rs.length - (intOf iv).toNat)
 case atStart => exact ⟨0, [39], rfl, Nat.zero_le _, by simp, World.ownsRow_lit w1 #[.int .u8 39] 1 (Nat.le_refl _) lq28 rfl, (Below.refl _ _).alloc (Nat.le_refl _) _, Lh (by rw [List.drop_zero]; rfl)⟩
 case round =>
  obtain ⟨k, acc, rfl, hk, hal, hown, hbw, hT⟩ := hrel; have hsz := hbw.size; obtain ⟨B, cB, rfl, _, _, _⟩ := own_form hown
  by_cases hp : k < rs.length
  ·obtain ⟨b, off, t, hA, ht, hct⟩ := HF.out k (by rw [nums_length]; exact hp); have htr : t = (rs[k] : Int) := by
    simp only [nums, List.getElem?_map, List.getElem?_eq_getElem hp, Option.map_some, Option.some.injEq] at ht; exact ht.symm
   subst htr; have hbl : b < w1.heap.size := World.block_lt_of_cell? w1 _ hct; have hct2 : wr.cell? ⟨b, off + k, none⟩ = some (.int .i32 (rs[k] : Int)) := cLt hbw hct; have hbr : b < wr.heap.size := by omega
   have hsc := hscs rs[k] (List.getElem_mem hp); rw [List.drop_eq_getElem_cons hp, List.flatMap_cons, ← List.append_assoc] at hT; clear ht
   generalize rs[k] = r at *
   subst hA; have hq6 := quotedL_len r; obtain ⟨X, hX⟩ : ∃ X, (⟨(quotedL r).toArray⟩ : ByteArray) = X := ⟨_, rfl⟩; have hXl : X.data.toList = quotedL r := by rw [← hX, str_of]
   clear hX; have hXs : X.size = (quotedL r).length := by rw [← hXl]; rfl
   have HA := Lh (show acc.length + X.size ≤ 140737488355328 by rw [hXs]; omega); have HM := Lh (show acc.length + X.size ≤ maxLen by unfold maxLen; rw [hXs]; omega)
   have REL : ∀ (v3 : Value) (w3 : World), w3.ownsRow w1.heap.size 5 1 v3 (acc.length + X.size) (Lib.byteCells acc ++ Lib.strCells X) → Below w1.heap.size w1 w3 → ∃ (k' : Nat) (acc' : List UInt8), Value.int .i64 ((k : Int) + 1) = .int .i64 k' ∧ k' ≤ rs.length ∧ acc'.length ≤ 1 + 6 * k' ∧ w3.ownsRow w1.heap.size 5 1 v3 acc'.length (Lib.byteCells acc') ∧ Below w1.heap.size w1 w3 ∧ Hid (acc' ++ (rs.drop k').flatMap quotedL = 39 :: rs.flatMap quotedL) := by
    intro v3 w3 h1 h2
    refine ⟨k + 1, acc ++ quotedL r, by go_num, by omega, by rw [length_append]; omega, ?_, h2, hT⟩
    rw [length_append, ← hXs, Lib.byteCells_append, ← hXl]; exact h1
   have hr0 : r ≤ 1114111 := by unfold Sc at hsc; omega
   have hh2 := fun wx => refHex_ok r 2 (Or.inl rfl) hr0 wx
   have hh4 := fun wx => refHex_ok r 4 (Or.inr rfl) hr0 wx
   have hal2 : acc.length + 6 ≤ 140737488355328 := by omega
   have HAL := Lh hal2; clear hXs hq6 hT hal hal2 hsc hpl hs; unfold quotedL at hXl
   by_cases h39 : r = 39
   ·subst h39; have hX2 : Lib.strCells X = [.int .u8 92, .int .u8 39] := by rw [strCells_bytes, hXl]; rfl
    have hXs2 : X.size = 2 := by have := Lib.strCells_length X; rw [hX2] at this; exact this.symm
    rw [hX2, hXs2] at REL; have hbw2 : Below w1.heap.size w1 (wr.alloc (.cells #[.int .u8 92, .int .u8 39] 5)) := hbw.alloc hsz _; have hown2 := hown.alloc (.cells #[.int .u8 92, .int .u8 39] 5); clear hXl hX2 hXs2 hh2 hh4 HA HM; go_wp2_with (at_builtin; refine wpList_append_own _ rfl _ _ 40 rfl w1.heap.size 5 i0 _ 1 1 Tryz.underlying40 hi0 hz0 hz1 hz2 rfl lq28 _ acc.length _ rfl hown2 _ 2 2 [.int .u8 92, .int .u8 39] rfl rfl (news_two _ _ _ _) (by simp [Value.oneCell']) (by unfold maxLen; have := HAL.out; omega) (by have := HAL.out; omega) hbw2.size ?_; intro v3 w3 hown3 hg3 _)
    have hg4 : (wr.alloc (.cells #[.int .u8 92, .int .u8 39] 5)).grownBy w3 (Value.slice B acc.length cB).ownBlock := hg3
    go_roundw
    case rel => exact REL v3 w3 hown3 (hbw2.grown hg4 hbw2.size (own_base hown2))
    case measure => simp [intOf]; omega
   by_cases h92 : r = 92
   ·subst h92; have hX2 : Lib.strCells X = [.int .u8 92, .int .u8 92] := by rw [strCells_bytes, hXl]; rfl
    have hXs2 : X.size = 2 := by have := Lib.strCells_length X; rw [hX2] at this; exact this.symm
    rw [hX2, hXs2] at REL; have hbw2 : Below w1.heap.size w1 (wr.alloc (.cells #[.int .u8 92, .int .u8 92] 5)) := hbw.alloc hsz _; have hown2 := hown.alloc (.cells #[.int .u8 92, .int .u8 92] 5); clear hXl hX2 hXs2 hh2 hh4 HA HM; go_wp2_with (at_builtin; refine wpList_append_own _ rfl _ _ 40 rfl w1.heap.size 5 i0 _ 1 1 Tryz.underlying40 hi0 hz0 hz1 hz2 rfl lq28 _ acc.length _ rfl hown2 _ 2 2 [.int .u8 92, .int .u8 92] rfl rfl (news_two _ _ _ _) (by simp [Value.oneCell']) (by unfold maxLen; have := HAL.out; omega) (by have := HAL.out; omega) hbw2.size ?_; intro v3 w3 hown3 hg3 _)
    have hg4 : (wr.alloc (.cells #[.int .u8 92, .int .u8 92] 5)).grownBy w3 (Value.slice B acc.length cB).ownBlock := hg3
    go_roundw
    case rel => exact REL v3 w3 hown3 (hbw2.grown hg4 hbw2.size (own_base hown2))
    case measure => simp [intOf]; omega
   rw [if_neg lq29] at hXl
   by_cases h10 : r = 10
   ·subst h10; have hX2 : X = ⟨#[92, 110]⟩ := str_eq (by rw [hXl]; rfl); clear hXl hh2 hh4; subst hX2; go_wp2_with (at_builtin; refine Lib.wpList_append_own_string _ rfl _ _ 40 9 rfl w1.heap.size 5 i0 Tryz.underlying40 Tryz.underlying9 hi0 hz0 hz1 hz2 _ acc.length _ rfl hown (⟨#[92, 110]⟩ : ByteArray) rfl HM.out HA.out hsz ?_; intro v3 w3 hown3 hg3 _); exact lv182
   rw [if_neg h10] at hXl
   by_cases h9 : r = 9
   ·subst h9; have hX2 : X = ⟨#[92, 116]⟩ := str_eq (by rw [hXl]; rfl); clear hXl hh2 hh4; subst hX2; go_wp2_with (at_builtin; refine Lib.wpList_append_own_string _ rfl _ _ 40 9 rfl w1.heap.size 5 i0 Tryz.underlying40 Tryz.underlying9 hi0 hz0 hz1 hz2 _ acc.length _ rfl hown (⟨#[92, 116]⟩ : ByteArray) rfl HM.out HA.out hsz ?_; intro v3 w3 hown3 hg3 _); exact lv182
   rw [if_neg h9] at hXl; have b39 : ((r : Int) == 39) = false := beqI (b := 39) h39; have b92 : ((r : Int) == 92) = false := beqI (b := 92) h92; have b10 : ((r : Int) == 10) = false := beqI (b := 10) h10; have b9 : ((r : Int) == 9) = false := beqI (b := 9) h9; clear h39 h92 h10 h9; have hr1 : (r : Int) ≤ 1114111 := by omega
   by_cases hx : r < 32 ∨ r = 127
   ·rw [if_pos hx] at hXl; obtain ⟨Y, hY⟩ : ∃ Y, (⟨(numb r 2).toArray⟩ : ByteArray) = Y := ⟨_, rfl⟩; have hX2 : (⟨#[92, 120]⟩ : ByteArray) ++ Y = X := str_eq (by rw [hXl, str_app, ← hY, str_of]; rfl); have hYs : Y.size = 2 := by rw [← hY]; exact numb_len 2 r
    rw [hY] at hh2; subst hX2; clear hXl hh4 hY hr0; have hx2 : (r : Int) < 32 ∨ r = 127 := by omega
    clear hx
    rcases hx2 with hx2 | rfl
    all_goals
     go_wp2_with (first | (go_at_call 198; refine (hh2 _).mono ?_; rintro e W3 ⟨rfl, hb3⟩; have hown2 := ownsRow_later hown hb3; have hbw2 := hbw.trans (hb3.mono hsz)) | (at_builtin; refine Lib.wpList_append_own_string _ rfl _ _ 40 9 rfl w1.heap.size 5 i0 Tryz.underlying40 Tryz.underlying9 hi0 hz0 hz1 hz2 _ acc.length _ rfl hown2 (⟨#[92, 120]⟩ ++ Y) rfl HM.out HA.out hbw2.size ?_; intro v3 w3 hown3 hg3 _))
     go_roundw
     case rel => exact REL v3 w3 hown3 ((hbw2).grown hg3 (hbw2).size (own_base hown2))
     case measure => simp [intOf]; omega
   rw [if_neg hx] at hXl; have x32 : 32 ≤ (r : Int) := by omega
   have b127 : ((r : Int) == 127) = false := beqI (b := 127) lq29
   by_cases hw : Wide r
   ·rw [if_pos hw] at hXl; obtain ⟨Y, hY⟩ : ∃ Y, (⟨(numb r 4).toArray⟩ : ByteArray) = Y := ⟨_, rfl⟩; have hX2 : (⟨#[92, 117]⟩ : ByteArray) ++ Y = X := str_eq (by rw [hXl, str_app, ← hY, str_of]; rfl); have hYs : Y.size = 4 := by rw [← hY]; exact numb_len 4 r
    rw [hY] at hh4; subst hX2; have hw2 : (128 ≤ (r : Int) ∧ (r : Int) ≤ 159) ∨ r = 8232 ∨ r = 8233 ∨ r = 65279 := by unfold Wide at hw; omega
    clear hXl hh2 hY hx hr0 hw
    rcases hw2 with ⟨y1, y2⟩ | rfl | rfl | rfl
    all_goals
     go_wp2_with (first | (go_at_call 198; refine (hh4 _).mono ?_; rintro e W3 ⟨rfl, hb3⟩; have hown2 := ownsRow_later hown hb3; have hbw2 := hbw.trans (hb3.mono hsz)) | (at_builtin; refine Lib.wpList_append_own_string _ rfl _ _ 40 9 rfl w1.heap.size 5 i0 Tryz.underlying40 Tryz.underlying9 hi0 hz0 hz1 hz2 _ acc.length _ rfl hown2 (⟨#[92, 117]⟩ ++ Y) rfl HM.out HA.out hbw2.size ?_; intro v3 w3 hown3 hg3 _))
     go_roundw
     case rel => exact REL v3 w3 hown3 ((hbw2).grown hg3 (hbw2).size (own_base hown2))
     case measure => simp [intOf]; omega
   ·rw [if_neg hw] at hXl; have hX2 : Utf8.encode (r : Int) = X := str_eq (by rw [hXl]; rfl); have hw2 : ((r : Int) < 128 ∨ (128 ≤ (r : Int) ∧ 159 < (r : Int))) ∧ r ≠ 8232 ∧ r ≠ 8233 ∧ r ≠ 65279 := by unfold Wide at hw; omega
    obtain ⟨hw2, z1, z2, z3⟩ := hw2; have b1 : ((r : Int) == 8232) = false := beqI (b := 8232) z1; have b2 : ((r : Int) == 8233) = false := beqI (b := 8233) z2; have b3 : ((r : Int) == 65279) = false := beqI (b := 65279) z3; clear hXl hh2 hh4 hx hr0 hw z1 z2 z3
    rcases hw2 with y1 | ⟨y1, y2⟩
    all_goals
     go_wp2_with (at_builtin; refine Lib.wpList_append_own_string _ rfl _ _ 40 9 rfl w1.heap.size 5 i0 Tryz.underlying40 Tryz.underlying9 hi0 hz0 hz1 hz2 _ acc.length _ rfl hown X rfl HM.out HA.out hsz ?_; intro v3 w3 hown3 hg3 _); exact lv182
  ·have hk2 : k = rs.length := by omega
   subst hk2; rw [List.drop_length, List.flatMap_nil, List.append_nil] at hT; have HE : acc ++ [39] = Q := by rw [← HQ.out, hT.out, quoteL]; rfl
   have hbw2 : Below w1.heap.size w1 (wr.alloc (.cells #[.int .u8 39] 5)) := hbw.alloc hsz _; have hown2 := hown.alloc (.cells #[.int .u8 39] 5); have hal2 : acc.length + 6 ≤ 140737488355328 := by omega
   have HAL := Lh hal2; have HE2 := Lh HE; clear hal hal2 hpl hs HE hT
   go_wp2_with (at_builtin; refine wpList_append_own _ rfl _ _ 40 rfl w1.heap.size 5 i0 _ 1 1 Tryz.underlying40 hi0 hz0 hz1 hz2 rfl lq28 _ acc.length _ rfl hown2 _ 1 1 [.int .u8 39] rfl rfl (news_one _ _ _) (by simp [Value.oneCell']) (by unfold maxLen; have := HAL.out; omega) (by have := HAL.out; omega) hbw2.size ?_; intro v3 w3 hown3 hg3 _; obtain ⟨A3, c3, rfl, _, _, _⟩ := own_form hown3; have hcv := conv_bytes w3 w1.heap.size A3 (acc.length + 1) c3 Q (by rw [← HE2.out, length_append]; rfl) (by rw [← HE2.out, Lib.byteCells_append]; exact hown3))
   have hg4 : (wr.alloc (.cells #[.int .u8 39] 5)).grownBy w3 (Value.slice B acc.length cB).ownBlock := hg3; go_ret; exact ⟨rfl, hb1.trans ((hbw2.grown hg4 hbw2.size (own_base hown2)).mono hsz1)⟩
end
end Go.Proofs.YtjefhdlncikhmaaGreatDoor
namespace Go.Proofs
set_option linter.unusedVariables false
set_option linter.unusedSimpArgs false
set_option maxRecDepth 1000000
set_option maxHeartbeats 16000000
section
open Go.Shelf Go.RowKit
def Tryz.layzValid_ren : Go.Shelf.Ren := ⟨fun | 196 => 179 | 259 => 206 | n => n, fun | 0 => 0 | 3 => 3 | 4 => 4 | 5 => 5 | 9 => 9 | 12 => 12 | 46 => 137 | 53 => 156 | 119 => 164 | 138 => 166 | 139 => 167 | n => n, fun | 3 => 0 | 4 => 1 | n => n⟩
theorem Tryz.layzValid : Go.Proofs.Lays.n196 Tryz.prog Tryz.layzValid_ren := {
 mixed := by kernel_rfl
 f196 := Tryz.func179.trans (congrArg some (by kernel_rfl))
 f259 := Tryz.func206.trans (congrArg some (by kernel_rfl))
 t0 := Tryz.underlying0
 a0 := Tryz.isAgg0
 z0 := Tryz.sizeOf0
 v0 := Tryz.zeroValue0
 t3 := Tryz.underlying3
 a3 := Tryz.isAgg3
 z3 := Tryz.sizeOf3
 v3 := Tryz.zeroValue3
 t4 := Tryz.underlying4
 a4 := Tryz.isAgg4
 z4 := Tryz.sizeOf4
 v4 := Tryz.zeroValue4
 t5 := Tryz.underlying5
 a5 := Tryz.isAgg5
 z5 := Tryz.sizeOf5
 v5 := Tryz.zeroValue5
 t9 := Tryz.underlying9
 a9 := Tryz.isAgg9
 z9 := Tryz.sizeOf9
 v9 := Tryz.zeroValue9
 t12 := Tryz.underlying12
 a12 := Tryz.isAgg12
 z12 := Tryz.sizeOf12
 v12 := Tryz.zeroValue12
 t46 := Tryz.underlying137
 a46 := Tryz.isAgg137
 z46 := Tryz.sizeOf137
 v46 := Tryz.zeroValue137
 t53 := Tryz.underlying156
 a53 := Tryz.isAgg156
 z53 := Tryz.sizeOf156
 v53 := Tryz.zeroValue156
 t119 := Tryz.underlying164
 a119 := Tryz.isAgg164
 z119 := Tryz.sizeOf164
 t138 := Tryz.underlying166
 a138 := Tryz.isAgg166
 z138 := Tryz.sizeOf166
 v138 := Tryz.zeroValue166
 t139 := Tryz.underlying167
 a139 := Tryz.isAgg167
 z139 := Tryz.sizeOf167
 v139 := Tryz.zeroValue167
 g3 := by kernel_rfl
 g4 := by kernel_rfl }
theorem Tryz.utf8_ValidString (s : ByteArray) (w : World) (hs : s.size ≤ 9223372036854775807) (hT : Lib.Utf8Tabs 0 1 w) :
  Calls Tryz.prog 179 #[.string s] w fun e w' => e = .returned (.bool (Lib.validD s.data.toList)) ∧ Below w.heap.size w w' := Any.utf8_ValidString Tryz.layzValid s w hs hT
end
end Go.Proofs
namespace Go.Proofs.YtjefhdlncikhmaaGreatDoor
set_option linter.unusedVariables false
set_option linter.unusedSimpArgs false
set_option maxRecDepth 1000000
set_option maxHeartbeats 16000000
section
open Go.RowKit Go.Shelf
open List (length_append length_cons length_nil length_singleton)
theorem good_ok (s : ByteArray) (w : World) (hs : s.size ≤ 9223372036854775807) (hT : Lib.Utf8Tabs 0 1 w) :
  Calls Tryz.prog 137 #[.string s] w fun e w' => e = .returned (.bool (goodB s)) ∧ Below w.heap.size w w' := by
 have hv := fun wx h => Tryz.utf8_ValidString s wx hs h
 have hg : Lib.validD s.data.toList = goodB s := by
  rw [Bool.eq_iff_iff, goodB_iff, good_iff]
 rw [hg] at hv
 clear hg
 go_enter Tryz.func137, Tryz.ntmps137
 go_wp2_with (go_at_call 179; refine (hv _ hT).mono ?_; rintro e w1 ⟨rfl, hb1⟩)
 go_ret
 exact ⟨rfl, hb1⟩
end
section
open Go.RowKit
open List (length_append length_cons length_nil length_singleton)
theorem noText_ok (s : ByteArray) (w : World) : Calls Tryz.prog 62 #[.string s] w fun e w' => e = .returned (.bool (s.size == 0)) ∧ Below w.heap.size w w' := by
 have HT := Lh (text_empty s)
 cases hq : s.size == 0 with
 | true =>
  have e1 : s.toList.isEmpty = true := by rw [HT.out, hq]
  go_enter Tryz.func62, Tryz.ntmps62; go_wp2; go_ret; exact ⟨rfl, Below.refl _ _⟩
 | false =>
  have e1 : s.toList.isEmpty = false := by rw [HT.out, hq]
  go_enter Tryz.func62, Tryz.ntmps62; go_wp2; go_ret; exact ⟨rfl, Below.refl _ _⟩
theorem excText_ok (s : ByteArray) (w : World) (hs : s.size ≤ 1048576) : Calls Tryz.prog 77 #[.string s] w fun e w' => e = .returned (.bool (s.size == 0 || nameB s.data.toList)) ∧ Below w.heap.size w w' := by
 have HT := Lh (text_empty s)
 have HI := Lh (fun W => isName_ok s W lq29)
 generalize nameB s.data.toList = R at *
 cases hq : s.size == 0 with
 | true =>
  have e1 : s.toList.isEmpty = true := by rw [HT.out, hq]
  go_enter Tryz.func77, Tryz.ntmps77; go_wp2; go_ret; exact ⟨rfl, Below.refl _ _⟩
 | false =>
  have e1 : s.toList.isEmpty = false := by rw [HT.out, hq]
  go_enter Tryz.func77, Tryz.ntmps77; go_wp2_with (go_at_call 73; refine (HI.out _).mono ?_; rintro e w3 ⟨rfl, hb3⟩); go_ret; exact ⟨rfl, hb3⟩
def StrsAt (w : World) (A : Option Addr) (L : List ByteArray) : Prop := ∀ i s, L[i]? = some s → ∃ b off, A = some ⟨b, off, none⟩ ∧ w.cell? ⟨b, off + i, none⟩ = some (.string s)
theorem strsAt_new (w : World) (L : List ByteArray) (t : TypeId) (cs : Array Value) (hc : cs = (L.map Value.string).toArray) : StrsAt (w.alloc (.cells cs t)) (some ⟨w.heap.size, 0, none⟩) L := fun i s hi => by
 refine ⟨w.heap.size, 0, rfl, ?_⟩
 rw [Nat.zero_add, cell_of_row _ _ i cs t (0, 0) (heap_alloc_new w _), hc]
 simp [hi]
theorem StrsAt.later {w w' : World} {A : Option Addr} {L : List ByteArray} (h : StrsAt w A L) (hb : Below w.heap.size w w') : StrsAt w' A L := fun i s hi => by
 obtain ⟨b, off, hA, hc⟩ := h i s hi
 exact ⟨b, off, hA, cLt hb hc⟩
theorem containsS_eq (L : List (List UInt8)) (x : ByteArray) : Lib.containsS (L.map fun l => (⟨l.toArray⟩ : ByteArray)) x = L.contains x.data.toList := by
 rw [Bool.eq_iff_iff, Lib.containsS_iff, List.contains_iff_mem, List.mem_map]
 constructor
 ·rintro ⟨l, hl, rfl⟩
  simpa using hl
 ·intro h
  refine ⟨_, h, ?_⟩
  cases x
  simp
theorem text1_ok (L : List ByteArray) (m c X : Nat) (A : Option Addr) (s : ByteArray) (w : World) (hm : L.length = m) (h0 : 0 < m) (hL : StrsAt w A L) (hm2 : m ≤ 1000) (hX : w.cell? ⟨X, 0, none⟩ = some (.slice A m c)) :
  Calls Tryz.prog 124 #[.string s, .pointer (some ⟨X, 0, none⟩)] w fun e w' => e = .returned (.bool (Lib.containsS L s)) ∧ Below w.heap.size w w' := by
 obtain ⟨b, off, hA, _⟩ := hL 0 L[0] (gEo)
 subst hA
 have hI := Tryz.slices_Contains_string b off m c L s w lq29 lq29 (fun j hj => by
  obtain ⟨b', off', e, hc⟩ := hL j L[j] (List.getElem?_eq_getElem hj); injection e with e
  injection e with e1 e2
  subst e1 e2
  rw [hc]; simp [List.getD, List.getElem?_eq_getElem hj])
 rw [List.take_of_length_le lq29] at hI
 have HI := Lh hI
 have hXl := World.block_lt_of_cell? w _ hX
 clear hI hL
 go_enter Tryz.func124, Tryz.ntmps124
 go_wp2_with (go_at_call 125; refine HI.out.mono ?_; rintro e w3 ⟨rfl, rfl⟩)
 go_ret
 exact ⟨rfl, Below.refl _ _⟩
end
section
open Go.RowKit Go.Shelf
open List (length_append length_cons length_nil length_singleton)
def WrAt (p : Value) (B X dep : Nat) (bs : List Value) (w : World) : Prop :=
 B ≤ X ∧ ∃ v, w.heap[X]? = some (.cells #[p, v, .int .i64 ((dep : Nat) : Int)] 58 (0, 0)) ∧ w.ownsRowF B 5 1 v bs.length bs ∧ v.ownBlock ≠ some X
def Wr (B X dep : Nat) (bs : List Value) (w : World) : Prop := ∃ p, (p = .pointer none ∨ p = .pointer (some ⟨X, 0, none⟩)) ∧ WrAt p B X dep bs w
structure WK (B X : Nat) (w w' : World) : Prop where
 b : Below B w w'
 k : Lib.OthersKept 5 (some X) w w'
section
variable {B X dep : Nat} {bs : List Value} {w w' w'' : World} {p : Value}
theorem WK.refl (B X : Nat) (w : World) : WK B X w w := ⟨Below.refl _ _, Lib.OthersKept.refl _ _ _⟩
theorem WK.trans (h : WK B X w w') (h' : WK B X w' w'') : WK B X w w'' := ⟨h.b.trans h'.b, h.k.trans h'.k⟩
theorem WK.alloc (h : WK B X w w') (hB : B ≤ w'.heap.size) (o : Obj) : WK B X w (w'.alloc o) := ⟨h.b.alloc hB o, h.k.alloc o⟩
theorem WK.drew (h : WK B X w w') : WK B X w w'.drew := ⟨h.b.trans ⟨rfl, rfl, rfl, Nat.le_refl _, fun _ _ => rfl⟩, h.k.drew⟩
theorem WrAt.lt (h : WrAt p B X dep bs w) : X < w.heap.size := by
 obtain ⟨_, v, hb, _⟩ := h
 rcases Nat.lt_or_ge X w.heap.size with h' | h'
 ·exact h'
 ·simp [Array.getElem?_eq_none h'] at hb
theorem Wr.lt (h : Wr B X dep bs w) : X < w.heap.size := by obtain ⟨p, _, h⟩ := h; exact h.lt
theorem Wr.le (h : Wr B X dep bs w) : B ≤ X := by obtain ⟨p, _, h⟩ := h; exact h.1
theorem WrAt.alloc (h : WrAt p B X dep bs w) (o : Obj) : WrAt p B X dep bs (w.alloc o) := by
 have hlt := h.lt
 obtain ⟨hB, v, hb, hown, hne⟩ := h
 exact ⟨hB, v, (Lib.alloc_old w o X hlt).trans hb, hown.alloc o, hne⟩
theorem Wr.alloc (h : Wr B X dep bs w) (o : Obj) : Wr B X dep bs (w.alloc o) := by obtain ⟨p, hp, h⟩ := h; exact ⟨p, hp, h.alloc o⟩
theorem Wr.drew (h : Wr B X dep bs w) : Wr B X dep bs w.drew := h
theorem WrAt.later (h : WrAt p B X dep bs w) (hb : Below w.heap.size w w') : WrAt p B X dep bs w' := by
 have hlt := h.lt
 obtain ⟨hB, v, hx, hown, hne⟩ := h
 exact ⟨hB, v, (hb.block X hlt).trans hx, hown.kept (row := none) ⟨hb.os, hb.tape, hb.output, hb.size, fun k hk _ => hb.block k hk⟩ (by cases hv : v.ownBlock <;> simp), hne⟩
theorem Wr.later (h : Wr B X dep bs w) (hb : Below w.heap.size w w') : Wr B X dep bs w' := by obtain ⟨p, hp, h⟩ := h; exact ⟨p, hp, h.later hb⟩
theorem WK.of_below (hb : Below w.heap.size w w') (hB : B ≤ w.heap.size) : WK B X w w' :=
 ⟨hb.mono hB, fun k o hk _ _ => by
  have hlt : k < w.heap.size := by
   rcases Nat.lt_or_ge k w.heap.size with h' | h'
   ·exact h'
   ·simp [Array.getElem?_eq_none h'] at hk
  rw [hb.block k hlt]; exact hk⟩
theorem WrAt.cell0 (h : WrAt p B X dep bs w) : w.cell? ⟨X, 0, none⟩ = some p := by
 obtain ⟨_, v, hb, _⟩ := h
 rw [Lib.cell_of_heap hb]; rfl
theorem WrAt.cell2 (h : WrAt p B X dep bs w) : w.cell? ⟨X, 2, none⟩ = some (.int .i64 ((dep : Nat) : Int)) := by
 obtain ⟨_, v, hb, _⟩ := h
 rw [Lib.cell_of_heap hb]; rfl
theorem Wr.cell2 (h : Wr B X dep bs w) : w.cell? ⟨X, 2, none⟩ = some (.int .i64 ((dep : Nat) : Int)) := by obtain ⟨p, _, h⟩ := h; exact h.cell2
theorem Wr.frozen2 (h : Wr B X dep bs w) : w.frozen? ⟨X, 2, none⟩ = false := by
 obtain ⟨p, _, _, v, hb, _⟩ := h
 exact Lib.frozen_of_heap hb 2
theorem Wr.deep (h : Wr B X dep bs w) (m : Nat) : Wr B X m bs (w.setCell ⟨X, 2, none⟩ (.int .i64 ((m : Nat) : Int))) := by
 obtain ⟨p, hp, hB, v, hb, hown, hne⟩ := h
 refine ⟨p, hp, hB, v, ?_, ?_, hne⟩
 ·simp [World.setCell, Array.getElem?_modify, hb]
 ·exact hown.kept (row := some X) ⟨rfl, rfl, rfl, by simp [World.setCell], fun k _ hk => Below.heap_setCell _ _ _ _ (fun e => hk (by simp [e]))⟩ (Or.inr hne)
theorem WK.set (h : WK B X w w') (hB : B ≤ X) (i : Nat) (u : Value) : WK B X w (w'.setCell ⟨X, i, none⟩ u) := ⟨h.b.setCell (p := ⟨X, i, none⟩) hB _, h.k.setCell ⟨X, i, none⟩ rfl _⟩
end
theorem wCopyFresh (B X dep : Nat) (bs : List Value) (w : World) (h : WrAt (.pointer none) B X dep bs w) :
  Calls Tryz.prog 193 #[.pointer (some ⟨X, 0, none⟩)] w fun e w' => e = .returned (.tuple #[]) ∧ w' = w.setCell ⟨X, 0, none⟩ (.pointer (some ⟨X, 0, none⟩)) := by
 obtain ⟨j, hj, hjs⟩ := Option.map_eq_some_iff.1 Tryz.x72.sizeBuilder
 have hj' : Tryz.prog.info? 56 = some j := hj
 have h0 := h.cell0
 have hsh : w.shape? X = some (58, 3) := by
  obtain ⟨_, v, hb, _⟩ := h
  simp [World.shape?, hb]
 have hfz : w.frozen? ⟨X, 0, none⟩ = false := by
  obtain ⟨_, v, hb, _⟩ := h; exact Lib.frozen_of_heap hb 0
 go_enter Tryz.func193, Tryz.ntmps193
 go_wp2
 rw [Lib.run_to_unsafe w ⟨X, 0, none⟩ Tryz.underlying54 Tryz.underlying180 hj' (by rw [hjs]; decide) hsh (Nat.zero_lt_succ 2)]
 simp only [Result.andThen]
 rw [Oper.upon_value]
 go_wp2
 rw [run_callFunc_extern (show Tryz.prog.funcs[217]? = _ from Tryz.layz240.f276) lq27 lq27 lq27 (e := Extern.AbiNoEscape.same) lq27]
 rw [Lib.run_noEscape]
 simp only [Result.andThen]
 rw [Oper.upon_value]
 go_wp2
 rw [Lib.run_from_unsafe w ⟨X, 0, none⟩ Tryz.underlying180 Tryz.underlying54 hj' hsh lq27]
 simp only [Result.andThen]
 rw [Oper.upon_value]
 go_wp2
 go_end0
 exact ⟨rfl, rfl⟩
theorem wCopy_ok (B X dep : Nat) (bs : List Value) (w : World) (h : Wr B X dep bs w) :
  Calls Tryz.prog 193 #[.pointer (some ⟨X, 0, none⟩)] w fun e w' => e = .returned (.tuple #[]) ∧ WrAt (.pointer (some ⟨X, 0, none⟩)) B X dep bs w' ∧ WK B X w w' := by
 obtain ⟨p, rfl | rfl, h⟩ := h
 ·refine (wCopyFresh B X dep bs w h).mono ?_
  rintro e w' ⟨rfl, rfl⟩
  refine ⟨rfl, ?_, (WK.refl B X w).set h.1 0 _⟩
  obtain ⟨hB, v, hb, hown, hne⟩ := h
  refine ⟨hB, v, ?_, ?_, hne⟩
  ·simp [World.setCell, Array.getElem?_modify, hb]
  ·exact hown.kept (row := some X) ⟨rfl, rfl, rfl, by simp [World.setCell], fun k _ hk => Below.heap_setCell _ _ _ _ (fun e => hk (by simp [e]))⟩ (Or.inr hne)
 ·refine (Any.Builder_copyCheck_used Tryz.layz240 Tryz.x72 X w h.cell0).mono ?_
  rintro e w' ⟨rfl, rfl⟩; exact ⟨rfl, h, WK.refl B X _⟩
theorem byteInfo : (Tryz.prog.info? 5).map (fun i => (i.zero, i.size, i.bytes)) = some (some (.int .u8 0), 1, 1) := by kernel_rfl
theorem wWrite_ok (B X dep : Nat) (bs : List Value) (s : ByteArray) (w : World) (h : Wr B X dep bs w) (hlen : bs.length + s.size ≤ 140737488355328) (hBw : B ≤ w.heap.size) :
  Calls Tryz.prog 147 #[.pointer (some ⟨X, 0, none⟩), .string s] w fun e w' => e = .returned (.tuple #[.int .i64 s.size, .nilIface]) ∧ Wr B X dep (bs ++ Lib.strCells s) w' ∧ WK B X w w' := by
 obtain ⟨i0, hi, hz0, hz1, hz2⟩ := info_parts byteInfo
 have hcc := wCopy_ok B X dep bs w h
 go_enter Tryz.func147, Tryz.ntmps147
 go_wp2_with fail
 go_at_call 193
 refine hcc.mono ?_
 rintro e w1 ⟨rfl, hA, hk1⟩
 have hlt := hA.lt
 obtain ⟨hB, v, hbk, hown, hne⟩ := hA
 have c0 : w1.cell? ⟨X, 0, none⟩ = some (.pointer (some ⟨X, 0, none⟩)) := by rw [Lib.cell_of_heap hbk]; rfl
 have c1 : w1.cell? ⟨X, 1, none⟩ = some v := by rw [Lib.cell_of_heap hbk]; rfl
 go_wp2_with (at_builtin; refine Lib.wpList_append_own_stringF _ rfl _ _ 40 9 rfl B 5 i0 Tryz.underlying40 Tryz.underlying9 hi hz0 hz1 hz2 _ _ _ rfl hown s rfl ?c3 ?c4 ?c5 ?_)
 case c3 => unfold maxLen; omega
 case c4 => omega
 case c5 => have := hk1.b.size; omega
 intro v' w2 hown' hgrow _
 have hb2 : w2.heap[X]? = some (.cells #[.pointer (some ⟨X, 0, none⟩), v, .int .i64 ((dep : Nat) : Int)] 58 (0, 0)) := by
  rw [hgrow.block X hlt (fun e => hne e.symm)]; exact hbk
 have d0 : w2.cell? ⟨X, 0, none⟩ = some (.pointer (some ⟨X, 0, none⟩)) := by rw [Lib.cell_of_heap hb2]; rfl
 have d1 : w2.cell? ⟨X, 1, none⟩ = some v := by rw [Lib.cell_of_heap hb2]; rfl
 have f1 : w2.frozen? ⟨X, 1, none⟩ = false := Lib.frozen_of_heap hb2 1
 obtain ⟨ao, n', cap, rfl⟩ : ∃ ao n' cap, v' = .slice ao n' cap := by
  rcases hown'.2 with ⟨hv, _⟩ | ⟨g, cap, cur, fz, hv, _⟩
  ·exact ⟨_, _, _, hv⟩
  ·exact ⟨_, _, _, hv⟩
 go_wp2
 go_ret2
 refine ⟨rfl, ⟨_, .inr rfl, hB, _, ?_, ?_, Lib.ownBlock_neF hown' hb2 lq28⟩, ⟨(hk1.b.grown hgrow (by have := hk1.b.size; omega) (fun k hk => (hown.lt k hk).1)).setCell (p := ⟨X, 1, none⟩) hB _, (hk1.k.grown hgrow (Lib.ownsRowF_kind hown)).setCell ⟨X, 1, none⟩ rfl _⟩⟩
 ·simp [World.setCell, Array.getElem?_modify, hb2]
 ·have := hown'.kept (row := some X) (w' := w2.setCell ⟨X, 1, none⟩ (.slice ao n' cap)) ⟨rfl, rfl, rfl, by simp [World.setCell], fun k _ hk => Below.heap_setCell _ _ _ _ (fun e => hk (by simp [e]))⟩ (Or.inr (Lib.ownBlock_neF hown' hb2 lq28))
  simpa [Lib.strCells_length] using this
def StrsW (w : World) (X : Nat) (A : Option Addr) (L : List ByteArray) : Prop := L = [] ∨ ∃ g, A = some ⟨g, 0, none⟩ ∧ g ≠ X ∧ w.heap[g]? = some (.cells (L.map Value.string).toArray 9 (0, 0))
theorem StrsW.kept {B X : Nat} {w w' : World} {A : Option Addr} {L : List ByteArray} (h : StrsW w X A L) (hk : WK B X w w') : StrsW w' X A L := by
 rcases h with h | ⟨g, hA, hg, hh⟩
 ·exact .inl h
 ·exact .inr ⟨g, hA, hg, hk.k g _ hh (fun e => hg (Option.some.inj e)) (fun c fz e => by injection e with _ e _; exact absurd e lq28)⟩
def totalS : List ByteArray → Nat
 | [] => 0
 | s :: r => s.size + totalS r
theorem totalS_take (L : List ByteArray) (k : Nat) (s : ByteArray) (h : L[k]? = some s) : totalS (L.take (k + 1)) = totalS (L.take k) + s.size := by
 induction L generalizing k with
 | nil => simp at h
 | cons a r ih =>
  cases k with
  | zero => simp at h; subst h; simp [totalS]
  | succ k => rw [List.getElem?_cons_succ] at h; rw [List.take_succ_cons, List.take_succ_cons, totalS, totalS, ih k h]; omega
theorem totalS_le (L : List ByteArray) (k : Nat) : totalS (L.take k) ≤ totalS L := by
 induction L generalizing k with
 | nil => simp
 | cons a r ih =>
  cases k with
  | zero => simp [totalS]
  | succ k => rw [List.take_succ_cons, totalS, totalS]; have := ih k; omega
theorem flat_len (L : List ByteArray) : (L.flatMap Lib.strCells).length = totalS L := by
 induction L with
 | nil => rfl
 | cons a r ih => rw [List.flatMap_cons, length_append, ih, totalS, Lib.strCells_length]
theorem flat_take (L : List ByteArray) (k : Nat) (s : ByteArray) (h : L[k]? = some s) : (L.take (k + 1)).flatMap Lib.strCells = (L.take k).flatMap Lib.strCells ++ Lib.strCells s := by
 obtain ⟨hk, rfl⟩ := List.getElem?_eq_some_iff.1 h
 rw [List.take_succ_eq_append_getElem hk, List.flatMap_append]
 simp
theorem wSay_ok (B X dep : Nat) (bs : List Value) (L : List ByteArray) (n c : Nat) (A : Option Addr) (w : World) (h : Wr B X dep bs w) (hn : L.length = n) (hL : StrsW w X A L) (hnc : n ≤ c) (hc : c ≤ maxLen) (hlen : bs.length + totalS L ≤ 140737488355328) (hBw : B ≤ w.heap.size) :
  Calls Tryz.prog 84 #[.pointer (some ⟨X, 0, none⟩), .slice A n c] w fun e w' => e = .returned (.tuple #[]) ∧ Wr B X dep (bs ++ L.flatMap Lib.strCells) w' ∧ WK B X w w' := by
 unfold maxLen at hc
 have HN := Lh hn
 have HL := Lh hL
 have H := Lh h
 have HLen := Lh hlen
 have HB := Lh hBw
 have hXlt := h.lt
 clear hn hL h hlen hBw
 go_enter Tryz.func84, Tryz.ntmps84
 go_wp2_with fail
 go_loopw [8] (fun iv wr => ∃ k : Nat, iv = .int .i64 k ∧ k ≤ n ∧ Hid (Wr B X dep (bs ++ (L.take k).flatMap Lib.strCells) wr) ∧ Hid (WK B X w wr)) (fun iv _ => n - (intOf iv).toNat)
 case atStart => exact ⟨0, rfl, Nat.zero_le _, Lh (by simpa using H.out), Lh (WK.refl _ _ _)⟩
 case round =>
  obtain ⟨k, rfl, hk, hR, hbr⟩ := hrel
  by_cases hkl : k < n
  ·have o1 : decide ((k : Int) < (n : Int)) = true := dTo; have o2 : decide (k < n) = true := dTr hkl; obtain ⟨x, hx⟩ : ∃ x, L[k]? = some x := ⟨_, List.getElem?_eq_getElem (by rw [HN.out]; exact hkl)⟩; obtain ⟨g, hA, hgX, hh⟩ : ∃ g, A = some ⟨g, 0, none⟩ ∧ g ≠ X ∧ wr.heap[g]? = some (.cells (L.map Value.string).toArray 9 (0, 0)) := by
    rcases HL.out.kept hbr.out with h | h
    ·rw [h] at hx; simp at hx
    ·exact h
   subst hA; have hc2 : wr.cell? ⟨g, k, none⟩ = some (.string x) := by rw [Lib.cell_of_heap hh]; simp [hx]
   have hxl : X < wr.heap.size := hR.out.lt; have HI := Lh (wWrite_ok B X dep _ x wr hR.out (by have h1 := HLen.out; have h2 := totalS_take L k x hx; have h3 := totalS_le L (k + 1); rw [length_append, flat_len]; omega) (Nat.le_trans HB.out hbr.out.b.size)); have HF := Lh (flat_take L k x hx); clear hh hx; go_wp2_with (go_at_call 147; refine HI.out.mono ?_; rintro e w3 ⟨rfl, hw3, hk3⟩)
   go_roundw
   case rel => exact ⟨k + 1, by go_num, by omega, Lh (by rw [HF.out, ← List.append_assoc]; exact hw3), Lh (hbr.out.trans hk3)⟩
   case measure => simp [intOf]; omega
  ·have o1 : decide ((k : Int) < (n : Int)) = false := dFo; have o2 : decide (k < n) = false := dFa hkl; have hR2 := hR.out; rw [List.take_of_length_le (by have := HN.out; omega)] at hR2; have HR2 := Lh hR2; clear hR2; go_wp2_with fail
   go_end0
   exact ⟨rfl, HR2.out, hbr.out⟩
end
end Go.Proofs.YtjefhdlncikhmaaGreatDoor
