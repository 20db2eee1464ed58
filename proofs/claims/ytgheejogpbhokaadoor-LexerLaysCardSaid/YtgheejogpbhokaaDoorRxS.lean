/- The reference's token: signs. -/
import Derived.Test.YtgheejogpbhokaaDoorRxB
import Derived.Test.YtgheejogpbhokaaDoorLx7
namespace Go.Proofs.YtgheejogpbhokaaDoor
set_option linter.unusedVariables false
set_option linter.unusedSimpArgs false
open Go.RowKit
set_option maxRecDepth 1000000

section
variable {w : World} {base X : Nat} {SA : Option Addr} {sc : Nat} {s : ByteArray} {o : Nat} {st : List Nat} {toks : List Tk} {fa p : Nat}
set_option maxHeartbeats 4000000 in
theorem rxTok_none (hL : RxS w base X SA sc s o st toks 0 fa) (hs : s.size ≤ 1099511) (hsc : s.size ≤ sc) (hc : sc ≤ 9223372036854775807) (hp : p < s.size) (hn : toks.length ≤ 1000000) (hlp : isLet s[p] = false) (hdp : isDig s[p] = false) (h3 : ¬ (s[p] = 39 ∨ s[p] = 34)) (ho : o ≤ 60) (x : List UInt8) (hx : signL (s.data.toList.drop p) = x) (h0 : x = []) :
    Calls Tryd.prog 21 #[.pointer (some ⟨X, 0, none⟩), .int .i64 p] w (TkR w base X SA sc s st toks fa p (signT o x)) := by
  obtain ⟨q0, q3, q4, q5, f3, hX, hbX, hz, hS⟩ := hL.cells
  obtain ⟨b, off, rfl⟩ := hS.some (by omega)
  have hby := hS.byte p hp
  have i0 : (0 : Int) ≤ (p : Int) := by omega
  have i1 : (p : Int) < (s.size : Int) := by omega
  have HT := Lib.hid (show ∀ k, p ≤ k → k ≤ s.size → (wd (s.data.toList.drop p)).length = k - p + (wd (s.data.toList.drop k)).length → (wd (s.data.toList.drop k)).length = 0 → s.extract p k = wdS s p ∧ (k : Int) = (p : Int) + ((wd (s.data.toList.drop p)).length : Int) from fun k h1 h2 h3 h4 => by
    refine ⟨?_, by omega⟩
    rw [wdS, show p + (wd (s.data.toList.drop p)).length = k by omega])
  have hTl := wdS_list s p
  have hTs := wdS_size s p
  clear hTl hTs
  have hSg := refSign_ok p w hS hs hsc hc hp
  rw [hx] at hSg
  have hle := signL_len (s.data.toList.drop p)
  rw [hx, List.length_drop] at hle
  have hsz : s.data.toList.length = s.size := by simp
  rw [hsz] at hle
  clear hx hsz
  have e39 : ((s[p].toNat : Int) == 39) = false := byte_ne (d := 39) (k := 39) rfl (fun h => h3 (.inl h))
  have e34 : ((s[p].toNat : Int) == 34) = false := byte_ne (d := 34) (k := 34) rfl (fun h => h3 (.inr h))
  clear h3
  subst h0
  have hgo : signT o [] = .bad 102 := by unfold signT; rw [if_pos rfl]
  rw [hgo]
  clear hgo
  obtain ⟨R, hR⟩ : ∃ R, TkR w base X (some ⟨b, off, none⟩) sc s st toks fa p (.bad 102) = R := ⟨_, rfl⟩
  have hB := Lib.hid (fun e w' k (he : e = .returned (.int .i64 k)) (hl : ∃ o' toks', RxS w' base X (some ⟨b, off, none⟩) sc s o' st toks' 102 p) (hb : Below base w w') => show R e w' by rw [← hR]; exact ⟨_, he, hl, hb⟩)
  rw [hR]
  clear hR
  replace hSg : Calls Tryd.prog 34 #[.slice (some ⟨b, off, none⟩) s.size sc, .int .i64 p] w fun e w' => e = .returned (.string ⟨#[]⟩) ∧ Below w.heap.size w w' := hSg
  go_enter Tryd.func21, Tryd.ntmps21
  go_wp2_with fail
  go_loop [6] (fun v => ∃ k : Nat, v = .int .i64 k ∧ p ≤ k ∧ k ≤ s.size ∧ Hid ((wd (s.data.toList.drop p)).length = k - p + (wd (s.data.toList.drop k)).length)) (fun v => s.size - (intOf v).toNat)
  case atStart => exact ⟨p, rfl, Nat.le_refl _, by omega, Lib.hid (by omega)⟩
  case round =>
    obtain ⟨k, rfl, hk1, hk2, hk3⟩ := hrel
    by_cases hlt : k < s.size
    · have hbk := hS.byte k hlt
      by_cases hlk : isLet s[k] = true
      · have hw := Lib.hid (wd_step s k hlt (by rw [isWd, hlk]; rfl))
        go_wp2_with (go_at_call 31; refine (refLet_ok _ _).mono ?_; rintro e w' ⟨rfl, rfl⟩)
        go_round
        case rel => exact ⟨k + 1, by go_num, by omega, by omega, Lib.hid (by have a := hk3.out; have b := hw.out; omega)⟩
        case measure => simp [intOf]; omega
      · have hlk : isLet s[k] = false := by simpa using hlk
        by_cases hd : isDig s[k] = true
        · have hw := Lib.hid (wd_step s k hlt (by rw [isWd, hlk, hd]; rfl))
          go_wp2_with (first | (go_at_call 31; refine (refLet_ok _ _).mono ?_; rintro e w' ⟨rfl, rfl⟩) | (go_at_call 32; refine (refDig_ok _ _).mono ?_; rintro e w' ⟨rfl, rfl⟩))
          go_round
          case rel => exact ⟨k + 1, by go_num, by omega, by omega, Lib.hid (by have a := hk3.out; have b := hw.out; omega)⟩
          case measure => simp [intOf]; omega
        · have hd : isDig s[k] = false := by simpa using hd
          have hw := Lib.hid (wd_stop s k hlt (by rw [isWd, hlk, hd]; rfl))
          have hcv := conv_sub hS p k (k - p) (sc - p) hk2 rfl
          obtain ⟨hT, hke⟩ := HT.out k hk1 hk2 hk3.out hw.out
          rw [hT] at hcv
          have j1 : (p : Int) ≤ (k : Int) := by omega
          have j2 : (k : Int) ≤ (sc : Int) := by omega
          have j3 : k ≤ sc := by omega
          have j4 : ¬ (p = sc) := by omega
          clear hT hke HT hk3 hw
          generalize wdS s p = T at *
          go_wp2_with (first | (go_at_call 31; refine (refLet_ok _ _).mono ?_; rintro e w' ⟨rfl, rfl⟩) | (go_at_call 32; refine (refDig_ok _ _).mono ?_; rintro e w' ⟨rfl, rfl⟩) | (go_at_call 34; refine hSg.mono ?_; rintro e w1 ⟨rfl, hb1⟩; have hL1 := hL.later hb1; obtain ⟨q01, q31, q41, q51, f31, hX1, hbX1, hz1, hS1⟩ := hL1.cells) | (go_at_call 30; refine (rxFault_ok 102 p hL1).mono ?_; rintro e w2 ⟨rfl, hL2, hb2⟩))
          exact hB.out _ _ p rfl ⟨_, _, hL2⟩ ((hb1.mono hz).trans hb2)
    · have hke0 : k = s.size := by omega
      have hw := Lib.hid (show (wd (s.data.toList.drop k)).length = 0 by rw [hke0]; exact wd_end s)
      clear hke0
      have hcv := conv_sub hS p k (k - p) (sc - p) hk2 rfl
      obtain ⟨hT, hke⟩ := HT.out k hk1 hk2 hk3.out hw.out
      rw [hT] at hcv
      have j1 : (p : Int) ≤ (k : Int) := by omega
      have j2 : (k : Int) ≤ (sc : Int) := by omega
      have j3 : k ≤ sc := by omega
      have j4 : ¬ (p = sc) := by omega
      clear hT hke HT hk3 hw
      generalize wdS s p = T at *
      go_wp2_with (first | (go_at_call 31; refine (refLet_ok _ _).mono ?_; rintro e w' ⟨rfl, rfl⟩) | (go_at_call 32; refine (refDig_ok _ _).mono ?_; rintro e w' ⟨rfl, rfl⟩) | (go_at_call 34; refine hSg.mono ?_; rintro e w1 ⟨rfl, hb1⟩; have hL1 := hL.later hb1; obtain ⟨q01, q31, q41, q51, f31, hX1, hbX1, hz1, hS1⟩ := hL1.cells) | (go_at_call 30; refine (rxFault_ok 102 p hL1).mono ?_; rintro e w2 ⟨rfl, hL2, hb2⟩))
      exact hB.out _ _ p rfl ⟨_, _, hL2⟩ ((hb1.mono hz).trans hb2)
set_option maxHeartbeats 4000000 in
theorem rxTok_open40 (hL : RxS w base X SA sc s o st toks 0 fa) (hs : s.size ≤ 1099511) (hsc : s.size ≤ sc) (hc : sc ≤ 9223372036854775807) (hp : p < s.size) (hn : toks.length ≤ 1000000) (hlp : isLet s[p] = false) (hdp : isDig s[p] = false) (h3 : ¬ (s[p] = 39 ∨ s[p] = 34)) (ho : o ≤ 60) (x : List UInt8) (hx : signL (s.data.toList.drop p) = x) (h0 : x = [40]) (h60 : o ≠ 60) :
    Calls Tryd.prog 21 #[.pointer (some ⟨X, 0, none⟩), .int .i64 p] w (TkR w base X SA sc s st toks fa p (signT o x)) := by
  obtain ⟨q0, q3, q4, q5, f3, hX, hbX, hz, hS⟩ := hL.cells
  obtain ⟨b, off, rfl⟩ := hS.some (by omega)
  have hby := hS.byte p hp
  have i0 : (0 : Int) ≤ (p : Int) := by omega
  have i1 : (p : Int) < (s.size : Int) := by omega
  have HT := Lib.hid (show ∀ k, p ≤ k → k ≤ s.size → (wd (s.data.toList.drop p)).length = k - p + (wd (s.data.toList.drop k)).length → (wd (s.data.toList.drop k)).length = 0 → s.extract p k = wdS s p ∧ (k : Int) = (p : Int) + ((wd (s.data.toList.drop p)).length : Int) from fun k h1 h2 h3 h4 => by
    refine ⟨?_, by omega⟩
    rw [wdS, show p + (wd (s.data.toList.drop p)).length = k by omega])
  have hTl := wdS_list s p
  have hTs := wdS_size s p
  clear hTl hTs
  have hSg := refSign_ok p w hS hs hsc hc hp
  rw [hx] at hSg
  have hle := signL_len (s.data.toList.drop p)
  rw [hx, List.length_drop] at hle
  have hsz : s.data.toList.length = s.size := by simp
  rw [hsz] at hle
  clear hx hsz
  have e39 : ((s[p].toNat : Int) == 39) = false := byte_ne (d := 39) (k := 39) rfl (fun h => h3 (.inl h))
  have e34 : ((s[p].toNat : Int) == 34) = false := byte_ne (d := 34) (k := 34) rfl (fun h => h3 (.inr h))
  clear h3
  subst h0
  have hgo : signT o [40] = .tok 5 [40] 1 (o + 1) := by show (if o = 60 then _ else _) = _; rw [if_neg h60]
  rw [hgo]
  clear hgo
  obtain ⟨R, hR⟩ : ∃ R, TkR w base X (some ⟨b, off, none⟩) sc s st toks fa p (.tok 5 [40] 1 (o + 1)) = R := ⟨_, rfl⟩
  have hG := Lib.hid (fun e w' k (hk : k = (p : Int) + (1 : Int)) (he : e = .returned (.int .i64 k)) (hl : RxS w' base X (some ⟨b, off, none⟩) sc s (o + 1) st (toks ++ [⟨5, [40], p⟩]) 0 fa) (hb : Below base w w') => show R e w' by rw [← hR]; exact ⟨by rw [he, hk]; simp, hl, hb⟩)
  rw [hR]
  clear hR
  have e60 : decide (60 ≤ (o : Int)) = false := decide_eq_false (by omega)
  clear h60
  replace hSg : Calls Tryd.prog 34 #[.slice (some ⟨b, off, none⟩) s.size sc, .int .i64 p] w fun e w' => e = .returned (.string ⟨#[40]⟩) ∧ Below w.heap.size w w' := hSg
  have iw : IntKind.i64.wrap ((p : Int) + 1) = (p : Int) + 1 := by rw [IntKind.wrap_i64]; omega
  go_enter Tryd.func21, Tryd.ntmps21
  go_wp2_with fail
  go_loop [6] (fun v => ∃ k : Nat, v = .int .i64 k ∧ p ≤ k ∧ k ≤ s.size ∧ Hid ((wd (s.data.toList.drop p)).length = k - p + (wd (s.data.toList.drop k)).length)) (fun v => s.size - (intOf v).toNat)
  case atStart => exact ⟨p, rfl, Nat.le_refl _, by omega, Lib.hid (by omega)⟩
  case round =>
    obtain ⟨k, rfl, hk1, hk2, hk3⟩ := hrel
    by_cases hlt : k < s.size
    · have hbk := hS.byte k hlt
      by_cases hlk : isLet s[k] = true
      · have hw := Lib.hid (wd_step s k hlt (by rw [isWd, hlk]; rfl))
        go_wp2_with (go_at_call 31; refine (refLet_ok _ _).mono ?_; rintro e w' ⟨rfl, rfl⟩)
        go_round
        case rel => exact ⟨k + 1, by go_num, by omega, by omega, Lib.hid (by have a := hk3.out; have b := hw.out; omega)⟩
        case measure => simp [intOf]; omega
      · have hlk : isLet s[k] = false := by simpa using hlk
        by_cases hd : isDig s[k] = true
        · have hw := Lib.hid (wd_step s k hlt (by rw [isWd, hlk, hd]; rfl))
          go_wp2_with (first | (go_at_call 31; refine (refLet_ok _ _).mono ?_; rintro e w' ⟨rfl, rfl⟩) | (go_at_call 32; refine (refDig_ok _ _).mono ?_; rintro e w' ⟨rfl, rfl⟩))
          go_round
          case rel => exact ⟨k + 1, by go_num, by omega, by omega, Lib.hid (by have a := hk3.out; have b := hw.out; omega)⟩
          case measure => simp [intOf]; omega
        · have hd : isDig s[k] = false := by simpa using hd
          have hw := Lib.hid (wd_stop s k hlt (by rw [isWd, hlk, hd]; rfl))
          have hcv := conv_sub hS p k (k - p) (sc - p) hk2 rfl
          obtain ⟨hT, hke⟩ := HT.out k hk1 hk2 hk3.out hw.out
          rw [hT] at hcv
          have j1 : (p : Int) ≤ (k : Int) := by omega
          have j2 : (k : Int) ≤ (sc : Int) := by omega
          have j3 : k ≤ sc := by omega
          have j4 : ¬ (p = sc) := by omega
          clear hT hke HT hk3 hw
          generalize wdS s p = T at *
          go_wp2_with (first | (go_at_call 31; refine (refLet_ok _ _).mono ?_; rintro e w' ⟨rfl, rfl⟩) | (go_at_call 32; refine (refDig_ok _ _).mono ?_; rintro e w' ⟨rfl, rfl⟩) | (go_at_call 34; refine hSg.mono ?_; rintro e w1 ⟨rfl, hb1⟩; have hL1 := hL.later hb1; obtain ⟨q01, q31, q41, q51, f31, hX1, hbX1, hz1, hS1⟩ := hL1.cells) | (go_at_call 19; have hL3 := hL1.setOpn (o + 1) ((o : Int) + 1) (by omega); have hb3 := Below.setCell (p := ⟨X, 3, none⟩) (Below.refl base w1) hbX (.int .i64 ((o : Int) + 1)); refine (rxAdd_ok 5 ⟨#[40]⟩ p hL3 hn).mono ?_; rintro e w4 ⟨rfl, hL4, hb4⟩))
          exact hG.out _ _ _ rfl rfl hL4 ((hb1.mono hz).trans (hb3.trans hb4))
    · have hke0 : k = s.size := by omega
      have hw := Lib.hid (show (wd (s.data.toList.drop k)).length = 0 by rw [hke0]; exact wd_end s)
      clear hke0
      have hcv := conv_sub hS p k (k - p) (sc - p) hk2 rfl
      obtain ⟨hT, hke⟩ := HT.out k hk1 hk2 hk3.out hw.out
      rw [hT] at hcv
      have j1 : (p : Int) ≤ (k : Int) := by omega
      have j2 : (k : Int) ≤ (sc : Int) := by omega
      have j3 : k ≤ sc := by omega
      have j4 : ¬ (p = sc) := by omega
      clear hT hke HT hk3 hw
      generalize wdS s p = T at *
      go_wp2_with (first | (go_at_call 31; refine (refLet_ok _ _).mono ?_; rintro e w' ⟨rfl, rfl⟩) | (go_at_call 32; refine (refDig_ok _ _).mono ?_; rintro e w' ⟨rfl, rfl⟩) | (go_at_call 34; refine hSg.mono ?_; rintro e w1 ⟨rfl, hb1⟩; have hL1 := hL.later hb1; obtain ⟨q01, q31, q41, q51, f31, hX1, hbX1, hz1, hS1⟩ := hL1.cells) | (go_at_call 19; have hL3 := hL1.setOpn (o + 1) ((o : Int) + 1) (by omega); have hb3 := Below.setCell (p := ⟨X, 3, none⟩) (Below.refl base w1) hbX (.int .i64 ((o : Int) + 1)); refine (rxAdd_ok 5 ⟨#[40]⟩ p hL3 hn).mono ?_; rintro e w4 ⟨rfl, hL4, hb4⟩))
      exact hG.out _ _ _ rfl rfl hL4 ((hb1.mono hz).trans (hb3.trans hb4))
set_option maxHeartbeats 4000000 in
theorem rxTok_deep40 (hL : RxS w base X SA sc s o st toks 0 fa) (hs : s.size ≤ 1099511) (hsc : s.size ≤ sc) (hc : sc ≤ 9223372036854775807) (hp : p < s.size) (hn : toks.length ≤ 1000000) (hlp : isLet s[p] = false) (hdp : isDig s[p] = false) (h3 : ¬ (s[p] = 39 ∨ s[p] = 34)) (ho : o ≤ 60) (x : List UInt8) (hx : signL (s.data.toList.drop p) = x) (h0 : x = [40]) (h60 : o = 60) :
    Calls Tryd.prog 21 #[.pointer (some ⟨X, 0, none⟩), .int .i64 p] w (TkR w base X SA sc s st toks fa p (signT o x)) := by
  obtain ⟨q0, q3, q4, q5, f3, hX, hbX, hz, hS⟩ := hL.cells
  obtain ⟨b, off, rfl⟩ := hS.some (by omega)
  have hby := hS.byte p hp
  have i0 : (0 : Int) ≤ (p : Int) := by omega
  have i1 : (p : Int) < (s.size : Int) := by omega
  have HT := Lib.hid (show ∀ k, p ≤ k → k ≤ s.size → (wd (s.data.toList.drop p)).length = k - p + (wd (s.data.toList.drop k)).length → (wd (s.data.toList.drop k)).length = 0 → s.extract p k = wdS s p ∧ (k : Int) = (p : Int) + ((wd (s.data.toList.drop p)).length : Int) from fun k h1 h2 h3 h4 => by
    refine ⟨?_, by omega⟩
    rw [wdS, show p + (wd (s.data.toList.drop p)).length = k by omega])
  have hTl := wdS_list s p
  have hTs := wdS_size s p
  clear hTl hTs
  have hSg := refSign_ok p w hS hs hsc hc hp
  rw [hx] at hSg
  have hle := signL_len (s.data.toList.drop p)
  rw [hx, List.length_drop] at hle
  have hsz : s.data.toList.length = s.size := by simp
  rw [hsz] at hle
  clear hx hsz
  have e39 : ((s[p].toNat : Int) == 39) = false := byte_ne (d := 39) (k := 39) rfl (fun h => h3 (.inl h))
  have e34 : ((s[p].toNat : Int) == 34) = false := byte_ne (d := 34) (k := 34) rfl (fun h => h3 (.inr h))
  clear h3
  subst h0
  subst h60
  have hgo : signT 60 [40] = .bad 107 := rfl
  rw [hgo]
  clear hgo
  obtain ⟨R, hR⟩ : ∃ R, TkR w base X (some ⟨b, off, none⟩) sc s st toks fa p (.bad 107) = R := ⟨_, rfl⟩
  have hB := Lib.hid (fun e w' k (he : e = .returned (.int .i64 k)) (hl : ∃ o' toks', RxS w' base X (some ⟨b, off, none⟩) sc s o' st toks' 107 p) (hb : Below base w w') => show R e w' by rw [← hR]; exact ⟨_, he, hl, hb⟩)
  rw [hR]
  clear hR
  replace hSg : Calls Tryd.prog 34 #[.slice (some ⟨b, off, none⟩) s.size sc, .int .i64 p] w fun e w' => e = .returned (.string ⟨#[40]⟩) ∧ Below w.heap.size w w' := hSg
  have iw : IntKind.i64.wrap ((p : Int) + 1) = (p : Int) + 1 := by rw [IntKind.wrap_i64]; omega
  go_enter Tryd.func21, Tryd.ntmps21
  go_wp2_with fail
  go_loop [6] (fun v => ∃ k : Nat, v = .int .i64 k ∧ p ≤ k ∧ k ≤ s.size ∧ Hid ((wd (s.data.toList.drop p)).length = k - p + (wd (s.data.toList.drop k)).length)) (fun v => s.size - (intOf v).toNat)
  case atStart => exact ⟨p, rfl, Nat.le_refl _, by omega, Lib.hid (by omega)⟩
  case round =>
    obtain ⟨k, rfl, hk1, hk2, hk3⟩ := hrel
    by_cases hlt : k < s.size
    · have hbk := hS.byte k hlt
      by_cases hlk : isLet s[k] = true
      · have hw := Lib.hid (wd_step s k hlt (by rw [isWd, hlk]; rfl))
        go_wp2_with (go_at_call 31; refine (refLet_ok _ _).mono ?_; rintro e w' ⟨rfl, rfl⟩)
        go_round
        case rel => exact ⟨k + 1, by go_num, by omega, by omega, Lib.hid (by have a := hk3.out; have b := hw.out; omega)⟩
        case measure => simp [intOf]; omega
      · have hlk : isLet s[k] = false := by simpa using hlk
        by_cases hd : isDig s[k] = true
        · have hw := Lib.hid (wd_step s k hlt (by rw [isWd, hlk, hd]; rfl))
          go_wp2_with (first | (go_at_call 31; refine (refLet_ok _ _).mono ?_; rintro e w' ⟨rfl, rfl⟩) | (go_at_call 32; refine (refDig_ok _ _).mono ?_; rintro e w' ⟨rfl, rfl⟩))
          go_round
          case rel => exact ⟨k + 1, by go_num, by omega, by omega, Lib.hid (by have a := hk3.out; have b := hw.out; omega)⟩
          case measure => simp [intOf]; omega
        · have hd : isDig s[k] = false := by simpa using hd
          have hw := Lib.hid (wd_stop s k hlt (by rw [isWd, hlk, hd]; rfl))
          have hcv := conv_sub hS p k (k - p) (sc - p) hk2 rfl
          obtain ⟨hT, hke⟩ := HT.out k hk1 hk2 hk3.out hw.out
          rw [hT] at hcv
          have j1 : (p : Int) ≤ (k : Int) := by omega
          have j2 : (k : Int) ≤ (sc : Int) := by omega
          have j3 : k ≤ sc := by omega
          have j4 : ¬ (p = sc) := by omega
          clear hT hke HT hk3 hw
          generalize wdS s p = T at *
          go_wp2_with (first | (go_at_call 31; refine (refLet_ok _ _).mono ?_; rintro e w' ⟨rfl, rfl⟩) | (go_at_call 32; refine (refDig_ok _ _).mono ?_; rintro e w' ⟨rfl, rfl⟩) | (go_at_call 34; refine hSg.mono ?_; rintro e w1 ⟨rfl, hb1⟩; have hL1 := hL.later hb1; obtain ⟨q01, q31, q41, q51, f31, hX1, hbX1, hz1, hS1⟩ := hL1.cells) | (go_at_call 30; refine (rxFault_ok 107 p hL1).mono ?_; rintro e w2 ⟨rfl, hL2, hb2⟩; obtain ⟨q02, q32, q42, q52, f32, hX2, hbX2, hz2, hS2⟩ := hL2.cells) | (go_at_call 19; have hL3 := hL2.setOpn (61) (61) (by omega); have hb3 := Below.setCell (p := ⟨X, 3, none⟩) (Below.refl base w2) hbX (.int .i64 (61)); refine (rxAdd_ok 5 ⟨#[40]⟩ p hL3 hn).mono ?_; rintro e w4 ⟨rfl, hL4, hb4⟩))
          exact hB.out _ _ _ rfl ⟨_, _, hL4⟩ (((hb1.mono hz).trans hb2).trans (hb3.trans hb4))
    · have hke0 : k = s.size := by omega
      have hw := Lib.hid (show (wd (s.data.toList.drop k)).length = 0 by rw [hke0]; exact wd_end s)
      clear hke0
      have hcv := conv_sub hS p k (k - p) (sc - p) hk2 rfl
      obtain ⟨hT, hke⟩ := HT.out k hk1 hk2 hk3.out hw.out
      rw [hT] at hcv
      have j1 : (p : Int) ≤ (k : Int) := by omega
      have j2 : (k : Int) ≤ (sc : Int) := by omega
      have j3 : k ≤ sc := by omega
      have j4 : ¬ (p = sc) := by omega
      clear hT hke HT hk3 hw
      generalize wdS s p = T at *
      go_wp2_with (first | (go_at_call 31; refine (refLet_ok _ _).mono ?_; rintro e w' ⟨rfl, rfl⟩) | (go_at_call 32; refine (refDig_ok _ _).mono ?_; rintro e w' ⟨rfl, rfl⟩) | (go_at_call 34; refine hSg.mono ?_; rintro e w1 ⟨rfl, hb1⟩; have hL1 := hL.later hb1; obtain ⟨q01, q31, q41, q51, f31, hX1, hbX1, hz1, hS1⟩ := hL1.cells) | (go_at_call 30; refine (rxFault_ok 107 p hL1).mono ?_; rintro e w2 ⟨rfl, hL2, hb2⟩; obtain ⟨q02, q32, q42, q52, f32, hX2, hbX2, hz2, hS2⟩ := hL2.cells) | (go_at_call 19; have hL3 := hL2.setOpn (61) (61) (by omega); have hb3 := Below.setCell (p := ⟨X, 3, none⟩) (Below.refl base w2) hbX (.int .i64 (61)); refine (rxAdd_ok 5 ⟨#[40]⟩ p hL3 hn).mono ?_; rintro e w4 ⟨rfl, hL4, hb4⟩))
      exact hB.out _ _ _ rfl ⟨_, _, hL4⟩ (((hb1.mono hz).trans hb2).trans (hb3.trans hb4))
set_option maxHeartbeats 4000000 in
theorem rxTok_open91 (hL : RxS w base X SA sc s o st toks 0 fa) (hs : s.size ≤ 1099511) (hsc : s.size ≤ sc) (hc : sc ≤ 9223372036854775807) (hp : p < s.size) (hn : toks.length ≤ 1000000) (hlp : isLet s[p] = false) (hdp : isDig s[p] = false) (h3 : ¬ (s[p] = 39 ∨ s[p] = 34)) (ho : o ≤ 60) (x : List UInt8) (hx : signL (s.data.toList.drop p) = x) (h0 : x = [91]) (h60 : o ≠ 60) :
    Calls Tryd.prog 21 #[.pointer (some ⟨X, 0, none⟩), .int .i64 p] w (TkR w base X SA sc s st toks fa p (signT o x)) := by
  obtain ⟨q0, q3, q4, q5, f3, hX, hbX, hz, hS⟩ := hL.cells
  obtain ⟨b, off, rfl⟩ := hS.some (by omega)
  have hby := hS.byte p hp
  have i0 : (0 : Int) ≤ (p : Int) := by omega
  have i1 : (p : Int) < (s.size : Int) := by omega
  have HT := Lib.hid (show ∀ k, p ≤ k → k ≤ s.size → (wd (s.data.toList.drop p)).length = k - p + (wd (s.data.toList.drop k)).length → (wd (s.data.toList.drop k)).length = 0 → s.extract p k = wdS s p ∧ (k : Int) = (p : Int) + ((wd (s.data.toList.drop p)).length : Int) from fun k h1 h2 h3 h4 => by
    refine ⟨?_, by omega⟩
    rw [wdS, show p + (wd (s.data.toList.drop p)).length = k by omega])
  have hTl := wdS_list s p
  have hTs := wdS_size s p
  clear hTl hTs
  have hSg := refSign_ok p w hS hs hsc hc hp
  rw [hx] at hSg
  have hle := signL_len (s.data.toList.drop p)
  rw [hx, List.length_drop] at hle
  have hsz : s.data.toList.length = s.size := by simp
  rw [hsz] at hle
  clear hx hsz
  have e39 : ((s[p].toNat : Int) == 39) = false := byte_ne (d := 39) (k := 39) rfl (fun h => h3 (.inl h))
  have e34 : ((s[p].toNat : Int) == 34) = false := byte_ne (d := 34) (k := 34) rfl (fun h => h3 (.inr h))
  clear h3
  subst h0
  have hgo : signT o [91] = .tok 5 [91] 1 (o + 1) := by show (if o = 60 then _ else _) = _; rw [if_neg h60]
  rw [hgo]
  clear hgo
  obtain ⟨R, hR⟩ : ∃ R, TkR w base X (some ⟨b, off, none⟩) sc s st toks fa p (.tok 5 [91] 1 (o + 1)) = R := ⟨_, rfl⟩
  have hG := Lib.hid (fun e w' k (hk : k = (p : Int) + (1 : Int)) (he : e = .returned (.int .i64 k)) (hl : RxS w' base X (some ⟨b, off, none⟩) sc s (o + 1) st (toks ++ [⟨5, [91], p⟩]) 0 fa) (hb : Below base w w') => show R e w' by rw [← hR]; exact ⟨by rw [he, hk]; simp, hl, hb⟩)
  rw [hR]
  clear hR
  have e60 : decide (60 ≤ (o : Int)) = false := decide_eq_false (by omega)
  clear h60
  replace hSg : Calls Tryd.prog 34 #[.slice (some ⟨b, off, none⟩) s.size sc, .int .i64 p] w fun e w' => e = .returned (.string ⟨#[91]⟩) ∧ Below w.heap.size w w' := hSg
  have iw : IntKind.i64.wrap ((p : Int) + 1) = (p : Int) + 1 := by rw [IntKind.wrap_i64]; omega
  go_enter Tryd.func21, Tryd.ntmps21
  go_wp2_with fail
  go_loop [6] (fun v => ∃ k : Nat, v = .int .i64 k ∧ p ≤ k ∧ k ≤ s.size ∧ Hid ((wd (s.data.toList.drop p)).length = k - p + (wd (s.data.toList.drop k)).length)) (fun v => s.size - (intOf v).toNat)
  case atStart => exact ⟨p, rfl, Nat.le_refl _, by omega, Lib.hid (by omega)⟩
  case round =>
    obtain ⟨k, rfl, hk1, hk2, hk3⟩ := hrel
    by_cases hlt : k < s.size
    · have hbk := hS.byte k hlt
      by_cases hlk : isLet s[k] = true
      · have hw := Lib.hid (wd_step s k hlt (by rw [isWd, hlk]; rfl))
        go_wp2_with (go_at_call 31; refine (refLet_ok _ _).mono ?_; rintro e w' ⟨rfl, rfl⟩)
        go_round
        case rel => exact ⟨k + 1, by go_num, by omega, by omega, Lib.hid (by have a := hk3.out; have b := hw.out; omega)⟩
        case measure => simp [intOf]; omega
      · have hlk : isLet s[k] = false := by simpa using hlk
        by_cases hd : isDig s[k] = true
        · have hw := Lib.hid (wd_step s k hlt (by rw [isWd, hlk, hd]; rfl))
          go_wp2_with (first | (go_at_call 31; refine (refLet_ok _ _).mono ?_; rintro e w' ⟨rfl, rfl⟩) | (go_at_call 32; refine (refDig_ok _ _).mono ?_; rintro e w' ⟨rfl, rfl⟩))
          go_round
          case rel => exact ⟨k + 1, by go_num, by omega, by omega, Lib.hid (by have a := hk3.out; have b := hw.out; omega)⟩
          case measure => simp [intOf]; omega
        · have hd : isDig s[k] = false := by simpa using hd
          have hw := Lib.hid (wd_stop s k hlt (by rw [isWd, hlk, hd]; rfl))
          have hcv := conv_sub hS p k (k - p) (sc - p) hk2 rfl
          obtain ⟨hT, hke⟩ := HT.out k hk1 hk2 hk3.out hw.out
          rw [hT] at hcv
          have j1 : (p : Int) ≤ (k : Int) := by omega
          have j2 : (k : Int) ≤ (sc : Int) := by omega
          have j3 : k ≤ sc := by omega
          have j4 : ¬ (p = sc) := by omega
          clear hT hke HT hk3 hw
          generalize wdS s p = T at *
          go_wp2_with (first | (go_at_call 31; refine (refLet_ok _ _).mono ?_; rintro e w' ⟨rfl, rfl⟩) | (go_at_call 32; refine (refDig_ok _ _).mono ?_; rintro e w' ⟨rfl, rfl⟩) | (go_at_call 34; refine hSg.mono ?_; rintro e w1 ⟨rfl, hb1⟩; have hL1 := hL.later hb1; obtain ⟨q01, q31, q41, q51, f31, hX1, hbX1, hz1, hS1⟩ := hL1.cells) | (go_at_call 19; have hL3 := hL1.setOpn (o + 1) ((o : Int) + 1) (by omega); have hb3 := Below.setCell (p := ⟨X, 3, none⟩) (Below.refl base w1) hbX (.int .i64 ((o : Int) + 1)); refine (rxAdd_ok 5 ⟨#[91]⟩ p hL3 hn).mono ?_; rintro e w4 ⟨rfl, hL4, hb4⟩))
          exact hG.out _ _ _ rfl rfl hL4 ((hb1.mono hz).trans (hb3.trans hb4))
    · have hke0 : k = s.size := by omega
      have hw := Lib.hid (show (wd (s.data.toList.drop k)).length = 0 by rw [hke0]; exact wd_end s)
      clear hke0
      have hcv := conv_sub hS p k (k - p) (sc - p) hk2 rfl
      obtain ⟨hT, hke⟩ := HT.out k hk1 hk2 hk3.out hw.out
      rw [hT] at hcv
      have j1 : (p : Int) ≤ (k : Int) := by omega
      have j2 : (k : Int) ≤ (sc : Int) := by omega
      have j3 : k ≤ sc := by omega
      have j4 : ¬ (p = sc) := by omega
      clear hT hke HT hk3 hw
      generalize wdS s p = T at *
      go_wp2_with (first | (go_at_call 31; refine (refLet_ok _ _).mono ?_; rintro e w' ⟨rfl, rfl⟩) | (go_at_call 32; refine (refDig_ok _ _).mono ?_; rintro e w' ⟨rfl, rfl⟩) | (go_at_call 34; refine hSg.mono ?_; rintro e w1 ⟨rfl, hb1⟩; have hL1 := hL.later hb1; obtain ⟨q01, q31, q41, q51, f31, hX1, hbX1, hz1, hS1⟩ := hL1.cells) | (go_at_call 19; have hL3 := hL1.setOpn (o + 1) ((o : Int) + 1) (by omega); have hb3 := Below.setCell (p := ⟨X, 3, none⟩) (Below.refl base w1) hbX (.int .i64 ((o : Int) + 1)); refine (rxAdd_ok 5 ⟨#[91]⟩ p hL3 hn).mono ?_; rintro e w4 ⟨rfl, hL4, hb4⟩))
      exact hG.out _ _ _ rfl rfl hL4 ((hb1.mono hz).trans (hb3.trans hb4))
set_option maxHeartbeats 4000000 in
theorem rxTok_deep91 (hL : RxS w base X SA sc s o st toks 0 fa) (hs : s.size ≤ 1099511) (hsc : s.size ≤ sc) (hc : sc ≤ 9223372036854775807) (hp : p < s.size) (hn : toks.length ≤ 1000000) (hlp : isLet s[p] = false) (hdp : isDig s[p] = false) (h3 : ¬ (s[p] = 39 ∨ s[p] = 34)) (ho : o ≤ 60) (x : List UInt8) (hx : signL (s.data.toList.drop p) = x) (h0 : x = [91]) (h60 : o = 60) :
    Calls Tryd.prog 21 #[.pointer (some ⟨X, 0, none⟩), .int .i64 p] w (TkR w base X SA sc s st toks fa p (signT o x)) := by
  obtain ⟨q0, q3, q4, q5, f3, hX, hbX, hz, hS⟩ := hL.cells
  obtain ⟨b, off, rfl⟩ := hS.some (by omega)
  have hby := hS.byte p hp
  have i0 : (0 : Int) ≤ (p : Int) := by omega
  have i1 : (p : Int) < (s.size : Int) := by omega
  have HT := Lib.hid (show ∀ k, p ≤ k → k ≤ s.size → (wd (s.data.toList.drop p)).length = k - p + (wd (s.data.toList.drop k)).length → (wd (s.data.toList.drop k)).length = 0 → s.extract p k = wdS s p ∧ (k : Int) = (p : Int) + ((wd (s.data.toList.drop p)).length : Int) from fun k h1 h2 h3 h4 => by
    refine ⟨?_, by omega⟩
    rw [wdS, show p + (wd (s.data.toList.drop p)).length = k by omega])
  have hTl := wdS_list s p
  have hTs := wdS_size s p
  clear hTl hTs
  have hSg := refSign_ok p w hS hs hsc hc hp
  rw [hx] at hSg
  have hle := signL_len (s.data.toList.drop p)
  rw [hx, List.length_drop] at hle
  have hsz : s.data.toList.length = s.size := by simp
  rw [hsz] at hle
  clear hx hsz
  have e39 : ((s[p].toNat : Int) == 39) = false := byte_ne (d := 39) (k := 39) rfl (fun h => h3 (.inl h))
  have e34 : ((s[p].toNat : Int) == 34) = false := byte_ne (d := 34) (k := 34) rfl (fun h => h3 (.inr h))
  clear h3
  subst h0
  subst h60
  have hgo : signT 60 [91] = .bad 107 := rfl
  rw [hgo]
  clear hgo
  obtain ⟨R, hR⟩ : ∃ R, TkR w base X (some ⟨b, off, none⟩) sc s st toks fa p (.bad 107) = R := ⟨_, rfl⟩
  have hB := Lib.hid (fun e w' k (he : e = .returned (.int .i64 k)) (hl : ∃ o' toks', RxS w' base X (some ⟨b, off, none⟩) sc s o' st toks' 107 p) (hb : Below base w w') => show R e w' by rw [← hR]; exact ⟨_, he, hl, hb⟩)
  rw [hR]
  clear hR
  replace hSg : Calls Tryd.prog 34 #[.slice (some ⟨b, off, none⟩) s.size sc, .int .i64 p] w fun e w' => e = .returned (.string ⟨#[91]⟩) ∧ Below w.heap.size w w' := hSg
  have iw : IntKind.i64.wrap ((p : Int) + 1) = (p : Int) + 1 := by rw [IntKind.wrap_i64]; omega
  go_enter Tryd.func21, Tryd.ntmps21
  go_wp2_with fail
  go_loop [6] (fun v => ∃ k : Nat, v = .int .i64 k ∧ p ≤ k ∧ k ≤ s.size ∧ Hid ((wd (s.data.toList.drop p)).length = k - p + (wd (s.data.toList.drop k)).length)) (fun v => s.size - (intOf v).toNat)
  case atStart => exact ⟨p, rfl, Nat.le_refl _, by omega, Lib.hid (by omega)⟩
  case round =>
    obtain ⟨k, rfl, hk1, hk2, hk3⟩ := hrel
    by_cases hlt : k < s.size
    · have hbk := hS.byte k hlt
      by_cases hlk : isLet s[k] = true
      · have hw := Lib.hid (wd_step s k hlt (by rw [isWd, hlk]; rfl))
        go_wp2_with (go_at_call 31; refine (refLet_ok _ _).mono ?_; rintro e w' ⟨rfl, rfl⟩)
        go_round
        case rel => exact ⟨k + 1, by go_num, by omega, by omega, Lib.hid (by have a := hk3.out; have b := hw.out; omega)⟩
        case measure => simp [intOf]; omega
      · have hlk : isLet s[k] = false := by simpa using hlk
        by_cases hd : isDig s[k] = true
        · have hw := Lib.hid (wd_step s k hlt (by rw [isWd, hlk, hd]; rfl))
          go_wp2_with (first | (go_at_call 31; refine (refLet_ok _ _).mono ?_; rintro e w' ⟨rfl, rfl⟩) | (go_at_call 32; refine (refDig_ok _ _).mono ?_; rintro e w' ⟨rfl, rfl⟩))
          go_round
          case rel => exact ⟨k + 1, by go_num, by omega, by omega, Lib.hid (by have a := hk3.out; have b := hw.out; omega)⟩
          case measure => simp [intOf]; omega
        · have hd : isDig s[k] = false := by simpa using hd
          have hw := Lib.hid (wd_stop s k hlt (by rw [isWd, hlk, hd]; rfl))
          have hcv := conv_sub hS p k (k - p) (sc - p) hk2 rfl
          obtain ⟨hT, hke⟩ := HT.out k hk1 hk2 hk3.out hw.out
          rw [hT] at hcv
          have j1 : (p : Int) ≤ (k : Int) := by omega
          have j2 : (k : Int) ≤ (sc : Int) := by omega
          have j3 : k ≤ sc := by omega
          have j4 : ¬ (p = sc) := by omega
          clear hT hke HT hk3 hw
          generalize wdS s p = T at *
          go_wp2_with (first | (go_at_call 31; refine (refLet_ok _ _).mono ?_; rintro e w' ⟨rfl, rfl⟩) | (go_at_call 32; refine (refDig_ok _ _).mono ?_; rintro e w' ⟨rfl, rfl⟩) | (go_at_call 34; refine hSg.mono ?_; rintro e w1 ⟨rfl, hb1⟩; have hL1 := hL.later hb1; obtain ⟨q01, q31, q41, q51, f31, hX1, hbX1, hz1, hS1⟩ := hL1.cells) | (go_at_call 30; refine (rxFault_ok 107 p hL1).mono ?_; rintro e w2 ⟨rfl, hL2, hb2⟩; obtain ⟨q02, q32, q42, q52, f32, hX2, hbX2, hz2, hS2⟩ := hL2.cells) | (go_at_call 19; have hL3 := hL2.setOpn (61) (61) (by omega); have hb3 := Below.setCell (p := ⟨X, 3, none⟩) (Below.refl base w2) hbX (.int .i64 (61)); refine (rxAdd_ok 5 ⟨#[91]⟩ p hL3 hn).mono ?_; rintro e w4 ⟨rfl, hL4, hb4⟩))
          exact hB.out _ _ _ rfl ⟨_, _, hL4⟩ (((hb1.mono hz).trans hb2).trans (hb3.trans hb4))
    · have hke0 : k = s.size := by omega
      have hw := Lib.hid (show (wd (s.data.toList.drop k)).length = 0 by rw [hke0]; exact wd_end s)
      clear hke0
      have hcv := conv_sub hS p k (k - p) (sc - p) hk2 rfl
      obtain ⟨hT, hke⟩ := HT.out k hk1 hk2 hk3.out hw.out
      rw [hT] at hcv
      have j1 : (p : Int) ≤ (k : Int) := by omega
      have j2 : (k : Int) ≤ (sc : Int) := by omega
      have j3 : k ≤ sc := by omega
      have j4 : ¬ (p = sc) := by omega
      clear hT hke HT hk3 hw
      generalize wdS s p = T at *
      go_wp2_with (first | (go_at_call 31; refine (refLet_ok _ _).mono ?_; rintro e w' ⟨rfl, rfl⟩) | (go_at_call 32; refine (refDig_ok _ _).mono ?_; rintro e w' ⟨rfl, rfl⟩) | (go_at_call 34; refine hSg.mono ?_; rintro e w1 ⟨rfl, hb1⟩; have hL1 := hL.later hb1; obtain ⟨q01, q31, q41, q51, f31, hX1, hbX1, hz1, hS1⟩ := hL1.cells) | (go_at_call 30; refine (rxFault_ok 107 p hL1).mono ?_; rintro e w2 ⟨rfl, hL2, hb2⟩; obtain ⟨q02, q32, q42, q52, f32, hX2, hbX2, hz2, hS2⟩ := hL2.cells) | (go_at_call 19; have hL3 := hL2.setOpn (61) (61) (by omega); have hb3 := Below.setCell (p := ⟨X, 3, none⟩) (Below.refl base w2) hbX (.int .i64 (61)); refine (rxAdd_ok 5 ⟨#[91]⟩ p hL3 hn).mono ?_; rintro e w4 ⟨rfl, hL4, hb4⟩))
      exact hB.out _ _ _ rfl ⟨_, _, hL4⟩ (((hb1.mono hz).trans hb2).trans (hb3.trans hb4))
set_option maxHeartbeats 4000000 in
theorem rxTok_open123 (hL : RxS w base X SA sc s o st toks 0 fa) (hs : s.size ≤ 1099511) (hsc : s.size ≤ sc) (hc : sc ≤ 9223372036854775807) (hp : p < s.size) (hn : toks.length ≤ 1000000) (hlp : isLet s[p] = false) (hdp : isDig s[p] = false) (h3 : ¬ (s[p] = 39 ∨ s[p] = 34)) (ho : o ≤ 60) (x : List UInt8) (hx : signL (s.data.toList.drop p) = x) (h0 : x = [123]) (h60 : o ≠ 60) :
    Calls Tryd.prog 21 #[.pointer (some ⟨X, 0, none⟩), .int .i64 p] w (TkR w base X SA sc s st toks fa p (signT o x)) := by
  obtain ⟨q0, q3, q4, q5, f3, hX, hbX, hz, hS⟩ := hL.cells
  obtain ⟨b, off, rfl⟩ := hS.some (by omega)
  have hby := hS.byte p hp
  have i0 : (0 : Int) ≤ (p : Int) := by omega
  have i1 : (p : Int) < (s.size : Int) := by omega
  have HT := Lib.hid (show ∀ k, p ≤ k → k ≤ s.size → (wd (s.data.toList.drop p)).length = k - p + (wd (s.data.toList.drop k)).length → (wd (s.data.toList.drop k)).length = 0 → s.extract p k = wdS s p ∧ (k : Int) = (p : Int) + ((wd (s.data.toList.drop p)).length : Int) from fun k h1 h2 h3 h4 => by
    refine ⟨?_, by omega⟩
    rw [wdS, show p + (wd (s.data.toList.drop p)).length = k by omega])
  have hTl := wdS_list s p
  have hTs := wdS_size s p
  clear hTl hTs
  have hSg := refSign_ok p w hS hs hsc hc hp
  rw [hx] at hSg
  have hle := signL_len (s.data.toList.drop p)
  rw [hx, List.length_drop] at hle
  have hsz : s.data.toList.length = s.size := by simp
  rw [hsz] at hle
  clear hx hsz
  have e39 : ((s[p].toNat : Int) == 39) = false := byte_ne (d := 39) (k := 39) rfl (fun h => h3 (.inl h))
  have e34 : ((s[p].toNat : Int) == 34) = false := byte_ne (d := 34) (k := 34) rfl (fun h => h3 (.inr h))
  clear h3
  subst h0
  have hgo : signT o [123] = .tok 5 [123] 1 (o + 1) := by show (if o = 60 then _ else _) = _; rw [if_neg h60]
  rw [hgo]
  clear hgo
  obtain ⟨R, hR⟩ : ∃ R, TkR w base X (some ⟨b, off, none⟩) sc s st toks fa p (.tok 5 [123] 1 (o + 1)) = R := ⟨_, rfl⟩
  have hG := Lib.hid (fun e w' k (hk : k = (p : Int) + (1 : Int)) (he : e = .returned (.int .i64 k)) (hl : RxS w' base X (some ⟨b, off, none⟩) sc s (o + 1) st (toks ++ [⟨5, [123], p⟩]) 0 fa) (hb : Below base w w') => show R e w' by rw [← hR]; exact ⟨by rw [he, hk]; simp, hl, hb⟩)
  rw [hR]
  clear hR
  have e60 : decide (60 ≤ (o : Int)) = false := decide_eq_false (by omega)
  clear h60
  replace hSg : Calls Tryd.prog 34 #[.slice (some ⟨b, off, none⟩) s.size sc, .int .i64 p] w fun e w' => e = .returned (.string ⟨#[123]⟩) ∧ Below w.heap.size w w' := hSg
  have iw : IntKind.i64.wrap ((p : Int) + 1) = (p : Int) + 1 := by rw [IntKind.wrap_i64]; omega
  go_enter Tryd.func21, Tryd.ntmps21
  go_wp2_with fail
  go_loop [6] (fun v => ∃ k : Nat, v = .int .i64 k ∧ p ≤ k ∧ k ≤ s.size ∧ Hid ((wd (s.data.toList.drop p)).length = k - p + (wd (s.data.toList.drop k)).length)) (fun v => s.size - (intOf v).toNat)
  case atStart => exact ⟨p, rfl, Nat.le_refl _, by omega, Lib.hid (by omega)⟩
  case round =>
    obtain ⟨k, rfl, hk1, hk2, hk3⟩ := hrel
    by_cases hlt : k < s.size
    · have hbk := hS.byte k hlt
      by_cases hlk : isLet s[k] = true
      · have hw := Lib.hid (wd_step s k hlt (by rw [isWd, hlk]; rfl))
        go_wp2_with (go_at_call 31; refine (refLet_ok _ _).mono ?_; rintro e w' ⟨rfl, rfl⟩)
        go_round
        case rel => exact ⟨k + 1, by go_num, by omega, by omega, Lib.hid (by have a := hk3.out; have b := hw.out; omega)⟩
        case measure => simp [intOf]; omega
      · have hlk : isLet s[k] = false := by simpa using hlk
        by_cases hd : isDig s[k] = true
        · have hw := Lib.hid (wd_step s k hlt (by rw [isWd, hlk, hd]; rfl))
          go_wp2_with (first | (go_at_call 31; refine (refLet_ok _ _).mono ?_; rintro e w' ⟨rfl, rfl⟩) | (go_at_call 32; refine (refDig_ok _ _).mono ?_; rintro e w' ⟨rfl, rfl⟩))
          go_round
          case rel => exact ⟨k + 1, by go_num, by omega, by omega, Lib.hid (by have a := hk3.out; have b := hw.out; omega)⟩
          case measure => simp [intOf]; omega
        · have hd : isDig s[k] = false := by simpa using hd
          have hw := Lib.hid (wd_stop s k hlt (by rw [isWd, hlk, hd]; rfl))
          have hcv := conv_sub hS p k (k - p) (sc - p) hk2 rfl
          obtain ⟨hT, hke⟩ := HT.out k hk1 hk2 hk3.out hw.out
          rw [hT] at hcv
          have j1 : (p : Int) ≤ (k : Int) := by omega
          have j2 : (k : Int) ≤ (sc : Int) := by omega
          have j3 : k ≤ sc := by omega
          have j4 : ¬ (p = sc) := by omega
          clear hT hke HT hk3 hw
          generalize wdS s p = T at *
          go_wp2_with (first | (go_at_call 31; refine (refLet_ok _ _).mono ?_; rintro e w' ⟨rfl, rfl⟩) | (go_at_call 32; refine (refDig_ok _ _).mono ?_; rintro e w' ⟨rfl, rfl⟩) | (go_at_call 34; refine hSg.mono ?_; rintro e w1 ⟨rfl, hb1⟩; have hL1 := hL.later hb1; obtain ⟨q01, q31, q41, q51, f31, hX1, hbX1, hz1, hS1⟩ := hL1.cells) | (go_at_call 19; have hL3 := hL1.setOpn (o + 1) ((o : Int) + 1) (by omega); have hb3 := Below.setCell (p := ⟨X, 3, none⟩) (Below.refl base w1) hbX (.int .i64 ((o : Int) + 1)); refine (rxAdd_ok 5 ⟨#[123]⟩ p hL3 hn).mono ?_; rintro e w4 ⟨rfl, hL4, hb4⟩))
          exact hG.out _ _ _ rfl rfl hL4 ((hb1.mono hz).trans (hb3.trans hb4))
    · have hke0 : k = s.size := by omega
      have hw := Lib.hid (show (wd (s.data.toList.drop k)).length = 0 by rw [hke0]; exact wd_end s)
      clear hke0
      have hcv := conv_sub hS p k (k - p) (sc - p) hk2 rfl
      obtain ⟨hT, hke⟩ := HT.out k hk1 hk2 hk3.out hw.out
      rw [hT] at hcv
      have j1 : (p : Int) ≤ (k : Int) := by omega
      have j2 : (k : Int) ≤ (sc : Int) := by omega
      have j3 : k ≤ sc := by omega
      have j4 : ¬ (p = sc) := by omega
      clear hT hke HT hk3 hw
      generalize wdS s p = T at *
      go_wp2_with (first | (go_at_call 31; refine (refLet_ok _ _).mono ?_; rintro e w' ⟨rfl, rfl⟩) | (go_at_call 32; refine (refDig_ok _ _).mono ?_; rintro e w' ⟨rfl, rfl⟩) | (go_at_call 34; refine hSg.mono ?_; rintro e w1 ⟨rfl, hb1⟩; have hL1 := hL.later hb1; obtain ⟨q01, q31, q41, q51, f31, hX1, hbX1, hz1, hS1⟩ := hL1.cells) | (go_at_call 19; have hL3 := hL1.setOpn (o + 1) ((o : Int) + 1) (by omega); have hb3 := Below.setCell (p := ⟨X, 3, none⟩) (Below.refl base w1) hbX (.int .i64 ((o : Int) + 1)); refine (rxAdd_ok 5 ⟨#[123]⟩ p hL3 hn).mono ?_; rintro e w4 ⟨rfl, hL4, hb4⟩))
      exact hG.out _ _ _ rfl rfl hL4 ((hb1.mono hz).trans (hb3.trans hb4))
set_option maxHeartbeats 4000000 in
theorem rxTok_deep123 (hL : RxS w base X SA sc s o st toks 0 fa) (hs : s.size ≤ 1099511) (hsc : s.size ≤ sc) (hc : sc ≤ 9223372036854775807) (hp : p < s.size) (hn : toks.length ≤ 1000000) (hlp : isLet s[p] = false) (hdp : isDig s[p] = false) (h3 : ¬ (s[p] = 39 ∨ s[p] = 34)) (ho : o ≤ 60) (x : List UInt8) (hx : signL (s.data.toList.drop p) = x) (h0 : x = [123]) (h60 : o = 60) :
    Calls Tryd.prog 21 #[.pointer (some ⟨X, 0, none⟩), .int .i64 p] w (TkR w base X SA sc s st toks fa p (signT o x)) := by
  obtain ⟨q0, q3, q4, q5, f3, hX, hbX, hz, hS⟩ := hL.cells
  obtain ⟨b, off, rfl⟩ := hS.some (by omega)
  have hby := hS.byte p hp
  have i0 : (0 : Int) ≤ (p : Int) := by omega
  have i1 : (p : Int) < (s.size : Int) := by omega
  have HT := Lib.hid (show ∀ k, p ≤ k → k ≤ s.size → (wd (s.data.toList.drop p)).length = k - p + (wd (s.data.toList.drop k)).length → (wd (s.data.toList.drop k)).length = 0 → s.extract p k = wdS s p ∧ (k : Int) = (p : Int) + ((wd (s.data.toList.drop p)).length : Int) from fun k h1 h2 h3 h4 => by
    refine ⟨?_, by omega⟩
    rw [wdS, show p + (wd (s.data.toList.drop p)).length = k by omega])
  have hTl := wdS_list s p
  have hTs := wdS_size s p
  clear hTl hTs
  have hSg := refSign_ok p w hS hs hsc hc hp
  rw [hx] at hSg
  have hle := signL_len (s.data.toList.drop p)
  rw [hx, List.length_drop] at hle
  have hsz : s.data.toList.length = s.size := by simp
  rw [hsz] at hle
  clear hx hsz
  have e39 : ((s[p].toNat : Int) == 39) = false := byte_ne (d := 39) (k := 39) rfl (fun h => h3 (.inl h))
  have e34 : ((s[p].toNat : Int) == 34) = false := byte_ne (d := 34) (k := 34) rfl (fun h => h3 (.inr h))
  clear h3
  subst h0
  subst h60
  have hgo : signT 60 [123] = .bad 107 := rfl
  rw [hgo]
  clear hgo
  obtain ⟨R, hR⟩ : ∃ R, TkR w base X (some ⟨b, off, none⟩) sc s st toks fa p (.bad 107) = R := ⟨_, rfl⟩
  have hB := Lib.hid (fun e w' k (he : e = .returned (.int .i64 k)) (hl : ∃ o' toks', RxS w' base X (some ⟨b, off, none⟩) sc s o' st toks' 107 p) (hb : Below base w w') => show R e w' by rw [← hR]; exact ⟨_, he, hl, hb⟩)
  rw [hR]
  clear hR
  replace hSg : Calls Tryd.prog 34 #[.slice (some ⟨b, off, none⟩) s.size sc, .int .i64 p] w fun e w' => e = .returned (.string ⟨#[123]⟩) ∧ Below w.heap.size w w' := hSg
  have iw : IntKind.i64.wrap ((p : Int) + 1) = (p : Int) + 1 := by rw [IntKind.wrap_i64]; omega
  go_enter Tryd.func21, Tryd.ntmps21
  go_wp2_with fail
  go_loop [6] (fun v => ∃ k : Nat, v = .int .i64 k ∧ p ≤ k ∧ k ≤ s.size ∧ Hid ((wd (s.data.toList.drop p)).length = k - p + (wd (s.data.toList.drop k)).length)) (fun v => s.size - (intOf v).toNat)
  case atStart => exact ⟨p, rfl, Nat.le_refl _, by omega, Lib.hid (by omega)⟩
  case round =>
    obtain ⟨k, rfl, hk1, hk2, hk3⟩ := hrel
    by_cases hlt : k < s.size
    · have hbk := hS.byte k hlt
      by_cases hlk : isLet s[k] = true
      · have hw := Lib.hid (wd_step s k hlt (by rw [isWd, hlk]; rfl))
        go_wp2_with (go_at_call 31; refine (refLet_ok _ _).mono ?_; rintro e w' ⟨rfl, rfl⟩)
        go_round
        case rel => exact ⟨k + 1, by go_num, by omega, by omega, Lib.hid (by have a := hk3.out; have b := hw.out; omega)⟩
        case measure => simp [intOf]; omega
      · have hlk : isLet s[k] = false := by simpa using hlk
        by_cases hd : isDig s[k] = true
        · have hw := Lib.hid (wd_step s k hlt (by rw [isWd, hlk, hd]; rfl))
          go_wp2_with (first | (go_at_call 31; refine (refLet_ok _ _).mono ?_; rintro e w' ⟨rfl, rfl⟩) | (go_at_call 32; refine (refDig_ok _ _).mono ?_; rintro e w' ⟨rfl, rfl⟩))
          go_round
          case rel => exact ⟨k + 1, by go_num, by omega, by omega, Lib.hid (by have a := hk3.out; have b := hw.out; omega)⟩
          case measure => simp [intOf]; omega
        · have hd : isDig s[k] = false := by simpa using hd
          have hw := Lib.hid (wd_stop s k hlt (by rw [isWd, hlk, hd]; rfl))
          have hcv := conv_sub hS p k (k - p) (sc - p) hk2 rfl
          obtain ⟨hT, hke⟩ := HT.out k hk1 hk2 hk3.out hw.out
          rw [hT] at hcv
          have j1 : (p : Int) ≤ (k : Int) := by omega
          have j2 : (k : Int) ≤ (sc : Int) := by omega
          have j3 : k ≤ sc := by omega
          have j4 : ¬ (p = sc) := by omega
          clear hT hke HT hk3 hw
          generalize wdS s p = T at *
          go_wp2_with (first | (go_at_call 31; refine (refLet_ok _ _).mono ?_; rintro e w' ⟨rfl, rfl⟩) | (go_at_call 32; refine (refDig_ok _ _).mono ?_; rintro e w' ⟨rfl, rfl⟩) | (go_at_call 34; refine hSg.mono ?_; rintro e w1 ⟨rfl, hb1⟩; have hL1 := hL.later hb1; obtain ⟨q01, q31, q41, q51, f31, hX1, hbX1, hz1, hS1⟩ := hL1.cells) | (go_at_call 30; refine (rxFault_ok 107 p hL1).mono ?_; rintro e w2 ⟨rfl, hL2, hb2⟩; obtain ⟨q02, q32, q42, q52, f32, hX2, hbX2, hz2, hS2⟩ := hL2.cells) | (go_at_call 19; have hL3 := hL2.setOpn (61) (61) (by omega); have hb3 := Below.setCell (p := ⟨X, 3, none⟩) (Below.refl base w2) hbX (.int .i64 (61)); refine (rxAdd_ok 5 ⟨#[123]⟩ p hL3 hn).mono ?_; rintro e w4 ⟨rfl, hL4, hb4⟩))
          exact hB.out _ _ _ rfl ⟨_, _, hL4⟩ (((hb1.mono hz).trans hb2).trans (hb3.trans hb4))
    · have hke0 : k = s.size := by omega
      have hw := Lib.hid (show (wd (s.data.toList.drop k)).length = 0 by rw [hke0]; exact wd_end s)
      clear hke0
      have hcv := conv_sub hS p k (k - p) (sc - p) hk2 rfl
      obtain ⟨hT, hke⟩ := HT.out k hk1 hk2 hk3.out hw.out
      rw [hT] at hcv
      have j1 : (p : Int) ≤ (k : Int) := by omega
      have j2 : (k : Int) ≤ (sc : Int) := by omega
      have j3 : k ≤ sc := by omega
      have j4 : ¬ (p = sc) := by omega
      clear hT hke HT hk3 hw
      generalize wdS s p = T at *
      go_wp2_with (first | (go_at_call 31; refine (refLet_ok _ _).mono ?_; rintro e w' ⟨rfl, rfl⟩) | (go_at_call 32; refine (refDig_ok _ _).mono ?_; rintro e w' ⟨rfl, rfl⟩) | (go_at_call 34; refine hSg.mono ?_; rintro e w1 ⟨rfl, hb1⟩; have hL1 := hL.later hb1; obtain ⟨q01, q31, q41, q51, f31, hX1, hbX1, hz1, hS1⟩ := hL1.cells) | (go_at_call 30; refine (rxFault_ok 107 p hL1).mono ?_; rintro e w2 ⟨rfl, hL2, hb2⟩; obtain ⟨q02, q32, q42, q52, f32, hX2, hbX2, hz2, hS2⟩ := hL2.cells) | (go_at_call 19; have hL3 := hL2.setOpn (61) (61) (by omega); have hb3 := Below.setCell (p := ⟨X, 3, none⟩) (Below.refl base w2) hbX (.int .i64 (61)); refine (rxAdd_ok 5 ⟨#[123]⟩ p hL3 hn).mono ?_; rintro e w4 ⟨rfl, hL4, hb4⟩))
      exact hB.out _ _ _ rfl ⟨_, _, hL4⟩ (((hb1.mono hz).trans hb2).trans (hb3.trans hb4))
set_option maxHeartbeats 4000000 in
theorem rxTok_shut41 (hL : RxS w base X SA sc s o st toks 0 fa) (hs : s.size ≤ 1099511) (hsc : s.size ≤ sc) (hc : sc ≤ 9223372036854775807) (hp : p < s.size) (hn : toks.length ≤ 1000000) (hlp : isLet s[p] = false) (hdp : isDig s[p] = false) (h3 : ¬ (s[p] = 39 ∨ s[p] = 34)) (ho : o ≤ 60) (x : List UInt8) (hx : signL (s.data.toList.drop p) = x) (h0 : x = [41]) :
    Calls Tryd.prog 21 #[.pointer (some ⟨X, 0, none⟩), .int .i64 p] w (TkR w base X SA sc s st toks fa p (signT o x)) := by
  obtain ⟨q0, q3, q4, q5, f3, hX, hbX, hz, hS⟩ := hL.cells
  obtain ⟨b, off, rfl⟩ := hS.some (by omega)
  have hby := hS.byte p hp
  have i0 : (0 : Int) ≤ (p : Int) := by omega
  have i1 : (p : Int) < (s.size : Int) := by omega
  have HT := Lib.hid (show ∀ k, p ≤ k → k ≤ s.size → (wd (s.data.toList.drop p)).length = k - p + (wd (s.data.toList.drop k)).length → (wd (s.data.toList.drop k)).length = 0 → s.extract p k = wdS s p ∧ (k : Int) = (p : Int) + ((wd (s.data.toList.drop p)).length : Int) from fun k h1 h2 h3 h4 => by
    refine ⟨?_, by omega⟩
    rw [wdS, show p + (wd (s.data.toList.drop p)).length = k by omega])
  have hTl := wdS_list s p
  have hTs := wdS_size s p
  clear hTl hTs
  have hSg := refSign_ok p w hS hs hsc hc hp
  rw [hx] at hSg
  have hle := signL_len (s.data.toList.drop p)
  rw [hx, List.length_drop] at hle
  have hsz : s.data.toList.length = s.size := by simp
  rw [hsz] at hle
  clear hx hsz
  have e39 : ((s[p].toNat : Int) == 39) = false := byte_ne (d := 39) (k := 39) rfl (fun h => h3 (.inl h))
  have e34 : ((s[p].toNat : Int) == 34) = false := byte_ne (d := 34) (k := 34) rfl (fun h => h3 (.inr h))
  clear h3
  subst h0
  have hgo : signT o [41] = .tok 5 [41] 1 (o - 1) := rfl
  rw [hgo]
  clear hgo
  obtain ⟨R, hR⟩ : ∃ R, TkR w base X (some ⟨b, off, none⟩) sc s st toks fa p (.tok 5 [41] 1 (o - 1)) = R := ⟨_, rfl⟩
  have hG := Lib.hid (fun e w' k (hk : k = (p : Int) + (1 : Int)) (he : e = .returned (.int .i64 k)) (hl : RxS w' base X (some ⟨b, off, none⟩) sc s (o - 1) st (toks ++ [⟨5, [41], p⟩]) 0 fa) (hb : Below base w w') => show R e w' by rw [← hR]; exact ⟨by rw [he, hk]; simp, hl, hb⟩)
  rw [hR]
  clear hR
  replace hSg : Calls Tryd.prog 34 #[.slice (some ⟨b, off, none⟩) s.size sc, .int .i64 p] w fun e w' => e = .returned (.string ⟨#[41]⟩) ∧ Below w.heap.size w w' := hSg
  have iw : IntKind.i64.wrap ((p : Int) + 1) = (p : Int) + 1 := by rw [IntKind.wrap_i64]; omega
  go_enter Tryd.func21, Tryd.ntmps21
  go_wp2_with fail
  go_loop [6] (fun v => ∃ k : Nat, v = .int .i64 k ∧ p ≤ k ∧ k ≤ s.size ∧ Hid ((wd (s.data.toList.drop p)).length = k - p + (wd (s.data.toList.drop k)).length)) (fun v => s.size - (intOf v).toNat)
  case atStart => exact ⟨p, rfl, Nat.le_refl _, by omega, Lib.hid (by omega)⟩
  case round =>
    obtain ⟨k, rfl, hk1, hk2, hk3⟩ := hrel
    by_cases hlt : k < s.size
    · have hbk := hS.byte k hlt
      by_cases hlk : isLet s[k] = true
      · have hw := Lib.hid (wd_step s k hlt (by rw [isWd, hlk]; rfl))
        go_wp2_with (go_at_call 31; refine (refLet_ok _ _).mono ?_; rintro e w' ⟨rfl, rfl⟩)
        go_round
        case rel => exact ⟨k + 1, by go_num, by omega, by omega, Lib.hid (by have a := hk3.out; have b := hw.out; omega)⟩
        case measure => simp [intOf]; omega
      · have hlk : isLet s[k] = false := by simpa using hlk
        by_cases hd : isDig s[k] = true
        · have hw := Lib.hid (wd_step s k hlt (by rw [isWd, hlk, hd]; rfl))
          go_wp2_with (first | (go_at_call 31; refine (refLet_ok _ _).mono ?_; rintro e w' ⟨rfl, rfl⟩) | (go_at_call 32; refine (refDig_ok _ _).mono ?_; rintro e w' ⟨rfl, rfl⟩))
          go_round
          case rel => exact ⟨k + 1, by go_num, by omega, by omega, Lib.hid (by have a := hk3.out; have b := hw.out; omega)⟩
          case measure => simp [intOf]; omega
        · have hd : isDig s[k] = false := by simpa using hd
          have hw := Lib.hid (wd_stop s k hlt (by rw [isWd, hlk, hd]; rfl))
          have hcv := conv_sub hS p k (k - p) (sc - p) hk2 rfl
          obtain ⟨hT, hke⟩ := HT.out k hk1 hk2 hk3.out hw.out
          rw [hT] at hcv
          have j1 : (p : Int) ≤ (k : Int) := by omega
          have j2 : (k : Int) ≤ (sc : Int) := by omega
          have j3 : k ≤ sc := by omega
          have j4 : ¬ (p = sc) := by omega
          clear hT hke HT hk3 hw
          generalize wdS s p = T at *
          by_cases h0 : o = 0
          · subst h0
            go_wp2_with (first | (go_at_call 31; refine (refLet_ok _ _).mono ?_; rintro e w' ⟨rfl, rfl⟩) | (go_at_call 32; refine (refDig_ok _ _).mono ?_; rintro e w' ⟨rfl, rfl⟩) | (go_at_call 34; refine hSg.mono ?_; rintro e w1 ⟨rfl, hb1⟩; have hL1 := hL.later hb1; obtain ⟨q01, q31, q41, q51, f31, hX1, hbX1, hz1, hS1⟩ := hL1.cells) | (go_at_call 19; refine (rxAdd_ok 5 ⟨#[41]⟩ p hL1 hn).mono ?_; rintro e w4 ⟨rfl, hL4, hb4⟩))
            exact hG.out _ _ _ rfl rfl hL4 ((hb1.mono hz).trans hb4)
          · have e0 : decide (0 < (o : Int)) = true := decide_eq_true (by omega)
            have iw2 : IntKind.i64.wrap ((o : Int) - 1) = ((o - 1 : Nat) : Int) := by rw [IntKind.wrap_i64]; omega
            have iw3 : (o : Int) - 1 = ((o - 1 : Nat) : Int) := by omega
            go_wp2_with (first | (go_at_call 31; refine (refLet_ok _ _).mono ?_; rintro e w' ⟨rfl, rfl⟩) | (go_at_call 32; refine (refDig_ok _ _).mono ?_; rintro e w' ⟨rfl, rfl⟩) | (go_at_call 34; refine hSg.mono ?_; rintro e w1 ⟨rfl, hb1⟩; have hL1 := hL.later hb1; obtain ⟨q01, q31, q41, q51, f31, hX1, hbX1, hz1, hS1⟩ := hL1.cells) | (go_at_call 19; have hL3 := hL1.setOpn (o - 1) (((o - 1 : Nat) : Int)) (by omega); have hb3 := Below.setCell (p := ⟨X, 3, none⟩) (Below.refl base w1) hbX (.int .i64 (((o - 1 : Nat) : Int))); refine (rxAdd_ok 5 ⟨#[41]⟩ p hL3 hn).mono ?_; rintro e w4 ⟨rfl, hL4, hb4⟩))
            exact hG.out _ _ _ rfl rfl hL4 ((hb1.mono hz).trans (hb3.trans hb4))
    · have hke0 : k = s.size := by omega
      have hw := Lib.hid (show (wd (s.data.toList.drop k)).length = 0 by rw [hke0]; exact wd_end s)
      clear hke0
      have hcv := conv_sub hS p k (k - p) (sc - p) hk2 rfl
      obtain ⟨hT, hke⟩ := HT.out k hk1 hk2 hk3.out hw.out
      rw [hT] at hcv
      have j1 : (p : Int) ≤ (k : Int) := by omega
      have j2 : (k : Int) ≤ (sc : Int) := by omega
      have j3 : k ≤ sc := by omega
      have j4 : ¬ (p = sc) := by omega
      clear hT hke HT hk3 hw
      generalize wdS s p = T at *
      by_cases h0 : o = 0
      · subst h0
        go_wp2_with (first | (go_at_call 31; refine (refLet_ok _ _).mono ?_; rintro e w' ⟨rfl, rfl⟩) | (go_at_call 32; refine (refDig_ok _ _).mono ?_; rintro e w' ⟨rfl, rfl⟩) | (go_at_call 34; refine hSg.mono ?_; rintro e w1 ⟨rfl, hb1⟩; have hL1 := hL.later hb1; obtain ⟨q01, q31, q41, q51, f31, hX1, hbX1, hz1, hS1⟩ := hL1.cells) | (go_at_call 19; refine (rxAdd_ok 5 ⟨#[41]⟩ p hL1 hn).mono ?_; rintro e w4 ⟨rfl, hL4, hb4⟩))
        exact hG.out _ _ _ rfl rfl hL4 ((hb1.mono hz).trans hb4)
      · have e0 : decide (0 < (o : Int)) = true := decide_eq_true (by omega)
        have iw2 : IntKind.i64.wrap ((o : Int) - 1) = ((o - 1 : Nat) : Int) := by rw [IntKind.wrap_i64]; omega
        have iw3 : (o : Int) - 1 = ((o - 1 : Nat) : Int) := by omega
        go_wp2_with (first | (go_at_call 31; refine (refLet_ok _ _).mono ?_; rintro e w' ⟨rfl, rfl⟩) | (go_at_call 32; refine (refDig_ok _ _).mono ?_; rintro e w' ⟨rfl, rfl⟩) | (go_at_call 34; refine hSg.mono ?_; rintro e w1 ⟨rfl, hb1⟩; have hL1 := hL.later hb1; obtain ⟨q01, q31, q41, q51, f31, hX1, hbX1, hz1, hS1⟩ := hL1.cells) | (go_at_call 19; have hL3 := hL1.setOpn (o - 1) (((o - 1 : Nat) : Int)) (by omega); have hb3 := Below.setCell (p := ⟨X, 3, none⟩) (Below.refl base w1) hbX (.int .i64 (((o - 1 : Nat) : Int))); refine (rxAdd_ok 5 ⟨#[41]⟩ p hL3 hn).mono ?_; rintro e w4 ⟨rfl, hL4, hb4⟩))
        exact hG.out _ _ _ rfl rfl hL4 ((hb1.mono hz).trans (hb3.trans hb4))
set_option maxHeartbeats 4000000 in
theorem rxTok_shut93 (hL : RxS w base X SA sc s o st toks 0 fa) (hs : s.size ≤ 1099511) (hsc : s.size ≤ sc) (hc : sc ≤ 9223372036854775807) (hp : p < s.size) (hn : toks.length ≤ 1000000) (hlp : isLet s[p] = false) (hdp : isDig s[p] = false) (h3 : ¬ (s[p] = 39 ∨ s[p] = 34)) (ho : o ≤ 60) (x : List UInt8) (hx : signL (s.data.toList.drop p) = x) (h0 : x = [93]) :
    Calls Tryd.prog 21 #[.pointer (some ⟨X, 0, none⟩), .int .i64 p] w (TkR w base X SA sc s st toks fa p (signT o x)) := by
  obtain ⟨q0, q3, q4, q5, f3, hX, hbX, hz, hS⟩ := hL.cells
  obtain ⟨b, off, rfl⟩ := hS.some (by omega)
  have hby := hS.byte p hp
  have i0 : (0 : Int) ≤ (p : Int) := by omega
  have i1 : (p : Int) < (s.size : Int) := by omega
  have HT := Lib.hid (show ∀ k, p ≤ k → k ≤ s.size → (wd (s.data.toList.drop p)).length = k - p + (wd (s.data.toList.drop k)).length → (wd (s.data.toList.drop k)).length = 0 → s.extract p k = wdS s p ∧ (k : Int) = (p : Int) + ((wd (s.data.toList.drop p)).length : Int) from fun k h1 h2 h3 h4 => by
    refine ⟨?_, by omega⟩
    rw [wdS, show p + (wd (s.data.toList.drop p)).length = k by omega])
  have hTl := wdS_list s p
  have hTs := wdS_size s p
  clear hTl hTs
  have hSg := refSign_ok p w hS hs hsc hc hp
  rw [hx] at hSg
  have hle := signL_len (s.data.toList.drop p)
  rw [hx, List.length_drop] at hle
  have hsz : s.data.toList.length = s.size := by simp
  rw [hsz] at hle
  clear hx hsz
  have e39 : ((s[p].toNat : Int) == 39) = false := byte_ne (d := 39) (k := 39) rfl (fun h => h3 (.inl h))
  have e34 : ((s[p].toNat : Int) == 34) = false := byte_ne (d := 34) (k := 34) rfl (fun h => h3 (.inr h))
  clear h3
  subst h0
  have hgo : signT o [93] = .tok 5 [93] 1 (o - 1) := rfl
  rw [hgo]
  clear hgo
  obtain ⟨R, hR⟩ : ∃ R, TkR w base X (some ⟨b, off, none⟩) sc s st toks fa p (.tok 5 [93] 1 (o - 1)) = R := ⟨_, rfl⟩
  have hG := Lib.hid (fun e w' k (hk : k = (p : Int) + (1 : Int)) (he : e = .returned (.int .i64 k)) (hl : RxS w' base X (some ⟨b, off, none⟩) sc s (o - 1) st (toks ++ [⟨5, [93], p⟩]) 0 fa) (hb : Below base w w') => show R e w' by rw [← hR]; exact ⟨by rw [he, hk]; simp, hl, hb⟩)
  rw [hR]
  clear hR
  replace hSg : Calls Tryd.prog 34 #[.slice (some ⟨b, off, none⟩) s.size sc, .int .i64 p] w fun e w' => e = .returned (.string ⟨#[93]⟩) ∧ Below w.heap.size w w' := hSg
  have iw : IntKind.i64.wrap ((p : Int) + 1) = (p : Int) + 1 := by rw [IntKind.wrap_i64]; omega
  go_enter Tryd.func21, Tryd.ntmps21
  go_wp2_with fail
  go_loop [6] (fun v => ∃ k : Nat, v = .int .i64 k ∧ p ≤ k ∧ k ≤ s.size ∧ Hid ((wd (s.data.toList.drop p)).length = k - p + (wd (s.data.toList.drop k)).length)) (fun v => s.size - (intOf v).toNat)
  case atStart => exact ⟨p, rfl, Nat.le_refl _, by omega, Lib.hid (by omega)⟩
  case round =>
    obtain ⟨k, rfl, hk1, hk2, hk3⟩ := hrel
    by_cases hlt : k < s.size
    · have hbk := hS.byte k hlt
      by_cases hlk : isLet s[k] = true
      · have hw := Lib.hid (wd_step s k hlt (by rw [isWd, hlk]; rfl))
        go_wp2_with (go_at_call 31; refine (refLet_ok _ _).mono ?_; rintro e w' ⟨rfl, rfl⟩)
        go_round
        case rel => exact ⟨k + 1, by go_num, by omega, by omega, Lib.hid (by have a := hk3.out; have b := hw.out; omega)⟩
        case measure => simp [intOf]; omega
      · have hlk : isLet s[k] = false := by simpa using hlk
        by_cases hd : isDig s[k] = true
        · have hw := Lib.hid (wd_step s k hlt (by rw [isWd, hlk, hd]; rfl))
          go_wp2_with (first | (go_at_call 31; refine (refLet_ok _ _).mono ?_; rintro e w' ⟨rfl, rfl⟩) | (go_at_call 32; refine (refDig_ok _ _).mono ?_; rintro e w' ⟨rfl, rfl⟩))
          go_round
          case rel => exact ⟨k + 1, by go_num, by omega, by omega, Lib.hid (by have a := hk3.out; have b := hw.out; omega)⟩
          case measure => simp [intOf]; omega
        · have hd : isDig s[k] = false := by simpa using hd
          have hw := Lib.hid (wd_stop s k hlt (by rw [isWd, hlk, hd]; rfl))
          have hcv := conv_sub hS p k (k - p) (sc - p) hk2 rfl
          obtain ⟨hT, hke⟩ := HT.out k hk1 hk2 hk3.out hw.out
          rw [hT] at hcv
          have j1 : (p : Int) ≤ (k : Int) := by omega
          have j2 : (k : Int) ≤ (sc : Int) := by omega
          have j3 : k ≤ sc := by omega
          have j4 : ¬ (p = sc) := by omega
          clear hT hke HT hk3 hw
          generalize wdS s p = T at *
          by_cases h0 : o = 0
          · subst h0
            go_wp2_with (first | (go_at_call 31; refine (refLet_ok _ _).mono ?_; rintro e w' ⟨rfl, rfl⟩) | (go_at_call 32; refine (refDig_ok _ _).mono ?_; rintro e w' ⟨rfl, rfl⟩) | (go_at_call 34; refine hSg.mono ?_; rintro e w1 ⟨rfl, hb1⟩; have hL1 := hL.later hb1; obtain ⟨q01, q31, q41, q51, f31, hX1, hbX1, hz1, hS1⟩ := hL1.cells) | (go_at_call 19; refine (rxAdd_ok 5 ⟨#[93]⟩ p hL1 hn).mono ?_; rintro e w4 ⟨rfl, hL4, hb4⟩))
            exact hG.out _ _ _ rfl rfl hL4 ((hb1.mono hz).trans hb4)
          · have e0 : decide (0 < (o : Int)) = true := decide_eq_true (by omega)
            have iw2 : IntKind.i64.wrap ((o : Int) - 1) = ((o - 1 : Nat) : Int) := by rw [IntKind.wrap_i64]; omega
            have iw3 : (o : Int) - 1 = ((o - 1 : Nat) : Int) := by omega
            go_wp2_with (first | (go_at_call 31; refine (refLet_ok _ _).mono ?_; rintro e w' ⟨rfl, rfl⟩) | (go_at_call 32; refine (refDig_ok _ _).mono ?_; rintro e w' ⟨rfl, rfl⟩) | (go_at_call 34; refine hSg.mono ?_; rintro e w1 ⟨rfl, hb1⟩; have hL1 := hL.later hb1; obtain ⟨q01, q31, q41, q51, f31, hX1, hbX1, hz1, hS1⟩ := hL1.cells) | (go_at_call 19; have hL3 := hL1.setOpn (o - 1) (((o - 1 : Nat) : Int)) (by omega); have hb3 := Below.setCell (p := ⟨X, 3, none⟩) (Below.refl base w1) hbX (.int .i64 (((o - 1 : Nat) : Int))); refine (rxAdd_ok 5 ⟨#[93]⟩ p hL3 hn).mono ?_; rintro e w4 ⟨rfl, hL4, hb4⟩))
            exact hG.out _ _ _ rfl rfl hL4 ((hb1.mono hz).trans (hb3.trans hb4))
    · have hke0 : k = s.size := by omega
      have hw := Lib.hid (show (wd (s.data.toList.drop k)).length = 0 by rw [hke0]; exact wd_end s)
      clear hke0
      have hcv := conv_sub hS p k (k - p) (sc - p) hk2 rfl
      obtain ⟨hT, hke⟩ := HT.out k hk1 hk2 hk3.out hw.out
      rw [hT] at hcv
      have j1 : (p : Int) ≤ (k : Int) := by omega
      have j2 : (k : Int) ≤ (sc : Int) := by omega
      have j3 : k ≤ sc := by omega
      have j4 : ¬ (p = sc) := by omega
      clear hT hke HT hk3 hw
      generalize wdS s p = T at *
      by_cases h0 : o = 0
      · subst h0
        go_wp2_with (first | (go_at_call 31; refine (refLet_ok _ _).mono ?_; rintro e w' ⟨rfl, rfl⟩) | (go_at_call 32; refine (refDig_ok _ _).mono ?_; rintro e w' ⟨rfl, rfl⟩) | (go_at_call 34; refine hSg.mono ?_; rintro e w1 ⟨rfl, hb1⟩; have hL1 := hL.later hb1; obtain ⟨q01, q31, q41, q51, f31, hX1, hbX1, hz1, hS1⟩ := hL1.cells) | (go_at_call 19; refine (rxAdd_ok 5 ⟨#[93]⟩ p hL1 hn).mono ?_; rintro e w4 ⟨rfl, hL4, hb4⟩))
        exact hG.out _ _ _ rfl rfl hL4 ((hb1.mono hz).trans hb4)
      · have e0 : decide (0 < (o : Int)) = true := decide_eq_true (by omega)
        have iw2 : IntKind.i64.wrap ((o : Int) - 1) = ((o - 1 : Nat) : Int) := by rw [IntKind.wrap_i64]; omega
        have iw3 : (o : Int) - 1 = ((o - 1 : Nat) : Int) := by omega
        go_wp2_with (first | (go_at_call 31; refine (refLet_ok _ _).mono ?_; rintro e w' ⟨rfl, rfl⟩) | (go_at_call 32; refine (refDig_ok _ _).mono ?_; rintro e w' ⟨rfl, rfl⟩) | (go_at_call 34; refine hSg.mono ?_; rintro e w1 ⟨rfl, hb1⟩; have hL1 := hL.later hb1; obtain ⟨q01, q31, q41, q51, f31, hX1, hbX1, hz1, hS1⟩ := hL1.cells) | (go_at_call 19; have hL3 := hL1.setOpn (o - 1) (((o - 1 : Nat) : Int)) (by omega); have hb3 := Below.setCell (p := ⟨X, 3, none⟩) (Below.refl base w1) hbX (.int .i64 (((o - 1 : Nat) : Int))); refine (rxAdd_ok 5 ⟨#[93]⟩ p hL3 hn).mono ?_; rintro e w4 ⟨rfl, hL4, hb4⟩))
        exact hG.out _ _ _ rfl rfl hL4 ((hb1.mono hz).trans (hb3.trans hb4))
set_option maxHeartbeats 4000000 in
theorem rxTok_shut125 (hL : RxS w base X SA sc s o st toks 0 fa) (hs : s.size ≤ 1099511) (hsc : s.size ≤ sc) (hc : sc ≤ 9223372036854775807) (hp : p < s.size) (hn : toks.length ≤ 1000000) (hlp : isLet s[p] = false) (hdp : isDig s[p] = false) (h3 : ¬ (s[p] = 39 ∨ s[p] = 34)) (ho : o ≤ 60) (x : List UInt8) (hx : signL (s.data.toList.drop p) = x) (h0 : x = [125]) :
    Calls Tryd.prog 21 #[.pointer (some ⟨X, 0, none⟩), .int .i64 p] w (TkR w base X SA sc s st toks fa p (signT o x)) := by
  obtain ⟨q0, q3, q4, q5, f3, hX, hbX, hz, hS⟩ := hL.cells
  obtain ⟨b, off, rfl⟩ := hS.some (by omega)
  have hby := hS.byte p hp
  have i0 : (0 : Int) ≤ (p : Int) := by omega
  have i1 : (p : Int) < (s.size : Int) := by omega
  have HT := Lib.hid (show ∀ k, p ≤ k → k ≤ s.size → (wd (s.data.toList.drop p)).length = k - p + (wd (s.data.toList.drop k)).length → (wd (s.data.toList.drop k)).length = 0 → s.extract p k = wdS s p ∧ (k : Int) = (p : Int) + ((wd (s.data.toList.drop p)).length : Int) from fun k h1 h2 h3 h4 => by
    refine ⟨?_, by omega⟩
    rw [wdS, show p + (wd (s.data.toList.drop p)).length = k by omega])
  have hTl := wdS_list s p
  have hTs := wdS_size s p
  clear hTl hTs
  have hSg := refSign_ok p w hS hs hsc hc hp
  rw [hx] at hSg
  have hle := signL_len (s.data.toList.drop p)
  rw [hx, List.length_drop] at hle
  have hsz : s.data.toList.length = s.size := by simp
  rw [hsz] at hle
  clear hx hsz
  have e39 : ((s[p].toNat : Int) == 39) = false := byte_ne (d := 39) (k := 39) rfl (fun h => h3 (.inl h))
  have e34 : ((s[p].toNat : Int) == 34) = false := byte_ne (d := 34) (k := 34) rfl (fun h => h3 (.inr h))
  clear h3
  subst h0
  have hgo : signT o [125] = .tok 5 [125] 1 (o - 1) := rfl
  rw [hgo]
  clear hgo
  obtain ⟨R, hR⟩ : ∃ R, TkR w base X (some ⟨b, off, none⟩) sc s st toks fa p (.tok 5 [125] 1 (o - 1)) = R := ⟨_, rfl⟩
  have hG := Lib.hid (fun e w' k (hk : k = (p : Int) + (1 : Int)) (he : e = .returned (.int .i64 k)) (hl : RxS w' base X (some ⟨b, off, none⟩) sc s (o - 1) st (toks ++ [⟨5, [125], p⟩]) 0 fa) (hb : Below base w w') => show R e w' by rw [← hR]; exact ⟨by rw [he, hk]; simp, hl, hb⟩)
  rw [hR]
  clear hR
  replace hSg : Calls Tryd.prog 34 #[.slice (some ⟨b, off, none⟩) s.size sc, .int .i64 p] w fun e w' => e = .returned (.string ⟨#[125]⟩) ∧ Below w.heap.size w w' := hSg
  have iw : IntKind.i64.wrap ((p : Int) + 1) = (p : Int) + 1 := by rw [IntKind.wrap_i64]; omega
  go_enter Tryd.func21, Tryd.ntmps21
  go_wp2_with fail
  go_loop [6] (fun v => ∃ k : Nat, v = .int .i64 k ∧ p ≤ k ∧ k ≤ s.size ∧ Hid ((wd (s.data.toList.drop p)).length = k - p + (wd (s.data.toList.drop k)).length)) (fun v => s.size - (intOf v).toNat)
  case atStart => exact ⟨p, rfl, Nat.le_refl _, by omega, Lib.hid (by omega)⟩
  case round =>
    obtain ⟨k, rfl, hk1, hk2, hk3⟩ := hrel
    by_cases hlt : k < s.size
    · have hbk := hS.byte k hlt
      by_cases hlk : isLet s[k] = true
      · have hw := Lib.hid (wd_step s k hlt (by rw [isWd, hlk]; rfl))
        go_wp2_with (go_at_call 31; refine (refLet_ok _ _).mono ?_; rintro e w' ⟨rfl, rfl⟩)
        go_round
        case rel => exact ⟨k + 1, by go_num, by omega, by omega, Lib.hid (by have a := hk3.out; have b := hw.out; omega)⟩
        case measure => simp [intOf]; omega
      · have hlk : isLet s[k] = false := by simpa using hlk
        by_cases hd : isDig s[k] = true
        · have hw := Lib.hid (wd_step s k hlt (by rw [isWd, hlk, hd]; rfl))
          go_wp2_with (first | (go_at_call 31; refine (refLet_ok _ _).mono ?_; rintro e w' ⟨rfl, rfl⟩) | (go_at_call 32; refine (refDig_ok _ _).mono ?_; rintro e w' ⟨rfl, rfl⟩))
          go_round
          case rel => exact ⟨k + 1, by go_num, by omega, by omega, Lib.hid (by have a := hk3.out; have b := hw.out; omega)⟩
          case measure => simp [intOf]; omega
        · have hd : isDig s[k] = false := by simpa using hd
          have hw := Lib.hid (wd_stop s k hlt (by rw [isWd, hlk, hd]; rfl))
          have hcv := conv_sub hS p k (k - p) (sc - p) hk2 rfl
          obtain ⟨hT, hke⟩ := HT.out k hk1 hk2 hk3.out hw.out
          rw [hT] at hcv
          have j1 : (p : Int) ≤ (k : Int) := by omega
          have j2 : (k : Int) ≤ (sc : Int) := by omega
          have j3 : k ≤ sc := by omega
          have j4 : ¬ (p = sc) := by omega
          clear hT hke HT hk3 hw
          generalize wdS s p = T at *
          by_cases h0 : o = 0
          · subst h0
            go_wp2_with (first | (go_at_call 31; refine (refLet_ok _ _).mono ?_; rintro e w' ⟨rfl, rfl⟩) | (go_at_call 32; refine (refDig_ok _ _).mono ?_; rintro e w' ⟨rfl, rfl⟩) | (go_at_call 34; refine hSg.mono ?_; rintro e w1 ⟨rfl, hb1⟩; have hL1 := hL.later hb1; obtain ⟨q01, q31, q41, q51, f31, hX1, hbX1, hz1, hS1⟩ := hL1.cells) | (go_at_call 19; refine (rxAdd_ok 5 ⟨#[125]⟩ p hL1 hn).mono ?_; rintro e w4 ⟨rfl, hL4, hb4⟩))
            exact hG.out _ _ _ rfl rfl hL4 ((hb1.mono hz).trans hb4)
          · have e0 : decide (0 < (o : Int)) = true := decide_eq_true (by omega)
            have iw2 : IntKind.i64.wrap ((o : Int) - 1) = ((o - 1 : Nat) : Int) := by rw [IntKind.wrap_i64]; omega
            have iw3 : (o : Int) - 1 = ((o - 1 : Nat) : Int) := by omega
            go_wp2_with (first | (go_at_call 31; refine (refLet_ok _ _).mono ?_; rintro e w' ⟨rfl, rfl⟩) | (go_at_call 32; refine (refDig_ok _ _).mono ?_; rintro e w' ⟨rfl, rfl⟩) | (go_at_call 34; refine hSg.mono ?_; rintro e w1 ⟨rfl, hb1⟩; have hL1 := hL.later hb1; obtain ⟨q01, q31, q41, q51, f31, hX1, hbX1, hz1, hS1⟩ := hL1.cells) | (go_at_call 19; have hL3 := hL1.setOpn (o - 1) (((o - 1 : Nat) : Int)) (by omega); have hb3 := Below.setCell (p := ⟨X, 3, none⟩) (Below.refl base w1) hbX (.int .i64 (((o - 1 : Nat) : Int))); refine (rxAdd_ok 5 ⟨#[125]⟩ p hL3 hn).mono ?_; rintro e w4 ⟨rfl, hL4, hb4⟩))
            exact hG.out _ _ _ rfl rfl hL4 ((hb1.mono hz).trans (hb3.trans hb4))
    · have hke0 : k = s.size := by omega
      have hw := Lib.hid (show (wd (s.data.toList.drop k)).length = 0 by rw [hke0]; exact wd_end s)
      clear hke0
      have hcv := conv_sub hS p k (k - p) (sc - p) hk2 rfl
      obtain ⟨hT, hke⟩ := HT.out k hk1 hk2 hk3.out hw.out
      rw [hT] at hcv
      have j1 : (p : Int) ≤ (k : Int) := by omega
      have j2 : (k : Int) ≤ (sc : Int) := by omega
      have j3 : k ≤ sc := by omega
      have j4 : ¬ (p = sc) := by omega
      clear hT hke HT hk3 hw
      generalize wdS s p = T at *
      by_cases h0 : o = 0
      · subst h0
        go_wp2_with (first | (go_at_call 31; refine (refLet_ok _ _).mono ?_; rintro e w' ⟨rfl, rfl⟩) | (go_at_call 32; refine (refDig_ok _ _).mono ?_; rintro e w' ⟨rfl, rfl⟩) | (go_at_call 34; refine hSg.mono ?_; rintro e w1 ⟨rfl, hb1⟩; have hL1 := hL.later hb1; obtain ⟨q01, q31, q41, q51, f31, hX1, hbX1, hz1, hS1⟩ := hL1.cells) | (go_at_call 19; refine (rxAdd_ok 5 ⟨#[125]⟩ p hL1 hn).mono ?_; rintro e w4 ⟨rfl, hL4, hb4⟩))
        exact hG.out _ _ _ rfl rfl hL4 ((hb1.mono hz).trans hb4)
      · have e0 : decide (0 < (o : Int)) = true := decide_eq_true (by omega)
        have iw2 : IntKind.i64.wrap ((o : Int) - 1) = ((o - 1 : Nat) : Int) := by rw [IntKind.wrap_i64]; omega
        have iw3 : (o : Int) - 1 = ((o - 1 : Nat) : Int) := by omega
        go_wp2_with (first | (go_at_call 31; refine (refLet_ok _ _).mono ?_; rintro e w' ⟨rfl, rfl⟩) | (go_at_call 32; refine (refDig_ok _ _).mono ?_; rintro e w' ⟨rfl, rfl⟩) | (go_at_call 34; refine hSg.mono ?_; rintro e w1 ⟨rfl, hb1⟩; have hL1 := hL.later hb1; obtain ⟨q01, q31, q41, q51, f31, hX1, hbX1, hz1, hS1⟩ := hL1.cells) | (go_at_call 19; have hL3 := hL1.setOpn (o - 1) (((o - 1 : Nat) : Int)) (by omega); have hb3 := Below.setCell (p := ⟨X, 3, none⟩) (Below.refl base w1) hbX (.int .i64 (((o - 1 : Nat) : Int))); refine (rxAdd_ok 5 ⟨#[125]⟩ p hL3 hn).mono ?_; rintro e w4 ⟨rfl, hL4, hb4⟩))
        exact hG.out _ _ _ rfl rfl hL4 ((hb1.mono hz).trans (hb3.trans hb4))
set_option maxHeartbeats 4000000 in
theorem rxTok_else (hL : RxS w base X SA sc s o st toks 0 fa) (hs : s.size ≤ 1099511) (hsc : s.size ≤ sc) (hc : sc ≤ 9223372036854775807) (hp : p < s.size) (hn : toks.length ≤ 1000000) (hlp : isLet s[p] = false) (hdp : isDig s[p] = false) (h3 : ¬ (s[p] = 39 ∨ s[p] = 34)) (ho : o ≤ 60) (x : List UInt8) (hx : signL (s.data.toList.drop p) = x) (h0 : x ≠ []) (h1 : ¬ (x = [40] ∨ x = [91] ∨ x = [123])) (h2 : ¬ (x = [41] ∨ x = [93] ∨ x = [125])) :
    Calls Tryd.prog 21 #[.pointer (some ⟨X, 0, none⟩), .int .i64 p] w (TkR w base X SA sc s st toks fa p (signT o x)) := by
  obtain ⟨q0, q3, q4, q5, f3, hX, hbX, hz, hS⟩ := hL.cells
  obtain ⟨b, off, rfl⟩ := hS.some (by omega)
  have hby := hS.byte p hp
  have i0 : (0 : Int) ≤ (p : Int) := by omega
  have i1 : (p : Int) < (s.size : Int) := by omega
  have HT := Lib.hid (show ∀ k, p ≤ k → k ≤ s.size → (wd (s.data.toList.drop p)).length = k - p + (wd (s.data.toList.drop k)).length → (wd (s.data.toList.drop k)).length = 0 → s.extract p k = wdS s p ∧ (k : Int) = (p : Int) + ((wd (s.data.toList.drop p)).length : Int) from fun k h1 h2 h3 h4 => by
    refine ⟨?_, by omega⟩
    rw [wdS, show p + (wd (s.data.toList.drop p)).length = k by omega])
  have hTl := wdS_list s p
  have hTs := wdS_size s p
  clear hTl hTs
  have hSg := refSign_ok p w hS hs hsc hc hp
  rw [hx] at hSg
  have hle := signL_len (s.data.toList.drop p)
  rw [hx, List.length_drop] at hle
  have hsz : s.data.toList.length = s.size := by simp
  rw [hsz] at hle
  clear hx hsz
  have e39 : ((s[p].toNat : Int) == 39) = false := byte_ne (d := 39) (k := 39) rfl (fun h => h3 (.inl h))
  have e34 : ((s[p].toNat : Int) == 34) = false := byte_ne (d := 34) (k := 34) rfl (fun h => h3 (.inr h))
  clear h3
  have hgo : signT o x = .tok 5 x x.length o := by unfold signT; rw [if_neg h0, if_neg h1, if_neg h2]
  rw [hgo]
  clear hgo
  simp only [not_or] at h1 h2
  obtain ⟨G, hGe⟩ : ∃ G : ByteArray, (⟨x.toArray⟩ : ByteArray) = G := ⟨_, rfl⟩
  have hGl : G.data.toList = x := by rw [← hGe]
  have hGn : G.size = x.length := by rw [← hGl]; simp
  rw [hGe] at hSg
  have e0 := ne_lit hGl h0
  have e0' : G.toList.isEmpty = false := by rw [Lib.toList_data, hGl]; cases x with | nil => exact absurd rfl h0 | cons a b => rfl
  have e1 := ne_lit hGl h1.1
  have e2 := ne_lit hGl h1.2.1
  have e3 := ne_lit hGl h1.2.2
  have e4 := ne_lit hGl h2.1
  have e5 := ne_lit hGl h2.2.1
  have e6 := ne_lit hGl h2.2.2
  rw [← hGn] at hle
  have iw : IntKind.i64.wrap ((p : Int) + (G.size : Int)) = (p : Int) + (G.size : Int) := by rw [IntKind.wrap_i64]; omega
  rw [← hGn]
  obtain ⟨R, hR⟩ : ∃ R, TkR w base X (some ⟨b, off, none⟩) sc s st toks fa p (.tok 5 x G.size o) = R := ⟨_, rfl⟩
  have hG := Lib.hid (fun e w' k (hk : k = (p : Int) + ((G.size : Nat) : Int)) (he : e = .returned (.int .i64 k)) (hl : RxS w' base X (some ⟨b, off, none⟩) sc s (o) st (toks ++ [⟨5, x, p⟩]) 0 fa) (hb : Below base w w') => show R e w' by rw [← hR]; exact ⟨by rw [he, hk]; simp, hl, hb⟩)
  rw [hR]
  clear hR
  replace hGl := Lib.hid hGl
  clear h0 h1 h2 hGe hGn
  go_enter Tryd.func21, Tryd.ntmps21
  go_wp2_with fail
  go_loop [6] (fun v => ∃ k : Nat, v = .int .i64 k ∧ p ≤ k ∧ k ≤ s.size ∧ Hid ((wd (s.data.toList.drop p)).length = k - p + (wd (s.data.toList.drop k)).length)) (fun v => s.size - (intOf v).toNat)
  case atStart => exact ⟨p, rfl, Nat.le_refl _, by omega, Lib.hid (by omega)⟩
  case round =>
    obtain ⟨k, rfl, hk1, hk2, hk3⟩ := hrel
    by_cases hlt : k < s.size
    · have hbk := hS.byte k hlt
      by_cases hlk : isLet s[k] = true
      · have hw := Lib.hid (wd_step s k hlt (by rw [isWd, hlk]; rfl))
        go_wp2_with (go_at_call 31; refine (refLet_ok _ _).mono ?_; rintro e w' ⟨rfl, rfl⟩)
        go_round
        case rel => exact ⟨k + 1, by go_num, by omega, by omega, Lib.hid (by have a := hk3.out; have b := hw.out; omega)⟩
        case measure => simp [intOf]; omega
      · have hlk : isLet s[k] = false := by simpa using hlk
        by_cases hd : isDig s[k] = true
        · have hw := Lib.hid (wd_step s k hlt (by rw [isWd, hlk, hd]; rfl))
          go_wp2_with (first | (go_at_call 31; refine (refLet_ok _ _).mono ?_; rintro e w' ⟨rfl, rfl⟩) | (go_at_call 32; refine (refDig_ok _ _).mono ?_; rintro e w' ⟨rfl, rfl⟩))
          go_round
          case rel => exact ⟨k + 1, by go_num, by omega, by omega, Lib.hid (by have a := hk3.out; have b := hw.out; omega)⟩
          case measure => simp [intOf]; omega
        · have hd : isDig s[k] = false := by simpa using hd
          have hw := Lib.hid (wd_stop s k hlt (by rw [isWd, hlk, hd]; rfl))
          have hcv := conv_sub hS p k (k - p) (sc - p) hk2 rfl
          obtain ⟨hT, hke⟩ := HT.out k hk1 hk2 hk3.out hw.out
          rw [hT] at hcv
          have j1 : (p : Int) ≤ (k : Int) := by omega
          have j2 : (k : Int) ≤ (sc : Int) := by omega
          have j3 : k ≤ sc := by omega
          have j4 : ¬ (p = sc) := by omega
          clear hT hke HT hk3 hw
          generalize wdS s p = T at *
          go_wp2_with (first | (go_at_call 31; refine (refLet_ok _ _).mono ?_; rintro e w' ⟨rfl, rfl⟩) | (go_at_call 32; refine (refDig_ok _ _).mono ?_; rintro e w' ⟨rfl, rfl⟩) | (go_at_call 34; refine hSg.mono ?_; rintro e w1 ⟨rfl, hb1⟩; have hL1 := hL.later hb1; obtain ⟨q01, q31, q41, q51, f31, hX1, hbX1, hz1, hS1⟩ := hL1.cells) | (go_at_call 19; refine (rxAdd_ok 5 G p hL1 hn).mono ?_; rintro e w4 ⟨rfl, hL4, hb4⟩))
          rw [hGl.out] at hL4
          exact hG.out _ _ _ rfl rfl hL4 ((hb1.mono hz).trans hb4)
    · have hke0 : k = s.size := by omega
      have hw := Lib.hid (show (wd (s.data.toList.drop k)).length = 0 by rw [hke0]; exact wd_end s)
      clear hke0
      have hcv := conv_sub hS p k (k - p) (sc - p) hk2 rfl
      obtain ⟨hT, hke⟩ := HT.out k hk1 hk2 hk3.out hw.out
      rw [hT] at hcv
      have j1 : (p : Int) ≤ (k : Int) := by omega
      have j2 : (k : Int) ≤ (sc : Int) := by omega
      have j3 : k ≤ sc := by omega
      have j4 : ¬ (p = sc) := by omega
      clear hT hke HT hk3 hw
      generalize wdS s p = T at *
      go_wp2_with (first | (go_at_call 31; refine (refLet_ok _ _).mono ?_; rintro e w' ⟨rfl, rfl⟩) | (go_at_call 32; refine (refDig_ok _ _).mono ?_; rintro e w' ⟨rfl, rfl⟩) | (go_at_call 34; refine hSg.mono ?_; rintro e w1 ⟨rfl, hb1⟩; have hL1 := hL.later hb1; obtain ⟨q01, q31, q41, q51, f31, hX1, hbX1, hz1, hS1⟩ := hL1.cells) | (go_at_call 19; refine (rxAdd_ok 5 G p hL1 hn).mono ?_; rintro e w4 ⟨rfl, hL4, hb4⟩))
      rw [hGl.out] at hL4
      exact hG.out _ _ _ rfl rfl hL4 ((hb1.mono hz).trans hb4)
end
end Go.Proofs.YtgheejogpbhokaaDoor
