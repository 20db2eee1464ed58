/- The reference's token: names and words, numbers, texts in quotes. -/
import Derived.Test.YtgheejogpbhokaaDoorRxA
import Derived.Test.YtgheejogpbhokaaDoorLx5
import Derived.Test.YtgheejogpbhokaaDoorLx9
namespace Go.Proofs.YtgheejogpbhokaaDoor
set_option linter.unusedVariables false
set_option linter.unusedSimpArgs false
open Go.RowKit
set_option maxRecDepth 1000000

theorem BsAt.byte {w : World} {b off : Nat} {s : ByteArray} (h : BsAt w (some ⟨b, off, none⟩) s) (k : Nat) (hk : k < s.size) : w.cell? ⟨b, off + k, none⟩ = some (.int .u8 (s[k].toNat : Int)) := by
  have hsz : s.data.toList.length = s.size := by simp
  obtain ⟨b2, o2, z, hA, hz, hc⟩ := h k (by rw [List.length_map]; omega)
  injection hA with hA
  injection hA with e1 e2 _
  subst e1 e2
  rw [List.getElem?_map, List.getElem?_eq_getElem (by omega)] at hz
  simp only [Option.map_some, Option.some.injEq] at hz
  rw [hc, ← hz]
  rfl
theorem BsAt.some {w : World} {A : Option Addr} {s : ByteArray} (h : BsAt w A s) (h0 : 0 < s.size) : ∃ b off, A = some ⟨b, off, none⟩ := by
  have hsz : s.data.toList.length = s.size := by simp
  obtain ⟨b, o, z, hA, _⟩ := h 0 (by rw [List.length_map]; omega)
  exact ⟨b, o, hA⟩
/-- what comes of a token. -/
def TkR (w : World) (base X : Nat) (SA : Option Addr) (sc : Nat) (s : ByteArray) (st : List Nat) (toks : List Tk) (fa p : Nat) (r : T1) (e : Ending) (w' : World) : Prop :=
  match r with
  | .tok k x n o' => e = .returned (.int .i64 ((p + n : Nat) : Int)) ∧ RxS w' base X SA sc s o' st (toks ++ [⟨k, x, p⟩]) 0 fa ∧ Below base w w'
  | .bad c => ∃ m : Int, e = .returned (.int .i64 m) ∧ (∃ o' toks', RxS w' base X SA sc s o' st toks' c p) ∧ Below base w w'
section
variable {w : World} {base X : Nat} {SA : Option Addr} {sc : Nat} {s : ByteArray} {o : Nat} {st : List Nat} {toks : List Tk} {fa p : Nat}
set_option maxHeartbeats 4000000 in
theorem rxTok_let (hL : RxS w base X SA sc s o st toks 0 fa) (hs : s.size ≤ 1099511) (hsc : s.size ≤ sc) (hc : sc ≤ 9223372036854775807) (hp : p < s.size) (hn : toks.length ≤ 1000000) (hl : isLet s[p] = true) (wb : Bool) (hb : wordB (wd (s.data.toList.drop p)) = wb) :
    Calls Tryd.prog 21 #[.pointer (some ⟨X, 0, none⟩), .int .i64 p] w (TkR w base X SA sc s st toks fa p (.tok (if wb then 2 else 1) (wd (s.data.toList.drop p)) (wd (s.data.toList.drop p)).length o)) := by
  obtain ⟨q0, q3, q4, q5, f3, hX, hbX, hz, hS⟩ := hL.cells
  obtain ⟨b, off, rfl⟩ := hS.some (by omega)
  have hby := hS.byte p hp
  have i0 : (0 : Int) ≤ (p : Int) := by omega
  have i1 : (p : Int) < (s.size : Int) := by omega
  have HT := Lib.hid (show ∀ k, p ≤ k → k ≤ s.size → (wd (s.data.toList.drop p)).length = k - p + (wd (s.data.toList.drop k)).length → (wd (s.data.toList.drop k)).length = 0 → s.extract p k = wdS s p ∧ (k : Int) = (p : Int) + ((wd (s.data.toList.drop p)).length : Int) from fun k h1 h2 h3 h4 => by
    refine ⟨?_, by omega⟩
    rw [wdS, show p + (wd (s.data.toList.drop p)).length = k by omega])
  have hTl := wdS_list s p
  have hTs := wdS_size s p
  have hW := fun W => refWord_ok (wdS s p) W
  rw [hTl, hb] at hW
  obtain ⟨R, hR⟩ : ∃ R, TkR w base X (some ⟨b, off, none⟩) sc s st toks fa p (.tok (if wb then 2 else 1) (wd (s.data.toList.drop p)) (wd (s.data.toList.drop p)).length o) = R := ⟨_, rfl⟩
  have hG := Lib.hid (fun e w' k (hk : k = (p : Int) + ((wd (s.data.toList.drop p)).length : Int)) (he : e = .returned (.int .i64 k)) (hl : RxS w' base X (some ⟨b, off, none⟩) sc s o st (toks ++ [⟨if wb then 2 else 1, wd (s.data.toList.drop p), p⟩]) 0 fa) (hb : Below base w w') => show R e w' by rw [← hR]; exact ⟨by rw [he, hk]; simp, hl, hb⟩)
  rw [hR]
  clear hR
  cases wb
  all_goals
    go_enter Tryd.func21, Tryd.ntmps21
    go_wp2_with fail
    go_loop [6] (fun v => ∃ k : Nat, v = .int .i64 k ∧ p ≤ k ∧ k ≤ s.size ∧ Hid ((wd (s.data.toList.drop p)).length = k - p + (wd (s.data.toList.drop k)).length)) (fun v => s.size - (intOf v).toNat)
    case atStart => exact ⟨p, rfl, Nat.le_refl _, by omega, Lib.hid (by omega)⟩
    case round =>
      obtain ⟨k, rfl, hk1, hk2, hk3⟩ := hrel
      by_cases hlt : k < s.size
      · have hbk := hS.byte k hlt
        by_cases hlk : isLet s[k] = true
        · have hw := Lib.hid (wd_step s k hlt (by rw [isWd, hlk]; rfl))
          go_wp2_with (go_at_call 31; refine (refLet_ok _ _).mono ?_; rintro e w' ⟨rfl, rfl⟩)
          go_round
          case rel => exact ⟨k + 1, by go_num, by omega, by omega, Lib.hid (by have a := hk3.out; have b := hw.out; omega)⟩
          case measure => simp [intOf]; omega
        · have hlk : isLet s[k] = false := by simpa using hlk
          by_cases hd : isDig s[k] = true
          · have hw := Lib.hid (wd_step s k hlt (by rw [isWd, hlk, hd]; rfl))
            go_wp2_with (first | (go_at_call 31; refine (refLet_ok _ _).mono ?_; rintro e w' ⟨rfl, rfl⟩) | (go_at_call 32; refine (refDig_ok _ _).mono ?_; rintro e w' ⟨rfl, rfl⟩))
            go_round
            case rel => exact ⟨k + 1, by go_num, by omega, by omega, Lib.hid (by have a := hk3.out; have b := hw.out; omega)⟩
            case measure => simp [intOf]; omega
          · have hd : isDig s[k] = false := by simpa using hd
            have hw := Lib.hid (wd_stop s k hlt (by rw [isWd, hlk, hd]; rfl))
            have hcv := conv_sub hS p k (k - p) (sc - p) hk2 rfl
            obtain ⟨hT, hke⟩ := HT.out k hk1 hk2 hk3.out hw.out
            rw [hT] at hcv
            have hKe := Lib.hid hke
            have j1 : (p : Int) ≤ (k : Int) := by omega
            have j2 : (k : Int) ≤ (sc : Int) := by omega
            have j3 : k ≤ sc := by omega
            have j4 : ¬ (p = sc) := by omega
            clear hT hke HT hk3 hw
            generalize wdS s p = T at *
            go_wp2_with (first | (go_at_call 31; refine (refLet_ok _ _).mono ?_; rintro e w' ⟨rfl, rfl⟩) | (go_at_call 32; refine (refDig_ok _ _).mono ?_; rintro e w' ⟨rfl, rfl⟩) | (go_at_call 15; refine (hW _).mono ?_; rintro e w1 ⟨rfl, hb1⟩; have hL1 := hL.later hb1) | (go_at_call 19; refine (rxAdd_ok _ T p hL1 hn).mono ?_; rintro e w2 ⟨rfl, hL2, hb2⟩))
            rw [hTl] at hL2
            exact hG.out _ _ _ hKe.out rfl (by simpa using hL2) ((hb1.mono hz).trans hb2)
      · have hke0 : k = s.size := by omega
        have hw := Lib.hid (show (wd (s.data.toList.drop k)).length = 0 by rw [hke0]; exact wd_end s)
        clear hke0
        have hcv := conv_sub hS p k (k - p) (sc - p) hk2 rfl
        obtain ⟨hT, hke⟩ := HT.out k hk1 hk2 hk3.out hw.out
        rw [hT] at hcv
        have hKe := Lib.hid hke
        have j1 : (p : Int) ≤ (k : Int) := by omega
        have j2 : (k : Int) ≤ (sc : Int) := by omega
        have j3 : k ≤ sc := by omega
        have j4 : ¬ (p = sc) := by omega
        clear hT hke HT hk3 hw
        generalize wdS s p = T at *
        go_wp2_with (first | (go_at_call 31; refine (refLet_ok _ _).mono ?_; rintro e w' ⟨rfl, rfl⟩) | (go_at_call 32; refine (refDig_ok _ _).mono ?_; rintro e w' ⟨rfl, rfl⟩) | (go_at_call 15; refine (hW _).mono ?_; rintro e w1 ⟨rfl, hb1⟩; have hL1 := hL.later hb1) | (go_at_call 19; refine (rxAdd_ok _ T p hL1 hn).mono ?_; rintro e w2 ⟨rfl, hL2, hb2⟩))
        rw [hTl] at hL2
        exact hG.out _ _ _ hKe.out rfl (by simpa using hL2) ((hb1.mono hz).trans hb2)
end

theorem num_step {x : List UInt8} {T : ByteArray} {N : Bool} (hT : T.data.toList = x) (bb : Bool) (kk : Nat) (hk : kk < T.size) (h : N = (bb && (x.drop kk).all isDig)) : N = ((bb && isDig T[kk]) && (x.drop (kk + 1)).all isDig) := by
  rw [h, ← hT, drop_cons T kk hk, List.all_cons, Bool.and_assoc]
theorem dig_not_let {c : UInt8} (h : isDig c = true) : isLet c = false := by
  unfold isDig at h
  unfold isLet
  simp at h ⊢
  omega
theorem num_ok {x : List UInt8} {c : UInt8} {T : ByteArray} {ok0 : Bool} (hh : x.head? = some c) (hT : T.size = x.length) (h0 : 1 ≤ T.size) (h : (ok0 = true) ↔ (T.size ≤ 1000 ∧ ((c.toNat : Int) ≠ 48 ∨ T.size = 1))) : numOk x = (ok0 && x.all isDig) := by
  rw [numOk, hh, ← hT, Bool.and_comm (x.all isDig), Bool.and_assoc, Bool.and_comm (x.all isDig), ← Bool.and_assoc]
  congr 1
  rw [Bool.eq_iff_iff, h]
  simp only [Bool.and_eq_true, Bool.not_eq_true', Bool.and_eq_false_iff, decide_eq_true_eq, decide_eq_false_iff_not, beq_eq_false_iff_ne, ne_eq, Option.some.injEq]
  have hc : c = 48 ↔ (c.toNat : Int) = 48 := by
    constructor
    · intro e; rw [e]; rfl
    · intro e; exact UInt8.toNat_inj.1 (by show c.toNat = 48; omega)
  rw [hc]
  constructor
  · rintro ⟨a, b⟩; exact ⟨b, a.imp id (fun h => by omega)⟩
  · rintro ⟨a, b⟩; exact ⟨b.imp id (fun h => by omega), a⟩
section
variable {w : World} {base X : Nat} {SA : Option Addr} {sc : Nat} {s : ByteArray} {o : Nat} {st : List Nat} {toks : List Tk} {fa p : Nat}
set_option maxHeartbeats 4000000 in
theorem rxTok_dig (hL : RxS w base X SA sc s o st toks 0 fa) (hs : s.size ≤ 1099511) (hsc : s.size ≤ sc) (hc : sc ≤ 9223372036854775807) (hp : p < s.size) (hn : toks.length ≤ 1000000) (hl : isDig s[p] = true) :
    Calls Tryd.prog 21 #[.pointer (some ⟨X, 0, none⟩), .int .i64 p] w (TkR w base X SA sc s st toks fa p (if numOk (wd (s.data.toList.drop p)) then .tok 3 (wd (s.data.toList.drop p)) (wd (s.data.toList.drop p)).length o else .bad 105)) := by
  obtain ⟨q0, q3, q4, q5, f3, hX, hbX, hz, hS⟩ := hL.cells
  obtain ⟨b, off, rfl⟩ := hS.some (by omega)
  have hby := hS.byte p hp
  have i0 : (0 : Int) ≤ (p : Int) := by omega
  have i1 : (p : Int) < (s.size : Int) := by omega
  have HT := Lib.hid (show ∀ k, p ≤ k → k ≤ s.size → (wd (s.data.toList.drop p)).length = k - p + (wd (s.data.toList.drop k)).length → (wd (s.data.toList.drop k)).length = 0 → s.extract p k = wdS s p ∧ (k : Int) = (p : Int) + ((wd (s.data.toList.drop p)).length : Int) from fun k h1 h2 h3 h4 => by
    refine ⟨?_, by omega⟩
    rw [wdS, show p + (wd (s.data.toList.drop p)).length = k by omega])
  have hTl := wdS_list s p
  have hTs := wdS_size s p
  obtain ⟨R, hR⟩ : ∃ R, TkR w base X (some ⟨b, off, none⟩) sc s st toks fa p (if numOk (wd (s.data.toList.drop p)) then .tok 3 (wd (s.data.toList.drop p)) (wd (s.data.toList.drop p)).length o else .bad 105) = R := ⟨_, rfl⟩
  have hG := Lib.hid (fun (hn : numOk (wd (s.data.toList.drop p)) = true) e w' k (hk : k = (p : Int) + ((wd (s.data.toList.drop p)).length : Int)) (he : e = .returned (.int .i64 k)) (hl : RxS w' base X (some ⟨b, off, none⟩) sc s o st (toks ++ [⟨3, wd (s.data.toList.drop p), p⟩]) 0 fa) (hb : Below base w w') => show R e w' by rw [← hR, hn]; exact ⟨by rw [he, hk]; simp, hl, hb⟩)
  have hB := Lib.hid (fun (hn : numOk (wd (s.data.toList.drop p)) = false) e w' k (he : e = .returned (.int .i64 k)) (hl : ∃ o' toks', RxS w' base X (some ⟨b, off, none⟩) sc s o' st toks' 105 p) (hb : Below base w w') => show R e w' by rw [← hR, hn]; exact ⟨_, he, hl, hb⟩)
  rw [hR]
  clear hR
  have h0 : 1 ≤ (wdS s p).size := by rw [hTs, drop_cons s p hp]; exact wd_pos (by rw [isWd, hl]; simp)
  have hnl := dig_not_let hl
  have hhd : (wd (s.data.toList.drop p)).head? = some s[p] := by
    rw [drop_cons s p hp, wd, List.takeWhile_cons, if_pos (by rw [isWd, hl]; simp)]; rfl
  have hsub := wdS_fits s p (by omega)
  have hle : (wdS s p).size ≤ 1099511 := by omega
  have HN := Lib.hid (show ∀ ok0 : Bool, ((ok0 = true) ↔ ((wdS s p).size ≤ 1000 ∧ ((s[p].toNat : Int) ≠ 48 ∨ (wdS s p).size = 1))) → numOk (wd (s.data.toList.drop p)) = (ok0 && (wd (s.data.toList.drop p)).all isDig) from fun ok0 h => num_ok hhd hTs h0 h)
  generalize wdS s p = T at *
  clear hhd hsub
  have hcase : (Hid (numOk (wd (s.data.toList.drop p)) = (false && (wd (s.data.toList.drop p)).all isDig)) ∧ decide ((T.size : Int) ≤ 1000) = false) ∨ (Hid (numOk (wd (s.data.toList.drop p)) = (true && (wd (s.data.toList.drop p)).all isDig)) ∧ decide ((T.size : Int) ≤ 1000) = true ∧ ((s[p].toNat : Int) != 48) = true) ∨ (Hid (numOk (wd (s.data.toList.drop p)) = (true && (wd (s.data.toList.drop p)).all isDig)) ∧ decide ((T.size : Int) ≤ 1000) = true ∧ ((s[p].toNat : Int) != 48) = false ∧ ((T.size : Int) == 1) = true) ∨ (Hid (numOk (wd (s.data.toList.drop p)) = (false && (wd (s.data.toList.drop p)).all isDig)) ∧ decide ((T.size : Int) ≤ 1000) = true ∧ ((s[p].toNat : Int) != 48) = false ∧ ((T.size : Int) == 1) = false) := by
    by_cases a1 : T.size ≤ 1000
    · by_cases a2 : (s[p].toNat : Int) = 48
      · by_cases a3 : T.size = 1
        · exact .inr (.inr (.inl ⟨Lib.hid (HN.out true ⟨fun _ => ⟨a1, .inr a3⟩, fun _ => rfl⟩), decide_eq_true (by omega), by simp [a2], by simp; omega⟩))
        · exact .inr (.inr (.inr ⟨Lib.hid (HN.out false ⟨fun h => by simp at h, fun h => by rcases h.2 with h | h <;> contradiction⟩), decide_eq_true (by omega), by simp [a2], by simp; omega⟩))
      · exact .inr (.inl ⟨Lib.hid (HN.out true ⟨fun _ => ⟨a1, .inl a2⟩, fun _ => rfl⟩), decide_eq_true (by omega), by simp; omega⟩)
    · exact .inl ⟨Lib.hid (HN.out false ⟨fun h => by simp at h, fun h => absurd h.1 a1⟩), decide_eq_false (by omega)⟩
  replace hTl := Lib.hid hTl
  clear HN hTs
  go_enter Tryd.func21, Tryd.ntmps21
  go_wp2_with fail
  go_loop [6] (fun v => ∃ k : Nat, v = .int .i64 k ∧ p ≤ k ∧ k ≤ s.size ∧ Hid ((wd (s.data.toList.drop p)).length = k - p + (wd (s.data.toList.drop k)).length)) (fun v => s.size - (intOf v).toNat)
  case atStart => exact ⟨p, rfl, Nat.le_refl _, by omega, Lib.hid (by omega)⟩
  case round =>
    obtain ⟨k, rfl, hk1, hk2, hk3⟩ := hrel
    by_cases hlt : k < s.size
    · have hbk := hS.byte k hlt
      by_cases hlk : isLet s[k] = true
      · have hw := Lib.hid (wd_step s k hlt (by rw [isWd, hlk]; rfl))
        go_wp2_with (go_at_call 31; refine (refLet_ok _ _).mono ?_; rintro e w' ⟨rfl, rfl⟩)
        go_round
        case rel => exact ⟨k + 1, by go_num, by omega, by omega, Lib.hid (by have a := hk3.out; have b := hw.out; omega)⟩
        case measure => simp [intOf]; omega
      · have hlk : isLet s[k] = false := by simpa using hlk
        by_cases hd : isDig s[k] = true
        · have hw := Lib.hid (wd_step s k hlt (by rw [isWd, hlk, hd]; rfl))
          go_wp2_with (first | (go_at_call 31; refine (refLet_ok _ _).mono ?_; rintro e w' ⟨rfl, rfl⟩) | (go_at_call 32; refine (refDig_ok _ _).mono ?_; rintro e w' ⟨rfl, rfl⟩))
          go_round
          case rel => exact ⟨k + 1, by go_num, by omega, by omega, Lib.hid (by have a := hk3.out; have b := hw.out; omega)⟩
          case measure => simp [intOf]; omega
        · have hd : isDig s[k] = false := by simpa using hd
          have hw := Lib.hid (wd_stop s k hlt (by rw [isWd, hlk, hd]; rfl))
          have hcv := conv_sub hS p k (k - p) (sc - p) hk2 rfl
          obtain ⟨hT, hke⟩ := HT.out k hk1 hk2 hk3.out hw.out
          rw [hT] at hcv
          have hKe := Lib.hid hke
          have j1 : (p : Int) ≤ (k : Int) := by omega
          have j2 : (k : Int) ≤ (sc : Int) := by omega
          have j3 : k ≤ sc := by omega
          have j4 : ¬ (p = sc) := by omega
          clear hT hke HT hk3 hw
          rcases hcase with ⟨ho, e1⟩ | ⟨ho, e1, e2⟩ | ⟨ho, e1, e2, e3⟩ | ⟨ho, e1, e2, e3⟩
          all_goals
            go_wp2_with (first | (go_at_call 31; refine (refLet_ok _ _).mono ?_; rintro e w' ⟨rfl, rfl⟩) | (go_at_call 32; refine (refDig_ok _ _).mono ?_; rintro e w' ⟨rfl, rfl⟩))
            go_loop [8, 9] (fun v i => ∃ kk : Nat, i = .int .i64 kk ∧ kk ≤ T.size ∧ ∃ bb : Bool, v = .bool bb ∧ Hid (numOk (wd (s.data.toList.drop p)) = (bb && ((wd (s.data.toList.drop p)).drop kk).all isDig))) (fun _ i => T.size - (intOf i).toNat)
            case atStart => exact ⟨0, rfl, Nat.zero_le _, _, rfl, Lib.hid (by rw [List.drop_zero]; exact ho.out)⟩
            case round =>
              obtain ⟨kk, rfl, hkk, bb, rfl, hN⟩ := hrel
              by_cases hlt2 : kk < T.size
              · have hstep := Lib.hid (num_step hTl.out bb kk hlt2 hN.out)
                cases bb with
                | false =>
                  go_wp2
                  go_round
                  case rel => exact ⟨kk + 1, by go_num, by omega, _, rfl, Lib.hid hstep.out⟩
                  case measure => simp [intOf]; omega
                | true =>
                  cases hd2 : isDig T[kk]
                  all_goals
                    rw [hd2] at hstep
                    go_wp2_with (go_at_call 32; refine (refDig_ok _ _).mono ?_; rintro e w' ⟨rfl, rfl⟩)
                    go_round
                    case rel => exact ⟨kk + 1, by go_num, by omega, _, rfl, Lib.hid hstep.out⟩
                    case measure => simp [intOf]; omega
              · have hend := Lib.hid (show numOk (wd (s.data.toList.drop p)) = bb by rw [hN.out, ← hTl.out, List.drop_eq_nil_of_le (by simp; omega)]; simp)
                clear hN
                cases bb with
                | false =>
                  go_wp2_with (first | (go_at_call 30; refine (rxFault_ok 105 p hL).mono ?_; rintro e w1 ⟨rfl, hL1, hb1⟩) | (go_at_call 19; refine (rxAdd_ok 3 T p hL1 hn).mono ?_; rintro e w2 ⟨rfl, hL2, hb2⟩))
                  exact hB.out hend.out _ _ k rfl ⟨_, _, hL2⟩ (hb1.trans hb2)
                | true =>
                  go_wp2_with (go_at_call 19; refine (rxAdd_ok 3 T p hL hn).mono ?_; rintro e w2 ⟨rfl, hL2, hb2⟩)
                  rw [hTl.out] at hL2
                  exact hG.out hend.out _ _ _ hKe.out rfl hL2 hb2
    · have hke0 : k = s.size := by omega
      have hw := Lib.hid (show (wd (s.data.toList.drop k)).length = 0 by rw [hke0]; exact wd_end s)
      clear hke0
      have hcv := conv_sub hS p k (k - p) (sc - p) hk2 rfl
      obtain ⟨hT, hke⟩ := HT.out k hk1 hk2 hk3.out hw.out
      rw [hT] at hcv
      have hKe := Lib.hid hke
      have j1 : (p : Int) ≤ (k : Int) := by omega
      have j2 : (k : Int) ≤ (sc : Int) := by omega
      have j3 : k ≤ sc := by omega
      have j4 : ¬ (p = sc) := by omega
      clear hT hke HT hk3 hw
      rcases hcase with ⟨ho, e1⟩ | ⟨ho, e1, e2⟩ | ⟨ho, e1, e2, e3⟩ | ⟨ho, e1, e2, e3⟩
      all_goals
        go_wp2_with (first | (go_at_call 31; refine (refLet_ok _ _).mono ?_; rintro e w' ⟨rfl, rfl⟩) | (go_at_call 32; refine (refDig_ok _ _).mono ?_; rintro e w' ⟨rfl, rfl⟩))
        go_loop [8, 9] (fun v i => ∃ kk : Nat, i = .int .i64 kk ∧ kk ≤ T.size ∧ ∃ bb : Bool, v = .bool bb ∧ Hid (numOk (wd (s.data.toList.drop p)) = (bb && ((wd (s.data.toList.drop p)).drop kk).all isDig))) (fun _ i => T.size - (intOf i).toNat)
        case atStart => exact ⟨0, rfl, Nat.zero_le _, _, rfl, Lib.hid (by rw [List.drop_zero]; exact ho.out)⟩
        case round =>
          obtain ⟨kk, rfl, hkk, bb, rfl, hN⟩ := hrel
          by_cases hlt2 : kk < T.size
          · have hstep := Lib.hid (num_step hTl.out bb kk hlt2 hN.out)
            cases bb with
            | false =>
              go_wp2
              go_round
              case rel => exact ⟨kk + 1, by go_num, by omega, _, rfl, Lib.hid hstep.out⟩
              case measure => simp [intOf]; omega
            | true =>
              cases hd2 : isDig T[kk]
              all_goals
                rw [hd2] at hstep
                go_wp2_with (go_at_call 32; refine (refDig_ok _ _).mono ?_; rintro e w' ⟨rfl, rfl⟩)
                go_round
                case rel => exact ⟨kk + 1, by go_num, by omega, _, rfl, Lib.hid hstep.out⟩
                case measure => simp [intOf]; omega
          · have hend := Lib.hid (show numOk (wd (s.data.toList.drop p)) = bb by rw [hN.out, ← hTl.out, List.drop_eq_nil_of_le (by simp; omega)]; simp)
            clear hN
            cases bb with
            | false =>
              go_wp2_with (first | (go_at_call 30; refine (rxFault_ok 105 p hL).mono ?_; rintro e w1 ⟨rfl, hL1, hb1⟩) | (go_at_call 19; refine (rxAdd_ok 3 T p hL1 hn).mono ?_; rintro e w2 ⟨rfl, hL2, hb2⟩))
              exact hB.out hend.out _ _ k rfl ⟨_, _, hL2⟩ (hb1.trans hb2)
            | true =>
              go_wp2_with (go_at_call 19; refine (rxAdd_ok 3 T p hL hn).mono ?_; rintro e w2 ⟨rfl, hL2, hb2⟩)
              rw [hTl.out] at hL2
              exact hG.out hend.out _ _ _ hKe.out rfl hL2 hb2
end

section
variable {w : World} {base X : Nat} {SA : Option Addr} {sc : Nat} {s : ByteArray} {o : Nat} {st : List Nat} {toks : List Tk} {fa p : Nat}
set_option maxHeartbeats 4000000 in
theorem rxTok_quo (hL : RxS w base X SA sc s o st toks 0 fa) (hs : s.size ≤ 1099511) (hsc : s.size ≤ sc) (hc : sc ≤ 9223372036854775807) (hp : p < s.size) (hn : toks.length ≤ 1000000) (hlp : isLet s[p] = false) (hdp : isDig s[p] = false) (h3 : s[p] = 39 ∨ s[p] = 34) :
    Calls Tryd.prog 21 #[.pointer (some ⟨X, 0, none⟩), .int .i64 p] w (TkR w base X SA sc s st toks fa p (quoT (s.data.toList.drop p) o)) := by
  obtain ⟨q0, q3, q4, q5, f3, hX, hbX, hz, hS⟩ := hL.cells
  obtain ⟨b, off, rfl⟩ := hS.some (by omega)
  have hby := hS.byte p hp
  have i0 : (0 : Int) ≤ (p : Int) := by omega
  have i1 : (p : Int) < (s.size : Int) := by omega
  have HT := Lib.hid (show ∀ k, p ≤ k → k ≤ s.size → (wd (s.data.toList.drop p)).length = k - p + (wd (s.data.toList.drop k)).length → (wd (s.data.toList.drop k)).length = 0 → s.extract p k = wdS s p ∧ (k : Int) = (p : Int) + ((wd (s.data.toList.drop p)).length : Int) from fun k h1 h2 h3 h4 => by
    refine ⟨?_, by omega⟩
    rw [wdS, show p + (wd (s.data.toList.drop p)).length = k by omega])
  have hTl := wdS_list s p
  have hTs := wdS_size s p
  obtain ⟨R, hR⟩ : ∃ R, TkR w base X (some ⟨b, off, none⟩) sc s st toks fa p (quoT (s.data.toList.drop p) o) = R := ⟨_, rfl⟩
  have hG := Lib.hid (fun t n (hn : unquote (s.data.toList.drop p) = some (t, n)) e w' k (hk : k = (p : Int) + (n : Int)) (he : e = .returned (.int .i64 k)) (hl : RxS w' base X (some ⟨b, off, none⟩) sc s o st (toks ++ [⟨4, t, p⟩]) 0 fa) (hb : Below base w w') => show R e w' by rw [← hR, quoT, hn]; exact ⟨by rw [he, hk]; simp, hl, hb⟩)
  have hBd := Lib.hid (fun (hn : unquote (s.data.toList.drop p) = none) e w' k (he : e = .returned (.int .i64 k)) (hl : ∃ o' toks', RxS w' base X (some ⟨b, off, none⟩) sc s o' st toks' 104 p) (hb : Below base w w') => show R e w' by rw [← hR, quoT, hn]; exact ⟨_, he, hl, hb⟩)
  rw [hR]
  clear hR hTl hTs
  have hU := fun W => refUnquote_ok (s.extract p s.size) W (by have := rest_size s p; omega)
  rw [rest_list] at hU
  have hlen := Lib.hid (show ∀ x, unquote (s.data.toList.drop p) = some x → p + x.2 ≤ s.size from fun x hx => by
    have := unquote_len _ _ hx
    rw [List.length_drop] at this
    have hsz : s.data.toList.length = s.size := by simp
    omega)
  obtain ⟨r, hr⟩ : ∃ r, unquote (s.data.toList.drop p) = r := ⟨_, rfl⟩
  rw [hr] at hU
  replace hr := Lib.hid hr
  have hcq := conv_sub hS p s.size (s.size - p) (sc - p) (Nat.le_refl _) rfl
  generalize s.extract p s.size = Q at *
  have j5 : (p : Int) ≤ (s.size : Int) := by omega
  have j6 : p ≤ s.size := by omega
  replace h3 : ((s[p].toNat : Int) == 39) = true ∨ ((s[p].toNat : Int) == 39) = false ∧ ((s[p].toNat : Int) == 34) = true := by
    rcases h3 with h3 | h3
    · exact .inl (byte_eq (k := 39) rfl h3)
    · exact .inr ⟨byte_ne (d := 39) (k := 39) rfl (by rw [h3]; decide), byte_eq (k := 34) rfl h3⟩
  go_enter Tryd.func21, Tryd.ntmps21
  go_wp2_with fail
  go_loop [6] (fun v => ∃ k : Nat, v = .int .i64 k ∧ p ≤ k ∧ k ≤ s.size ∧ Hid ((wd (s.data.toList.drop p)).length = k - p + (wd (s.data.toList.drop k)).length)) (fun v => s.size - (intOf v).toNat)
  case atStart => exact ⟨p, rfl, Nat.le_refl _, by omega, Lib.hid (by omega)⟩
  case round =>
    obtain ⟨k, rfl, hk1, hk2, hk3⟩ := hrel
    by_cases hlt : k < s.size
    · have hbk := hS.byte k hlt
      by_cases hlk : isLet s[k] = true
      · have hw := Lib.hid (wd_step s k hlt (by rw [isWd, hlk]; rfl))
        go_wp2_with (go_at_call 31; refine (refLet_ok _ _).mono ?_; rintro e w' ⟨rfl, rfl⟩)
        go_round
        case rel => exact ⟨k + 1, by go_num, by omega, by omega, Lib.hid (by have a := hk3.out; have b := hw.out; omega)⟩
        case measure => simp [intOf]; omega
      · have hlk : isLet s[k] = false := by simpa using hlk
        by_cases hd : isDig s[k] = true
        · have hw := Lib.hid (wd_step s k hlt (by rw [isWd, hlk, hd]; rfl))
          go_wp2_with (first | (go_at_call 31; refine (refLet_ok _ _).mono ?_; rintro e w' ⟨rfl, rfl⟩) | (go_at_call 32; refine (refDig_ok _ _).mono ?_; rintro e w' ⟨rfl, rfl⟩))
          go_round
          case rel => exact ⟨k + 1, by go_num, by omega, by omega, Lib.hid (by have a := hk3.out; have b := hw.out; omega)⟩
          case measure => simp [intOf]; omega
        · have hd : isDig s[k] = false := by simpa using hd
          have hw := Lib.hid (wd_stop s k hlt (by rw [isWd, hlk, hd]; rfl))
          have hcv := conv_sub hS p k (k - p) (sc - p) hk2 rfl
          obtain ⟨hT, hke⟩ := HT.out k hk1 hk2 hk3.out hw.out
          rw [hT] at hcv
          have j1 : (p : Int) ≤ (k : Int) := by omega
          have j2 : (k : Int) ≤ (sc : Int) := by omega
          have j3 : k ≤ sc := by omega
          have j4 : ¬ (p = sc) := by omega
          clear hT hke HT hk3 hw
          generalize wdS s p = T at *
          cases r with
          | none =>
            simp only [unqR] at hU
            rcases h3 with h3 | ⟨h3, h4⟩
            all_goals
              go_wp2_with (first | (go_at_call 31; refine (refLet_ok _ _).mono ?_; rintro e w' ⟨rfl, rfl⟩) | (go_at_call 32; refine (refDig_ok _ _).mono ?_; rintro e w' ⟨rfl, rfl⟩) | (go_at_call 33; refine (hU _).mono ?_; rintro e w1 ⟨rfl, hb1⟩; have hL1 := hL.later hb1) | (go_at_call 30; refine (rxFault_ok 104 p hL1).mono ?_; rintro e w2 ⟨rfl, hL2, hb2⟩) | (go_at_call 19; refine (rxAdd_ok 4 ⟨#[]⟩ p hL2 hn).mono ?_; rintro e w3 ⟨rfl, hL3, hb3⟩))
              exact hBd.out hr.out _ _ p rfl ⟨_, _, hL3⟩ (((hb1.mono hz).trans hb2).trans hb3)
          | some y =>
            obtain ⟨t, n⟩ := y
            simp only [unqR] at hU
            have hln := hlen.out _ hr.out
            obtain ⟨U, hUe⟩ : ∃ U : ByteArray, (⟨t.toArray⟩ : ByteArray) = U := ⟨_, rfl⟩
            have hUl := Lib.hid (show U.data.toList = t by rw [← hUe])
            rw [hUe] at hU
            clear hUe
            have iw : IntKind.i64.wrap ((p : Int) + (n : Int)) = (p : Int) + (n : Int) := by rw [IntKind.wrap_i64]; omega
            rcases h3 with h3 | ⟨h3, h4⟩
            all_goals
              go_wp2_with (first | (go_at_call 31; refine (refLet_ok _ _).mono ?_; rintro e w' ⟨rfl, rfl⟩) | (go_at_call 32; refine (refDig_ok _ _).mono ?_; rintro e w' ⟨rfl, rfl⟩) | (go_at_call 33; refine (hU _).mono ?_; rintro e w1 ⟨rfl, hb1⟩; have hL1 := hL.later hb1) | (go_at_call 19; refine (rxAdd_ok 4 U p hL1 hn).mono ?_; rintro e w3 ⟨rfl, hL3, hb3⟩))
              rw [hUl.out] at hL3
              exact hG.out _ _ hr.out _ _ _ rfl rfl hL3 ((hb1.mono hz).trans hb3)
    · have hke0 : k = s.size := by omega
      have hw := Lib.hid (show (wd (s.data.toList.drop k)).length = 0 by rw [hke0]; exact wd_end s)
      clear hke0
      have hcv := conv_sub hS p k (k - p) (sc - p) hk2 rfl
      obtain ⟨hT, hke⟩ := HT.out k hk1 hk2 hk3.out hw.out
      rw [hT] at hcv
      have j1 : (p : Int) ≤ (k : Int) := by omega
      have j2 : (k : Int) ≤ (sc : Int) := by omega
      have j3 : k ≤ sc := by omega
      have j4 : ¬ (p = sc) := by omega
      clear hT hke HT hk3 hw
      generalize wdS s p = T at *
      cases r with
      | none =>
        simp only [unqR] at hU
        rcases h3 with h3 | ⟨h3, h4⟩
        all_goals
          go_wp2_with (first | (go_at_call 31; refine (refLet_ok _ _).mono ?_; rintro e w' ⟨rfl, rfl⟩) | (go_at_call 32; refine (refDig_ok _ _).mono ?_; rintro e w' ⟨rfl, rfl⟩) | (go_at_call 33; refine (hU _).mono ?_; rintro e w1 ⟨rfl, hb1⟩; have hL1 := hL.later hb1) | (go_at_call 30; refine (rxFault_ok 104 p hL1).mono ?_; rintro e w2 ⟨rfl, hL2, hb2⟩) | (go_at_call 19; refine (rxAdd_ok 4 ⟨#[]⟩ p hL2 hn).mono ?_; rintro e w3 ⟨rfl, hL3, hb3⟩))
          exact hBd.out hr.out _ _ p rfl ⟨_, _, hL3⟩ (((hb1.mono hz).trans hb2).trans hb3)
      | some y =>
        obtain ⟨t, n⟩ := y
        simp only [unqR] at hU
        have hln := hlen.out _ hr.out
        obtain ⟨U, hUe⟩ : ∃ U : ByteArray, (⟨t.toArray⟩ : ByteArray) = U := ⟨_, rfl⟩
        have hUl := Lib.hid (show U.data.toList = t by rw [← hUe])
        rw [hUe] at hU
        clear hUe
        have iw : IntKind.i64.wrap ((p : Int) + (n : Int)) = (p : Int) + (n : Int) := by rw [IntKind.wrap_i64]; omega
        rcases h3 with h3 | ⟨h3, h4⟩
        all_goals
          go_wp2_with (first | (go_at_call 31; refine (refLet_ok _ _).mono ?_; rintro e w' ⟨rfl, rfl⟩) | (go_at_call 32; refine (refDig_ok _ _).mono ?_; rintro e w' ⟨rfl, rfl⟩) | (go_at_call 33; refine (hU _).mono ?_; rintro e w1 ⟨rfl, hb1⟩; have hL1 := hL.later hb1) | (go_at_call 19; refine (rxAdd_ok 4 U p hL1 hn).mono ?_; rintro e w3 ⟨rfl, hL3, hb3⟩))
          rw [hUl.out] at hL3
          exact hG.out _ _ hr.out _ _ _ rfl rfl hL3 ((hb1.mono hz).trans hb3)
end
end Go.Proofs.YtgheejogpbhokaaDoor
