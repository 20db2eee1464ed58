/- The reference's token whole; Tokens. -/
import Derived.Test.YtgheejogpbhokaaDoorRxS
import Derived.Test.YtgheejogpbhokaaDoorLx8
import Derived.Test.YtgheejogpbhokaaDoorRxA
import Derived.Test.YtgheejogpbhokaaDoorLx20
namespace Go.Proofs.YtgheejogpbhokaaDoor
set_option linter.unusedVariables false
set_option linter.unusedSimpArgs false
open Go.RowKit
set_option maxRecDepth 1000000

section
variable {w : World} {base X : Nat} {SA : Option Addr} {sc : Nat} {s : ByteArray} {o : Nat} {st : List Nat} {toks : List Tk} {fa p : Nat}
theorem rxSgn_ok (hL : RxS w base X SA sc s o st toks 0 fa) (hs : s.size ≤ 1099511) (hsc : s.size ≤ sc) (hc : sc ≤ 9223372036854775807) (hp : p < s.size) (hn : toks.length ≤ 1000000) (hlp : isLet s[p] = false) (hdp : isDig s[p] = false) (h3 : ¬ (s[p] = 39 ∨ s[p] = 34)) (ho : o ≤ 60) :
    Calls Tryd.prog 21 #[.pointer (some ⟨X, 0, none⟩), .int .i64 p] w (TkR w base X SA sc s st toks fa p (signT o (signL (s.data.toList.drop p)))) := by
  obtain ⟨x, hx⟩ : ∃ x, signL (s.data.toList.drop p) = x := ⟨_, rfl⟩
  rw [hx]
  by_cases h0 : x = []
  · exact rxTok_none hL hs hsc hc hp hn hlp hdp h3 ho x hx h0
  · by_cases h1 : x = [40] ∨ x = [91] ∨ x = [123]
    · by_cases h60 : o = 60
      · rcases h1 with h1 | h1 | h1
        · exact rxTok_deep40 hL hs hsc hc hp hn hlp hdp h3 ho x hx h1 h60
        · exact rxTok_deep91 hL hs hsc hc hp hn hlp hdp h3 ho x hx h1 h60
        · exact rxTok_deep123 hL hs hsc hc hp hn hlp hdp h3 ho x hx h1 h60
      · rcases h1 with h1 | h1 | h1
        · exact rxTok_open40 hL hs hsc hc hp hn hlp hdp h3 ho x hx h1 h60
        · exact rxTok_open91 hL hs hsc hc hp hn hlp hdp h3 ho x hx h1 h60
        · exact rxTok_open123 hL hs hsc hc hp hn hlp hdp h3 ho x hx h1 h60
    · by_cases h2 : x = [41] ∨ x = [93] ∨ x = [125]
      · rcases h2 with h2 | h2 | h2
        · exact rxTok_shut41 hL hs hsc hc hp hn hlp hdp h3 ho x hx h2
        · exact rxTok_shut93 hL hs hsc hc hp hn hlp hdp h3 ho x hx h2
        · exact rxTok_shut125 hL hs hsc hc hp hn hlp hdp h3 ho x hx h2
      · exact rxTok_else hL hs hsc hc hp hn hlp hdp h3 ho x hx h0 h1 h2
theorem rxToken_ok (hL : RxS w base X SA sc s o st toks 0 fa) (hs : s.size ≤ 1099511) (hsc : s.size ≤ sc) (hc : sc ≤ 9223372036854775807) (hp : p < s.size) (hn : toks.length ≤ 1000000) (ho : o ≤ 60) :
    Calls Tryd.prog 21 #[.pointer (some ⟨X, 0, none⟩), .int .i64 p] w (TkR w base X SA sc s st toks fa p (tokL o (s.data.toList.drop p))) := by
  have hl := drop_cons s p hp
  cases h1 : isLet s[p] with
  | true => rw [tokL_let hl h1]; exact rxTok_let hL hs hsc hc hp hn h1 _ rfl
  | false =>
    cases h2 : isDig s[p] with
    | true => rw [tokL_dig hl h1 h2]; exact rxTok_dig hL hs hsc hc hp hn h2
    | false =>
      by_cases h3 : s[p] = 39 ∨ s[p] = 34
      · rw [tokL_quo hl h1 h2 h3]; exact rxTok_quo hL hs hsc hc hp hn h1 h2 h3
      · rw [tokL_sgn hl h1 h2 h3]; exact rxSgn_ok hL hs hsc hc hp hn h1 h2 h3 ho
end
theorem rx_new (w : World) (SA : Option Addr) (s : ByteArray) (sc : Nat) (h : BsAt w SA s) : RxS ((w.alloc (.cells #[.int .i64 0] 3)).alloc (.cells #[.slice SA s.size sc, .slice none 0 0, .slice (some ⟨w.heap.size, 0, none⟩) 1 1, .int .i64 0, .int .i64 0, .int .i64 0] 53)) w.heap.size (w.heap.size + 1) SA sc s 0 [0] [] 0 0 := by
  have hb : Below w.heap.size w ((w.alloc (.cells #[.int .i64 0] 3)).alloc (.cells #[.slice SA s.size sc, .slice none 0 0, .slice (some ⟨w.heap.size, 0, none⟩) 1 1, .int .i64 0, .int .i64 0, .int .i64 0] 53)) := ((Below.refl _ _).alloc (Nat.le_refl _) _).alloc (by simp) _
  refine ⟨none, 0, some ⟨w.heap.size, 0, none⟩, 1, ⟨by omega, by simp [go_sem], by simp [go_sem], by simp [go_sem], by simp [go_sem], by simp [go_sem], by simp [go_sem], by simp [go_sem], by simp [go_sem], by simp [go_sem], by simp [go_sem], by simp [go_sem], h.later hb, ?_, World.ownsRow_nil _ _ _ _, ?_, by simp [Value.ownBlock], by simp [Value.ownBlock], by simp [Value.ownBlock]⟩⟩
  · intro h0 b off e
    subst e
    exact World.block_lt_of_cell? _ _ (h.byte 0 h0)
  · refine ⟨by simp [stVs], .inr ⟨w.heap.size, 1, #[.int .i64 0], rfl, Nat.le_refl _, ?_, Nat.le_refl _, by unfold maxLen; omega, by simp, by simp [stVs]⟩⟩
    have := heap_alloc_old (w.alloc (.cells #[.int .i64 0] 3)) (.cells #[.slice SA s.size sc, .slice none 0 0, .slice (some ⟨w.heap.size, 0, none⟩) 1 1, .int .i64 0, .int .i64 0, .int .i64 0] 53) (r := w.heap.size) (by simp)
    rw [this]
    exact heap_alloc_new w _

theorem remL_go (s : ByteArray) (k : Nat) (h : k < s.size) (hc : s[k] ≠ 10) : remL (s.data.toList.drop k) = 1 + remL (s.data.toList.drop (k + 1)) := by
  rw [drop_cons s k h, remL, List.takeWhile_cons, if_pos (by simpa using hc), List.length_cons, remL]; omega
theorem remL_at (s : ByteArray) (k : Nat) (h : k < s.size) (hc : s[k] = 10) : remL (s.data.toList.drop k) = 0 := by
  rw [drop_cons s k h, hc, remL, List.takeWhile_cons, if_neg (by decide)]; rfl
theorem remL_out (s : ByteArray) (k : Nat) (h : k = s.size) : remL (s.data.toList.drop k) = 0 := by
  rw [h, List.drop_eq_nil_of_le (by simp)]; rfl
theorem step_rem {s : ByteArray} {p b o : Nat} {h : Bool} {st : List Nat} {toks : List Tk} (hp : p < s.size) (hc : s[p] = 35) :
    lexR s.data.toList ⟨p, b, h, o, st, toks⟩ = lexR s.data.toList ⟨p + remL (s.data.toList.drop p), b, h, o, st, toks⟩ := by
  refine lexR_step ?_
  unfold stepL
  dsimp only
  rw [drop_cons s p hp, hc]
  rfl
theorem step_bl {s : ByteArray} {p b o : Nat} {h : Bool} {st : List Nat} {toks : List Tk} (hp : p < s.size) (hc : s[p] = 32) :
    lexR s.data.toList ⟨p, b, h, o, st, toks⟩ = lexR s.data.toList ⟨p + 1, b + 1, h, o, st, toks⟩ := by
  refine lexR_step ?_
  unfold stepL
  dsimp only
  rw [drop_cons s p hp, hc]
  rfl
theorem step_tok {s : ByteArray} {p b o : Nat} {st : List Nat} {toks : List Tk} (hp : p < s.size) (h10 : s[p] ≠ 10) (h32 : s[p] ≠ 32) (h35 : s[p] ≠ 35) :
    lexR s.data.toList ⟨p, b, false, o, st, toks⟩ = (match tokL o (s.data.toList.drop p) with | .tok k x n o' => lexR s.data.toList ⟨p + n, b, false, o', st, toks ++ [⟨k, x, p⟩]⟩ | .bad c => .bad c p) := by
  have hd := drop_cons s p hp
  cases h : tokL o (s.data.toList.drop p) with
  | tok k x n o' =>
    refine lexR_step ?_
    unfold stepL
    dsimp only
    rw [hd] at h ⊢
    dsimp only
    rw [if_neg h35, if_neg h32, if_neg h10, if_neg (by decide), h]
  | bad c =>
    refine lexR_end ?_
    unfold stepL
    dsimp only
    rw [hd] at h ⊢
    dsimp only
    rw [if_neg h35, if_neg h32, if_neg h10, if_neg (by decide), h]
theorem tokL_ne {o : Nat} {l : List UInt8} {c : Int} (h : tokL o l = .bad c) : c ≠ 0 := by
  intro e
  subst e
  unfold tokL at h
  cases l with
  | nil => simp at h
  | cons a r =>
    simp only at h
    split at h
    · cases h
    · split at h
      · split at h <;> simp at h
      · split at h
        · split at h <;> simp at h
        · unfold signT at h
          split at h
          · simp at h
          · split at h
            · split at h <;> simp at h
            · split at h <;> simp at h
theorem beginL_ne {n a : Nat} {st : List Nat} {toks : List Tk} {c : Int} (h : beginL n a st toks = .inr c) : c ≠ 0 := by
  intro e
  subst e
  unfold beginL at h
  split at h
  · split at h <;> simp at h
  · split at h <;> simp at h
set_option maxHeartbeats 16000000 in
theorem refTokens_ok {SA : Option Addr} {s : ByteArray} (sc : Nat) (w : World) (h : BsAt w SA s) (hs : s.size ≤ 65536) (hsc : s.size ≤ sc) (hc : sc ≤ 9223372036854775807) :
    Calls Tryd.prog 11 #[.slice SA s.size sc] w (TokensR w (lexR s.data.toList lexS)) := by
  obtain ⟨R, hR0⟩ : ∃ R, TokensR w (lexR s.data.toList lexS) = R := ⟨_, rfl⟩
  have hG := Lib.hid (fun l (hl : lexR s.data.toList lexS = .ok l) e w' A C (he : e = .returned (.tuple #[.slice A l.length C, .agg #[.int .i64 0, .int .i64 0]])) (ho : w'.ownsRow (w.heap.size + 1) 35 3 (.slice A l.length C) l.length (tkVs l)) (hb : Below w.heap.size w w') => show R e w' by rw [← hR0, hl]; exact ⟨A, C, he, own_less ho (Nat.le_succ _), hb⟩)
  have hBd := Lib.hid (fun c a (hl : lexR s.data.toList lexS = .bad c a) e w' (he : e = .returned (.tuple #[.slice none 0 0, .agg #[.int .i64 c, .int .i64 a]])) (hb : Below w.heap.size w w') => show R e w' by rw [← hR0, hl]; exact ⟨he, hb⟩)
  rw [hR0]
  clear hR0
  have i1 : ¬ ((65536 : Int) < (s.size : Int)) := by omega
  obtain ⟨W1, hW1⟩ : ∃ W1, w.alloc (.cells #[.int .i64 0, .int .i64 0] 26) = W1 := ⟨_, rfl⟩
  have hb1 : Below w.heap.size w W1 := by rw [← hW1]; exact (Below.refl _ _).alloc (Nat.le_refl _) _
  have hz1 : W1.heap.size = w.heap.size + 1 := by rw [← hW1]; simp
  have hF0 : W1.cell? ⟨w.heap.size, 0, none⟩ = some (.int .i64 0) := by rw [← hW1]; simp [go_sem]
  have hF1 : W1.cell? ⟨w.heap.size, 1, none⟩ = some (.int .i64 0) := by rw [← hW1]; simp [go_sem]
  have hf0 : W1.frozen? ⟨w.heap.size, 0, none⟩ = false := by rw [← hW1]; simp [go_sem]
  have hf1 : W1.frozen? ⟨w.heap.size, 1, none⟩ = false := by rw [← hW1]; simp [go_sem]
  have hX := rx_new W1 SA s sc (h.later hb1)
  have hb2 : Below W1.heap.size W1 ((W1.alloc (.cells #[.int .i64 0] 3)).alloc (.cells #[.slice SA s.size sc, .slice none 0 0, .slice (some ⟨W1.heap.size, 0, none⟩) 1 1, .int .i64 0, .int .i64 0, .int .i64 0] 53)) := ((Below.refl _ _).alloc (Nat.le_refl _) _).alloc (by simp) _
  rw [hz1] at hX hb2
  clear h
  go_enter Tryd.func11, Tryd.ntmps11
  go_wp2_with fail
  try rw [hW1]
  generalize (W1.alloc (.cells #[.int .i64 0] 3)).alloc (.cells #[.slice SA s.size sc, .slice none 0 0, .slice (some ⟨w.heap.size + 1, 0, none⟩) 1 1, .int .i64 0, .int .i64 0, .int .i64 0] 53) = W2 at *
  obtain ⟨F, hF⟩ : ∃ F, w.heap.size = F := ⟨_, rfl⟩
  rw [hF] at hG hBd hb1 hz1 hF0 hF1 hf0 hf1 hX hb2
  rw [hF]
  have HW := Lib.hid (show ∀ W, Below (F + 1) W1 W → W.cell? ⟨F, 0, none⟩ = some (.int .i64 0) ∧ W.cell? ⟨F, 1, none⟩ = some (.int .i64 0) ∧ W.frozen? ⟨F, 0, none⟩ = false ∧ W.frozen? ⟨F, 1, none⟩ = false ∧ Below F w W ∧ F < W.heap.size from fun W hb => ⟨(hb.cell (Nat.lt_succ_self F)).trans hF0, (hb.cell (Nat.lt_succ_self F)).trans hF1, (hb.frozen (Nat.lt_succ_self F)).trans hf0, (hb.frozen (Nat.lt_succ_self F)).trans hf1, hb1.trans (hb.mono (Nat.le_succ F)), by have := hb.size; omega⟩)
  obtain ⟨X, hXe⟩ : ∃ X, F + 1 + 1 = X := ⟨_, rfl⟩
  have hFX : F + 1 < X := by omega
  rw [hXe] at hX ⊢
  have hFne : F ≠ X := by omega
  clear hXe hb1 hF0 hF1 hf0 hf1 hz1 hW1
  go_loopw [5, 6, 7] (fun a b h wr => ∃ (p bl : Nat) (hd : Bool) (o : Nat) (st : List Nat) (toks : List Tk), a = .int .i64 p ∧ b = .int .i64 bl ∧ h = .bool hd ∧ RxS wr (F + 1) X SA sc s o st toks 0 0 ∧ Below (F + 1) W1 wr ∧ p ≤ s.size ∧ o ≤ 60 ∧ Hid (st.getLast? = some 0) ∧ Hid (hd = true → toks.length + st.length ≤ 3 * p + 1) ∧ toks.length + st.length ≤ 3 * p + 3 ∧ st.length ≤ 41 ∧ bl ≤ p ∧ Hid (lexR s.data.toList ⟨p, bl, hd, o, st, toks⟩ = lexR s.data.toList lexS)) (fun a _ _ _ => s.size - (intOf a).toNat)
  case atStart => exact ⟨0, 0, true, 0, [0], [], rfl, rfl, rfl, hX, hb2, Nat.zero_le _, by omega, Lib.hid rfl, Lib.hid (fun _ => by simp), by simp, by simp, Nat.le_refl _, Lib.hid rfl⟩
  case round =>
    obtain ⟨p, bl, hd, o, st, toks, rfl, rfl, rfl, hL, hBw, hp, ho, hlast, hT1, hT3, hd41, hbl, hR⟩ := hrel
    clear hX hb2
    obtain ⟨q0, q3, q4, q5, f3, hXl, hbX, hz, hS⟩ := hL.cells
    by_cases hlt : p < s.size
    · obtain ⟨b, off, rfl⟩ := hS.some (by omega)
      have hby := hS.byte p hlt
      have ip : (p : Int) < (s.size : Int) := by omega
      by_cases h35 : s[p] = 35
      · have hst := Lib.hid (step_rem (b := bl) (o := o) (h := hd) (st := st) (toks := toks) hlt h35)
        have e35 := byte_eq (k := 35) rfl h35
        have hr1 := Lib.hid (remL_go s p hlt (by rw [h35]; decide))
        clear h35
        go_wp2_with fail
        go_loop [5] (fun v => ∃ k : Nat, v = .int .i64 k ∧ p ≤ k ∧ k ≤ s.size ∧ Hid (remL (s.data.toList.drop p) = k - p + remL (s.data.toList.drop k))) (fun v => s.size - (intOf v).toNat)
        case atStart => exact ⟨p, rfl, Nat.le_refl _, hp, Lib.hid (by omega)⟩
        case round =>
          obtain ⟨k, rfl, hk1, hk2, hk3⟩ := hrel
          by_cases hkl : k < s.size
          · have hbk := hS.byte k hkl
            by_cases h10 : s[k] = 10
            · have e10 : ((s[k].toNat : Int) != 10) = false := by rw [h10]; rfl
              have hke := Lib.hid (remL_at s k hkl h10)
              have hkp : p + remL (s.data.toList.drop p) = k := by have a := hk3.out; have b := hke.out; omega
              have hkn : p < k := by have a := hr1.out; omega
              rw [hkp] at hst
              have hst2 := Lib.hid (hst.out.symm.trans hR.out)
              clear hkp hst hke hk3 hr1 hR
              go_wp2
              go_roundw
              case rel => exact ⟨k, bl, hd, o, st, toks, rfl, rfl, rfl, hL, hBw, hk2, ho, hlast, Lib.hid (fun h => by have := hT1.out h; omega), by omega, hd41, by omega, hst2⟩
              case measure => simp [intOf]; omega
            · have e10 : ((s[k].toNat : Int) != 10) = true := by
                have h9 : ((s[k].toNat : Int) == 10) = false := byte_ne (d := 10) (k := 10) rfl h10
                simp only [bne, h9, Bool.not_false]
              have hke := Lib.hid (remL_go s k hkl h10)
              clear h10
              go_wp2
              go_round
              case rel => exact ⟨k + 1, by go_num, by omega, by omega, Lib.hid (by have a := hk3.out; have b := hke.out; omega)⟩
              case measure => simp [intOf]; omega
          · have hke := Lib.hid (remL_out s k (by omega))
            have hkp : p + remL (s.data.toList.drop p) = k := by have a := hk3.out; have b := hke.out; omega
            have hkn : p < k := by have a := hr1.out; omega
            rw [hkp] at hst
            have hst2 := Lib.hid (hst.out.symm.trans hR.out)
            clear hkp hst hke hk3 hr1 hR
            go_wp2
            go_roundw
            case rel => exact ⟨k, bl, hd, o, st, toks, rfl, rfl, rfl, hL, hBw, hk2, ho, hlast, Lib.hid (fun h => by have := hT1.out h; omega), by omega, hd41, by omega, hst2⟩
            case measure => simp [intOf]; omega
      · by_cases h32 : s[p] = 32
        · have hst := Lib.hid ((step_bl (b := bl) (o := o) (h := hd) (st := st) (toks := toks) hlt h32).symm.trans hR.out)
          have e32 := byte_eq (k := 32) rfl h32
          have e35 : ((s[p].toNat : Int) == 35) = false := byte_ne (d := 35) (k := 35) rfl h35
          clear h35 h32 hR
          go_wp2
          go_roundw
          case rel => exact ⟨p + 1, bl + 1, hd, o, st, toks, by go_num, by go_num, rfl, hL, hBw, by omega, ho, hlast, Lib.hid (fun h => by have := hT1.out h; omega), by omega, hd41, by omega, hst⟩
          case measure => simp [intOf]; omega
        · by_cases h10 : s[p] = 10
          · have hst := Lib.hid ((step_nl (b := bl) (o := o) (h := hd) (st := st) (toks := toks) hlt h10).symm.trans hR.out)
            have e10 := byte_eq (k := 10) rfl h10
            have e32 : ((s[p].toNat : Int) == 32) = false := byte_ne (d := 32) (k := 32) rfl h32
            have e35 : ((s[p].toNat : Int) == 35) = false := byte_ne (d := 35) (k := 35) rfl h35
            clear h35 h32 h10 hR
            by_cases h0 : o = 0
            · subst h0
              cases hd with
              | true =>
                have hst2 := Lib.hid (show lexR s.data.toList ⟨p + 1, 0, true, 0, st, toks⟩ = lexR s.data.toList lexS from by simpa using hst.out)
                have hT := hT1.out rfl
                clear hst hT1
                go_wp2
                go_roundw
                case rel => exact ⟨p + 1, 0, true, 0, st, toks, by go_num, rfl, rfl, hL, hBw, by omega, ho, hlast, Lib.hid (fun h => by omega), by omega, hd41, by omega, hst2⟩
                case measure => simp [intOf]; omega
              | false =>
                have hst2 := Lib.hid (show lexR s.data.toList ⟨p + 1, 0, true, 0, st, toks ++ [⟨6, [], p⟩]⟩ = lexR s.data.toList lexS from by simpa using hst.out)
                clear hst hT1
                go_wp2_with (go_at_call 19; refine (rxAdd_ok 6 ⟨#[]⟩ p hL (by omega)).mono ?_; rintro e w2 ⟨rfl, hL2, hb2⟩; obtain ⟨q02, q32, q42, q52, f32, hXl2, hbX2, hz2, hS2⟩ := hL2.cells)
                go_roundw
                case rel => exact ⟨p + 1, 0, true, 0, st, _, by go_num, rfl, rfl, hL2, hBw.trans hb2, by omega, ho, hlast, Lib.hid (fun h => by simp; omega), by simp; omega, hd41, by omega, hst2⟩
                case measure => simp [intOf]; omega
            · have e0 : ((o : Int) == 0) = false := by simp; omega
              have hst2 := Lib.hid (show lexR s.data.toList ⟨p + 1, 0, hd, o, st, toks⟩ = lexR s.data.toList lexS from by simpa [h0] using hst.out)
              clear hst h0
              go_wp2
              go_roundw
              case rel => exact ⟨p + 1, 0, hd, o, st, toks, by go_num, rfl, rfl, hL, hBw, by omega, ho, hlast, Lib.hid (fun h => by have := hT1.out h; omega), by omega, hd41, by omega, hst2⟩
              case measure => simp [intOf]; omega
          · have e10 : ((s[p].toNat : Int) == 10) = false := byte_ne (d := 10) (k := 10) rfl h10
            have e32 : ((s[p].toNat : Int) == 32) = false := byte_ne (d := 32) (k := 32) rfl h32
            have e35 : ((s[p].toNat : Int) == 35) = false := byte_ne (d := 35) (k := 35) rfl h35
            cases hd with
            | false =>
              have hs9 := Lib.hid (step_tok (b := bl) (o := o) (st := st) (toks := toks) hlt h10 h32 h35)
              have hTk := rxToken_ok hL (by omega) hsc hc hlt (by omega) ho
              cases ht : tokL o (s.data.toList.drop p) with
              | tok k x n o' =>
                have hn := tokL_len ht
                rw [List.length_drop] at hn
                have hsz : s.data.toList.length = s.size := by simp
                rw [hsz] at hn
                have ho2 := tokL_opn ht ho
                have hst2 := Lib.hid (show lexR s.data.toList ⟨p + n, bl, false, o', st, toks ++ [⟨k, x, p⟩]⟩ = lexR s.data.toList lexS by
                  have a := hs9.out
                  rw [ht] at a
                  exact a.symm.trans hR.out)
                rw [ht] at hTk
                unfold TkR at hTk
                dsimp only at hTk
                clear hs9 ht h10 h32 h35 hsz
                go_wp2_with (go_at_call 21; refine hTk.mono ?_; rintro e w5 ⟨rfl, hL5, hb5⟩; obtain ⟨q05, q35, q45, q55, f35, hXl5, hbX5, hz5, hS5⟩ := hL5.cells)
                go_roundw
                case rel => exact ⟨p + n, bl, false, o', st, _, rfl, rfl, rfl, hL5, hBw.trans hb5, by omega, ho2, hlast, Lib.hid (fun h => by simp at h), by simp; omega, hd41, by omega, hst2⟩
                case measure => simp [intOf]; omega
              | bad c =>
                have hne := tokL_ne ht
                have ec : (c == 0) = false := by simpa using hne
                have ec2 : (c != 0) = true := by simp [bne, ec]
                have hst2 := Lib.hid (show lexR s.data.toList lexS = .bad c p by
                  have a := hs9.out
                  rw [ht] at a
                  exact hR.out.symm.trans a)
                rw [ht] at hTk
                unfold TkR at hTk
                dsimp only at hTk
                clear hs9 ht h10 h32 h35
                go_wp2_with (go_at_call 21; refine hTk.mono ?_; rintro e w5 ⟨m, rfl, ⟨o5, toks5, hL5⟩, hb5⟩; obtain ⟨q05, q35, q45, q55, f35, hXl5, hbX5, hz5, hS5⟩ := hL5.cells)
                have hB5 := hBw.trans hb5
                obtain ⟨g0, g1, k0, k1, gb, gF⟩ := HW.out _ hB5
                go_region
                obtain ⟨W6, hW6, z0, z1, zb⟩ : ∃ W6, ((w5.setCell ⟨F, 0, none⟩ (.int .i64 c)).setCell ⟨F, 1, none⟩ (.int .i64 p)).drew = W6 ∧ W6.cell? ⟨F, 0, none⟩ = some (.int .i64 c) ∧ W6.cell? ⟨F, 1, none⟩ = some (.int .i64 p) ∧ Below F w W6 := ⟨_, rfl, cell_later (drew_ok (Below.refl _ _)) (cell_set_ne (cell_set_eq g0) (by decide)), cell_later (drew_ok (Below.refl _ _)) (cell_set_eq (cell_set_ne g1 (by decide))), drew_ok (Below.setCell (p := ⟨F, 1, none⟩) (Below.setCell (p := ⟨F, 0, none⟩) gb (Nat.le_refl F) _) (Nat.le_refl F) _)⟩
                rw [hW6]
                clear hW6
                go_wp2
                refine bodyPost_ret (v := .tuple #[.slice none 0 0, .agg #[.int .i64 c, .int .i64 p]]) (by simp [results, Tryd.results11, go_sem, z0, z1]) rfl ?_
                exact hBd.out _ _ hst2.out _ _ rfl zb
            | true =>
              have hT := hT1.out rfl
              have hbg := rxBegin_ok (n := bl) (p := p) hL (by omega) (by omega) hlast.out
              have hh := Lib.hid (head_lex (b := bl) (o := o) (st := st) (toks := toks) hlt h10 h32 h35)
              cases hbe : beginL bl p st toks with
              | inr c =>
                have hne := beginL_ne hbe
                have ec : (c == 0) = false := by simpa using hne
                have ec2 : (c != 0) = true := by simp [bne, ec]
                have hst2 := Lib.hid (show lexR s.data.toList lexS = .bad c p by
                  have a := hh.out
                  rw [hbe] at a
                  exact hR.out.symm.trans a)
                rw [hbe] at hbg
                unfold BegR at hbg
                dsimp only at hbg
                clear hh hbe h10 h32 h35
                go_wp2_with (go_at_call 20; refine hbg.mono ?_; rintro e w5 ⟨rfl, ⟨st5, toks5, hL5⟩, hb5⟩; obtain ⟨q05, q35, q45, q55, f35, hXl5, hbX5, hz5, hS5⟩ := hL5.cells)
                have hB5 := hBw.trans hb5
                obtain ⟨g0, g1, k0, k1, gb, gF⟩ := HW.out _ hB5
                go_region
                obtain ⟨W6, hW6, z0, z1, zb⟩ : ∃ W6, ((w5.setCell ⟨F, 0, none⟩ (.int .i64 c)).setCell ⟨F, 1, none⟩ (.int .i64 p)).drew = W6 ∧ W6.cell? ⟨F, 0, none⟩ = some (.int .i64 c) ∧ W6.cell? ⟨F, 1, none⟩ = some (.int .i64 p) ∧ Below F w W6 := ⟨_, rfl, cell_later (drew_ok (Below.refl _ _)) (cell_set_ne (cell_set_eq g0) (by decide)), cell_later (drew_ok (Below.refl _ _)) (cell_set_eq (cell_set_ne g1 (by decide))), drew_ok (Below.setCell (p := ⟨F, 1, none⟩) (Below.setCell (p := ⟨F, 0, none⟩) gb (Nat.le_refl F) _) (Nat.le_refl F) _)⟩
                rw [hW6]
                clear hW6
                go_wp2
                refine bodyPost_ret (v := .tuple #[.slice none 0 0, .agg #[.int .i64 c, .int .i64 p]]) (by simp [results, Tryd.results11, go_sem, z0, z1]) rfl ?_
                exact hBd.out _ _ hst2.out _ _ rfl zb
              | inl y =>
                obtain ⟨b1, b2, b3⟩ := begin_in hbe hlast.out hd41
                have hR2 := Lib.hid (show lexR s.data.toList ⟨p, bl, false, o, y.1, y.2⟩ = lexR s.data.toList lexS by
                  have a := hh.out
                  rw [hbe] at a
                  exact a.symm.trans hR.out)
                rw [hbe] at hbg
                unfold BegR at hbg
                dsimp only at hbg
                have hl2 := Lib.hid b1
                clear hh hbe hR b1
                go_wp2_with (go_at_call 20; refine hbg.mono ?_; rintro e w4 ⟨rfl, hL4, hb4⟩; obtain ⟨q04, q34, q44, q54, f34, hXl4, hbX4, hz4, hS4⟩ := hL4.cells)
                have hB4 := hBw.trans hb4
                have hs9 := Lib.hid (step_tok (b := bl) (o := o) (st := y.1) (toks := y.2) hlt h10 h32 h35)
                have hTk := rxToken_ok hL4 (by omega) hsc hc hlt (by omega) ho
                cases ht : tokL o (s.data.toList.drop p) with
                | tok k x n o' =>
                  have hn := tokL_len ht
                  rw [List.length_drop] at hn
                  have hsz : s.data.toList.length = s.size := by simp
                  rw [hsz] at hn
                  have ho2 := tokL_opn ht ho
                  have hst2 := Lib.hid (show lexR s.data.toList ⟨p + n, bl, false, o', y.1, y.2 ++ [⟨k, x, p⟩]⟩ = lexR s.data.toList lexS by
                    have a := hs9.out
                    rw [ht] at a
                    exact a.symm.trans hR2.out)
                  rw [ht] at hTk
                  unfold TkR at hTk
                  dsimp only at hTk
                  clear hs9 ht h10 h32 h35 hsz
                  go_wp2_with (go_at_call 21; refine hTk.mono ?_; rintro e w5 ⟨rfl, hL5, hb5⟩; obtain ⟨q05, q35, q45, q55, f35, hXl5, hbX5, hz5, hS5⟩ := hL5.cells)
                  go_roundw
                  case rel => exact ⟨p + n, bl, false, o', y.1, _, rfl, rfl, rfl, hL5, hB4.trans hb5, by omega, ho2, hl2, Lib.hid (fun h => by simp at h), by simp; omega, (by omega), by omega, hst2⟩
                  case measure => simp [intOf]; omega
                | bad c =>
                  have hne := tokL_ne ht
                  have ec : (c == 0) = false := by simpa using hne
                  have ec2 : (c != 0) = true := by simp [bne, ec]
                  have hst2 := Lib.hid (show lexR s.data.toList lexS = .bad c p by
                    have a := hs9.out
                    rw [ht] at a
                    exact hR2.out.symm.trans a)
                  rw [ht] at hTk
                  unfold TkR at hTk
                  dsimp only at hTk
                  clear hs9 ht h10 h32 h35
                  go_wp2_with (go_at_call 21; refine hTk.mono ?_; rintro e w5 ⟨m, rfl, ⟨o5, toks5, hL5⟩, hb5⟩; obtain ⟨q05, q35, q45, q55, f35, hXl5, hbX5, hz5, hS5⟩ := hL5.cells)
                  have hB5 := hB4.trans hb5
                  obtain ⟨g0, g1, k0, k1, gb, gF⟩ := HW.out _ hB5
                  go_region
                  obtain ⟨W6, hW6, z0, z1, zb⟩ : ∃ W6, ((w5.setCell ⟨F, 0, none⟩ (.int .i64 c)).setCell ⟨F, 1, none⟩ (.int .i64 p)).drew = W6 ∧ W6.cell? ⟨F, 0, none⟩ = some (.int .i64 c) ∧ W6.cell? ⟨F, 1, none⟩ = some (.int .i64 p) ∧ Below F w W6 := ⟨_, rfl, cell_later (drew_ok (Below.refl _ _)) (cell_set_ne (cell_set_eq g0) (by decide)), cell_later (drew_ok (Below.refl _ _)) (cell_set_eq (cell_set_ne g1 (by decide))), drew_ok (Below.setCell (p := ⟨F, 1, none⟩) (Below.setCell (p := ⟨F, 0, none⟩) gb (Nat.le_refl F) _) (Nat.le_refl F) _)⟩
                  rw [hW6]
                  clear hW6
                  go_wp2
                  refine bodyPost_ret (v := .tuple #[.slice none 0 0, .agg #[.int .i64 c, .int .i64 p]]) (by simp [results, Tryd.results11, go_sem, z0, z1]) rfl ?_
                  exact hBd.out _ _ hst2.out _ _ rfl zb
    · have hpe : p = s.size := by omega
      subst hpe
      have hlen : s.data.toList.length = s.size := by simp
      cases st with
      | nil => exact absurd hlast.out (by simp)
      | cons d r =>
        have hend := Lib.hid (show lexR s.data.toList lexS = .ok (toks ++ (if offB toks.getLast? then [(⟨6, [], s.size⟩ : Tk)] else []) ++ List.replicate r.length ⟨8, [], s.size⟩ ++ [(⟨9, [], s.size⟩ : Tk)]) by
          rw [← hR.out, ← endL_eq (d := d), ← hlen]
          exact step_end (S := ⟨s.data.toList.length, bl, hd, o, d :: r, toks⟩) (Nat.le_refl _))
        have hdr : r.length ≤ 40 := by simpa using hd41
        have hTl : toks.length ≤ 200000 := by omega
        clear hR hlast hT1 hlen hd41
        rcases List.eq_nil_or_concat toks with htk | ⟨l, t, htk⟩
        · subst htk
          have hz0 : (0 : Int) < ((([] : List Tk).length : Nat) : Int) ↔ False := by simp
          obtain ⟨A1, C1, q1⟩ : ∃ A C, wr.cell? ⟨X, 1, none⟩ = some (.slice A 0 C) := by
            obtain ⟨LA, LC, BA, BC, hx⟩ := hL
            exact ⟨LA, LC, hx.c1⟩
          obtain ⟨gB, BC, qB, _⟩ := hL.cellB
          have HT := Lib.hid (show lexR s.data.toList lexS = .ok (([] : List Tk) ++ List.replicate r.length ⟨8, [], s.size⟩ ++ [(⟨9, [], s.size⟩ : Tk)]) from hend.out)
          clear hend hz0
          go_wp2_with fail
          clear qB
          go_loopw [10] (fun v wr2 => ∃ k : Nat, v = .int .i64 ((k + 1 : Nat) : Int) ∧ k ≤ r.length ∧ RxS wr2 (F + 1) X SA sc s o (d :: r) ([] ++ List.replicate k ⟨8, [], s.size⟩) 0 0 ∧ Below (F + 1) W1 wr2) (fun v _ => r.length + 1 - (intOf v).toNat)
          case atStart => exact ⟨0, rfl, Nat.zero_le _, by rw [List.replicate_zero, List.append_nil]; exact hL, hBw⟩
          case round =>
            obtain ⟨k, rfl, hk, hLk, hBk⟩ := hrel
            obtain ⟨g2, BC2, qB, _⟩ := hLk.cellB
            have hTk : ([] ++ List.replicate k (⟨8, [], s.size⟩ : Tk)).length ≤ 1000000 := by simp; omega
            by_cases hkl : k < r.length
            · have n1 : ((k + 1 : Nat) : Int) < ((r.length + 1 : Nat) : Int) := by omega
              go_wp2_with (go_at_call 19; refine (rxAdd_ok 8 ⟨#[]⟩ s.size hLk hTk).mono ?_; rintro e w8 ⟨rfl, hL8, hb8⟩)
              go_roundw
              case rel => exact ⟨k + 1, by go_num, by omega, by rw [List.replicate_succ', ← List.append_assoc]; exact hL8, hBk.trans hb8⟩
              case measure => simp [intOf]; omega
            · have hke : k = r.length := by omega
              subst hke
              go_wp2_with fail
              go_at_call 19
              refine (rxAdd_ok 9 ⟨#[]⟩ s.size hLk hTk).mono ?_
              rintro e w9 ⟨rfl, hL9, hb9⟩
              replace hL9 : RxS w9 (F + 1) X SA sc s o (d :: r) ([] ++ List.replicate r.length ⟨8, [], s.size⟩ ++ [(⟨9, [], s.size⟩ : Tk)]) 0 0 := hL9
              obtain ⟨LA9, LC9, BA9, BC9, hx9⟩ := hL9
              have q19 := hx9.c1
              obtain ⟨N, hN⟩ : ∃ N, ([] ++ List.replicate r.length (⟨8, [], s.size⟩ : Tk) ++ [(⟨9, [], s.size⟩ : Tk)]).length = N := ⟨_, rfl⟩
              rw [hN] at q19
              obtain ⟨g0, g1, k0, k1, gb, gF⟩ := HW.out _ (hBk.trans hb9)
              replace hN := Lib.hid hN
              go_wp2
              obtain ⟨W6, hW6, z0, z1, zo, zb⟩ : ∃ W6, (w9.setCell ⟨F, 0, none⟩ (.int .i64 0)).setCell ⟨F, 1, none⟩ (.int .i64 0) = W6 ∧ W6.cell? ⟨F, 0, none⟩ = some (.int .i64 0) ∧ W6.cell? ⟨F, 1, none⟩ = some (.int .i64 0) ∧ W6.ownsRow (F + 1) 35 3 (.slice LA9 ([] ++ List.replicate r.length (⟨8, [], s.size⟩ : Tk) ++ [(⟨9, [], s.size⟩ : Tk)]).length LC9) ([] ++ List.replicate r.length (⟨8, [], s.size⟩ : Tk) ++ [(⟨9, [], s.size⟩ : Tk)]).length (tkVs ([] ++ List.replicate r.length (⟨8, [], s.size⟩ : Tk) ++ [(⟨9, [], s.size⟩ : Tk)])) ∧ Below F w W6 := ⟨_, rfl, cell_set_ne (cell_set_eq g0) (by decide), cell_set_eq (cell_set_ne g1 (by decide)), own_set (own_set hx9.ol (own_ne hx9.ol (Nat.lt_succ_self F)) _ _) (own_ne hx9.ol (Nat.lt_succ_self F)) _ _, Below.setCell (p := ⟨F, 1, none⟩) (Below.setCell (p := ⟨F, 0, none⟩) gb (Nat.le_refl F) _) (Nat.le_refl F) _⟩
              rw [hW6]
              clear hW6
              refine bodyPost_ret (v := .tuple #[.slice LA9 N LC9, .agg #[.int .i64 0, .int .i64 0]]) (by simp [results, Tryd.results11, go_sem, z0, z1]) rfl ?_
              exact hG.out _ HT.out _ _ LA9 LC9 (by rw [hN.out]) zo zb
        · rw [List.concat_eq_append] at htk
          subst htk
          obtain ⟨gL, LC, hk, hl1, hl2, q1⟩ : ∃ g LC, wr.cell? ⟨g, l.length * 3, none⟩ = some (.int .i64 t.kind) ∧ l.length + 1 ≤ LC ∧ LC ≤ 9223372036854775807 ∧ wr.cell? ⟨X, 1, none⟩ = some (.slice (some ⟨g, 0, none⟩) (l.length + 1) LC) := by
            obtain ⟨LA, LC, BA, BC, hx⟩ := hL
            obtain ⟨g, rfl, hk, hl, hm⟩ := hx.lastTok
            have q2 := hx.c1
            rw [List.length_append] at q2
            exact ⟨g, LC, hk, hl, hm, q2⟩
          obtain ⟨gB, BC, qB, _⟩ := hL.cellB
          rw [List.length_append] at hTl
          simp only [List.length_cons, List.length_nil] at hTl
          have j1 : decide (0 < l.length + 1) = true := by simp
          have j2 : ((l.length + 1 : Nat) : Int) - 1 = (l.length : Int) := by omega
          have j3 : (l.length : Int) + 1 - 1 = (l.length : Int) := by omega
          have j4 : (0 : Int) ≤ (l.length : Int) := by omega
          have j5 : (0 : Int) < ((l.length + 1 : Nat) : Int) := by omega
          have j6 : (l.length : Int) < ((l.length + 1 : Nat) : Int) := by omega
          rw [List.getLast?_concat] at hend
          obtain ⟨kk, hkk⟩ : ∃ kk, t.kind = kk := ⟨_, rfl⟩
          rw [hkk] at hk
          have hoff : Hid (offB (some t) = (decide (kk < 6) || decide (8 < kk))) := Lib.hid (by rw [← hkk]; rfl)
          by_cases h6 : kk = 6
          · subst h6
            have HT := Lib.hid (show lexR s.data.toList lexS = .ok (l ++ [t] ++ List.replicate r.length ⟨8, [], s.size⟩ ++ [(⟨9, [], s.size⟩ : Tk)]) by
              have a := hend.out
              rw [hoff.out, if_neg (by decide), List.append_nil] at a
              exact a)
            clear hend hoff
            go_wp2_with fail
            go_quiet (fail)
            obtain ⟨v2, hv, hbv⟩ : ∃ v, v = wr.drewN nq ∧ Below wr.heap.size wr v := ⟨_, rfl, below_dN (Below.refl _ _) _⟩
            rw [← hv]
            clear hv q0 q3 q4 q5 f3 qB q1 hk
            replace hL := hL.later hbv
            have hB2 := hBw.trans (hbv.mono hz)
            obtain ⟨gB, BC, qB, _⟩ := hL.cellB
            go_wp2_with fail
            clear qB
            go_loopw [10] (fun v wr2 => ∃ k : Nat, v = .int .i64 ((k + 1 : Nat) : Int) ∧ k ≤ r.length ∧ RxS wr2 (F + 1) X SA sc s o (d :: r) ((l ++ [t]) ++ List.replicate k ⟨8, [], s.size⟩) 0 0 ∧ Below (F + 1) W1 wr2) (fun v _ => r.length + 1 - (intOf v).toNat)
            case atStart => exact ⟨0, rfl, Nat.zero_le _, by rw [List.replicate_zero, List.append_nil]; exact hL, hB2⟩
            case round =>
              obtain ⟨k, rfl, hk, hLk, hBk⟩ := hrel
              obtain ⟨g2, BC2, qB, _⟩ := hLk.cellB
              have hTk : ((l ++ [t]) ++ List.replicate k (⟨8, [], s.size⟩ : Tk)).length ≤ 1000000 := by simp; omega
              by_cases hkl : k < r.length
              · have n1 : ((k + 1 : Nat) : Int) < ((r.length + 1 : Nat) : Int) := by omega
                go_wp2_with (go_at_call 19; refine (rxAdd_ok 8 ⟨#[]⟩ s.size hLk hTk).mono ?_; rintro e w8 ⟨rfl, hL8, hb8⟩)
                go_roundw
                case rel => exact ⟨k + 1, by go_num, by omega, by rw [List.replicate_succ', ← List.append_assoc]; exact hL8, hBk.trans hb8⟩
                case measure => simp [intOf]; omega
              · have hke : k = r.length := by omega
                subst hke
                go_wp2_with fail
                go_at_call 19
                refine (rxAdd_ok 9 ⟨#[]⟩ s.size hLk hTk).mono ?_
                rintro e w9 ⟨rfl, hL9, hb9⟩
                replace hL9 : RxS w9 (F + 1) X SA sc s o (d :: r) ((l ++ [t]) ++ List.replicate r.length ⟨8, [], s.size⟩ ++ [(⟨9, [], s.size⟩ : Tk)]) 0 0 := hL9
                obtain ⟨LA9, LC9, BA9, BC9, hx9⟩ := hL9
                have q19 := hx9.c1
                obtain ⟨N, hN⟩ : ∃ N, ((l ++ [t]) ++ List.replicate r.length (⟨8, [], s.size⟩ : Tk) ++ [(⟨9, [], s.size⟩ : Tk)]).length = N := ⟨_, rfl⟩
                rw [hN] at q19
                obtain ⟨g0, g1, k0, k1, gb, gF⟩ := HW.out _ (hBk.trans hb9)
                replace hN := Lib.hid hN
                go_wp2
                obtain ⟨W6, hW6, z0, z1, zo, zb⟩ : ∃ W6, (w9.setCell ⟨F, 0, none⟩ (.int .i64 0)).setCell ⟨F, 1, none⟩ (.int .i64 0) = W6 ∧ W6.cell? ⟨F, 0, none⟩ = some (.int .i64 0) ∧ W6.cell? ⟨F, 1, none⟩ = some (.int .i64 0) ∧ W6.ownsRow (F + 1) 35 3 (.slice LA9 ((l ++ [t]) ++ List.replicate r.length (⟨8, [], s.size⟩ : Tk) ++ [(⟨9, [], s.size⟩ : Tk)]).length LC9) ((l ++ [t]) ++ List.replicate r.length (⟨8, [], s.size⟩ : Tk) ++ [(⟨9, [], s.size⟩ : Tk)]).length (tkVs ((l ++ [t]) ++ List.replicate r.length (⟨8, [], s.size⟩ : Tk) ++ [(⟨9, [], s.size⟩ : Tk)])) ∧ Below F w W6 := ⟨_, rfl, cell_set_ne (cell_set_eq g0) (by decide), cell_set_eq (cell_set_ne g1 (by decide)), own_set (own_set hx9.ol (own_ne hx9.ol (Nat.lt_succ_self F)) _ _) (own_ne hx9.ol (Nat.lt_succ_self F)) _ _, Below.setCell (p := ⟨F, 1, none⟩) (Below.setCell (p := ⟨F, 0, none⟩) gb (Nat.le_refl F) _) (Nat.le_refl F) _⟩
                rw [hW6]
                clear hW6
                refine bodyPost_ret (v := .tuple #[.slice LA9 N LC9, .agg #[.int .i64 0, .int .i64 0]]) (by simp [results, Tryd.results11, go_sem, z0, z1]) rfl ?_
                exact hG.out _ HT.out _ _ LA9 LC9 (by rw [hN.out]) zo zb
          · by_cases h7 : kk = 7
            · subst h7
              have HT := Lib.hid (show lexR s.data.toList lexS = .ok (l ++ [t] ++ List.replicate r.length ⟨8, [], s.size⟩ ++ [(⟨9, [], s.size⟩ : Tk)]) by
                have a := hend.out
                rw [hoff.out, if_neg (by decide), List.append_nil] at a
                exact a)
              clear hend hoff h6
              go_wp2_with fail
              go_quiet (fail)
              obtain ⟨v2, hv, hbv⟩ : ∃ v, v = wr.drewN nq ∧ Below wr.heap.size wr v := ⟨_, rfl, below_dN (Below.refl _ _) _⟩
              rw [← hv]
              clear hv q0 q3 q4 q5 f3 qB q1 hk
              replace hL := hL.later hbv
              have hB2 := hBw.trans (hbv.mono hz)
              obtain ⟨gB, BC, qB, _⟩ := hL.cellB
              go_wp2_with fail
              clear qB
              go_loopw [10] (fun v wr2 => ∃ k : Nat, v = .int .i64 ((k + 1 : Nat) : Int) ∧ k ≤ r.length ∧ RxS wr2 (F + 1) X SA sc s o (d :: r) ((l ++ [t]) ++ List.replicate k ⟨8, [], s.size⟩) 0 0 ∧ Below (F + 1) W1 wr2) (fun v _ => r.length + 1 - (intOf v).toNat)
              case atStart => exact ⟨0, rfl, Nat.zero_le _, by rw [List.replicate_zero, List.append_nil]; exact hL, hB2⟩
              case round =>
                obtain ⟨k, rfl, hk, hLk, hBk⟩ := hrel
                obtain ⟨g2, BC2, qB, _⟩ := hLk.cellB
                have hTk : ((l ++ [t]) ++ List.replicate k (⟨8, [], s.size⟩ : Tk)).length ≤ 1000000 := by simp; omega
                by_cases hkl : k < r.length
                · have n1 : ((k + 1 : Nat) : Int) < ((r.length + 1 : Nat) : Int) := by omega
                  go_wp2_with (go_at_call 19; refine (rxAdd_ok 8 ⟨#[]⟩ s.size hLk hTk).mono ?_; rintro e w8 ⟨rfl, hL8, hb8⟩)
                  go_roundw
                  case rel => exact ⟨k + 1, by go_num, by omega, by rw [List.replicate_succ', ← List.append_assoc]; exact hL8, hBk.trans hb8⟩
                  case measure => simp [intOf]; omega
                · have hke : k = r.length := by omega
                  subst hke
                  go_wp2_with fail
                  go_at_call 19
                  refine (rxAdd_ok 9 ⟨#[]⟩ s.size hLk hTk).mono ?_
                  rintro e w9 ⟨rfl, hL9, hb9⟩
                  replace hL9 : RxS w9 (F + 1) X SA sc s o (d :: r) ((l ++ [t]) ++ List.replicate r.length ⟨8, [], s.size⟩ ++ [(⟨9, [], s.size⟩ : Tk)]) 0 0 := hL9
                  obtain ⟨LA9, LC9, BA9, BC9, hx9⟩ := hL9
                  have q19 := hx9.c1
                  obtain ⟨N, hN⟩ : ∃ N, ((l ++ [t]) ++ List.replicate r.length (⟨8, [], s.size⟩ : Tk) ++ [(⟨9, [], s.size⟩ : Tk)]).length = N := ⟨_, rfl⟩
                  rw [hN] at q19
                  obtain ⟨g0, g1, k0, k1, gb, gF⟩ := HW.out _ (hBk.trans hb9)
                  replace hN := Lib.hid hN
                  go_wp2
                  obtain ⟨W6, hW6, z0, z1, zo, zb⟩ : ∃ W6, (w9.setCell ⟨F, 0, none⟩ (.int .i64 0)).setCell ⟨F, 1, none⟩ (.int .i64 0) = W6 ∧ W6.cell? ⟨F, 0, none⟩ = some (.int .i64 0) ∧ W6.cell? ⟨F, 1, none⟩ = some (.int .i64 0) ∧ W6.ownsRow (F + 1) 35 3 (.slice LA9 ((l ++ [t]) ++ List.replicate r.length (⟨8, [], s.size⟩ : Tk) ++ [(⟨9, [], s.size⟩ : Tk)]).length LC9) ((l ++ [t]) ++ List.replicate r.length (⟨8, [], s.size⟩ : Tk) ++ [(⟨9, [], s.size⟩ : Tk)]).length (tkVs ((l ++ [t]) ++ List.replicate r.length (⟨8, [], s.size⟩ : Tk) ++ [(⟨9, [], s.size⟩ : Tk)])) ∧ Below F w W6 := ⟨_, rfl, cell_set_ne (cell_set_eq g0) (by decide), cell_set_eq (cell_set_ne g1 (by decide)), own_set (own_set hx9.ol (own_ne hx9.ol (Nat.lt_succ_self F)) _ _) (own_ne hx9.ol (Nat.lt_succ_self F)) _ _, Below.setCell (p := ⟨F, 1, none⟩) (Below.setCell (p := ⟨F, 0, none⟩) gb (Nat.le_refl F) _) (Nat.le_refl F) _⟩
                  rw [hW6]
                  clear hW6
                  refine bodyPost_ret (v := .tuple #[.slice LA9 N LC9, .agg #[.int .i64 0, .int .i64 0]]) (by simp [results, Tryd.results11, go_sem, z0, z1]) rfl ?_
                  exact hG.out _ HT.out _ _ LA9 LC9 (by rw [hN.out]) zo zb
            · by_cases h8 : kk = 8
              · subst h8
                have HT := Lib.hid (show lexR s.data.toList lexS = .ok (l ++ [t] ++ List.replicate r.length ⟨8, [], s.size⟩ ++ [(⟨9, [], s.size⟩ : Tk)]) by
                  have a := hend.out
                  rw [hoff.out, if_neg (by decide), List.append_nil] at a
                  exact a)
                clear hend hoff h6 h7
                go_wp2_with fail
                go_quiet (fail)
                obtain ⟨v2, hv, hbv⟩ : ∃ v, v = wr.drewN nq ∧ Below wr.heap.size wr v := ⟨_, rfl, below_dN (Below.refl _ _) _⟩
                rw [← hv]
                clear hv q0 q3 q4 q5 f3 qB q1 hk
                replace hL := hL.later hbv
                have hB2 := hBw.trans (hbv.mono hz)
                obtain ⟨gB, BC, qB, _⟩ := hL.cellB
                go_wp2_with fail
                clear qB
                go_loopw [10] (fun v wr2 => ∃ k : Nat, v = .int .i64 ((k + 1 : Nat) : Int) ∧ k ≤ r.length ∧ RxS wr2 (F + 1) X SA sc s o (d :: r) ((l ++ [t]) ++ List.replicate k ⟨8, [], s.size⟩) 0 0 ∧ Below (F + 1) W1 wr2) (fun v _ => r.length + 1 - (intOf v).toNat)
                case atStart => exact ⟨0, rfl, Nat.zero_le _, by rw [List.replicate_zero, List.append_nil]; exact hL, hB2⟩
                case round =>
                  obtain ⟨k, rfl, hk, hLk, hBk⟩ := hrel
                  obtain ⟨g2, BC2, qB, _⟩ := hLk.cellB
                  have hTk : ((l ++ [t]) ++ List.replicate k (⟨8, [], s.size⟩ : Tk)).length ≤ 1000000 := by simp; omega
                  by_cases hkl : k < r.length
                  · have n1 : ((k + 1 : Nat) : Int) < ((r.length + 1 : Nat) : Int) := by omega
                    go_wp2_with (go_at_call 19; refine (rxAdd_ok 8 ⟨#[]⟩ s.size hLk hTk).mono ?_; rintro e w8 ⟨rfl, hL8, hb8⟩)
                    go_roundw
                    case rel => exact ⟨k + 1, by go_num, by omega, by rw [List.replicate_succ', ← List.append_assoc]; exact hL8, hBk.trans hb8⟩
                    case measure => simp [intOf]; omega
                  · have hke : k = r.length := by omega
                    subst hke
                    go_wp2_with fail
                    go_at_call 19
                    refine (rxAdd_ok 9 ⟨#[]⟩ s.size hLk hTk).mono ?_
                    rintro e w9 ⟨rfl, hL9, hb9⟩
                    replace hL9 : RxS w9 (F + 1) X SA sc s o (d :: r) ((l ++ [t]) ++ List.replicate r.length ⟨8, [], s.size⟩ ++ [(⟨9, [], s.size⟩ : Tk)]) 0 0 := hL9
                    obtain ⟨LA9, LC9, BA9, BC9, hx9⟩ := hL9
                    have q19 := hx9.c1
                    obtain ⟨N, hN⟩ : ∃ N, ((l ++ [t]) ++ List.replicate r.length (⟨8, [], s.size⟩ : Tk) ++ [(⟨9, [], s.size⟩ : Tk)]).length = N := ⟨_, rfl⟩
                    rw [hN] at q19
                    obtain ⟨g0, g1, k0, k1, gb, gF⟩ := HW.out _ (hBk.trans hb9)
                    replace hN := Lib.hid hN
                    go_wp2
                    obtain ⟨W6, hW6, z0, z1, zo, zb⟩ : ∃ W6, (w9.setCell ⟨F, 0, none⟩ (.int .i64 0)).setCell ⟨F, 1, none⟩ (.int .i64 0) = W6 ∧ W6.cell? ⟨F, 0, none⟩ = some (.int .i64 0) ∧ W6.cell? ⟨F, 1, none⟩ = some (.int .i64 0) ∧ W6.ownsRow (F + 1) 35 3 (.slice LA9 ((l ++ [t]) ++ List.replicate r.length (⟨8, [], s.size⟩ : Tk) ++ [(⟨9, [], s.size⟩ : Tk)]).length LC9) ((l ++ [t]) ++ List.replicate r.length (⟨8, [], s.size⟩ : Tk) ++ [(⟨9, [], s.size⟩ : Tk)]).length (tkVs ((l ++ [t]) ++ List.replicate r.length (⟨8, [], s.size⟩ : Tk) ++ [(⟨9, [], s.size⟩ : Tk)])) ∧ Below F w W6 := ⟨_, rfl, cell_set_ne (cell_set_eq g0) (by decide), cell_set_eq (cell_set_ne g1 (by decide)), own_set (own_set hx9.ol (own_ne hx9.ol (Nat.lt_succ_self F)) _ _) (own_ne hx9.ol (Nat.lt_succ_self F)) _ _, Below.setCell (p := ⟨F, 1, none⟩) (Below.setCell (p := ⟨F, 0, none⟩) gb (Nat.le_refl F) _) (Nat.le_refl F) _⟩
                    rw [hW6]
                    clear hW6
                    refine bodyPost_ret (v := .tuple #[.slice LA9 N LC9, .agg #[.int .i64 0, .int .i64 0]]) (by simp [results, Tryd.results11, go_sem, z0, z1]) rfl ?_
                    exact hG.out _ HT.out _ _ LA9 LC9 (by rw [hN.out]) zo zb
              · have HT := Lib.hid (show lexR s.data.toList lexS = .ok (l ++ [t] ++ [(⟨6, [], s.size⟩ : Tk)] ++ List.replicate r.length ⟨8, [], s.size⟩ ++ [(⟨9, [], s.size⟩ : Tk)]) by
                  have a := hend.out
                  rw [hoff.out, if_pos (by simp; omega)] at a
                  exact a)
                have n6 : (kk != 6) = true := by simpa using h6
                have n7 : (kk != 7) = true := by simpa using h7
                have n8 : (kk != 8) = true := by simpa using h8
                clear hend hoff h6 h7 h8
                go_wp2_with fail
                go_quiet (fail)
                obtain ⟨v2, hv, hbv⟩ : ∃ v, v = wr.drewN nq ∧ Below wr.heap.size wr v := ⟨_, rfl, below_dN (Below.refl _ _) _⟩
                rw [← hv]
                clear hv q0 q3 q4 q5 f3 qB q1 hk
                replace hL := hL.later hbv
                have hB2 := hBw.trans (hbv.mono hz)
                obtain ⟨gB, BC, qB, _⟩ := hL.cellB
                go_wp2_with (go_at_call 19; refine (rxAdd_ok 6 ⟨#[]⟩ s.size hL (by simp; omega)).mono ?_; rintro e w7 ⟨rfl, hL7, hb7⟩; obtain ⟨g7, BC7, qB, _⟩ := hL7.cellB)
                clear qB
                go_loopw [10] (fun v wr2 => ∃ k : Nat, v = .int .i64 ((k + 1 : Nat) : Int) ∧ k ≤ r.length ∧ RxS wr2 (F + 1) X SA sc s o (d :: r) ((l ++ [t] ++ [(⟨6, [], s.size⟩ : Tk)]) ++ List.replicate k ⟨8, [], s.size⟩) 0 0 ∧ Below (F + 1) W1 wr2) (fun v _ => r.length + 1 - (intOf v).toNat)
                case atStart => exact ⟨0, rfl, Nat.zero_le _, by rw [List.replicate_zero, List.append_nil]; exact hL7, (hB2.trans hb7)⟩
                case round =>
                  obtain ⟨k, rfl, hk, hLk, hBk⟩ := hrel
                  obtain ⟨g2, BC2, qB, _⟩ := hLk.cellB
                  have hTk : ((l ++ [t] ++ [(⟨6, [], s.size⟩ : Tk)]) ++ List.replicate k (⟨8, [], s.size⟩ : Tk)).length ≤ 1000000 := by simp; omega
                  by_cases hkl : k < r.length
                  · have n1 : ((k + 1 : Nat) : Int) < ((r.length + 1 : Nat) : Int) := by omega
                    go_wp2_with (go_at_call 19; refine (rxAdd_ok 8 ⟨#[]⟩ s.size hLk hTk).mono ?_; rintro e w8 ⟨rfl, hL8, hb8⟩)
                    go_roundw
                    case rel => exact ⟨k + 1, by go_num, by omega, by rw [List.replicate_succ', ← List.append_assoc]; exact hL8, hBk.trans hb8⟩
                    case measure => simp [intOf]; omega
                  · have hke : k = r.length := by omega
                    subst hke
                    go_wp2_with fail
                    go_at_call 19
                    refine (rxAdd_ok 9 ⟨#[]⟩ s.size hLk hTk).mono ?_
                    rintro e w9 ⟨rfl, hL9, hb9⟩
                    replace hL9 : RxS w9 (F + 1) X SA sc s o (d :: r) ((l ++ [t] ++ [(⟨6, [], s.size⟩ : Tk)]) ++ List.replicate r.length ⟨8, [], s.size⟩ ++ [(⟨9, [], s.size⟩ : Tk)]) 0 0 := hL9
                    obtain ⟨LA9, LC9, BA9, BC9, hx9⟩ := hL9
                    have q19 := hx9.c1
                    obtain ⟨N, hN⟩ : ∃ N, ((l ++ [t] ++ [(⟨6, [], s.size⟩ : Tk)]) ++ List.replicate r.length (⟨8, [], s.size⟩ : Tk) ++ [(⟨9, [], s.size⟩ : Tk)]).length = N := ⟨_, rfl⟩
                    rw [hN] at q19
                    obtain ⟨g0, g1, k0, k1, gb, gF⟩ := HW.out _ (hBk.trans hb9)
                    replace hN := Lib.hid hN
                    go_wp2
                    obtain ⟨W6, hW6, z0, z1, zo, zb⟩ : ∃ W6, (w9.setCell ⟨F, 0, none⟩ (.int .i64 0)).setCell ⟨F, 1, none⟩ (.int .i64 0) = W6 ∧ W6.cell? ⟨F, 0, none⟩ = some (.int .i64 0) ∧ W6.cell? ⟨F, 1, none⟩ = some (.int .i64 0) ∧ W6.ownsRow (F + 1) 35 3 (.slice LA9 ((l ++ [t] ++ [(⟨6, [], s.size⟩ : Tk)]) ++ List.replicate r.length (⟨8, [], s.size⟩ : Tk) ++ [(⟨9, [], s.size⟩ : Tk)]).length LC9) ((l ++ [t] ++ [(⟨6, [], s.size⟩ : Tk)]) ++ List.replicate r.length (⟨8, [], s.size⟩ : Tk) ++ [(⟨9, [], s.size⟩ : Tk)]).length (tkVs ((l ++ [t] ++ [(⟨6, [], s.size⟩ : Tk)]) ++ List.replicate r.length (⟨8, [], s.size⟩ : Tk) ++ [(⟨9, [], s.size⟩ : Tk)])) ∧ Below F w W6 := ⟨_, rfl, cell_set_ne (cell_set_eq g0) (by decide), cell_set_eq (cell_set_ne g1 (by decide)), own_set (own_set hx9.ol (own_ne hx9.ol (Nat.lt_succ_self F)) _ _) (own_ne hx9.ol (Nat.lt_succ_self F)) _ _, Below.setCell (p := ⟨F, 1, none⟩) (Below.setCell (p := ⟨F, 0, none⟩) gb (Nat.le_refl F) _) (Nat.le_refl F) _⟩
                    rw [hW6]
                    clear hW6
                    refine bodyPost_ret (v := .tuple #[.slice LA9 N LC9, .agg #[.int .i64 0, .int .i64 0]]) (by simp [results, Tryd.results11, go_sem, z0, z1]) rfl ?_
                    exact hG.out _ HT.out _ _ LA9 LC9 (by rw [hN.out]) zo zb
end Go.Proofs.YtgheejogpbhokaaDoor
