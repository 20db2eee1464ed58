/- The law LexerShape. -/
import Derived.Test.YtgheejogpbhokaaDoorShB
import Derived.Test.YtgheejogpbhokaaDoorShD
namespace Go.Proofs.YtgheejogpbhokaaDoor
set_option linter.unusedVariables false
set_option linter.unusedSimpArgs false
open Go.RowKit
set_option maxRecDepth 1000000

set_option maxHeartbeats 400000000 in
theorem lawShape_any (A : Option Addr) (c : Nat) (s : ByteArray) (w : World) (hr : BsAt w A s) (hl : s.size ≤ c) (hm : c ≤ maxLen) (hT : Lib.Utf8Tabs 1 2 w) :
    Calls Tryd.prog 6 #[.slice A s.size c] w fun e w' => e = .returned (.bool true) ∧ Below w.heap.size w w' := by
  unfold maxLen at hm
  have hsz : s.data.toList.length = s.size := by simp
  by_cases h : s.size ≤ 70000
  · have e1 : decide (70000 < (s.size : Int)) = false := decide_eq_false (by omega)
    have hTk := lxTokens_any (s := s) c w hr hl hm hT
    have hbad : ∀ cc a, anyR s = .bad cc a → cc ≠ 0 ∧ a ≤ s.size := fun cc a hR => by
      unfold anyR at hR
      split at hR
      · have := lex_bad hR; rwa [hsz] at this
      · injection hR with h1 h2
        subst h1 h2
        exact ⟨by decide, by omega⟩
    have hok : ∀ l, anyR s = .ok l → Shaped s.data.toList l := fun l hR => by
      unfold anyR at hR
      split at hR
      · exact lex_shape hR
      · cases hR
    cases hR : anyR s with
    | bad cc a =>
      obtain ⟨h1, h2⟩ := hbad cc a hR
      have e2 : (cc != 0) = true := by simpa using h1
      have e3 : (0 : Int) ≤ (a : Int) := by omega
      have e4 : (a : Int) ≤ (s.size : Int) := by omega
      rw [hR] at hTk
      unfold TokensR at hTk
      dsimp only at hTk
      clear hbad hok hR
      go_enter Tryd.func6, Tryd.ntmps6
      go_wp2_with (first
        | (go_at_call 10; refine hTk.mono ?_; rintro e w3 ⟨rfl, hC3⟩; have hE := hC3.alloc hC3.size (.cells #[.int .i64 cc, .int .i64 a] 26))
        | (go_at_call 9; refine (lxAwake_ok _ (Utf8Tabs_below hT hE)).mono ?_; rintro e w4 ⟨rfl, hb4⟩))
      go_ret
      exact ⟨rfl, hE.trans (hb4.mono hE.size)⟩
    | ok l =>
      obtain ⟨l', hl', hS, h9, hd⟩ := hok l hR
      rw [hsz] at hl'
      rw [hR] at hTk
      unfold TokensR at hTk
      dsimp only at hTk
      clear hbad hok hR
      have hlen : l.length = l'.length + 1 := by rw [hl']; simp
      go_enter Tryd.func6, Tryd.ntmps6
      go_wp2_with fail
      go_at_call 10
      refine hTk.mono ?_
      rintro e w3 ⟨A3, C3, rfl, ho3, hC3⟩
      have hE := hC3.alloc hC3.size (.cells #[.int .i64 0, .int .i64 0] 26)
      have ht3 : TkAt (w3.alloc (.cells #[.int .i64 0, .int .i64 0] 26)) A3 l := (tkAt_own ho3 rfl).later ((Below.refl _ _).alloc (Nat.le_refl _) _)
      obtain ⟨f3, m3⟩ := own_fits ho3
      unfold maxLen at m3
      obtain ⟨g, rfl, x0, x1, x2⟩ := ht3 l'.length ⟨9, [], s.size⟩ (by rw [hl', List.getElem?_append_right (Nat.le_refl _), Nat.sub_self]; rfl)
      have HS := Lib.hid hS
      have H9 := Lib.hid h9
      have HD := Lib.hid hd
      have HL := Lib.hid hl'
      have HT3 := Lib.hid ht3
      clear ho3 hS h9 hd hl' ht3 hTk
      rw [hlen] at f3 ⊢
      have j1 : (0 : Int) ≤ (l'.length : Int) := by omega
      have j2 : ((l'.length + 1 : Nat) : Int) - 1 = (l'.length : Int) := by omega
      have j3 : (l'.length : Int) + 1 - 1 = (l'.length : Int) := by omega
      have j4 : (l'.length : Int) < ((l'.length + 1 : Nat) : Int) := by omega
      have j5 : ((l'.length : Int) + 1 == 0) = false := by rw [beq_eq_false_iff_ne]; omega
      have j6 : (((l'.length + 1 : Nat) : Int) == 0) = false := by rw [beq_eq_false_iff_ne]; omega
      go_wp2_with fail
      clear j1 j2 j3 j4 x0 x1 x2
      have HR := Lib.hid (hr.later hE)
      refine wp_loop (fun a w' => ∃ k, SInv w s A c l g C3 k a w') (fun a _ => l.length - (intOf (a.tmps.getD 6 undef)).toNat) ?_ ?_
      · exact ⟨0, rfl, rfl, by rw [hlen]; rfl, by rw [List.take_zero]; rfl, rfl, rfl, Nat.zero_le _, hE, HT3.out, HR.out⟩
      · rintro a wr ⟨k, hI⟩
        have hm3 : l.length ≤ C3 ∧ C3 ≤ 9223372036854775807 := ⟨by omega, by omega⟩
        have h9e : ∀ t, l[k]? = some t → t.kind = 9 → k + 1 = l.length := fun t ht h => by
          by_cases hkl : k < l'.length
          · rw [HL.out, List.getElem?_append_left hkl] at ht
            exact absurd h (H9.out t (List.mem_of_getElem? ht))
          · have := (List.getElem?_eq_some_iff.1 ht).1
            omega
        have hmu : ∀ (a' : Act) (w' : World), SInv w s A c l g C3 (k + 1) a' w' → k < l.length → (∃ k, SInv w s A c l g C3 k a' w') ∧ l.length - (intOf (a'.tmps.getD 6 undef)).toNat < l.length - (intOf (a.tmps.getD 6 undef)).toNat := fun a' w' h hk => by
          refine ⟨⟨_, h⟩, ?_⟩
          have e1 : a'.tmps.getD 6 undef = .int .i64 ((k + 1 : Nat) : Int) := by rw [Array.getD_eq_getD_getElem?, h.t6]; rfl
          have e2 : a.tmps.getD 6 undef = .int .i64 (k : Int) := by rw [Array.getD_eq_getD_getElem?, hI.t6]; rfl
          rw [e1, e2]
          simp [intOf]
          omega
        by_cases hlt : k < l.length
        · obtain ⟨t, ht⟩ : ∃ t, l[k]? = some t := ⟨_, List.getElem?_eq_getElem hlt⟩
          have hgd := HS.out.good k t ht
          have hlo := hgd.lo
          have hhi := hgd.hi
          rcases (by omega : t.kind = 1 ∨ t.kind = 2 ∨ t.kind = 3 ∨ t.kind = 4 ∨ t.kind = 5 ∨ t.kind = 6 ∨ t.kind = 7 ∨ t.kind = 8 ∨ t.kind = 9) with hK | hK | hK | hK | hK | hK | hK | hK | hK
          · exact shape_1 (by kernel_rfl) hI hlt hm3 hl hm h HS h9e ht hK (fun a' w' hh => hmu a' w' hh hlt)
          · exact shape_2 (by kernel_rfl) hI hlt hm3 hl hm h HS h9e ht hK (fun a' w' hh => hmu a' w' hh hlt)
          · exact shape_3 (by kernel_rfl) hI hlt hm3 hl hm h HS h9e ht hK (fun a' w' hh => hmu a' w' hh hlt)
          · exact shape_4 (by kernel_rfl) hI hlt hm3 hl hm h HS h9e ht hK (fun a' w' hh => hmu a' w' hh hlt)
          · exact shape_5 (by kernel_rfl) hI hlt hm3 hl hm h HS h9e ht hK (fun a' w' hh => hmu a' w' hh hlt)
          · exact shape_6 (by kernel_rfl) hI hlt hm3 hl hm h HS h9e ht hK (fun a' w' hh => hmu a' w' hh hlt)
          · exact shape_7 (by kernel_rfl) hI hlt hm3 hl hm h HS h9e ht hK (fun a' w' hh => hmu a' w' hh hlt)
          · exact shape_8 (by kernel_rfl) hI hlt hm3 hl hm h HS h9e ht hK (fun a' w' hh => hmu a' w' hh hlt)
          · exact shape_9 (by kernel_rfl) hI hlt hm3 hl hm h HS h9e ht hK (fun a' w' hh => hmu a' w' hh hlt)
        · have hke : k = l.length := by have := hI.kl; omega
          subst hke
          have hbr := hI.hb
          cases a with
          | mk tm df =>
            have hdf : df = [] := hI.df
            subst hdf
            have h5 : tm[5]? = some (.int .i64 0) := by
              have := hI.t5
              rwa [List.take_length, HD.out] at this
            obtain ⟨f, hf⟩ := shape_frame tm hI.sz hI.t0 hI.t3 h5 hI.t6
            subst hf
            clear hI hmu h9e
            go_wp2_with (go_at_call 9; refine (lxAwake_ok _ (Utf8Tabs_below hT hbr)).mono ?_; rintro e w5 ⟨rfl, hb5⟩)
            go_ret
            exact ⟨rfl, hbr.trans (hb5.mono hbr.size)⟩
  · have e1 : decide (70000 < (s.size : Int)) = true := decide_eq_true (by omega)
    go_enter Tryd.func6, Tryd.ntmps6
    go_wp2_with (go_at_call 9; refine (lxAwake_ok _ hT).mono ?_; rintro e w1 ⟨rfl, hb1⟩)
    go_ret
    exact ⟨rfl, hb1⟩
end Go.Proofs.YtgheejogpbhokaaDoor
