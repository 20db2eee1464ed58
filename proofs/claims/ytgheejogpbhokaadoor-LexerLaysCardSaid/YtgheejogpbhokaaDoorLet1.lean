/- letters.lower, number, escape. -/
import Derived.Test.YtgheejogpbhokaaDoorLetPlain
import Derived.Test.YtgheejogpbhokaaDoorShelf
import Derived.WalkKit
import Derived.WalkLawsBesides
import Derived.Laws.DeepBits32
import Derived.Lib.Strings
import Derived.Laws.BitsAllLaws
import Derived.BigQuiet
import Derived.Lib.Hide
import Derived.Deep.QuietTactic
namespace Go.Proofs.YtgheejogpbhokaaDoor
set_option linter.unusedVariables false
set_option linter.unusedSimpArgs false
open Go.RowKit Go.Shelf

/-- lower, as a function of the byte. -/
def lowV (c : Nat) : Nat := if 65 ≤ c ∧ c ≤ 70 then c + 32 else c

theorem lower_ok (c : UInt8) (w : World) :
    Calls Tryd.prog 65 #[.int .u8 (c.toNat : Int)] w fun e w' => e = .returned (.int .u8 (lowV c.toNat : Nat)) ∧ w' = w := by
  have hc := c.toNat_lt
  obtain ⟨n, hn⟩ : ∃ n, c.toNat = n := ⟨_, rfl⟩
  rw [hn] at hc ⊢
  by_cases h : 65 ≤ n ∧ n ≤ 70
  · have e : lowV n = n + 32 := by unfold lowV; rw [if_pos h]
    rw [e]
    obtain ⟨h1, h2⟩ := h
    have g1 : (65 : Int) ≤ n := by omega
    have g2 : (n : Int) ≤ 70 := by omega
    go_enter Tryd.func65, Tryd.ntmps65
    go_wp2
    go_ret
    simp
    omega
  · have e : lowV n = n := by unfold lowV; rw [if_neg h]
    rw [e]
    by_cases h1 : 65 ≤ n
    · have g1 : (65 : Int) ≤ n := by omega
      have g2 : (70 : Int) < n := by omega
      go_enter Tryd.func65, Tryd.ntmps65
      go_wp2
      go_ret
      exact ⟨rfl, rfl⟩
    · have g1 : (n : Int) < 65 := by omega
      go_enter Tryd.func65, Tryd.ntmps65
      go_wp2
      go_ret
      exact ⟨rfl, rfl⟩

def hexC : ByteArray := ⟨#[48, 49, 50, 51, 52, 53, 54, 55, 56, 57, 97, 98, 99, 100, 101, 102]⟩
def hexI (c : UInt8) : Int := match hexd c with | some d => (d : Int) | none => -1
set_option maxRecDepth 1000000 in
theorem hexIdx_all : (List.range 256).all (fun i => Lib.indexByte hexC.data.toList (UInt8.ofNat (lowV i)) == hexI (UInt8.ofNat i)) = true := by kernel_rfl
theorem hexIdx (c : UInt8) : Lib.indexByte hexC.data.toList (UInt8.ofNat (lowV c.toNat)) = hexI c := by
  have h := List.all_eq_true.1 hexIdx_all c.toNat (List.mem_range.2 c.toNat_lt)
  rw [beq_iff_eq] at h
  rw [h, UInt8.ofNat_toNat]

theorem hexIdx_ok (c : UInt8) (w : World) : Calls Tryd.prog 37 #[.string ⟨#[48, 49, 50, 51, 52, 53, 54, 55, 56, 57, 97, 98, 99, 100, 101, 102]⟩, .int .u8 (lowV c.toNat : Nat)] w fun e w' => e = .returned (.int .i64 (hexI c)) ∧ w' = w := by
  rw [← hexIdx c]
  exact Tryd.strings_IndexByte hexC _ w

theorem or4 (n d : Nat) (hn : n < 4096) (hd : d < 16) : bits BinOp.or IntKind.i32 ((n : Int) * 16) d = ((16 * n + d : Nat) : Int) := by
  have e : (n : Int) * 16 = ((16 * n : Nat) : Int) := by omega
  rw [e]
  show IntKind.i32.wrap ((BitVec.ofInt 32 ((16 * n : Nat) : Int) ||| BitVec.ofInt 32 (d : Int)).toNat : Int) = _
  rw [BitVec.toNat_or, ofInt_u32 _ (by omega), ofInt_u32 d (by omega), nat_join4 _ _ (by omega) hd]
  exact wrap_i32_small _ (by omega) (by omega)
/-- a number that was read; below 0: none. -/
def numR (o : Option Nat) : Int := match o with | some v => v | none => -1

theorem number_ok (s : ByteArray) (d : Nat) (hd : d ≤ 4) (w : World) (hs : s.size ≤ 9223372036854775807) :
    Calls Tryd.prog 61 #[.string s, .int .i64 d] w fun e w' => e = .returned (.int .i32 (numR (hexN d 0 s.data.toList))) ∧ w' = w := by
  obtain ⟨R, hR⟩ : ∃ R, R = numR (hexN d 0 s.data.toList) := ⟨_, rfl⟩
  rw [← hR]
  by_cases hsd : s.size < d
  · rw [hexN_short d 0 _ (by simpa using hsd)] at hR
    simp only [numR] at hR
    subst hR
    go_enter Tryd.func61, Tryd.ntmps61
    go_wp2
    go_ret
    exact ⟨rfl, rfl⟩
  · have HR := Lib.hid hR
    clear hR
    go_enter Tryd.func61, Tryd.ntmps61
    go_wp2
    go_loop [5, 13] (fun v5 v13 => ∃ i n : Nat, i ≤ d ∧ v5 = .int .i32 n ∧ v13 = .int .i64 i ∧ n < 16 ^ i ∧ Hid (R = numR (hexN (d - i) n (s.data.toList.drop i)))) (fun _ v => d - (intOf v).toNat)
    case atStart => exact ⟨0, 0, Nat.zero_le _, rfl, rfl, by simp, by simpa using HR⟩
    case round =>
      obtain ⟨i, n, hi, rfl, rfl, hn, hT⟩ := hrel
      by_cases h0 : i < d
      · have hi4 : 16 ^ i ≤ 16 ^ 3 := Nat.pow_le_pow_right (by omega) (by omega)
        have hn2 : n < 4096 := by have : (16 : Nat) ^ 3 = 4096 := rfl; omega
        have hil : i < s.size := by omega
        have hstep : s.data.toList.drop i = s[i] :: s.data.toList.drop (i + 1) := by
          rw [List.drop_eq_getElem_cons (by simpa using hil)]; rfl
        obtain ⟨j, hj⟩ : ∃ j, d - i = j + 1 := ⟨d - i - 1, by omega⟩
        have hj2 : d - (i + 1) = j := by omega
        rw [hj, hstep] at hT
        simp only [hexN] at hT
        cases hx : hexd s[i] with
        | none =>
          rw [hx] at hT
          have hI : hexI s[i] = -1 := by simp [hexI, hx]
          have hc := fun wx => hexIdx_ok s[i] wx
          rw [hI] at hc
          clear hI hstep hx hj hj2
          have hT1 : R = -1 := hT
          subst hT1
          go_wp2_with (first | (go_at_call 65; refine (lower_ok s[i] w).mono ?_; rintro e w' ⟨rfl, rfl⟩) | (go_at_call 37; refine (hc _).mono ?_; rintro e w' ⟨rfl, rfl⟩))
          go_ret
          exact ⟨rfl, rfl⟩
        | some k =>
          rw [hx] at hT
          have hI : hexI s[i] = k := by simp [hexI, hx]
          have hk := hexd_lt hx
          have hc := fun wx => hexIdx_ok s[i] wx
          rw [hI] at hc
          have ho := or4 n k hn2 hk
          clear hI hstep hx hj
          go_wp2_with (first | (go_at_call 65; refine (lower_ok s[i] w).mono ?_; rintro e w' ⟨rfl, rfl⟩) | (go_at_call 37; refine (hc _).mono ?_; rintro e w' ⟨rfl, rfl⟩))
          go_round
          case rel =>
            refine ⟨i + 1, 16 * n + k, by omega, by simp, by go_num, ?_, by rw [hj2]; exact hT⟩
            rw [Nat.pow_succ]; omega
          case measure => simp [intOf]; omega
      · have hT0 : R = n := by
          have e0 : d - i = 0 := by omega
          rw [e0] at hT; exact hT
        subst hT0
        go_wp2
        go_ret
        exact ⟨rfl, rfl⟩

/-- what escape hands back. -/
def escR (o : Option (Nat × Nat)) : Value := match o with | some x => .tuple #[.int .i32 x.1, .int .i64 x.2] | none => .tuple #[.int .i32 0, .int .i64 0]

/-- a string's bytes: the first and the rest. -/
theorem bytes_cons (s : ByteArray) (hl : 0 < s.size) : s.data.toList = s[0] :: (s.extract 1 s.size).data.toList := by
  have := List.drop_eq_getElem_cons (l := s.data.toList) (i := 0) (by simpa using hl)
  rw [List.drop_zero] at this
  rw [Lib.extract_data, List.take_of_length_le (by simp)]
  exact this

set_option maxRecDepth 100000 in
theorem escape_ok (s : ByteArray) (w : World) (hs : s.size ≤ 9223372036854775807) :
    Calls Tryd.prog 58 #[.string s] w fun e w' => e = .returned (escR (esc s.data.toList)) ∧ w' = w := by
  by_cases h0 : s.size = 0
  · have e : s.data.toList = [] := by
      apply List.eq_nil_of_length_eq_zero; simpa using h0
    have hse : s.toList.isEmpty = true := by rw [Lib.toList_data, e]; rfl
    rw [e]
    go_enter Tryd.func58, Tryd.ntmps58
    go_wp2
    go_ret2
    exact ⟨rfl, rfl⟩
  · have hl : 0 < s.size := by omega
    have hse : s.toList.isEmpty = false := by rw [Lib.toList_data, bytes_cons s hl]; rfl
    rw [bytes_cons s hl, esc_cons]
    have hx : ∀ wx, Calls Tryd.prog 61 #[.string (s.extract 1 s.size), .int .i64 2] wx fun e w' => e = .returned (.int .i32 (numR (hexN 2 0 (s.extract 1 s.size).data.toList))) ∧ w' = wx := fun wx => number_ok _ 2 (by omega) wx (by simp; omega)
    have hu : ∀ wx, Calls Tryd.prog 61 #[.string (s.extract 1 s.size), .int .i64 4] wx fun e w' => e = .returned (.int .i32 (numR (hexN 4 0 (s.extract 1 s.size).data.toList))) ∧ w' = wx := fun wx => number_ok _ 4 (by omega) wx (by simp; omega)
    clear h0
    by_cases c110 : s[0] = 110
    · have hn : s[0].toNat = 110 := by rw [c110]; rfl
      rw [if_pos c110]
      clear c110 hx hu
      go_enter Tryd.func58, Tryd.ntmps58
      go_wp2
      go_ret2
      exact ⟨rfl, rfl⟩
    rw [if_neg c110]
    by_cases c116 : s[0] = 116
    · have hn : s[0].toNat = 116 := by rw [c116]; rfl
      rw [if_pos c116]
      clear c116 hx hu
      go_enter Tryd.func58, Tryd.ntmps58
      go_wp2
      go_ret2
      exact ⟨rfl, rfl⟩
    rw [if_neg c116]
    by_cases c120 : s[0] = 120
    · have hn : s[0].toNat = 120 := by rw [c120]; rfl
      rw [if_pos c120]
      clear c120
      cases hv : hexN 2 0 (s.extract 1 s.size).data.toList with
      | none =>
        rw [hv] at hx
        simp only [numR] at hx
        clear hv
        go_enter Tryd.func58, Tryd.ntmps58
        go_wp2_with (go_at_call 61; refine (hx _).mono ?_; rintro e w' ⟨rfl, rfl⟩)
        go_ret2
        exact ⟨rfl, rfl⟩
      | some v =>
        rw [hv] at hx
        simp only [numR] at hx
        have hlt := hexN_lt _ _ _ _ hv
        clear hv
        by_cases hv : v < 128
        · simp only []
          rw [if_pos hv]
          have g1 : (v : Int) < 128 := by omega
          go_enter Tryd.func58, Tryd.ntmps58
          go_wp2_with (go_at_call 61; refine (hx _).mono ?_; rintro e w' ⟨rfl, rfl⟩)
          go_ret2
          exact ⟨rfl, rfl⟩
        · simp only []
          rw [if_neg hv]
          have g1 : 128 ≤ (v : Int) := by omega
          clear hv hlt
          go_enter Tryd.func58, Tryd.ntmps58
          go_wp2_with (go_at_call 61; refine (hx _).mono ?_; rintro e w' ⟨rfl, rfl⟩)
          go_ret2
          exact ⟨rfl, rfl⟩
    rw [if_neg c120]
    by_cases c117 : s[0] = 117
    · have hn : s[0].toNat = 117 := by rw [c117]; rfl
      rw [if_pos c117]
      clear c117
      cases hv : hexN 4 0 (s.extract 1 s.size).data.toList with
      | none =>
        rw [hv] at hu
        simp only [numR] at hu
        clear hv
        go_enter Tryd.func58, Tryd.ntmps58
        go_wp2_with (go_at_call 61; refine (hu _).mono ?_; rintro e w' ⟨rfl, rfl⟩)
        go_ret2
        exact ⟨rfl, rfl⟩
      | some v =>
        rw [hv] at hu
        simp only [numR] at hu
        have hlt := hexN_lt _ _ _ _ hv
        clear hv
        have hvr := fun wx => Tryd.utf8_ValidRune (v : Int) wx
        by_cases hv : Sc v
        · simp only []
          rw [if_pos hv]
          have g1 : Lib.validRune (v : Int) = true := by unfold Sc at hv; simp [Lib.validRune]; omega
          rw [g1] at hvr
          go_enter Tryd.func58, Tryd.ntmps58
          go_wp2_with (first | (go_at_call 61; refine (hu _).mono ?_; rintro e w' ⟨rfl, rfl⟩) | (go_at_call 62; refine (hvr _).mono ?_; rintro e w' ⟨rfl, rfl⟩))
          go_ret2
          exact ⟨rfl, rfl⟩
        · simp only []
          rw [if_neg hv]
          have g1 : Lib.validRune (v : Int) = false := by unfold Sc at hv; simp [Lib.validRune]; omega
          rw [g1] at hvr
          go_enter Tryd.func58, Tryd.ntmps58
          go_wp2_with (first | (go_at_call 61; refine (hu _).mono ?_; rintro e w' ⟨rfl, rfl⟩) | (go_at_call 62; refine (hvr _).mono ?_; rintro e w' ⟨rfl, rfl⟩))
          go_ret2
          exact ⟨rfl, rfl⟩
    rw [if_neg c117]
    clear hx hu
    by_cases c9 : s[0] = 92 ∨ s[0] = 39 ∨ s[0] = 34
    · rw [if_pos c9]
      rcases c9 with c | c | c
      all_goals
        rw [c]
        first | (have hn : s[0].toNat = 92 := by rw [c]; rfl) | (have hn : s[0].toNat = 39 := by rw [c]; rfl) | (have hn : s[0].toNat = 34 := by rw [c]; rfl)
        clear c
        go_enter Tryd.func58, Tryd.ntmps58
        go_wp2
        go_ret2
        exact ⟨rfl, rfl⟩
    · rw [if_neg c9]
      have ne : ∀ k : UInt8, s[0] ≠ k → s[0].toNat ≠ k.toNat := fun k h e => h (UInt8.toNat_inj.1 e)
      have d1 : ¬ s[0].toNat = 110 := ne 110 c110
      have d2 : ¬ s[0].toNat = 116 := ne 116 c116
      have d3 : ¬ s[0].toNat = 120 := ne 120 c120
      have d4 : ¬ s[0].toNat = 117 := ne 117 c117
      have d5 : ¬ s[0].toNat = 92 := ne 92 (fun h => c9 (Or.inl h))
      have d6 : ¬ s[0].toNat = 39 := ne 39 (fun h => c9 (Or.inr (Or.inl h)))
      have d7 : ¬ s[0].toNat = 34 := ne 34 (fun h => c9 (Or.inr (Or.inr h)))
      clear ne c9 c110 c116 c117 c120
      have hkl := s[0].toNat_lt
      obtain ⟨k, hk⟩ : ∃ k, s[0].toNat = k := ⟨_, rfl⟩
      rw [hk] at d1 d2 d3 d4 d5 d6 d7 hkl
      have b1 : ((k : Int) == 110) = false := by simp; omega
      have b2 : ((k : Int) == 116) = false := by simp; omega
      have b3 : ((k : Int) == 120) = false := by simp; omega
      have b4 : ((k : Int) == 117) = false := by simp; omega
      have b5 : ((k : Int) == 92) = false := by simp; omega
      have b6 : ((k : Int) == 39) = false := by simp; omega
      have b7 : ((k : Int) == 34) = false := by simp; omega
      have hwr : wrap32 (k : Int) = k := by unfold wrap32; omega
      clear d1 d2 d3 d4 d5 d6 d7
      go_enter Tryd.func58, Tryd.ntmps58
      go_wp2
      go_ret2
      exact ⟨rfl, rfl⟩
end Go.Proofs.YtgheejogpbhokaaDoor
