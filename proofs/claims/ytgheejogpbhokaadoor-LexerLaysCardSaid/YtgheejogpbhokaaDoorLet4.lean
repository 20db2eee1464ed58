/- The reference's digits and escape. -/
import Derived.Test.YtgheejogpbhokaaDoorLet3
namespace Go.Proofs.YtgheejogpbhokaaDoor
set_option linter.unusedVariables false
set_option linter.unusedSimpArgs false
open Go.RowKit Go.Shelf

set_option maxRecDepth 100000 in
set_option maxHeartbeats 1000000 in
theorem digits_ok (s : ByteArray) (p n : Nat) (hn : n ≤ 4) (hp : p ≤ s.size) (w : World) (hs : s.size ≤ 1099511627776) :
    Calls Tryd.prog 54 #[.string s, .int .i64 p, .int .i64 n] w fun e w' => e = .returned (.int .i64 (numR (hexN n 0 (s.data.toList.drop p)))) ∧ w' = w := by
  obtain ⟨R, hR⟩ : ∃ R, R = numR (hexN n 0 (s.data.toList.drop p)) := ⟨_, rfl⟩
  rw [← hR]
  by_cases hsd : s.size < p + n
  · rw [hexN_short n 0 _ (by simp; omega)] at hR
    simp only [numR] at hR
    subst hR
    have g : (s.size : Int) < (p : Int) + n := by omega
    go_enter Tryd.func54, Tryd.ntmps54
    go_wp2
    go_ret
    exact ⟨rfl, rfl⟩
  · have HR := Lib.hid hR
    clear hR
    have g : (p : Int) + n ≤ s.size := by omega
    go_enter Tryd.func54, Tryd.ntmps54
    go_wp2
    go_loop [7, 8] (fun vv vi => ∃ i v : Nat, i ≤ n ∧ vv = .int .i64 v ∧ vi = .int .i64 ((p + i : Nat) : Int) ∧ Hid (v < 16 ^ i) ∧ Hid (R = numR (hexN (n - i) v (s.data.toList.drop (p + i))))) (fun _ vi => p + n - (intOf vi).toNat)
    case atStart => exact ⟨0, 0, Nat.zero_le _, rfl, rfl, by show (0 : Nat) < 1; decide, HR⟩
    case round =>
      obtain ⟨i, v, hi, rfl, rfl, hv, hT⟩ := hrel
      by_cases h0 : i < n
      · have hi4 : 16 ^ i ≤ 16 ^ 3 := Nat.pow_le_pow_right (by omega) (by omega)
        have hv2 : v < 4096 := by have := hv.out; have : (16 : Nat) ^ 3 = 4096 := rfl; omega
        have hil : p + i < s.size := by omega
        have hstep := bytes_at s (p + i) hil
        obtain ⟨j, hj⟩ : ∃ j, n - i = j + 1 := ⟨n - i - 1, by omega⟩
        have hj2 : n - (i + 1) = j := by omega
        have hj3 : p + i + 1 = p + (i + 1) := by omega
        rw [hj, hstep] at hT
        simp only [hexN] at hT
        have hcl := s[p + i].toNat_lt
        unfold hexd at hT
        obtain ⟨c, hc⟩ : ∃ c, s[p + i].toNat = c := ⟨_, rfl⟩
        rw [hc] at hcl hT
        obtain ⟨q, hq⟩ : ∃ q, p + i = q := ⟨_, rfl⟩
        have HN := Lib.hid (show q < p + n by omega)
        have HI := Lib.hid (And.intro hi4 (And.intro hi (And.intro h0 (And.intro hj2 hj3))))
        rw [hq] at hil
        simp only [hq] at hc hj3 ⊢
        clear hstep hj hj2 hi4 hi h0
        have hqi : (q : Int) < (p : Int) + n := by have := HN.out; omega
        by_cases c1 : 48 ≤ c ∧ c ≤ 57
        · rw [if_pos c1] at hT
          simp only [] at hT
          have a1 : (48 : Int) ≤ c := by omega
          have a2 : (c : Int) ≤ 57 := by omega
          clear hcl
          go_wp2
          go_round
          case rel =>
            obtain ⟨hi4, hi, h0, hj2, hj3⟩ := HI.out
            refine ⟨i + 1, 16 * v + (c - 48), by omega, by go_num, by go_num, ?_, ?_⟩
            · have hv1 := hv.out; show 16 * v + (c - 48) < 16 ^ (i + 1); rw [Nat.pow_succ]; omega
            · rw [hj2, ← hj3]; exact hT
          case measure => simp [intOf]; omega
        rw [if_neg c1] at hT
        by_cases c2 : 97 ≤ c ∧ c ≤ 102
        · rw [if_pos c2] at hT
          simp only [] at hT
          have a1 : (97 : Int) ≤ c := by omega
          have a2 : (c : Int) ≤ 102 := by omega
          clear c1
          clear hcl
          go_wp2
          go_round
          case rel =>
            obtain ⟨hi4, hi, h0, hj2, hj3⟩ := HI.out
            refine ⟨i + 1, 16 * v + (c - 87), by omega, by go_num, by go_num, ?_, ?_⟩
            · have hv1 := hv.out; show 16 * v + (c - 87) < 16 ^ (i + 1); rw [Nat.pow_succ]; omega
            · rw [hj2, ← hj3]; exact hT
          case measure => simp [intOf]; omega
        rw [if_neg c2] at hT
        by_cases c3 : 65 ≤ c ∧ c ≤ 70
        · rw [if_pos c3] at hT
          simp only [] at hT
          have a1 : (65 : Int) ≤ c := by omega
          have a2 : (c : Int) ≤ 70 := by omega
          clear c1 c2
          clear hcl
          go_wp2
          go_round
          case rel =>
            obtain ⟨hi4, hi, h0, hj2, hj3⟩ := HI.out
            refine ⟨i + 1, 16 * v + (c - 55), by omega, by go_num, by go_num, ?_, ?_⟩
            · have hv1 := hv.out; show 16 * v + (c - 55) < 16 ^ (i + 1); rw [Nat.pow_succ]; omega
            · rw [hj2, ← hj3]; exact hT
          case measure => simp [intOf]; omega
        rw [if_neg c3] at hT
        have hT1 : R = -1 := hT
        subst hT1
        have hcs : (c : Int) < 48 ∨ (57 < (c : Int) ∧ (c : Int) < 65) ∨ (70 < (c : Int) ∧ (c : Int) < 97) ∨ 102 < (c : Int) := by omega
        clear c1 c2 c3 hT hcl HI hj3
        rcases hcs with a1 | ⟨a1, a2⟩ | ⟨a1, a2⟩ | a1
        all_goals
          go_wp2
          go_ret
          exact ⟨rfl, rfl⟩
      · have hT0 : R = v := by
          have e0 : n - i = 0 := by omega
          rw [e0] at hT; exact hT
        obtain rfl : i = n := by omega
        subst hT0
        go_wp2
        go_ret
        exact ⟨rfl, rfl⟩

/-- what the reference's escape hands back. -/
def rescR (o : Option (Nat × Nat)) : Value := match o with | some x => .tuple #[.string (Utf8.encode (x.1 : Int)), .int .i64 x.2] | none => .tuple #[.string ⟨#[]⟩, .int .i64 0]
set_option maxRecDepth 1000000 in
theorem encode_byte (s : ByteArray) (p : Nat) (hp : p < s.size) (hc : s[p].toNat < 128) : s.extract p (p + 1) = Utf8.encode (s[p].toNat : Int) := by
  have h1 : enc s[p].toNat = [s[p]] := by rw [enc1 _ hc]; simp
  have h2 : (s.extract p (p + 1)).data.toList = (Utf8.encode (s[p].toNat : Int)).data.toList := by
    rw [Lib.extract_data, bytes_at s p hp]
    show _ = enc s[p].toNat
    rw [h1]
    simp
  exact ByteArray.ext (Array.ext' h2)

set_option maxRecDepth 1000000 in
set_option maxHeartbeats 1000000 in
theorem refEscape_ok (s : ByteArray) (p : Nat) (w : World) (hs : s.size ≤ 1099511627776) (hp1 : p ≤ s.size) :
    Calls Tryd.prog 47 #[.string s, .int .i64 p] w fun e w' => e = .returned (rescR (esc (s.data.toList.drop p))) ∧ w' = w := by
  by_cases hp : p < s.size
  · have hx : ∀ wx, Calls Tryd.prog 54 #[.string s, .int .i64 ((p : Int) + 1), .int .i64 2] wx fun e w' => e = .returned (.int .i64 (numR (hexN 2 0 (s.data.toList.drop (p + 1))))) ∧ w' = wx := fun wx => digits_ok s (p + 1) 2 (by omega) (by omega) wx hs
    have hu : ∀ wx, Calls Tryd.prog 54 #[.string s, .int .i64 ((p : Int) + 1), .int .i64 4] wx fun e w' => e = .returned (.int .i64 (numR (hexN 4 0 (s.data.toList.drop (p + 1))))) ∧ w' = wx := fun wx => digits_ok s (p + 1) 4 (by omega) (by omega) wx hs
    rw [bytes_at s p hp, esc_cons]
    by_cases c9 : s[p] = 92 ∨ s[p] = 39 ∨ s[p] = 34
    · have n1 : s[p] ≠ 110 := by rcases c9 with c | c | c <;> rw [c] <;> decide
      have n2 : s[p] ≠ 116 := by rcases c9 with c | c | c <;> rw [c] <;> decide
      have n3 : s[p] ≠ 120 := by rcases c9 with c | c | c <;> rw [c] <;> decide
      have n4 : s[p] ≠ 117 := by rcases c9 with c | c | c <;> rw [c] <;> decide
      rw [if_neg n1, if_neg n2, if_neg n3, if_neg n4, if_pos c9]
      have hb : s[p].toNat < 128 := by rcases c9 with c | c | c <;> rw [c] <;> decide
      have HE := Lib.hid (encode_byte s p hp hb)
      rcases c9 with c | c | c
      all_goals
        first | (have hn : s[p].toNat = 92 := by rw [c]; rfl) | (have hn : s[p].toNat = 39 := by rw [c]; rfl) | (have hn : s[p].toNat = 34 := by rw [c]; rfl)
        show Calls _ _ _ _ fun e w' => e = .returned (.tuple #[.string (Utf8.encode (s[p].toNat : Int)), .int .i64 1]) ∧ w' = w
        rw [← HE.out]
        clear c n1 n2 n3 n4 hb HE hx hu
        go_enter Tryd.func47, Tryd.ntmps47
        go_wp2
        go_ret2
        exact ⟨rfl, rfl⟩
    by_cases c110 : s[p] = 110
    · have hn : s[p].toNat = 110 := by rw [c110]; rfl
      rw [if_pos c110]
      clear c110 hx hu c9
      go_enter Tryd.func47, Tryd.ntmps47
      go_wp2
      go_ret2
      exact ⟨rfl, rfl⟩
    rw [if_neg c110]
    by_cases c116 : s[p] = 116
    · have hn : s[p].toNat = 116 := by rw [c116]; rfl
      rw [if_pos c116]
      clear c116 hx hu c9
      go_enter Tryd.func47, Tryd.ntmps47
      go_wp2
      go_ret2
      exact ⟨rfl, rfl⟩
    rw [if_neg c116]
    by_cases c120 : s[p] = 120
    · have hn : s[p].toNat = 120 := by rw [c120]; rfl
      rw [if_pos c120]
      clear c120 c9
      cases hv : hexN 2 0 (s.data.toList.drop (p + 1)) with
      | none =>
        rw [hv] at hx
        simp only [numR] at hx
        clear hv
        go_enter Tryd.func47, Tryd.ntmps47
        go_wp2_with (go_at_call 54; refine (hx _).mono ?_; rintro e w' ⟨rfl, rfl⟩)
        go_ret2
        exact ⟨rfl, rfl⟩
      | some v =>
        rw [hv] at hx
        simp only [numR] at hx
        have hlt := hexN_lt _ _ _ _ hv
        have hlt2 : v < 65536 := by have : (0 + 1) * 16 ^ 2 = 256 := rfl; omega
        have hw32 : wrap32 (v : Int) = v := by unfold wrap32; omega
        clear hv hlt
        by_cases hv : v < 128
        · simp only []
          rw [if_pos hv]
          have g1 : (v : Int) < 128 := by omega
          clear hv hlt2
          go_enter Tryd.func47, Tryd.ntmps47
          go_wp2_with (go_at_call 54; refine (hx _).mono ?_; rintro e w' ⟨rfl, rfl⟩)
          go_ret2
          exact ⟨rfl, rfl⟩
        · simp only []
          rw [if_neg hv]
          have g1 : 128 ≤ (v : Int) := by omega
          clear hv hlt2
          go_enter Tryd.func47, Tryd.ntmps47
          go_wp2_with (go_at_call 54; refine (hx _).mono ?_; rintro e w' ⟨rfl, rfl⟩)
          go_ret2
          exact ⟨rfl, rfl⟩
    rw [if_neg c120]
    by_cases c117 : s[p] = 117
    · have hn : s[p].toNat = 117 := by rw [c117]; rfl
      rw [if_pos c117]
      clear c117 c9
      cases hv : hexN 4 0 (s.data.toList.drop (p + 1)) with
      | none =>
        rw [hv] at hu
        simp only [numR] at hu
        clear hv
        go_enter Tryd.func47, Tryd.ntmps47
        go_wp2_with (go_at_call 54; refine (hu _).mono ?_; rintro e w' ⟨rfl, rfl⟩)
        go_ret2
        exact ⟨rfl, rfl⟩
      | some v =>
        rw [hv] at hu
        simp only [numR] at hu
        have hlt := hexN_lt _ _ _ _ hv
        have hlt2 : v < 65536 := by have : (0 + 1) * 16 ^ 4 = 65536 := rfl; omega
        have hw32 : wrap32 (v : Int) = v := by unfold wrap32; omega
        clear hv hlt
        by_cases hv : Sc v
        · simp only []
          rw [if_pos hv]
          have hv3 : (v : Int) < 55296 ∨ (55296 ≤ (v : Int) ∧ 57343 < (v : Int)) := by unfold Sc at hv; omega
          clear hv hlt2
          rcases hv3 with g1 | ⟨g1, g2⟩
          all_goals
            go_enter Tryd.func47, Tryd.ntmps47
            go_wp2_with (go_at_call 54; refine (hu _).mono ?_; rintro e w' ⟨rfl, rfl⟩)
            go_ret2
            exact ⟨rfl, rfl⟩
        · simp only []
          rw [if_neg hv]
          have g1 : 55296 ≤ (v : Int) := by unfold Sc at hv; omega
          have g2 : (v : Int) ≤ 57343 := by unfold Sc at hv; omega
          clear hv hlt2
          go_enter Tryd.func47, Tryd.ntmps47
          go_wp2_with (go_at_call 54; refine (hu _).mono ?_; rintro e w' ⟨rfl, rfl⟩)
          go_ret2
          exact ⟨rfl, rfl⟩
    rw [if_neg c117]
    clear hx hu
    rw [if_neg c9]
    have ne : ∀ k : UInt8, s[p] ≠ k → s[p].toNat ≠ k.toNat := fun k h e => h (UInt8.toNat_inj.1 e)
    have d1 : s[p].toNat ≠ 110 := ne 110 c110
    have d2 : s[p].toNat ≠ 116 := ne 116 c116
    have d3 : s[p].toNat ≠ 120 := ne 120 c120
    have d4 : s[p].toNat ≠ 117 := ne 117 c117
    have d5 : s[p].toNat ≠ 92 := ne 92 (fun h => c9 (Or.inl h))
    have d6 : s[p].toNat ≠ 39 := ne 39 (fun h => c9 (Or.inr (Or.inl h)))
    have d7 : s[p].toNat ≠ 34 := ne 34 (fun h => c9 (Or.inr (Or.inr h)))
    clear ne c9 c110 c116 c117 c120
    obtain ⟨k, hk⟩ : ∃ k, s[p].toNat = k := ⟨_, rfl⟩
    rw [hk] at d1 d2 d3 d4 d5 d6 d7
    have b1 := beqI d1
    have b2 := beqI d2
    have b3 := beqI d3
    have b4 := beqI d4
    have b5 := beqI d5
    have b6 := beqI d6
    have b7 := beqI d7
    clear d1 d2 d3 d4 d5 d6 d7
    go_enter Tryd.func47, Tryd.ntmps47
    go_wp2
    go_ret2
    exact ⟨rfl, rfl⟩
  · have e : s.data.toList.drop p = [] := List.drop_eq_nil_of_le (by simp; omega)
    have g : (s.size : Int) ≤ p := by omega
    rw [e]
    go_enter Tryd.func47, Tryd.ntmps47
    go_wp2
    go_ret2
    exact ⟨rfl, rfl⟩
end Go.Proofs.YtgheejogpbhokaaDoor
