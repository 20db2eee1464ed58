/- whole: form, long, sign, compare, Compare. -/
import Derived.Test.YtegdbcnloodljaaDoorWPlain
import Derived.Test.YtegdbcnloodljaaDoorRefa
import Derived.BigQuiet
import Derived.Deep.QuietTactic
namespace Go.Proofs.YtegdbcnloodljaaDoor
set_option linter.unusedVariables false
set_option linter.unusedSimpArgs false
open Go.RowKit
set_option maxRecDepth 1000000

/-- an Int of words that lie in the slice A. -/
def intV (neg : Bool) (A : Option Addr) (c : Nat) (ts : List Int) : Value := if ts = [] then .agg #[.bool false, .slice none 0 0] else .agg #[.bool neg, .slice A ts.length c]

set_option maxHeartbeats 400000 in
theorem wform_ok (neg : Bool) (A : Option Addr) (c : Nat) (zs : List Int) (w : World) (hr : RdI w .u32 A zs) (hl : zs.length ≤ c) (hc : c ≤ 9223372036854775807) :
    Calls Tryd.prog 46 #[.bool neg, .slice A zs.length c] w fun e w' => e = .returned (intV neg A c (trimN zs)) ∧ Below w.heap.size w w' := by
  have HC := Lib.hid (fun W (hb : Below w.heap.size w W) => trim_any A c zs W (hr.later hb) hl hc)
  have hl2 := trimN_le zs
  obtain ⟨ts, hts⟩ : ∃ ts, trimN zs = ts := ⟨_, rfl⟩
  rw [hts] at HC hl2 ⊢
  clear hts
  by_cases h0 : ts = []
  · rw [intV, if_pos h0]
    have hln : ts.length = 0 := by rw [h0]; rfl
    rw [hln] at HC
    clear h0 hln hl2
    go_enter Tryd.func46, Tryd.ntmps46
    go_wp2_with (go_at_call 54; refine (HC.out _ ((Below.refl _ _).alloc (Nat.le_refl _) _)).mono ?_; rintro e w' ⟨rfl, rfl⟩)
    exact bodyPost_ret (v := .agg #[.bool false, .slice none 0 0]) (by simp [results, Tryd.results46, go_sem]) rfl ⟨rfl, (Below.refl _ w).alloc (Nat.le_refl _) _⟩
  · rw [intV, if_neg h0]
    have hln : 0 < ts.length := List.length_pos_iff.2 h0
    generalize ts.length = n at *
    clear h0
    go_enter Tryd.func46, Tryd.ntmps46
    go_wp2_with (go_at_call 54; refine (HC.out _ ((Below.refl _ _).alloc (Nat.le_refl _) _)).mono ?_; rintro e w' ⟨rfl, rfl⟩)
    exact bodyPost_ret (v := .agg #[.bool neg, .slice A n c]) (by simp [results, Tryd.results46, go_sem]) rfl ⟨rfl, (Below.refl _ w).alloc (Nat.le_refl _) _⟩

set_option maxHeartbeats 400000 in
theorem wlong_ok (neg : Bool) (A : Option Addr) (c : Nat) (zs : List Int) (w : World) (hr : RdI w .u32 A zs) (hl : zs.length ≤ c) (hc : c ≤ 9223372036854775807) :
    Calls Tryd.prog 61 #[.agg #[.bool neg, .slice A zs.length c]] w fun e w' => e = .returned (.bool (decide (256 < (trimN zs).length))) ∧ Below w.heap.size w w' := by
  have HC := Lib.hid (fun W (hb : Below w.heap.size w W) => trim_any A c zs W (hr.later hb) hl hc)
  have hl2 := trimN_le zs
  generalize (trimN zs).length = n at *
  obtain ⟨b, hb⟩ : ∃ b, decide (256 < n) = b := ⟨_, rfl⟩
  have hb2 : decide ((256 : Int) < (n : Int)) = b := by rw [← hb]; simp; omega
  rw [hb]
  clear hb
  go_enter Tryd.func61, Tryd.ntmps61
  go_wp2_with (go_at_call 54; refine (HC.out _ ((Below.refl _ _).alloc (Nat.le_refl _) _)).mono ?_; rintro e w' ⟨rfl, rfl⟩)
  go_ret
  exact ⟨rfl, (Below.refl _ w).alloc (Nat.le_refl _) _⟩

/-- -1, 0, 1. -/
def sgn3 (x : Int) : Int := if x < 0 then -1 else if 0 < x then 1 else 0
theorem sign_val {neg : Bool} {zs : List Int} (h : W32 zs) : sgn3 (valI neg zs) = if (trimN zs).length = 0 then 0 else if neg then -1 else 1 := by
  have h1 := nt_zero (trimN_w32 h) (trimN_nt zs)
  have h2 := val_nn h
  rw [val_trimN] at h1
  unfold sgn3 valI
  by_cases h0 : trimN zs = []
  · rw [h0, h1.2 h0]; cases neg <;> simp
  · have hl : (trimN zs).length ≠ 0 := by intro e; exact h0 (List.eq_nil_of_length_eq_zero e)
    have hv : val zs ≠ 0 := fun e => h0 (h1.1 e)
    rw [if_neg hl]
    cases neg
    · simp only [Bool.false_eq_true, if_false]
      rw [if_neg (by omega), if_pos (by omega)]
    · simp only [if_true]
      rw [if_pos (by omega)]

set_option maxHeartbeats 400000 in
theorem wsign_ok (neg : Bool) (A : Option Addr) (c : Nat) (zs : List Int) (w : World) (hW : W32 zs) (hr : RdI w .u32 A zs) (hl : zs.length ≤ c) (hc : c ≤ 9223372036854775807) :
    Calls Tryd.prog 43 #[.agg #[.bool neg, .slice A zs.length c]] w fun e w' => e = .returned (.int .i64 (sgn3 (valI neg zs))) ∧ Below w.heap.size w w' := by
  have HC := Lib.hid (fun W (hb : Below w.heap.size w W) => trim_any A c zs W (hr.later hb) hl hc)
  have hl2 := trimN_le zs
  rw [sign_val hW]
  generalize (trimN zs).length = n at *
  by_cases h0 : n = 0
  · subst h0
    rw [if_pos rfl]
    go_enter Tryd.func43, Tryd.ntmps43
    go_wp2_with (go_at_call 54; refine (HC.out _ ((Below.refl _ _).alloc (Nat.le_refl _) _)).mono ?_; rintro e w' ⟨rfl, rfl⟩)
    go_ret
    exact ⟨rfl, (Below.refl _ w).alloc (Nat.le_refl _) _⟩
  · rw [if_neg h0]
    have x0 : ((n : Int) == 0) = false := by simp; omega
    cases neg
    all_goals
      go_enter Tryd.func43, Tryd.ntmps43
      go_wp2_with (go_at_call 54; refine (HC.out _ ((Below.refl _ _).alloc (Nat.le_refl _) _)).mono ?_; rintro e w' ⟨rfl, rfl⟩)
      go_ret
      exact ⟨rfl, (Below.refl _ w).alloc (Nat.le_refl _) _⟩

/-! ### comparing -/
theorem val_split (zs : List Int) (i : Nat) (h : i < zs.length) : val zs = val (zs.take i) + 4294967296 ^ i * zs[i] + 4294967296 ^ (i + 1) * val (zs.drop (i + 1)) := by
  have h1 := val_append (zs.take (i + 1)) (zs.drop (i + 1))
  rw [List.take_append_drop, List.length_take, Nat.min_eq_left (by omega), val_take_succ zs i h] at h1
  exact h1
theorem val_lt_at {xs ys : List Int} (ha : W32 xs) (hb : W32 ys) (i : Nat) (h1 : i < xs.length) (h2 : i < ys.length) (hd : xs.drop (i + 1) = ys.drop (i + 1)) (hlt : xs[i] < ys[i]) : val xs < val ys := by
  rw [val_split xs i h1, val_split ys i h2, hd]
  have e1 := val_bound (ha.take i)
  have e2 := val_nn (hb.take i)
  rw [List.length_take, Nat.min_eq_left (by omega)] at e1
  have e3 : (4294967296 : Int) ^ i * (xs[i] + 1) ≤ 4294967296 ^ i * ys[i] := Int.mul_le_mul_of_nonneg_left (by omega) (Int.le_of_lt (pow_pos i))
  rw [Int.mul_add, Int.mul_one] at e3
  omega
theorem val_lt_len {xs ys : List Int} (ha : W32 xs) (hb : W32 ys) (nb : NT ys) (h : xs.length < ys.length) : val xs < val ys := by
  have e1 := val_bound ha
  have e2 := (nt_len hb nb xs.length).1 h
  omega
/-- the order of two numbers. -/
def cmp3 (x y : Int) : Int := if x < y then -1 else if y < x then 1 else 0

set_option maxHeartbeats 2000000 in
theorem wcompare_ok (A B : Option Addr) (c d : Nat) (xs ys : List Int) (w : World) (hX : W32 xs) (hY : W32 ys) (hr : RdI w .u32 A xs) (hs : RdI w .u32 B ys) (hl : xs.length ≤ c) (hc : c ≤ 9223372036854775807) (hl2 : ys.length ≤ d) (hd : d ≤ 9223372036854775807) :
    Calls Tryd.prog 44 #[.slice A xs.length c, .slice B ys.length d] w fun e w' => e = .returned (.int .i64 (cmp3 (val xs) (val ys))) ∧ Below w.heap.size w w' := by
  have h1 := trim_any A c xs w hr hl hc
  have h2 := trim_any B d ys w hs hl2 hd
  have hX2 := trimN_w32 hX
  have hY2 := trimN_w32 hY
  have nX := trimN_nt xs
  have nY := trimN_nt ys
  have rX := hr.take (trimLen xs xs.length)
  have rY := hs.take (trimLen ys ys.length)
  have lX := trimN_le xs
  have lY := trimN_le ys
  rw [← val_trimN xs, ← val_trimN ys]
  change RdI w .u32 A (trimN xs) at rX
  change RdI w .u32 B (trimN ys) at rY
  generalize trimN xs = ps at *
  generalize trimN ys = qs at *
  have hps : ps.length ≤ 9223372036854775807 := by omega
  have hqs : qs.length ≤ 9223372036854775807 := by omega
  by_cases hlt : ps.length < qs.length
  · have hv := val_lt_len hX2 hY2 nY hlt
    rw [cmp3, if_pos hv]
    clear hX hY hr hs nX nY rX rY hv hX2 hY2
    generalize ps.length = m at *
    generalize qs.length = n at *
    have x1 : ((m : Int) != (n : Int)) = true := by simp; omega
    go_enter Tryd.func44, Tryd.ntmps44
    go_wp2_with fail
    go_at_call 54
    refine h1.mono ?_
    rintro e w1 ⟨rfl, rfl⟩
    go_wp2_with fail
    go_at_call 54
    refine h2.mono ?_
    rintro e w2 ⟨rfl, rfl⟩
    go_wp2
    go_ret
    exact ⟨rfl, Below.refl _ _⟩
  by_cases hgt : qs.length < ps.length
  · have hv := val_lt_len hY2 hX2 nX hgt
    rw [cmp3, if_neg (by omega), if_pos hv]
    clear hX hY hr hs nX nY rX rY hv hX2 hY2
    generalize ps.length = m at *
    generalize qs.length = n at *
    have x1 : ((m : Int) != (n : Int)) = true := by simp; omega
    go_enter Tryd.func44, Tryd.ntmps44
    go_wp2_with fail
    go_at_call 54
    refine h1.mono ?_
    rintro e w1 ⟨rfl, rfl⟩
    go_wp2_with fail
    go_at_call 54
    refine h2.mono ?_
    rintro e w2 ⟨rfl, rfl⟩
    go_wp2
    go_ret
    exact ⟨rfl, Below.refl _ _⟩
  have heq : ps.length = qs.length := by omega
  have x1 : ((ps.length : Int) != (qs.length : Int)) = false := by rw [heq]; simp
  have HP := Lib.hid rX
  have HQ := Lib.hid rY
  obtain ⟨R, hR⟩ : ∃ R, cmp3 (val ps) (val qs) = R := ⟨_, rfl⟩
  rw [hR]
  have HR := Lib.hid hR
  clear hX hY hr hs nX nY rX rY hR
  go_enter Tryd.func44, Tryd.ntmps44
  go_wp2_with fail
  go_at_call 54
  refine h1.mono ?_
  rintro e w1 ⟨rfl, rfl⟩
  go_wp2_with fail
  go_at_call 54
  refine h2.mono ?_
  rintro e w2 ⟨rfl, rfl⟩
  go_wp2
  generalize hn : qs.length = n at *
  go_loopw [5] (fun v wr => ∃ k : Nat, v = .int .i64 ((k : Int) - 1) ∧ k ≤ n ∧ Below w.heap.size w wr ∧ Hid (ps.drop k = qs.drop k)) (fun v _ => (intOf v + 1).toNat)
  case atStart => exact ⟨n, rfl, Nat.le_refl _, Below.refl _ _, Lib.hid (by rw [List.drop_eq_nil_of_le (by omega), List.drop_eq_nil_of_le (by omega)])⟩
  case round =>
    obtain ⟨k, rfl, hk, hbw, hT⟩ := hrel
    by_cases hp : 0 < k
    · obtain ⟨i, rfl⟩ : ∃ i, k = i + 1 := ⟨k - 1, by omega⟩
      have e1 : (((i + 1 : Nat) : Int) - 1) = (i : Int) := by omega
      rw [e1]
      have hip : i < ps.length := by omega
      have hiq : i < qs.length := by omega
      obtain ⟨b1, o1, z1, hA, hz1, hc1⟩ := HP.out i hip
      obtain ⟨b2, o2, z2, hB, hz2, hc2⟩ := HQ.out i hiq
      rw [List.getElem?_eq_getElem hip] at hz1
      rw [List.getElem?_eq_getElem hiq] at hz2
      injection hz1 with hz1
      injection hz2 with hz2
      have hd1 := cell_later hbw hc1
      have hd2 := cell_later hbw hc2
      have hb1 : b1 < wr.heap.size := Nat.lt_of_lt_of_le (World.block_lt_of_cell? w _ hc1) hbw.size
      have hb2 : b2 < wr.heap.size := Nat.lt_of_lt_of_le (World.block_lt_of_cell? w _ hc2) hbw.size
      subst hA hB
      have hlt1 : z1 < z2 → R = -1 := fun h => by
        have := val_lt_at hX2 hY2 i hip hiq hT.out (by rw [hz1, hz2]; exact h)
        rw [← HR.out, cmp3, if_pos this]
      have hlt2 : z2 < z1 → R = 1 := fun h => by
        have := val_lt_at hY2 hX2 i hiq hip hT.out.symm (by rw [hz1, hz2]; exact h)
        rw [← HR.out, cmp3, if_neg (by omega), if_pos this]
      have heq2 : z1 = z2 → Hid (ps.drop i = qs.drop i) := fun h => Lib.hid (by
        rw [List.drop_eq_getElem_cons hip, List.drop_eq_getElem_cons hiq, hT.out, hz1, hz2, h])
      clear hc1 hc2 hz1 hz2 hT
      rcases Int.lt_trichotomy z1 z2 with h | h | h
      · have hRe := hlt1 h
        subst hRe
        clear hlt1 hlt2 heq2 HR
        go_wp2
        go_quiet (fail)
        go_wp2
        go_ret
        exact ⟨rfl, hbw.trans ⟨rfl, rfl, rfl, Nat.le_refl _, fun _ _ => rfl⟩⟩
      · have hRe := heq2 h
        clear hlt1 hlt2 heq2
        subst h
        go_wp2
        go_quiet (fail)
        go_wp2
        go_quiet (fail)
        go_wp2
        go_roundw
        case rel => exact ⟨i, by rfl, by omega, hbw.trans ⟨rfl, rfl, rfl, Nat.le_refl _, fun _ _ => rfl⟩, hRe⟩
        case measure => simp [intOf]
      · have hRe := hlt2 h
        subst hRe
        have hnl : ¬ z1 < z2 := by omega
        clear hlt1 hlt2 heq2 HR
        go_wp2
        go_quiet (fail)
        go_wp2
        go_quiet (fail)
        go_wp2
        go_ret
        exact ⟨rfl, hbw.trans ⟨rfl, rfl, rfl, Nat.le_refl _, fun _ _ => rfl⟩⟩
    · have hk0 : k = 0 := by omega
      subst hk0
      have hRe : R = 0 := by
        have := hT.out
        rw [List.drop_zero, List.drop_zero] at this
        rw [← HR.out, this, cmp3, if_neg (by omega), if_neg (by omega)]
      subst hRe
      clear hT HR
      go_wp2
      go_ret
      exact ⟨rfl, hbw⟩
end Go.Proofs.YtegdbcnloodljaaDoor
