/- Joined by a program: Lx4, Lx5, Let1, BuilderLay. -/
import Derived.Test.YtjndbcnmmnkilaaGreatDoorPF34
namespace Go.Proofs.YtjndbcnmmnkilaaGreatDoor
set_option linter.unusedVariables false
set_option linter.unusedSimpArgs false
set_option maxRecDepth 1000000
set_option maxHeartbeats 16000000
section
open Go.RowKit
open List (length_append length_cons length_nil length_singleton)
theorem LxS.later {w w' : World} {base X : Nat} {s : ByteArray} {p o : Nat} {st : List Nat} {toks : List Tk} (h : LxS w base X s p o st toks) (hb : Below w.heap.size w w') : LxS w' base X s p o st toks := by
 obtain ⟨LA, LC, BA, BC, h⟩ := h
 exact ⟨LA, LC, BA, BC, h.later hb⟩
theorem LxS.setPos {w : World} {base X : Nat} {s : ByteArray} {p o : Nat} {st : List Nat} {toks : List Tk} (h : LxS w base X s p o st toks) (q : Nat) (z : Int) (hz : z = (q : Int)) : LxS (w.setCell ⟨X, 1, none⟩ (.int .i64 z)) base X s q o st toks := by
 obtain ⟨LA, LC, BA, BC, h⟩ := h
 subst hz
 exact ⟨LA, LC, BA, BC, h.setPos q⟩
theorem LxS.setOpn {w : World} {base X : Nat} {s : ByteArray} {p o : Nat} {st : List Nat} {toks : List Tk} (h : LxS w base X s p o st toks) (q : Nat) (z : Int) (hz : z = (q : Int)) : LxS (w.setCell ⟨X, 3, none⟩ (.int .i64 z)) base X s p q st toks := by
 obtain ⟨LA, LC, BA, BC, h⟩ := h
 subst hz
 exact ⟨LA, LC, BA, BC, h.setOpn q⟩
theorem LxS.cells {w : World} {base X : Nat} {s : ByteArray} {p o : Nat} {st : List Nat} {toks : List Tk} (h : LxS w base X s p o st toks) :
  w.cell? ⟨X, 0, none⟩ = some (.string s) ∧ w.cell? ⟨X, 1, none⟩ = some (.int .i64 p) ∧ w.cell? ⟨X, 3, none⟩ = some (.int .i64 o) ∧ w.frozen? ⟨X, 1, none⟩ = false ∧ w.frozen? ⟨X, 3, none⟩ = false ∧ X < w.heap.size ∧ base ≤ X := by
 obtain ⟨LA, LC, BA, BC, h⟩ := h
 exact ⟨h.c0, h.c1, h.c3, h.f1, h.f3, h.lt, h.bX⟩
def TokR (w : World) (base X : Nat) (s : ByteArray) (p : Nat) (st : List Nat) (toks : List Tk) (r : T1) (e : Ending) (w' : World) : Prop :=
 match r with
 | .tok k x n o' => e = .returned (.tuple #[]) ∧ LxS w' base X s (p + n) o' st (toks ++ [⟨k, x, p⟩]) ∧ Below base w w'
 | .bad c => e = .panicked [{ v := stopV c p, recovered := false }] ∧ Below base w w'
section
variable {w : World} {base X : Nat} {s : ByteArray} {p o : Nat} {st : List Nat} {toks : List Tk}
theorem wdS_fits (s : ByteArray) (p : Nat) (hp : p ≤ s.size) : p + (wdS s p).size ≤ s.size := by
 rw [wdS_size]
 have := wd_le (s.data.toList.drop p)
 rw [List.length_drop] at this
 simp at this
 omega
theorem lxName_ok (hL : LxS w base X s p o st toks) (hz : base ≤ w.heap.size) (hs : s.size ≤ 1099511627776) (hp : p ≤ s.size) (hn : toks.length ≤ 1000000) :
  Calls Tryz.prog 168 #[.pointer (some ⟨X, 0, none⟩)] w (TokR w base X s p st toks (.tok (if wordB (wd (s.data.toList.drop p)) then 2 else 1) (wd (s.data.toList.drop p)) (wd (s.data.toList.drop p)).length o)) := by
 have hr := lxRun_ok hL hs hp
 have hTl := wdS_list s p
 have hTs := wdS_size s p
 have hsz := wdS_fits s p hp
 have hW := fun W => lxWord_ok (wdS s p) W
 have hP := fun (k : Int) (W : World) (h : LxS W base X s p o st toks) (h2 : base ≤ W.heap.size) => lxPut_ok k (wdS s p) p h h2 lq17 hn
 rw [hTl] at hW hP
 rw [← hTs]
 generalize wdS s p = T at *
 generalize wd (s.data.toList.drop p) = x at *
 clear hTl hTs
 unfold TokR
 dsimp only
 cases hw : wordB x
 all_goals
  rw [hw] at hW
  first | rw [if_pos rfl] | rw [if_neg lq16]
  clear hw; obtain ⟨q0, q1, q3, f1, f3, hX, hbX⟩ := hL.cells; go_enter Tryz.func168, Tryz.ntmps168; go_wp2_with fail
  go_at_call 232
  refine hr.mono ?_
  rintro e w1 ⟨rfl, hb1⟩; clear q0 q1 q3 f1 f3
  replace hL := hL.later hb1
  have hz1 := Nat.le_trans hz hb1.size
  replace hb1 := hb1.mono hz
  obtain ⟨q0, q1, q3, f1, f3, hX, hbX⟩ := hL.cells; go_wp2_with fail
  go_at_call 217
  refine (hW _).mono ?_
  rintro e w' ⟨rfl, rfl⟩; go_wp2_with fail
  go_at_call 89
  refine (hP _ _ hL hz1).mono ?_
  rintro e w2 ⟨rfl, hL2, hb2⟩; clear q0 q1 q3 f1 f3; obtain ⟨q0, q1, q3, f1, f3, hX, hbX⟩ := hL2.cells; go_wp2
  go_end0
  exact ⟨rfl, hL2.setPos _ _ lq17, Below.setCell (p := ⟨X, 1, none⟩) (hb1.trans hb2) hbX _⟩
end
theorem num_bad {T : ByteArray} {x : List UInt8} (hx : T.data.toList = x) (k : Nat) (hk : k < T.size) (hd : isDig T[k] = false) : numOk x = false := by
 have hm : T[k] ∈ x := by rw [← hx]; exact List.getElem_mem (by simpa using hk)
 have : x.all isDig = false := by rw [List.all_eq_false]; exact ⟨_, hm, by rw [hd]; decide⟩
 rw [numOk, this]; rfl
theorem num_all {T : ByteArray} {x : List UInt8} (hx : T.data.toList = x) (h : ∀ k (hk : k < T.size), isDig T[k] = true) : x.all isDig = true := by
 rw [List.all_eq_true]
 intro c hc
 rw [← hx] at hc
 obtain ⟨k, hk, rfl⟩ := List.getElem_of_mem hc
 exact h k (by simpa using hk)
theorem num_head {T : ByteArray} {x : List UInt8} (hx : T.data.toList = x) (h0 : 0 < T.size) : x.head? = some T[0] := by
 rw [← hx, List.head?_eq_getElem?, List.getElem?_eq_getElem (by simpa using h0)]
 rfl
section
variable {w : World} {base X : Nat} {s : ByteArray} {p o : Nat} {st : List Nat} {toks : List Tk}
theorem lxNumber_ok (hL : LxS w base X s p o st toks) (hz : base ≤ w.heap.size) (hs : s.size ≤ 1099511627776) (hp : p ≤ s.size) (hn : toks.length ≤ 1000000) (h0 : 0 < (wd (s.data.toList.drop p)).length) :
  Calls Tryz.prog 170 #[.pointer (some ⟨X, 0, none⟩)] w (TokR w base X s p st toks (if numOk (wd (s.data.toList.drop p)) then .tok 3 (wd (s.data.toList.drop p)) (wd (s.data.toList.drop p)).length o else .bad 105)) := by
 have hr := lxRun_ok hL hs hp
 have hTl := wdS_list s p
 have hTs := wdS_size s p
 have hsz := wdS_fits s p hp
 have hP := fun (k : Int) (W : World) (h : LxS W base X s p o st toks) (h2 : base ≤ W.heap.size) => lxPut_ok k (wdS s p) p h h2 lq17 hn
 rw [hTl] at hP
 rw [← hTs] at h0 ⊢
 generalize wdS s p = T at *
 generalize wd (s.data.toList.drop p) = x at *
 have hlen : x.length = T.size := by rw [← hTl]; simp
 obtain ⟨R, hR⟩ : ∃ R, TokR w base X s p st toks (if numOk x then .tok 3 x T.size o else .bad 105) = R := ⟨_, rfl⟩
 have hBad := Lh (fun (h : numOk x = false) e w' (he : e = .panicked [{ v := stopV 105 p, recovered := false }]) (hb : Below base w w') => show R e w' by rw [← hR, h]; exact ⟨he, hb⟩)
 have hGood := Lh (fun (h : numOk x = true) e w' (he : e = .returned (.tuple #[])) (hl : LxS w' base X s (p + T.size) o st (toks ++ [⟨3, x, p⟩])) (hb : Below base w w') => show R e w' by rw [← hR, h]; exact ⟨he, hl, hb⟩)
 rw [hR]
 have HB := Lh (num_bad hTl)
 have HA := Lh (num_all hTl)
 have HH := Lh (num_head hTl h0)
 have HN := Lh hlen
 clear hR hTl hTs hlen
 obtain ⟨q0, q1, q3, f1, f3, hX, hbX⟩ := hL.cells
 go_enter Tryz.func170, Tryz.ntmps170
 go_wp2_with fail
 go_at_call 232
 refine hr.mono ?_
 rintro e w1 ⟨rfl, hb1⟩
 clear q0 q1 q3 f1 f3
 replace hL := hL.later hb1
 have hz1 := Nat.le_trans hz hb1.size
 replace hb1 := hb1.mono hz
 obtain ⟨q0, q1, q3, f1, f3, hX, hbX⟩ := hL.cells
 go_wp2
 go_loop [8] (fun v => ∃ k : Nat, v = .int .i64 k ∧ k ≤ T.size ∧ Hid (∀ i (hi : i < T.size), i < k → isDig T[i] = true)) (fun v => T.size - (intOf v).toNat)
 case atStart => exact ⟨0, rfl, Nat.zero_le _, Lh (fun i _ h => absurd h (Nat.not_lt_zero i))⟩
 case round =>
  obtain ⟨k, rfl, hk, hd⟩ := hrel
  by_cases hlt : k < T.size
  ·cases hdk : isDig T[k]
   ·have hnum := Lh (HB.out k hlt hdk)
    go_wp2_with (first
     | (go_at_call 169; refine (isDig_ok _ _).mono ?_; rintro e w' ⟨rfl, rfl⟩)
     | (go_at_call 166; refine (lxFail_ok X 105 p _).mono ?_; rintro e w' ⟨rfl, rfl⟩))
    exact ⟨rfl, hBad.out hnum.out _ _ rfl hb1⟩
   ·have hd2 := Lh (show ∀ i (hi : i < T.size), i < k + 1 → isDig T[i] = true from fun i hi h => if e : i = k then by subst e; exact hdk else hd.out i hi lq17); go_wp2_with (go_at_call 169; refine (isDig_ok _ _).mono ?_; rintro e w' ⟨rfl, rfl⟩)
    go_round
    case rel => exact ⟨k + 1, by go_num, by omega, hd2⟩
    case measure => simp [intOf]; omega
  ·have hks : k = T.size := by omega
   subst hks; obtain ⟨b1, e1⟩ : ∃ b, ((T[0].toNat : Int) == 48) = b := ⟨_, rfl⟩; obtain ⟨b2, e2⟩ : ∃ b, decide (1 < (T.size : Int)) = b := ⟨_, rfl⟩; obtain ⟨b3, e3⟩ : ∃ b, decide (1000 < (T.size : Int)) = b := ⟨_, rfl⟩; have e4 : decide (1 < T.size) = b2 := by rw [← e2]; simp; omega
   have e5 : decide (1000 < T.size) = b3 := by rw [← e3]; simp; omega
   have hnum := Lh (show numOk x = (!(b1 && b2) && !b3) by
    rw [numOk, HA.out (fun i hi => hd.out i hi hi), HH.out, HN.out]; have a1 : (some T[0] == some (48 : UInt8)) = b1 := by
     rw [← e1, Bool.eq_iff_iff]; simp only [beq_iff_eq, Option.some.injEq]
     constructor
     ·intro h; rw [h]; rfl
     ·intro h; exact UInt8.toNat_inj.1 (by show T[0].toNat = 48; omega)
    have a2 : decide (T.size ≤ 1000) = !b3 := by rw [← e5]; by_cases h : T.size ≤ 1000 <;> simp [h] <;> omega
    rw [a1, e4, a2]
    simp)
   have i0 : (0 : Int) < (T.size : Int) := by omega
   cases b1 <;> cases b2 <;> cases b3
   all_goals
    go_wp2_with (first
     | (go_at_call 166; refine (lxFail_ok X 105 p _).mono ?_; rintro e w' ⟨rfl, rfl⟩)
     | (go_at_call 89; refine (hP _ _ hL hz1).mono ?_; rintro e w2 ⟨rfl, hL2, hb2⟩; clear q0 q1 q3 f1 f3; obtain ⟨q0, q1, q3, f1, f3, hX, hbX⟩ := hL2.cells))
   all_goals first
    | exact ⟨rfl, hBad.out hnum.out _ _ rfl hb1⟩
    | (go_end0; exact hGood.out hnum.out _ _ rfl (hL2.setPos _ _ lq17) (Below.setCell (p := ⟨X, 1, none⟩) (hb1.trans hb2) hbX _))
end
end
section
open Go.RowKit Go.Shelf
open List (length_append length_cons length_nil length_singleton)
def lowV (c : Nat) : Nat := if 65 ≤ c ∧ c ≤ 70 then c + 32 else c
theorem lower_ok (c : UInt8) (w : World) :
  Calls Tryz.prog 326 #[.int .u8 (c.toNat : Int)] w fun e w' => e = .returned (.int .u8 (lowV c.toNat : Nat)) ∧ w' = w := by
 have hc := c.toNat_lt
 obtain ⟨n, hn⟩ : ∃ n, c.toNat = n := ⟨_, rfl⟩
 rw [hn] at hc ⊢
 by_cases h : 65 ≤ n ∧ n ≤ 70
 ·have e : lowV n = n + 32 := by unfold lowV; rw [if_pos h]
  rw [e]; obtain ⟨h1, h2⟩ := h; have g1 : (65 : Int) ≤ n := by omega
  have g2 : (n : Int) ≤ 70 := by omega
  go_enter Tryz.func326, Tryz.ntmps326; go_wp2; go_ret
  simp
  omega
 ·have e : lowV n = n := by unfold lowV; rw [if_neg h]
  rw [e]
  by_cases h1 : 65 ≤ n
  ·have g1 : (65 : Int) ≤ n := by omega
   have g2 : (70 : Int) < n := by omega
   go_enter Tryz.func326, Tryz.ntmps326; go_wp2; go_ret; exact ⟨rfl, rfl⟩
  ·have g1 : (n : Int) < 65 := by omega
   go_enter Tryz.func326, Tryz.ntmps326; go_wp2; go_ret; exact ⟨rfl, rfl⟩
def hexC : ByteArray := ⟨#[48, 49, 50, 51, 52, 53, 54, 55, 56, 57, 97, 98, 99, 100, 101, 102]⟩
def hexI (c : UInt8) : Int := match hexd c with | some d => (d : Int) | none => -1
set_option maxRecDepth 1000000 in
theorem hexIdx_all : (List.range 256).all (fun i => Lib.indexByte hexC.data.toList (UInt8.ofNat (lowV i)) == hexI (UInt8.ofNat i)) = true := by kernel_rfl
theorem hexIdx (c : UInt8) : Lib.indexByte hexC.data.toList (UInt8.ofNat (lowV c.toNat)) = hexI c := by
 have h := List.all_eq_true.1 hexIdx_all c.toNat (List.mem_range.2 c.toNat_lt)
 rw [beq_iff_eq] at h
 rw [h, UInt8.ofNat_toNat]
theorem hexIdx_ok (c : UInt8) (w : World) : Calls Tryz.prog 164 #[.string ⟨#[48, 49, 50, 51, 52, 53, 54, 55, 56, 57, 97, 98, 99, 100, 101, 102]⟩, .int .u8 (lowV c.toNat : Nat)] w fun e w' => e = .returned (.int .i64 (hexI c)) ∧ w' = w := by
 rw [← hexIdx c]
 exact Tryz.strings_IndexByte hexC _ w
theorem or4 (n d : Nat) (hn : n < 4096) (hd : d < 16) : bits BinOp.or IntKind.i32 ((n : Int) * 16) d = ((16 * n + d : Nat) : Int) := by
 have e : (n : Int) * 16 = ((16 * n : Nat) : Int) := by omega
 rw [e]
 show IntKind.i32.wrap ((BitVec.ofInt 32 ((16 * n : Nat) : Int) ||| BitVec.ofInt 32 (d : Int)).toNat : Int) = _
 rw [BitVec.toNat_or, ofInt_u32 _ lq17, ofInt_u32 d lq17, nat_join4 _ _ lq17 hd]
 exact wrap_i32_small _ lq17 lq17
def numR (o : Option Nat) : Int := match o with | some v => v | none => -1
theorem number_ok (s : ByteArray) (d : Nat) (hd : d ≤ 4) (w : World) (hs : s.size ≤ 9223372036854775807) :
  Calls Tryz.prog 311 #[.string s, .int .i64 d] w fun e w' => e = .returned (.int .i32 (numR (hexN d 0 s.data.toList))) ∧ w' = w := by
 obtain ⟨R, hR⟩ : ∃ R, R = numR (hexN d 0 s.data.toList) := ⟨_, rfl⟩
 rw [← hR]
 by_cases hsd : s.size < d
 ·rw [hexN_short d 0 _ (by simpa using hsd)] at hR; simp only [numR] at hR; subst hR; go_enter Tryz.func311, Tryz.ntmps311; go_wp2; go_ret; exact ⟨rfl, rfl⟩
 ·have HR := Lib.hid hR; clear hR; go_enter Tryz.func311, Tryz.ntmps311; go_wp2
  go_loop [5, 13] (fun v5 v13 => ∃ i n : Nat, i ≤ d ∧ v5 = .int .i32 n ∧ v13 = .int .i64 i ∧ n < 16 ^ i ∧ Hid (R = numR (hexN (d - i) n (s.data.toList.drop i)))) (fun _ v => d - (intOf v).toNat)
  case atStart => exact ⟨0, 0, Nat.zero_le _, rfl, rfl, by simp, by simpa using HR⟩
  case round =>
   obtain ⟨i, n, hi, rfl, rfl, hn, hT⟩ := hrel
   by_cases h0 : i < d
   ·have hi4 : 16 ^ i ≤ 16 ^ 3 := Nat.pow_le_pow_right lq17 lq17; have hn2 : n < 4096 := by have : (16 : Nat) ^ 3 = 4096 := rfl; omega
    have hil : i < s.size := by omega
    have hstep : s.data.toList.drop i = s[i] :: s.data.toList.drop (i + 1) := by
     rw [List.drop_eq_getElem_cons (by simpa using hil)]; rfl
    obtain ⟨j, hj⟩ : ∃ j, d - i = j + 1 := ⟨d - i - 1, by omega⟩; have hj2 : d - (i + 1) = j := by omega
    rw [hj, hstep] at hT; simp only [hexN] at hT
    cases hx : hexd s[i] with
    | none =>
     rw [hx] at hT; have hI : hexI s[i] = -1 := by simp [hexI, hx]
     have hc := fun wx => hexIdx_ok s[i] wx
     rw [hI] at hc; clear hI hstep hx hj hj2; have hT1 : R = -1 := hT; subst hT1; go_wp2_with (first | (go_at_call 326; refine (lower_ok s[i] w).mono ?_; rintro e w' ⟨rfl, rfl⟩) | (go_at_call 164; refine (hc _).mono ?_; rintro e w' ⟨rfl, rfl⟩)); go_ret; exact ⟨rfl, rfl⟩
    | some k =>
     rw [hx] at hT; have hI : hexI s[i] = k := by simp [hexI, hx]
     have hk := hexd_lt hx; have hc := fun wx => hexIdx_ok s[i] wx
     rw [hI] at hc; have ho := or4 n k hn2 hk; clear hI hstep hx hj; go_wp2_with (first | (go_at_call 326; refine (lower_ok s[i] w).mono ?_; rintro e w' ⟨rfl, rfl⟩) | (go_at_call 164; refine (hc _).mono ?_; rintro e w' ⟨rfl, rfl⟩))
     go_round
     case rel =>
      refine ⟨i + 1, 16 * n + k, by omega, by simp, by go_num, ?_, by rw [hj2]; exact hT⟩
      rw [Nat.pow_succ]; omega
     case measure => simp [intOf]; omega
   ·have hT0 : R = n := by
     have e0 : d - i = 0 := by omega
     rw [e0] at hT; exact hT
    subst hT0; go_wp2; go_ret; exact ⟨rfl, rfl⟩
def escR (o : Option (Nat × Nat)) : Value := match o with | some x => .tuple #[.int .i32 x.1, .int .i64 x.2] | none => .tuple #[.int .i32 0, .int .i64 0]
theorem bytes_cons (s : ByteArray) (hl : 0 < s.size) : s.data.toList = s[0] :: (s.extract 1 s.size).data.toList := by
 have := List.drop_eq_getElem_cons (l := s.data.toList) (i := 0) (by simpa using hl)
 rw [List.drop_zero] at this
 rw [Lib.extract_data, List.take_of_length_le lq18]
 exact this
set_option maxRecDepth 100000 in
theorem escape_ok (s : ByteArray) (w : World) (hs : s.size ≤ 9223372036854775807) :
  Calls Tryz.prog 280 #[.string s] w fun e w' => e = .returned (escR (esc s.data.toList)) ∧ w' = w := by
 by_cases h0 : s.size = 0
 ·have e : s.data.toList = [] := by
   apply List.eq_nil_of_length_eq_zero; simpa using h0
  have hse : s.toList.isEmpty = true := by rw [Lib.toList_data, e]; rfl
  rw [e]; exact lv76
 ·have hl : 0 < s.size := by omega
  have hse : s.toList.isEmpty = false := by rw [Lib.toList_data, bytes_cons s hl]; rfl
  rw [bytes_cons s hl, esc_cons]; have hx : ∀ wx, Calls Tryz.prog 311 #[.string (s.extract 1 s.size), .int .i64 2] wx fun e w' => e = .returned (.int .i32 (numR (hexN 2 0 (s.extract 1 s.size).data.toList))) ∧ w' = wx := fun wx => number_ok _ 2 lq17 wx (by simp; omega)
  have hu : ∀ wx, Calls Tryz.prog 311 #[.string (s.extract 1 s.size), .int .i64 4] wx fun e w' => e = .returned (.int .i32 (numR (hexN 4 0 (s.extract 1 s.size).data.toList))) ∧ w' = wx := fun wx => number_ok _ 4 lq17 wx (by simp; omega)
  clear h0
  by_cases c110 : s[0] = 110
  ·have hn : s[0].toNat = 110 := by rw [c110]; rfl
   rw [if_pos c110]; clear c110 hx hu; exact lv76
  rw [if_neg c110]
  by_cases c116 : s[0] = 116
  ·have hn : s[0].toNat = 116 := by rw [c116]; rfl
   rw [if_pos c116]; clear c116 hx hu; exact lv76
  rw [if_neg c116]
  by_cases c120 : s[0] = 120
  ·have hn : s[0].toNat = 120 := by rw [c120]; rfl
   rw [if_pos c120]; clear c120
   cases hv : hexN 2 0 (s.extract 1 s.size).data.toList with
   | none =>
    rw [hv] at hx; simp only [numR] at hx; clear hv; exact lv55
   | some v =>
    rw [hv] at hx; simp only [numR] at hx; have hlt := hexN_lt _ _ _ _ hv; clear hv
    by_cases hv : v < 128
    ·simp only []; rw [if_pos hv]; have g1 : (v : Int) < 128 := by omega
     exact lv55
    ·simp only []; rw [if_neg hv]; have g1 : 128 ≤ (v : Int) := by omega
     clear hv hlt; exact lv55
  rw [if_neg c120]
  by_cases c117 : s[0] = 117
  ·have hn : s[0].toNat = 117 := by rw [c117]; rfl
   rw [if_pos c117]; clear c117
   cases hv : hexN 4 0 (s.extract 1 s.size).data.toList with
   | none =>
    rw [hv] at hu; simp only [numR] at hu; clear hv; go_enter Tryz.func280, Tryz.ntmps280; go_wp2_with (go_at_call 311; refine (hu _).mono ?_; rintro e w' ⟨rfl, rfl⟩); go_ret2; exact ⟨rfl, rfl⟩
   | some v =>
    rw [hv] at hu; simp only [numR] at hu; have hlt := hexN_lt _ _ _ _ hv; clear hv; have hvr := fun wx => Tryz.utf8_ValidRune (v : Int) wx
    by_cases hv : Sc v
    ·simp only []; rw [if_pos hv]; have g1 : Lib.validRune (v : Int) = true := by unfold Sc at hv; simp [Lib.validRune]; omega
     exact lv35
    ·simp only []; rw [if_neg hv]; have g1 : Lib.validRune (v : Int) = false := by unfold Sc at hv; simp [Lib.validRune]; omega
     exact lv35
  rw [if_neg c117]; clear hx hu
  by_cases c9 : s[0] = 92 ∨ s[0] = 39 ∨ s[0] = 34
  ·rw [if_pos c9]
   rcases c9 with c | c | c
   all_goals
    rw [c]
    first | (have hn : s[0].toNat = 92 := by rw [c]; rfl) | (have hn : s[0].toNat = 39 := by rw [c]; rfl) | (have hn : s[0].toNat = 34 := by rw [c]; rfl)
    clear c; exact lv76
  ·rw [if_neg c9]; have ne : ∀ k : UInt8, s[0] ≠ k → s[0].toNat ≠ k.toNat := fun k h e => h (UInt8.toNat_inj.1 e)
   have d1 : ¬ s[0].toNat = 110 := ne 110 c110; have d2 : ¬ s[0].toNat = 116 := ne 116 c116; have d3 : ¬ s[0].toNat = 120 := ne 120 c120; have d4 : ¬ s[0].toNat = 117 := ne 117 c117; have d5 : ¬ s[0].toNat = 92 := ne 92 (fun h => c9 (Or.inl h)); have d6 : ¬ s[0].toNat = 39 := ne 39 (fun h => c9 (Or.inr (Or.inl h))); have d7 : ¬ s[0].toNat = 34 := ne 34 (fun h => c9 (Or.inr (Or.inr h))); clear ne c9 c110 c116 c117 c120; have hkl := s[0].toNat_lt; obtain ⟨k, hk⟩ : ∃ k, s[0].toNat = k := ⟨_, rfl⟩; rw [hk] at d1 d2 d3 d4 d5 d6 d7 hkl; have b1 : ((k : Int) == 110) = false := by simp; omega
   have b2 : ((k : Int) == 116) = false := by simp; omega
   have b3 : ((k : Int) == 120) = false := by simp; omega
   have b4 : ((k : Int) == 117) = false := by simp; omega
   have b5 : ((k : Int) == 92) = false := by simp; omega
   have b6 : ((k : Int) == 39) = false := by simp; omega
   have b7 : ((k : Int) == 34) = false := by simp; omega
   have hwr : wrap32 (k : Int) = k := by unfold wrap32; omega
   clear d1 d2 d3 d4 d5 d6 d7; exact lv76
end
end Go.Proofs.YtjndbcnmmnkilaaGreatDoor
namespace Go.Proofs
set_option linter.unusedVariables false
set_option linter.unusedSimpArgs false
set_option maxRecDepth 1000000
set_option maxHeartbeats 16000000
section
open Go.Shelf
def Tryz.layz240_ren : Go.Shelf.Ren := ⟨fun | 240 => 277 | 276 => 309 | n => n, fun | 0 => 0 | 4 => 4 | 5 => 5 | 9 => 9 | 20 => 20 | 37 => 22 | 70 => 70 | 72 => 72 | 164 => 212 | n => n, fun | n => n⟩
theorem Tryz.layz240 : Go.Proofs.Lays.n240 Tryz.prog Tryz.layz240_ren := {
 mixed := by kernel_rfl
 f240 := Tryz.func277.trans (congrArg some (by kernel_rfl))
 f276 := Tryz.func309.trans (congrArg some (by kernel_rfl))
 t0 := Tryz.underlying0
 a0 := Tryz.isAgg0
 z0 := Tryz.sizeOf0
 v0 := Tryz.zeroValue0
 t4 := Tryz.underlying4
 a4 := Tryz.isAgg4
 z4 := Tryz.sizeOf4
 v4 := Tryz.zeroValue4
 t9 := Tryz.underlying9
 a9 := Tryz.isAgg9
 z9 := Tryz.sizeOf9
 v9 := Tryz.zeroValue9
 t20 := Tryz.underlying20
 a20 := Tryz.isAgg20
 z20 := Tryz.sizeOf20
 v20 := Tryz.zeroValue20
 t70 := Tryz.underlying70
 a70 := Tryz.isAgg70
 z70 := Tryz.sizeOf70
 v70 := Tryz.zeroValue70
 t72 := Tryz.underlying72
 a72 := Tryz.isAgg72
 z72 := Tryz.sizeOf72
 v72 := Tryz.zeroValue72
 t164 := Tryz.underlying212
 a164 := Tryz.isAgg212
 z164 := Tryz.sizeOf212
 v164 := Tryz.zeroValue212 }
def Tryz.layz168_ren : Go.Shelf.Ren := ⟨fun | 168 => 281 | 240 => 277 | 242 => 313 | 276 => 309 | 278 => 327 | n => n, fun | 0 => 0 | 3 => 3 | 4 => 4 | 5 => 5 | 9 => 9 | 20 => 20 | 21 => 21 | 37 => 22 | 46 => 168 | 51 => 52 | 70 => 70 | 72 => 72 | 75 => 150 | 80 => 76 | 164 => 212 | n => n, fun | n => n⟩
theorem Tryz.layz168 : Go.Proofs.Lays.n168 Tryz.prog Tryz.layz168_ren := {
 mixed := by kernel_rfl
 f168 := Tryz.func281.trans (congrArg some (by kernel_rfl))
 f240 := Tryz.func277.trans (congrArg some (by kernel_rfl))
 f242 := Tryz.func313.trans (congrArg some (by kernel_rfl))
 f276 := Tryz.func309.trans (congrArg some (by kernel_rfl))
 f278 := Tryz.func327.trans (congrArg some (by kernel_rfl))
 t0 := Tryz.underlying0
 a0 := Tryz.isAgg0
 z0 := Tryz.sizeOf0
 v0 := Tryz.zeroValue0
 t3 := Tryz.underlying3
 a3 := Tryz.isAgg3
 z3 := Tryz.sizeOf3
 v3 := Tryz.zeroValue3
 t4 := Tryz.underlying4
 a4 := Tryz.isAgg4
 z4 := Tryz.sizeOf4
 v4 := Tryz.zeroValue4
 t5 := Tryz.underlying5
 a5 := Tryz.isAgg5
 z5 := Tryz.sizeOf5
 v5 := Tryz.zeroValue5
 t9 := Tryz.underlying9
 a9 := Tryz.isAgg9
 z9 := Tryz.sizeOf9
 v9 := Tryz.zeroValue9
 t20 := Tryz.underlying20
 a20 := Tryz.isAgg20
 z20 := Tryz.sizeOf20
 v20 := Tryz.zeroValue20
 t21 := Tryz.underlying21
 a21 := Tryz.isAgg21
 z21 := Tryz.sizeOf21
 v21 := Tryz.zeroValue21
 t37 := Tryz.underlying22
 a37 := Tryz.isAgg22
 z37 := Tryz.sizeOf22
 v37 := Tryz.zeroValue22
 t46 := Tryz.underlying168
 a46 := Tryz.isAgg168
 z46 := Tryz.sizeOf168
 v46 := Tryz.zeroValue168
 t51 := Tryz.underlying52
 a51 := Tryz.isAgg52
 z51 := Tryz.sizeOf52
 v51 := Tryz.zeroValue52
 t70 := Tryz.underlying70
 a70 := Tryz.isAgg70
 z70 := Tryz.sizeOf70
 v70 := Tryz.zeroValue70
 t72 := Tryz.underlying72
 a72 := Tryz.isAgg72
 z72 := Tryz.sizeOf72
 v72 := Tryz.zeroValue72
 t75 := Tryz.underlying150
 a75 := Tryz.isAgg150
 z75 := Tryz.sizeOf150
 v75 := Tryz.zeroValue150
 t164 := Tryz.underlying212
 a164 := Tryz.isAgg212
 z164 := Tryz.sizeOf212
 v164 := Tryz.zeroValue212 }
theorem Tryz.xtra168 : Builder.Extra Tryz.prog Tryz.layz168_ren := {
 sizeBuilder := by kernel_rfl
 liesBuilder := by kernel_rfl
 t5 := Tryz.underlying5
 a5 := Tryz.isAgg5
 z5 := Tryz.sizeOf5
 v5 := Tryz.zeroValue5
 infoByte := by kernel_rfl
 cellsByte := by kernel_rfl
 sizeByte := by kernel_rfl
 neB5 := by decide }
theorem Tryz.bWriteRune (B b : Nat) (bs : List Value) (r : Int) (hr0 : -2147483648 ≤ r) (hr1 : r ≤ 2147483647) (w : World) (h : Lib.IsBuilderF 72 5 B b bs w) (hlen : bs.length + 4 ≤ 140737488355328) (hBw : B ≤ w.heap.size) :
  Calls Tryz.prog 281 #[.pointer (some ⟨b, 0, none⟩), .int .i32 r] w fun e w' => e = .returned (.tuple #[.int .i64 (Lib.runeCells r).length, .nilIface]) ∧ (Lib.BuilderAtF 72 5 B b (.pointer (some ⟨b, 0, none⟩)) (bs ++ Lib.runeCells r) w' ∧ Go.RowKit.Below B w w' ∧ Lib.OthersKept 5 (some b) w w') := Any.Builder_WriteRune_k Tryz.layz168 Tryz.xtra168 B b bs r hr0 hr1 w h hlen hBw
end
end Go.Proofs
