/- Joined by a program: Pe22. -/
import Derived.Test.YtjndbcnmmnkilaaGreatDoorPF25
namespace Go.Proofs.YtjndbcnmmnkilaaGreatDoor
set_option linter.unusedVariables false
set_option linter.unusedSimpArgs false
set_option maxRecDepth 1000000
set_option maxHeartbeats 16000000
section
open Go.RowKit
open List (length_append length_cons length_nil length_singleton)
section
variable {wB nB gB : ByteArray → Bool} {nO : ByteArray → Option (List Int)} {e : Int} {p : Ps}
theorem isN_hd (e : Int) (l : List Tok) : isN l = ((hd e l).kind == 1) := by cases l <;> rfl
theorem isN_notS {s : ByteArray} {l : List Tok} (e : Int) (h : isN l = true) : isS e s l = false := by
 rw [isN_hd e] at h
 unfold isS
 rw [show (hd e l).kind = 1 by simpa using h]
 rfl
theorem ret6Q {X b bb lo x : Nat} {s : Bool × Bool} {w W : World} {l : List Tok} {T : Nd} {A K : Option Addr} {c d : Nat} (hk : Ke w.heap.size (Eb X b) w W) (hP : Pz e W X l) (hB : Bx3 X b s W) (hF : St (Pt Nn lo x W.heap.size) W T A c K d) (hb : w.heap.size ≤ bb) (hlo : bb < lo) (hXw : X < w.heap.size) (hbw : b + 2 < w.heap.size) {R : Rs ((Bool × Bool) × Nd)} (hR : R = .ok (s, T) l) {u0 u1 u2 u3 u4 u5 : Value} :
  RetQ e X b w R (.returned (ndV T A c K d)) ((((((W.setCell ⟨bb, 0, none⟩ u0).setCell ⟨bb, 1, none⟩ u1).setCell ⟨bb, 2, none⟩ u2).setCell ⟨bb, 3, none⟩ u3).setCell ⟨bb, 4, none⟩ u4).setCell ⟨bb, 5, none⟩ u5) := by
 refine .inr ⟨s, T, l, A, c, K, d, hR, rfl, hP.blocks fun k hk => bx_off lq17, hB.of fun k h1 h2 => bx_off lq17, ?_, (((((hk.set bb 0 u0 (.inl hb)).set bb 1 u1 (.inl hb)).set bb 2 u2 (.inl hb)).set bb 3 u3 (.inl hb)).set bb 4 u4 (.inl hb)).set bb 5 u5 (.inl hb)⟩
 refine hF.move (fun k q => bx_off ?_) fun k q => ?_
 ·rcases q with q | ⟨q, _⟩
  ·exact q.elim
  ·omega
 ·rw [bx_size]
  rcases q with q | ⟨q1, q2, _⟩
  ·exact .inl q
  ·exact .inr ⟨by omega, q2, by omega⟩
theorem retBadQ {X b : Nat} {w W : World} {R : Rs ((Bool × Bool) × Nd)} {cc a : Int} (hk : Ke w.heap.size (Eb X b) w W) (hR : R = .bad cc a) : RetQ e X b w R (.panicked [{ v := stopP cc a, recovered := false }]) W := .inl ⟨cc, a, hR, rfl, hk⟩
theorem Lf.get {α : Type} {x : Rs α} {n m : Nat} {a : α} {r : List Tok} (h : Lf n m x) (e : x = .ok a r) : r.length + m ≤ n := h a r e
def argsQ (nB : ByteArray → Bool) (e : Int) (p : Ps) (s : Bool × Bool) (l : List Tok) : Rs ((Bool × Bool) × Nd) :=
 if s.2 || (s.1 && !(isN l && isS e ⟨#[61]⟩ l.tail) && !isS e ⟨#[42, 42]⟩ l) then .bad 106 (hd e l).pos else
 if isS e ⟨#[42, 42]⟩ l then (p.qexpr l.tail).bind fun x r => .ok ((s.1, true), Nd.mk 40 (hd e l).pos ⟨#[]⟩ false [] [x]) r else
 if isN l && isS e ⟨#[61]⟩ l.tail then (tokN nB e l).bind fun t r => (p.qexpr r.tail).bind fun x r => .ok ((true, s.2), Nd.mk 52 (hd e l).pos t.text false [] [x]) r else
 (p.qexpr l).bind fun x r => .ok (s, x) r
def stOf (s : Bool × Bool) : Nat := if s.2 then 2 else if s.1 then 1 else 0
theorem args_eq (p : Ps) (s : Bool × Bool) (ks : List Nd) (l : List Tok) : s_args nB e p (stOf s) ks l = (argsQ nB e p s l).bind fun a r => if isS e ⟨#[44]⟩ r then (if begins e r.tail || isS e ⟨#[42, 42]⟩ r.tail then p.qargs (stOf a.1) (ks ++ [a.2]) r.tail else .ok (ks ++ [a.2]) r.tail) else .ok (ks ++ [a.2]) r := by
 obtain ⟨kw, sp⟩ := s
 unfold s_args argsQ
 generalize (isN l && isS e ⟨#[61]⟩ l.tail) = nm
 generalize isS e ⟨#[42, 42]⟩ l = ss
 cases kw <;> cases sp <;> cases nm <;> cases ss <;> simp [stOf, Rs.bind_assoc, Rs.bind_ok, Rs.bind_bad]
theorem args_more (p : Nat → Ps) (h0 : ∀ s ks l, (p 0).qargs s ks l = .oof) (hS : ∀ k s ks l, (p (k + 1)).qargs s ks l = s_args nB e (p k) s ks l) (hE : ∀ k l, Lf l.length 1 ((p k).qexpr l)) :
  MoreEq e (fun k => argsQ nB e (p k)) (fun _ l => begins e l || isS e ⟨#[42, 42]⟩ l) (fun k s ks l => (p k).qargs (stOf s) ks l) (fun _ => True) where
 zero := fun s ks l => h0 _ _ _
 more := fun k s ks l _ => (hS _ _ _ _).trans (args_eq _ _ _ _)
 ok := fun _ _ _ => trivial
 len := fun k s l a r h => by
  unfold argsQ at h
  split at h
  ·cases h
  split at h
  ·cases hx : (p k).qexpr l.tail with
   | ok x q =>
    rw [hx] at h; cases h; have := (hE k l.tail).get hx; have := List.length_tail (l := l)
    omega
   | bad c a => rw [hx] at h; cases h
   | oof => rw [hx] at h; cases h
  split at h
  ·cases ht : tokN nB e l with
   | ok t q =>
    rw [ht, Rs.bind_ok] at h; have h1 := Lf.tokN.get ht
    cases hx : (p k).qexpr q.tail with
    | ok x q2 =>
     rw [hx] at h; cases h; have := (hE k q.tail).get hx; have := List.length_tail (l := q)
     omega
    | bad c a => rw [hx] at h; cases h
    | oof => rw [hx] at h; cases h
   | bad c a => rw [ht] at h; cases h
   | oof => rw [ht] at h; cases h
  ·cases hx : (p k).qexpr l with
   | ok x q =>
    rw [hx] at h; cases h; have := (hE k l).get hx
    omega
   | bad c a => rw [hx] at h; cases h
   | oof => rw [hx] at h; cases h
theorem okT_drop {e : Int} {w : World} {X : Nat} {l : List Tok} (h : Pz e w X l) : OkT (hd e (l.drop 1)) := by
 cases l with
 | nil => exact h.hd
 | cons t r =>
  cases r with
  | nil => exact ⟨by simp [hd, I64], by obtain ⟨A, C, h⟩ := h; exact h.ie, by show (0 : Nat) ≤ 65536; omega⟩
  | cons t2 r => exact h.ok t2 lq18
theorem pArgs1_ok (hD : Deps wB nB gB nO) (hC : Cst wB) (HA : PA e p) (X b : Nat) (s : Bool × Bool) (l : List Tok) (w : World) (hP0 : Pz e w X l) (hB0 : Bx3 X b s w) (hbX : X < b) (hne : argsQ nB e p s l ≠ .oof) : Calls Tryz.prog 288 #[.pointer (some ⟨b, 0, none⟩), .pointer (some ⟨b + 2, 0, none⟩), .pointer (some ⟨b + 1, 0, none⟩)] w (RetQ e X b w (argsQ nB e p s l)) := by
 obtain ⟨R, hR⟩ : ∃ R, argsQ nB e p s l = R := ⟨_, rfl⟩
 simp only [hR] at hne ⊢
 unfold argsQ at hR
 obtain ⟨kw, sp⟩ := s
 dsimp only at hR
 have hxp_0 := hB0.p
 have hxa_0 := hB0.a
 have hxb_0 := hB0.b
 have hbl := hB0.lt
 clear hB0
 (try dsimp only at hxa_0 hxb_0)
 have hEX : Eb X b X := .inl rfl
 have q0 := cell_of_one hxp_0
 have q1 := cell_of_one hxa_0
 have q2 := cell_of_one hxb_0
 have htk := hP0.hd
 have hpos := htk.2.1
 have htk3 := htk.2.2
 have hts : (hd e l).text.size ≤ maxLen := by unfold maxLen; omega
 clear htk
 obtain ⟨tk, htk⟩ : ∃ tk, hd e (l.drop 1) = tk := ⟨_, rfl⟩
 have hOk : OkT tk := htk ▸ okT_drop hP0
 obtain ⟨nm, hnm⟩ : ∃ nm, (isN l && isS e ⟨#[61]⟩ l.tail) = nm := ⟨_, rfl⟩
 rw [hnm] at hR
 have hns : nm = true → isS e ⟨#[42, 42]⟩ l = false := fun h => isN_notS e (by rw [h, Bool.and_eq_true] at hnm; exact hnm.1)
 have hXl := hP0.lt
 have hk0 : Ke w.heap.size (Eb X b) w w := Ke.refl _ _ _
 have hz0 := hk0.size
 go_enter Tryz.func288, Tryz.ntmps288
 go_upto_region 1 with fail
 generalize hG : w.alloc zN = w1 at *
 obtain ⟨hb1, hxR_1, _⟩ := nb hG
 clear hG
 obtain ⟨hk1, _, _⟩ := kf hk0 hb1
 have hP1 := hP0.later hb1
 have hxp_1 := kb hb1 hxp_0
 have hxa_1 := kb hb1 hxa_0
 have hxb_1 := kb hb1 hxb_0
 clear q0 q1 q2
 have q0 := cell_of_one hxp_1
 have q1 := cell_of_one hxa_1
 have q2 := cell_of_one hxb_1
 go_wp2_with fail
 go_at_call 55
 refine (next_ok hP1).mono ?_
 rintro E w2 ⟨rfl, hq⟩
 obtain ⟨hk2, _, _⟩ := kf hk1 hq
 have hP2 := hP1.later hq
 have hxp_2 := kb hq hxp_1
 have hxa_2 := kb hq hxa_1
 have hxb_2 := kb hq hxb_1
 have hxR_2 := kb hq hxR_1
 clear q0 q1 q2
 have q0 := cell_of_one hxp_2
 have q1 := cell_of_one hxa_2
 have q2 := cell_of_one hxb_2
 unfold tokA
 go_upto_region 2 with fail
 generalize hG : w2.alloc (.cells #[.int .i64 (hd e l).kind, .string (hd e l).text, .int .i64 (hd e l).pos] 39) = w3 at *
 obtain ⟨hb3, hxt_3, _⟩ := nb hG
 clear hG
 obtain ⟨hk3, _, _⟩ := kf hk2 hb3
 have hP3 := hP2.later hb3
 have hxp_3 := kb hb3 hxp_2
 have hxa_3 := kb hb3 hxa_2
 have hxb_3 := kb hb3 hxb_2
 have hxR_3 := kb hb3 hxR_2
 clear q0 q1 q2
 have q0 := cell_of_one hxp_3
 have q1 := cell_of_one hxa_3
 have q2 := cell_of_one hxb_3
 go_cut [5] from 9 to 16 (fun v wx => v = .bool nm ∧ Hid (Pz e wx X l ∧ wx.heap[w.heap.size]? = some (.cells #[.int .i64 0, .int .i64 0, .string ⟨#[]⟩, .bool false, .slice none 0 0, .slice none 0 0] 29) ∧ wx.heap[w2.heap.size]? = some (.cells #[.int .i64 (hd e l).kind, .string (hd e l).text, .int .i64 (hd e l).pos] 39) ∧ Bx3 X b (kw, sp) wx ∧ Ke w.heap.size (Eb X b) w wx ∧ w3.heap.size ≤ wx.heap.size))
 case first =>
  obtain ⟨t0, t1, t2⟩ := bx_three hxt_3; have hkd := isN_hd e l
  by_cases h1 : (hd e l).kind = 1
  ·have o1 : ((hd e l).kind == 1) = true := by simp [h1]
   clear h1; go_wp2_with fail
   go_at_call 97
   refine (ahead_ok hP3 1 lq17).mono ?_
   rintro E w4 ⟨rfl, hq⟩; rw [htk]; obtain ⟨hk4, _, _⟩ := kf hk3 hq; have hP4 := hP3.later hq; have hxp_4 := kb hq hxp_3; have hxa_4 := kb hq hxa_3; have hxb_4 := kb hq hxb_3; have hxR_4 := kb hq hxR_3; have hxt_4 := kb hq hxt_3; clear q0 q1 q2; have q0 := cell_of_one hxp_4; have q1 := cell_of_one hxa_4; have q2 := cell_of_one hxb_4; clear t0 t1 t2; go_wp2_with fail
   go_at_call 240
   refine (same_ok hD tk _ _ hOk).mono ?_
   rintro E w5 ⟨rfl, hq⟩; obtain ⟨hk5, _, _⟩ := kf hk4 hq; have hP5 := hP4.later hq; have hxp_5 := kb hq hxp_4; have hxa_5 := kb hq hxa_4; have hxb_5 := kb hq hxb_4; have hxR_5 := kb hq hxR_4; have hxt_5 := kb hq hxt_4; clear q0 q1 q2; have q0 := cell_of_one hxp_5; have q1 := cell_of_one hxa_5; have q2 := cell_of_one hxb_5; have hsv : sameB wB tk ⟨#[61]⟩ = nm := by rw [← htk, sameS hC.s_3d, ← hnm, hkd, o1, Bool.true_and, List.drop_one]
   rw [hsv]; have HE := Lh (show _ ∧ _ ∧ _ ∧ _ ∧ _ from ⟨hP5, hxR_5, hxt_5, (⟨hxp_5, hxa_5, hxb_5⟩ : Bx3 X b (kw, sp) _), hk5⟩); go_wp2_with fail
   go_meet
   case rel => exact ⟨rfl, Lh ⟨HE.out.1, HE.out.2.1, HE.out.2.2.1, HE.out.2.2.2.1, HE.out.2.2.2.2, by omega⟩⟩
  ·have o1 : ((hd e l).kind == 1) = false := by simp [h1]
   have hsv : nm = false := by rw [← hnm, hkd, o1, Bool.false_and]
   clear h1; have HE := Lh (show _ ∧ _ ∧ _ ∧ _ ∧ _ from ⟨hP3, hxR_3, hxt_3, (⟨hxp_3, hxa_3, hxb_3⟩ : Bx3 X b (kw, sp) _), hk3⟩); go_wp2_with fail
   go_meet
   case rel => exact ⟨by rw [hsv], Lh ⟨HE.out.1, HE.out.2.1, HE.out.2.2.1, HE.out.2.2.2.1, HE.out.2.2.2.2, by omega⟩⟩
 case rest =>
  obtain ⟨rfl, hH⟩ := hcut; obtain ⟨hP10, hxR_10, hxt_10, hB10, hk10, hz10w⟩ := hH.out; have hxp_10 := hB10.p; have hxa_10 := hB10.a; have hxb_10 := hB10.b
  (try dsimp only at hxa_10 hxb_10)
  have hz10 := hk10.size; clear hH hB10 q0 q1 q2 hxp_3 hxa_3 hxb_3 hxR_3 hxt_3 hP3 hk3; have q0 := cell_of_one hxp_10; have q1 := cell_of_one hxa_10; have q2 := cell_of_one hxb_10
  cases sp with
  | true =>
   simp only [Bool.true_or, if_true] at hR; go_wp2_with fail
   go_at_call 182
   refine (wrong_ok hP10).mono ?_
   rintro E w11 ⟨rfl, hq⟩; go_wp2_with fail; exact ⟨rfl, retBadQ (hk10.below (Nat.le_refl _) hq) hR.symm⟩
  | false =>
   simp only [Bool.false_or] at hR
   cases kw with
   | false =>
    simp only [Bool.false_and, Bool.false_eq_true, if_false] at hR; go_wp2_with fail
    go_at_call 98
    refine (takeS_ok hD hC.s_2a2a hP10).mono ?_
    rintro E w11 hE
    rcases hE with ⟨hv, rfl, hP11, hq⟩ | ⟨hv, rfl, hP11, hq⟩
    ·simp only [hv, if_true, yO, yA] at hR; obtain ⟨hk11, hs11, hz11⟩ := ke hk10 hq hEX; have hxp_11 := kx hq hxp_10; have hxa_11 := kx hq hxa_10; have hxb_11 := kx hq hxb_10; have hxR_11 := kx hq hxR_10; have hxt_11 := kx hq hxt_10; clear q0 q1 q2; have q0 := cell_of_one hxp_11; have q1 := cell_of_one hxa_11; have q2 := cell_of_one hxb_11; have z := free_of_one hxb_11
     go_upto_region 7 with fail
     clear z; have hxb_12 := one_setCell (u := .bool true) hxb_11; have hxp_12 := (bx_off1 (b := (b + 2)) (i := 0) (u := .bool true) lq17).trans hxp_11; have hxa_12 := (bx_off1 (b := (b + 2)) (i := 0) (u := .bool true) lq17).trans hxa_11; have hxR_12 := (bx_off1 (b := (b + 2)) (i := 0) (u := .bool true) lq17).trans hxR_11; have hxt_12 := (bx_off1 (b := (b + 2)) (i := 0) (u := .bool true) lq17).trans hxt_11; have hk12 := hk11.set (b + 2) 0 (.bool true) (.inr (.inr (.inr rfl))); have hP12 := hP11.blocks (fun k hk => bx_off1 (b := (b + 2)) (i := 0) (u := .bool true) lq17)
     have hs12 : w11.heap.size ≤ (w11.setCell ⟨b + 2, 0, none⟩ (.bool true)).heap.size := by simp [World.setCell]
     have hz12 := hk12.size
     generalize w11.setCell ⟨b + 2, 0, none⟩ (.bool true) = w12 at *
     clear q0 q1 q2 hxp_11 hxa_11 hxb_11 hxR_11 hxt_11 hP11; have q0 := cell_of_one hxp_12; have q1 := cell_of_one hxa_12; have q2 := cell_of_one hxb_12; have n1 := Rs.ne_of hR hne
     refine region_anyZ (fun W => W.heap[w2.heap.size]? = some (.cells #[.int .i64 (hd e l).kind, .string (hd e l).text, .int .i64 (hd e l).pos] 39) ∧ W.heap[b]? = some (.cells #[.pointer (some ⟨X, 0, none⟩)] 56)) 6 lq15 ?_
     refine zt 0 (.pointer (some ⟨w2.heap.size, 2, none⟩)) rfl (Or.inl ⟨by rfl, ?_⟩) ⟨hxt_12, hxp_12⟩ ?_
     ·exact lv49
     try simp only [Act.put, xA, xB, xC]
     refine zt 1 (.int .i64 (hd e l).pos) rfl (Or.inl ⟨by rfl, ?_⟩) ⟨hxt_12, hxp_12⟩ ?_
     ·exact lv49
     try simp only [Act.put, xA, xB, xC]
     refine zt 2 (.pointer (some ⟨X, 0, none⟩)) rfl (Or.inl ⟨by rfl, ?_⟩) ⟨hxt_12, hxp_12⟩ ?_
     ·exact lv49
     try simp only [Act.put, xA, xB, xC]
     refine zo 3 rfl fun K hK => ?_
     go_simp
     go_at_call 100
     refine (HA.pexpr X _ _ (hP12.later (bl_drew (Below.refl _ _))) n1).mono ?_
     rintro E w13 hE
     rcases hE with ⟨cc, aa, hv, rfl, hq⟩ | ⟨T1, l1, A1, c1, K1, d1, hv, rfl, hP13, hF1_13, hq⟩
     ·rw [hv] at hR; exact ⟨rfl, retBadQ (hk12.callK (Nat.le_refl _) (kp_undrew hq) hEX) hR.symm⟩
     rw [hv] at hR; simp only [yO, yA] at hR; clear hv n1; have hq := kp_undrew hq; have hdr13 : w12.drew.heap.size = w12.heap.size := rfl; have hF1_13 := hF1_13.intoN (P := Nn) (lo := w3.heap.size) (x := X) lq17 lq17; obtain ⟨hk13, hs13, hz13⟩ := ke hk12 hq hEX; have hxp_13 := kx hq hxp_12; have hxa_13 := kx hq hxa_12; have hxb_13 := kx hq hxb_12; have hxR_13 := kx hq hxR_12; have hxt_13 := kx hq hxt_12; clear q0 q1 q2; have q0 := cell_of_one hxp_13; have q1 := cell_of_one hxa_13; have q2 := cell_of_one hxb_13; unfold ndV
     refine hK.out _ _ (fun _ => ⟨hxt_13, hxp_13⟩) ?_
     clear hK K
     try simp only [Act.put, xA, xB, xC]
     refine zo 4 rfl fun K hK => ?_
     go_simp
     have hro := row_made (P := Nn) (lo := w3.heap.size) (x := X) (X := X) w13 [⟨T1, A1, c1, K1, d1⟩] #[.int .i64 T1.kind, .int .i64 T1.pos, .string T1.text, .bool T1.neg, .slice A1 T1.mag.length c1, .slice K1 T1.kids.length d1] 1 rfl rfl lq17 lq17 lq16 (Old.nn X _) (by
      intro q hq; simp only [List.mem_cons, List.not_mem_nil, or_false] at hq
      rcases hq with rfl <;> assumption)
     generalize hG : w13.alloc (oN T1 A1 c1 K1 d1) = w14 at *
     obtain ⟨hb14, _, _⟩ := nb hG; clear hG; obtain ⟨hk14, hs14, hz14⟩ := kf hk13 hb14; have hP14 := hP13.later hb14; have hxp_14 := kb hb14 hxp_13; have hxa_14 := kb hb14 hxa_13; have hxb_14 := kb hb14 hxb_13; have hxR_14 := kb hb14 hxR_13; have hxt_14 := kb hb14 hxt_13; have hF1_14 := hF1_13.later hb14 (Old.nn X _); clear q0 q1 q2; have q0 := cell_of_one hxp_14; have q1 := cell_of_one hxa_14; have q2 := cell_of_one hxb_14
     refine hK.out _ _ (fun _ => ⟨hxt_14, hxp_14⟩) ?_
     clear hK K
     try simp only [Act.put, xA, xB, xC]
     have hFz_14 := hro.node (k := 40) (p := (hd e l).pos) (t := ⟨#[]⟩) ⟨by decide, by decide⟩ hpos lq16 false; clear hro
     refine zo 5 rfl fun K hK => ?_
     go_simp
     go_at_call 54
     refine (node_okA _ _ _ _ _ _ _).mono ?_
     rintro E w15 ⟨rfl, hq⟩; obtain ⟨hk15, hs15, hz15⟩ := kf hk14 hq; have hP15 := hP14.later hq; have hxp_15 := kb hq hxp_14; have hxa_15 := kb hq hxa_14; have hxb_15 := kb hq hxb_14; have hxR_15 := kb hq hxR_14; have hxt_15 := kb hq hxt_14; have hF1_15 := hF1_14.later hq (Old.nn X _); have hFz_15 := hFz_14.later hq (Old.nn X _); clear q0 q1 q2; have q0 := cell_of_one hxp_15; have q1 := cell_of_one hxa_15; have q2 := cell_of_one hxb_15
     refine hK.out _ _ (fun _ => ⟨hxt_15, hxp_15⟩) ?_
     clear hK K
     try simp only [Act.put, xA, xB, xC]
     obtain ⟨k0, k1, k2, k3, k4, k5⟩ := bx_cells hxR_15; have z := Lib.frozen_of_heap hxR_15
     refine zo 6 rfl fun K hK => ?_
     go_simp
     refine hK.out _ _ (fun h => absurd rfl h) ?_
     clear hK K k0 k1 k2 k3 k4 k5 z
     try simp only [Act.put, xA, xB, xC]
     refine anyZ_end lq15 ?_ _
     have HE := Lh (show _ ∧ _ ∧ _ ∧ _ from ⟨hk15, hP15, (⟨hxp_15, hxa_15, hxb_15⟩ : Bx3 X b (false, true) _), hFz_15⟩); obtain ⟨r0, r1, r2, r3, r4, r5⟩ := bp hxR_15 (.int .i64 40) (.int .i64 ((hd e l).pos)) (.string ⟨#[]⟩) (.bool false) (.slice none 0 0) (.slice (some ⟨w13.heap.size, 0, none⟩) 1 1); clear q0 q1 q2 hxp_15 hxa_15 hxb_15 hxR_15 hxt_15 hF1_15 hFz_15 hk15 hP15; go_wp2_with fail
     refine bodyPost_ret (v := .agg #[.int .i64 40, .int .i64 ((hd e l).pos), .string ⟨#[]⟩, .bool false, .slice none 0 0, .slice (some ⟨w13.heap.size, 0, none⟩) 1 1]) lq7 rfl ?_
     exact lv71
    ·simp only [hv, yF, if_false, yO, yA] at hR; obtain ⟨hk11, hs11, hz11⟩ := ke hk10 hq hEX; have hxp_11 := kx hq hxp_10; have hxa_11 := kx hq hxa_10; have hxb_11 := kx hq hxb_10; have hxR_11 := kx hq hxR_10; have hxt_11 := kx hq hxt_10; clear q0 q1 q2; have q0 := cell_of_one hxp_11; have q1 := cell_of_one hxa_11; have q2 := cell_of_one hxb_11
     cases nm with
     | true =>
      simp only [if_true] at hR; have z := free_of_one hxa_11
      go_upto_region 10 with fail
      clear z; have hxa_12 := one_setCell (u := .bool true) hxa_11; have hxp_12 := (bx_off1 (b := (b + 1)) (i := 0) (u := .bool true) lq17).trans hxp_11; have hxb_12 := (bx_off1 (b := (b + 1)) (i := 0) (u := .bool true) lq17).trans hxb_11; have hxR_12 := (bx_off1 (b := (b + 1)) (i := 0) (u := .bool true) lq17).trans hxR_11; have hxt_12 := (bx_off1 (b := (b + 1)) (i := 0) (u := .bool true) lq17).trans hxt_11; have hk12 := hk11.set (b + 1) 0 (.bool true) (.inr (.inr (.inl rfl))); have hP12 := hP11.blocks (fun k hk => bx_off1 (b := (b + 1)) (i := 0) (u := .bool true) lq17)
      have hs12 : w11.heap.size ≤ (w11.setCell ⟨b + 1, 0, none⟩ (.bool true)).heap.size := by simp [World.setCell]
      have hz12 := hk12.size
      generalize w11.setCell ⟨b + 1, 0, none⟩ (.bool true) = w12 at *
      clear q0 q1 q2 hxp_11 hxa_11 hxb_11 hxR_11 hxt_11 hP11; have q0 := cell_of_one hxp_12; have q1 := cell_of_one hxa_12; have q2 := cell_of_one hxb_12; go_wp2_with fail
      go_at_call 184
      refine (name_ok hD hP12).mono ?_
      rintro E w13 hE
      rcases hE with ⟨hv, rfl, hP13, hq⟩ | ⟨hv, rfl, hq⟩
      rotate_left 1
      ·rw [hv] at hR; simp only [Rs.bind_bad] at hR; go_wp2_with fail; exact ⟨rfl, retBadQ (hk12.callK (Nat.le_refl _) hq hEX) hR.symm⟩
      rw [hv] at hR; simp only [yO, yA] at hR; clear hv; obtain ⟨hk13, hs13, hz13⟩ := ke hk12 hq hEX; have hxp_13 := kx hq hxp_12; have hxa_13 := kx hq hxa_12; have hxb_13 := kx hq hxb_12; have hxR_13 := kx hq hxR_12; have hxt_13 := kx hq hxt_12; clear q0 q1 q2; have q0 := cell_of_one hxp_13; have q1 := cell_of_one hxa_13; have q2 := cell_of_one hxb_13; have F1_13 := tfield1 (hd e l).kind (hd e l).text (hd e l).pos; unfold tokA; go_wp2_with fail
      go_at_call 177
      refine (pass_ok hP13).mono ?_
      rintro E w14 ⟨rfl, hP14, hq⟩; obtain ⟨hk14, hs14, hz14⟩ := ke hk13 hq hEX; have hxp_14 := kx hq hxp_13; have hxa_14 := kx hq hxa_13; have hxb_14 := kx hq hxb_13; have hxR_14 := kx hq hxR_13; have hxt_14 := kx hq hxt_13; clear q0 q1 q2; have q0 := cell_of_one hxp_14; have q1 := cell_of_one hxa_14; have q2 := cell_of_one hxb_14; unfold tokA; have n1 := Rs.ne_of hR hne
      go_upto_region 12 with fail
      refine region_anyZ (fun W => W.heap[w2.heap.size]? = some (.cells #[.int .i64 (hd e l).kind, .string (hd e l).text, .int .i64 (hd e l).pos] 39) ∧ W.heap[b]? = some (.cells #[.pointer (some ⟨X, 0, none⟩)] 56)) 7 lq15 ?_
      refine zt 0 (.pointer (some ⟨w2.heap.size, 2, none⟩)) rfl (Or.inl ⟨by rfl, ?_⟩) ⟨hxt_14, hxp_14⟩ ?_
      ·exact lv49
      try simp only [Act.put, xA, xB, xC]
      refine zt 1 (.int .i64 (hd e l).pos) rfl (Or.inl ⟨by rfl, ?_⟩) ⟨hxt_14, hxp_14⟩ ?_
      ·exact lv49
      try simp only [Act.put, xA, xB, xC]
      refine zt 2 (.string (hd e l).text) rfl (Or.inl ⟨by rfl, ?_⟩) ⟨hxt_14, hxp_14⟩ ?_
      ·exact lv49
      try simp only [Act.put, xA, xB, xC]
      refine zt 3 (.pointer (some ⟨X, 0, none⟩)) rfl (Or.inl ⟨by rfl, ?_⟩) ⟨hxt_14, hxp_14⟩ ?_
      ·exact lv49
      try simp only [Act.put, xA, xB, xC]
      refine zo 4 rfl fun K hK => ?_
      go_simp
      go_at_call 100
      refine (HA.pexpr X _ _ (hP14.later (bl_drew (Below.refl _ _))) n1).mono ?_
      rintro E w15 hE
      rcases hE with ⟨cc, aa, hv, rfl, hq⟩ | ⟨T1, l1, A1, c1, K1, d1, hv, rfl, hP15, hF1_15, hq⟩
      ·rw [hv] at hR; exact ⟨rfl, retBadQ (hk14.callK (Nat.le_refl _) (kp_undrew hq) hEX) hR.symm⟩
      rw [hv] at hR; simp only [yO, yA] at hR; clear hv n1; have hq := kp_undrew hq; have hdr15 : w14.drew.heap.size = w14.heap.size := rfl; have hF1_15 := hF1_15.intoN (P := Nn) (lo := w3.heap.size) (x := X) lq17 lq17; obtain ⟨hk15, hs15, hz15⟩ := ke hk14 hq hEX; have hxp_15 := kx hq hxp_14; have hxa_15 := kx hq hxa_14; have hxb_15 := kx hq hxb_14; have hxR_15 := kx hq hxR_14; have hxt_15 := kx hq hxt_14; clear q0 q1 q2; have q0 := cell_of_one hxp_15; have q1 := cell_of_one hxa_15; have q2 := cell_of_one hxb_15; unfold ndV
      refine hK.out _ _ (fun _ => ⟨hxt_15, hxp_15⟩) ?_
      clear hK K
      try simp only [Act.put, xA, xB, xC]
      refine zo 5 rfl fun K hK => ?_
      go_simp
      have hro := row_made (P := Nn) (lo := w3.heap.size) (x := X) (X := X) w15 [⟨T1, A1, c1, K1, d1⟩] #[.int .i64 T1.kind, .int .i64 T1.pos, .string T1.text, .bool T1.neg, .slice A1 T1.mag.length c1, .slice K1 T1.kids.length d1] 1 rfl rfl lq17 lq17 lq16 (Old.nn X _) (by
       intro q hq; simp only [List.mem_cons, List.not_mem_nil, or_false] at hq
       rcases hq with rfl <;> assumption)
      generalize hG : w15.alloc (oN T1 A1 c1 K1 d1) = w16 at *
      obtain ⟨hb16, _, hse16⟩ := nb hG; clear hG; obtain ⟨hk16, hs16, hz16⟩ := kf hk15 hb16; have hP16 := hP15.later hb16; have hxp_16 := kb hb16 hxp_15; have hxa_16 := kb hb16 hxa_15; have hxb_16 := kb hb16 hxb_15; have hxR_16 := kb hb16 hxR_15; have hxt_16 := kb hb16 hxt_15; have hF1_16 := hF1_15.later hb16 (Old.nn X _); clear q0 q1 q2; have q0 := cell_of_one hxp_16; have q1 := cell_of_one hxa_16; have q2 := cell_of_one hxb_16
      refine hK.out _ _ (fun _ => ⟨hxt_16, hxp_16⟩) ?_
      clear hK K
      try simp only [Act.put, xA, xB, xC]
      have hFz_16 := hro.node (k := 52) (p := (hd e l).pos) (t := (hd e l).text) ⟨by decide, by decide⟩ hpos hts false; clear hro
      refine zo 6 rfl fun K hK => ?_
      go_simp
      go_at_call 54
      refine (node_okA _ _ _ _ _ _ _).mono ?_
      rintro E w17 ⟨rfl, hq⟩; obtain ⟨hk17, hs17, hz17⟩ := kf hk16 hq; have hP17 := hP16.later hq; have hxp_17 := kb hq hxp_16; have hxa_17 := kb hq hxa_16; have hxb_17 := kb hq hxb_16; have hxR_17 := kb hq hxR_16; have hxt_17 := kb hq hxt_16; have hF1_17 := hF1_16.later hq (Old.nn X _); have hFz_17 := hFz_16.later hq (Old.nn X _); clear q0 q1 q2; have q0 := cell_of_one hxp_17; have q1 := cell_of_one hxa_17; have q2 := cell_of_one hxb_17
      refine hK.out _ _ (fun _ => ⟨hxt_17, hxp_17⟩) ?_
      clear hK K
      try simp only [Act.put, xA, xB, xC]
      obtain ⟨k0, k1, k2, k3, k4, k5⟩ := bx_cells hxR_17; have z := Lib.frozen_of_heap hxR_17
      refine zo 7 rfl fun K hK => ?_
      go_simp
      refine hK.out _ _ (fun h => absurd rfl h) ?_
      clear hK K k0 k1 k2 k3 k4 k5 z
      try simp only [Act.put, xA, xB, xC]
      exact lv17
     | false =>
      simp only [Bool.false_eq_true, if_false] at hR; have n1 := Rs.ne_of hR hne; go_wp2_with fail
      go_at_call 100
      refine (HA.pexpr X _ _ hP11 n1).mono ?_
      rintro E w12 hE
      rcases hE with ⟨cc, aa, hv, rfl, hq⟩ | ⟨T1, l1, A1, c1, K1, d1, hv, rfl, hP12, hF1_12, hq⟩
      ·rw [hv] at hR; go_wp2_with fail; exact ⟨rfl, retBadQ (hk11.callK (Nat.le_refl _) hq hEX) hR.symm⟩
      rw [hv] at hR; simp only [yO, yA] at hR; clear hv n1; have hF1_12 := hF1_12.intoN (P := Nn) (lo := w3.heap.size) (x := X) lq17 lq17; obtain ⟨hk12, hs12, hz12⟩ := ke hk11 hq hEX; have hxp_12 := kx hq hxp_11; have hxa_12 := kx hq hxa_11; have hxb_12 := kx hq hxb_11; have hxR_12 := kx hq hxR_11; have hxt_12 := kx hq hxt_11; clear q0 q1 q2; have q0 := cell_of_one hxp_12; have q1 := cell_of_one hxa_12; have q2 := cell_of_one hxb_12; unfold ndV; obtain ⟨k0, k1, k2, k3, k4, k5⟩ := bx_cells hxR_12; have z := Lib.frozen_of_heap hxR_12
      have HE := Lh (show _ ∧ _ ∧ _ ∧ _ from ⟨hk12, hP12, (⟨hxp_12, hxa_12, hxb_12⟩ : Bx3 X b (false, false) _), hF1_12⟩); obtain ⟨r0, r1, r2, r3, r4, r5⟩ := bp hxR_12 (.int .i64 T1.kind) (.int .i64 T1.pos) (.string T1.text) (.bool T1.neg) (.slice A1 T1.mag.length c1) (.slice K1 T1.kids.length d1); clear q0 q1 q2 hxp_12 hxa_12 hxb_12 hxR_12 hxt_12 hF1_12 hk12 hP12; go_wp2_with fail
      refine bodyPost_ret (v := .agg #[.int .i64 T1.kind, .int .i64 T1.pos, .string T1.text, .bool T1.neg, .slice A1 T1.mag.length c1, .slice K1 T1.kids.length d1]) lq7 rfl ?_
      exact lv71
   | true =>
    cases nm with
    | true =>
     have hnsT := hns rfl; clear hns; simp only [Bool.not_true, Bool.and_false, Bool.false_and, Bool.false_eq_true, if_false, hnsT, if_true] at hR; go_wp2_with fail
     go_at_call 98
     refine (takeS_ok hD hC.s_2a2a hP10).mono ?_
     rintro E w11 hE
     rcases hE with ⟨hv, rfl, hP11, hq⟩ | ⟨hv, rfl, hP11, hq⟩
     ·exact absurd (hnsT.symm.trans hv) lq16
     clear hv; obtain ⟨hk11, hs11, hz11⟩ := ke hk10 hq hEX; have hxp_11 := kx hq hxp_10; have hxa_11 := kx hq hxa_10; have hxb_11 := kx hq hxb_10; have hxR_11 := kx hq hxR_10; have hxt_11 := kx hq hxt_10; clear q0 q1 q2; have q0 := cell_of_one hxp_11; have q1 := cell_of_one hxa_11; have q2 := cell_of_one hxb_11; have z := free_of_one hxa_11
     go_upto_region 10 with fail
     clear z; have hxa_12 := one_setCell (u := .bool true) hxa_11; have hxp_12 := (bx_off1 (b := (b + 1)) (i := 0) (u := .bool true) lq17).trans hxp_11; have hxb_12 := (bx_off1 (b := (b + 1)) (i := 0) (u := .bool true) lq17).trans hxb_11; have hxR_12 := (bx_off1 (b := (b + 1)) (i := 0) (u := .bool true) lq17).trans hxR_11; have hxt_12 := (bx_off1 (b := (b + 1)) (i := 0) (u := .bool true) lq17).trans hxt_11; have hk12 := hk11.set (b + 1) 0 (.bool true) (.inr (.inr (.inl rfl))); have hP12 := hP11.blocks (fun k hk => bx_off1 (b := (b + 1)) (i := 0) (u := .bool true) lq17)
     have hs12 : w11.heap.size ≤ (w11.setCell ⟨b + 1, 0, none⟩ (.bool true)).heap.size := by simp [World.setCell]
     have hz12 := hk12.size
     generalize w11.setCell ⟨b + 1, 0, none⟩ (.bool true) = w12 at *
     clear q0 q1 q2 hxp_11 hxa_11 hxb_11 hxR_11 hxt_11 hP11; have q0 := cell_of_one hxp_12; have q1 := cell_of_one hxa_12; have q2 := cell_of_one hxb_12; go_wp2_with fail
     go_at_call 184
     refine (name_ok hD hP12).mono ?_
     rintro E w13 hE
     rcases hE with ⟨hv, rfl, hP13, hq⟩ | ⟨hv, rfl, hq⟩
     rotate_left 1
     ·rw [hv] at hR; simp only [Rs.bind_bad] at hR; go_wp2_with fail; exact ⟨rfl, retBadQ (hk12.callK (Nat.le_refl _) hq hEX) hR.symm⟩
     rw [hv] at hR; simp only [yO, yA] at hR; clear hv; obtain ⟨hk13, hs13, hz13⟩ := ke hk12 hq hEX; have hxp_13 := kx hq hxp_12; have hxa_13 := kx hq hxa_12; have hxb_13 := kx hq hxb_12; have hxR_13 := kx hq hxR_12; have hxt_13 := kx hq hxt_12; clear q0 q1 q2; have q0 := cell_of_one hxp_13; have q1 := cell_of_one hxa_13; have q2 := cell_of_one hxb_13; have F1_13 := tfield1 (hd e l).kind (hd e l).text (hd e l).pos; unfold tokA; go_wp2_with fail
     go_at_call 177
     refine (pass_ok hP13).mono ?_
     rintro E w14 ⟨rfl, hP14, hq⟩; obtain ⟨hk14, hs14, hz14⟩ := ke hk13 hq hEX; have hxp_14 := kx hq hxp_13; have hxa_14 := kx hq hxa_13; have hxb_14 := kx hq hxb_13; have hxR_14 := kx hq hxR_13; have hxt_14 := kx hq hxt_13; clear q0 q1 q2; have q0 := cell_of_one hxp_14; have q1 := cell_of_one hxa_14; have q2 := cell_of_one hxb_14; unfold tokA; have n1 := Rs.ne_of hR hne
     go_upto_region 12 with fail
     refine region_anyZ (fun W => W.heap[w2.heap.size]? = some (.cells #[.int .i64 (hd e l).kind, .string (hd e l).text, .int .i64 (hd e l).pos] 39) ∧ W.heap[b]? = some (.cells #[.pointer (some ⟨X, 0, none⟩)] 56)) 7 lq15 ?_
     refine zt 0 (.pointer (some ⟨w2.heap.size, 2, none⟩)) rfl (Or.inl ⟨by rfl, ?_⟩) ⟨hxt_14, hxp_14⟩ ?_
     ·exact lv49
     try simp only [Act.put, xA, xB, xC]
     refine zt 1 (.int .i64 (hd e l).pos) rfl (Or.inl ⟨by rfl, ?_⟩) ⟨hxt_14, hxp_14⟩ ?_
     ·exact lv49
     try simp only [Act.put, xA, xB, xC]
     refine zt 2 (.string (hd e l).text) rfl (Or.inl ⟨by rfl, ?_⟩) ⟨hxt_14, hxp_14⟩ ?_
     ·exact lv49
     try simp only [Act.put, xA, xB, xC]
     refine zt 3 (.pointer (some ⟨X, 0, none⟩)) rfl (Or.inl ⟨by rfl, ?_⟩) ⟨hxt_14, hxp_14⟩ ?_
     ·exact lv49
     try simp only [Act.put, xA, xB, xC]
     refine zo 4 rfl fun K hK => ?_
     go_simp
     go_at_call 100
     refine (HA.pexpr X _ _ (hP14.later (bl_drew (Below.refl _ _))) n1).mono ?_
     rintro E w15 hE
     rcases hE with ⟨cc, aa, hv, rfl, hq⟩ | ⟨T1, l1, A1, c1, K1, d1, hv, rfl, hP15, hF1_15, hq⟩
     ·rw [hv] at hR; exact ⟨rfl, retBadQ (hk14.callK (Nat.le_refl _) (kp_undrew hq) hEX) hR.symm⟩
     rw [hv] at hR; simp only [yO, yA] at hR; clear hv n1; have hq := kp_undrew hq; have hdr15 : w14.drew.heap.size = w14.heap.size := rfl; have hF1_15 := hF1_15.intoN (P := Nn) (lo := w3.heap.size) (x := X) lq17 lq17; obtain ⟨hk15, hs15, hz15⟩ := ke hk14 hq hEX; have hxp_15 := kx hq hxp_14; have hxa_15 := kx hq hxa_14; have hxb_15 := kx hq hxb_14; have hxR_15 := kx hq hxR_14; have hxt_15 := kx hq hxt_14; clear q0 q1 q2; have q0 := cell_of_one hxp_15; have q1 := cell_of_one hxa_15; have q2 := cell_of_one hxb_15; unfold ndV
     refine hK.out _ _ (fun _ => ⟨hxt_15, hxp_15⟩) ?_
     clear hK K
     try simp only [Act.put, xA, xB, xC]
     refine zo 5 rfl fun K hK => ?_
     go_simp
     have hro := row_made (P := Nn) (lo := w3.heap.size) (x := X) (X := X) w15 [⟨T1, A1, c1, K1, d1⟩] #[.int .i64 T1.kind, .int .i64 T1.pos, .string T1.text, .bool T1.neg, .slice A1 T1.mag.length c1, .slice K1 T1.kids.length d1] 1 rfl rfl lq17 lq17 lq16 (Old.nn X _) (by
      intro q hq; simp only [List.mem_cons, List.not_mem_nil, or_false] at hq
      rcases hq with rfl <;> assumption)
     generalize hG : w15.alloc (oN T1 A1 c1 K1 d1) = w16 at *
     obtain ⟨hb16, _, hse16⟩ := nb hG; clear hG; obtain ⟨hk16, hs16, hz16⟩ := kf hk15 hb16; have hP16 := hP15.later hb16; have hxp_16 := kb hb16 hxp_15; have hxa_16 := kb hb16 hxa_15; have hxb_16 := kb hb16 hxb_15; have hxR_16 := kb hb16 hxR_15; have hxt_16 := kb hb16 hxt_15; have hF1_16 := hF1_15.later hb16 (Old.nn X _); clear q0 q1 q2; have q0 := cell_of_one hxp_16; have q1 := cell_of_one hxa_16; have q2 := cell_of_one hxb_16
     refine hK.out _ _ (fun _ => ⟨hxt_16, hxp_16⟩) ?_
     clear hK K
     try simp only [Act.put, xA, xB, xC]
     have hFz_16 := hro.node (k := 52) (p := (hd e l).pos) (t := (hd e l).text) ⟨by decide, by decide⟩ hpos hts false; clear hro
     refine zo 6 rfl fun K hK => ?_
     go_simp
     go_at_call 54
     refine (node_okA _ _ _ _ _ _ _).mono ?_
     rintro E w17 ⟨rfl, hq⟩; obtain ⟨hk17, hs17, hz17⟩ := kf hk16 hq; have hP17 := hP16.later hq; have hxp_17 := kb hq hxp_16; have hxa_17 := kb hq hxa_16; have hxb_17 := kb hq hxb_16; have hxR_17 := kb hq hxR_16; have hxt_17 := kb hq hxt_16; have hF1_17 := hF1_16.later hq (Old.nn X _); have hFz_17 := hFz_16.later hq (Old.nn X _); clear q0 q1 q2; have q0 := cell_of_one hxp_17; have q1 := cell_of_one hxa_17; have q2 := cell_of_one hxb_17
     refine hK.out _ _ (fun _ => ⟨hxt_17, hxp_17⟩) ?_
     clear hK K
     try simp only [Act.put, xA, xB, xC]
     obtain ⟨k0, k1, k2, k3, k4, k5⟩ := bx_cells hxR_17; have z := Lib.frozen_of_heap hxR_17
     refine zo 7 rfl fun K hK => ?_
     go_simp
     refine hK.out _ _ (fun h => absurd rfl h) ?_
     clear hK K k0 k1 k2 k3 k4 k5 z
     try simp only [Act.put, xA, xB, xC]
     exact lv17
    | false =>
     simp only [Bool.true_and, Bool.not_false] at hR; go_wp2_with fail
     go_at_call 176
     refine (is1S_ok hD hC.s_2a2a hP10).mono ?_
     rintro E w11 ⟨hE, hP11, hq⟩
     rcases hE with ⟨hv, rfl⟩ | ⟨hv, rfl⟩
     ·have hss := hv; simp only [hv, if_true, yO, yA, Bool.not_true, Bool.false_eq_true, if_false] at hR; obtain ⟨hk11, hs11, hz11⟩ := ke hk10 hq hEX; have hxp_11 := kx hq hxp_10; have hxa_11 := kx hq hxa_10; have hxb_11 := kx hq hxb_10; have hxR_11 := kx hq hxR_10; have hxt_11 := kx hq hxt_10; clear q0 q1 q2; have q0 := cell_of_one hxp_11; have q1 := cell_of_one hxa_11; have q2 := cell_of_one hxb_11; go_wp2_with fail
      go_at_call 98
      refine (takeS_ok hD hC.s_2a2a hP11).mono ?_
      rintro E w12 hE
      rcases hE with ⟨hv, rfl, hP12, hq⟩ | ⟨hv, rfl, hP12, hq⟩
      rotate_left 1
      ·exact absurd (hss.symm.trans hv) lq16
      clear hv; obtain ⟨hk12, hs12, hz12⟩ := ke hk11 hq hEX; have hxp_12 := kx hq hxp_11; have hxa_12 := kx hq hxa_11; have hxb_12 := kx hq hxb_11; have hxR_12 := kx hq hxR_11; have hxt_12 := kx hq hxt_11; clear q0 q1 q2; have q0 := cell_of_one hxp_12; have q1 := cell_of_one hxa_12; have q2 := cell_of_one hxb_12; have z := free_of_one hxb_12
      go_upto_region 7 with fail
      clear z; have hxb_13 := one_setCell (u := .bool true) hxb_12; have hxp_13 := (bx_off1 (b := (b + 2)) (i := 0) (u := .bool true) lq17).trans hxp_12; have hxa_13 := (bx_off1 (b := (b + 2)) (i := 0) (u := .bool true) lq17).trans hxa_12; have hxR_13 := (bx_off1 (b := (b + 2)) (i := 0) (u := .bool true) lq17).trans hxR_12; have hxt_13 := (bx_off1 (b := (b + 2)) (i := 0) (u := .bool true) lq17).trans hxt_12; have hk13 := hk12.set (b + 2) 0 (.bool true) (.inr (.inr (.inr rfl))); have hP13 := hP12.blocks (fun k hk => bx_off1 (b := (b + 2)) (i := 0) (u := .bool true) lq17)
      have hs13 : w12.heap.size ≤ (w12.setCell ⟨b + 2, 0, none⟩ (.bool true)).heap.size := by simp [World.setCell]
      have hz13 := hk13.size
      generalize w12.setCell ⟨b + 2, 0, none⟩ (.bool true) = w13 at *
      clear q0 q1 q2 hxp_12 hxa_12 hxb_12 hxR_12 hxt_12 hP12; have q0 := cell_of_one hxp_13; have q1 := cell_of_one hxa_13; have q2 := cell_of_one hxb_13; have n1 := Rs.ne_of hR hne
      refine region_anyZ (fun W => W.heap[w2.heap.size]? = some (.cells #[.int .i64 (hd e l).kind, .string (hd e l).text, .int .i64 (hd e l).pos] 39) ∧ W.heap[b]? = some (.cells #[.pointer (some ⟨X, 0, none⟩)] 56)) 6 lq15 ?_
      refine zt 0 (.pointer (some ⟨w2.heap.size, 2, none⟩)) rfl (Or.inl ⟨by rfl, ?_⟩) ⟨hxt_13, hxp_13⟩ ?_
      ·exact lv49
      try simp only [Act.put, xA, xB, xC]
      refine zt 1 (.int .i64 (hd e l).pos) rfl (Or.inl ⟨by rfl, ?_⟩) ⟨hxt_13, hxp_13⟩ ?_
      ·exact lv49
      try simp only [Act.put, xA, xB, xC]
      refine zt 2 (.pointer (some ⟨X, 0, none⟩)) rfl (Or.inl ⟨by rfl, ?_⟩) ⟨hxt_13, hxp_13⟩ ?_
      ·exact lv49
      try simp only [Act.put, xA, xB, xC]
      refine zo 3 rfl fun K hK => ?_
      go_simp
      go_at_call 100
      refine (HA.pexpr X _ _ (hP13.later (bl_drew (Below.refl _ _))) n1).mono ?_
      rintro E w14 hE
      rcases hE with ⟨cc, aa, hv, rfl, hq⟩ | ⟨T1, l1, A1, c1, K1, d1, hv, rfl, hP14, hF1_14, hq⟩
      ·rw [hv] at hR; exact ⟨rfl, retBadQ (hk13.callK (Nat.le_refl _) (kp_undrew hq) hEX) hR.symm⟩
      rw [hv] at hR; simp only [yO, yA] at hR; clear hv n1; have hq := kp_undrew hq; have hdr14 : w13.drew.heap.size = w13.heap.size := rfl; have hF1_14 := hF1_14.intoN (P := Nn) (lo := w3.heap.size) (x := X) lq17 lq17; obtain ⟨hk14, hs14, hz14⟩ := ke hk13 hq hEX; have hxp_14 := kx hq hxp_13; have hxa_14 := kx hq hxa_13; have hxb_14 := kx hq hxb_13; have hxR_14 := kx hq hxR_13; have hxt_14 := kx hq hxt_13; clear q0 q1 q2; have q0 := cell_of_one hxp_14; have q1 := cell_of_one hxa_14; have q2 := cell_of_one hxb_14; unfold ndV
      refine hK.out _ _ (fun _ => ⟨hxt_14, hxp_14⟩) ?_
      clear hK K
      try simp only [Act.put, xA, xB, xC]
      refine zo 4 rfl fun K hK => ?_
      go_simp
      have hro := row_made (P := Nn) (lo := w3.heap.size) (x := X) (X := X) w14 [⟨T1, A1, c1, K1, d1⟩] #[.int .i64 T1.kind, .int .i64 T1.pos, .string T1.text, .bool T1.neg, .slice A1 T1.mag.length c1, .slice K1 T1.kids.length d1] 1 rfl rfl lq17 lq17 lq16 (Old.nn X _) (by
       intro q hq; simp only [List.mem_cons, List.not_mem_nil, or_false] at hq
       rcases hq with rfl <;> assumption)
      generalize hG : w14.alloc (oN T1 A1 c1 K1 d1) = w15 at *
      obtain ⟨hb15, _, _⟩ := nb hG; clear hG; obtain ⟨hk15, hs15, hz15⟩ := kf hk14 hb15; have hP15 := hP14.later hb15; have hxp_15 := kb hb15 hxp_14; have hxa_15 := kb hb15 hxa_14; have hxb_15 := kb hb15 hxb_14; have hxR_15 := kb hb15 hxR_14; have hxt_15 := kb hb15 hxt_14; have hF1_15 := hF1_14.later hb15 (Old.nn X _); clear q0 q1 q2; have q0 := cell_of_one hxp_15; have q1 := cell_of_one hxa_15; have q2 := cell_of_one hxb_15
      refine hK.out _ _ (fun _ => ⟨hxt_15, hxp_15⟩) ?_
      clear hK K
      try simp only [Act.put, xA, xB, xC]
      have hFz_15 := hro.node (k := 40) (p := (hd e l).pos) (t := ⟨#[]⟩) ⟨by decide, by decide⟩ hpos lq16 false; clear hro
      refine zo 5 rfl fun K hK => ?_
      go_simp
      go_at_call 54
      refine (node_okA _ _ _ _ _ _ _).mono ?_
      rintro E w16 ⟨rfl, hq⟩; obtain ⟨hk16, hs16, hz16⟩ := kf hk15 hq; have hP16 := hP15.later hq; have hxp_16 := kb hq hxp_15; have hxa_16 := kb hq hxa_15; have hxb_16 := kb hq hxb_15; have hxR_16 := kb hq hxR_15; have hxt_16 := kb hq hxt_15; have hF1_16 := hF1_15.later hq (Old.nn X _); have hFz_16 := hFz_15.later hq (Old.nn X _); clear q0 q1 q2; have q0 := cell_of_one hxp_16; have q1 := cell_of_one hxa_16; have q2 := cell_of_one hxb_16
      refine hK.out _ _ (fun _ => ⟨hxt_16, hxp_16⟩) ?_
      clear hK K
      try simp only [Act.put, xA, xB, xC]
      obtain ⟨k0, k1, k2, k3, k4, k5⟩ := bx_cells hxR_16; have z := Lib.frozen_of_heap hxR_16
      refine zo 6 rfl fun K hK => ?_
      go_simp
      refine hK.out _ _ (fun h => absurd rfl h) ?_
      clear hK K k0 k1 k2 k3 k4 k5 z
      try simp only [Act.put, xA, xB, xC]
      refine anyZ_end lq15 ?_ _
      have HE := Lh (show _ ∧ _ ∧ _ ∧ _ from ⟨hk16, hP16, (⟨hxp_16, hxa_16, hxb_16⟩ : Bx3 X b (true, true) _), hFz_16⟩); obtain ⟨r0, r1, r2, r3, r4, r5⟩ := bp hxR_16 (.int .i64 40) (.int .i64 ((hd e l).pos)) (.string ⟨#[]⟩) (.bool false) (.slice none 0 0) (.slice (some ⟨w14.heap.size, 0, none⟩) 1 1); clear q0 q1 q2 hxp_16 hxa_16 hxb_16 hxR_16 hxt_16 hF1_16 hFz_16 hk16 hP16; go_wp2_with fail
      refine bodyPost_ret (v := .agg #[.int .i64 40, .int .i64 ((hd e l).pos), .string ⟨#[]⟩, .bool false, .slice none 0 0, .slice (some ⟨w14.heap.size, 0, none⟩) 1 1]) lq7 rfl ?_
      exact lv71
     ·have hss := hv; simp only [hv, yF, if_false, yO, yA, Bool.not_false, if_true] at hR; obtain ⟨hk11, hs11, hz11⟩ := ke hk10 hq hEX; have hxp_11 := kx hq hxp_10; have hxa_11 := kx hq hxa_10; have hxb_11 := kx hq hxb_10; have hxR_11 := kx hq hxR_10; have hxt_11 := kx hq hxt_10; clear q0 q1 q2; have q0 := cell_of_one hxp_11; have q1 := cell_of_one hxa_11; have q2 := cell_of_one hxb_11; go_wp2_with fail
      go_at_call 182
      refine (wrong_ok hP11).mono ?_
      rintro E w12 ⟨rfl, hq⟩; go_wp2_with fail; exact ⟨rfl, retBadQ (hk11.below (Nat.le_refl _) hq) hR.symm⟩
theorem pArgs2_ok (hD : Deps wB nB gB nO) (hC : Cst wB) (X b : Nat) (s : Bool × Bool) (l : List Tok) (w : World) (hP0 : Pz e w X l) (hB0 : Bx3 X b s w) (hbX : X < b) :
  Calls Tryz.prog 289 #[.pointer (some ⟨b, 0, none⟩)] w (fun E w' => E = .returned (.bool (begins e l || isS e ⟨#[42, 42]⟩ l)) ∧ Pz e w' X l ∧ Kp w.heap.size X w w') := by
 have q0 := cell_of_one hB0.p
 have hbl := hB0.lt
 go_enter Tryz.func289, Tryz.ntmps289
 go_wp2_with fail
 go_at_call 186
 refine (begins_ok hD hC hP0).mono ?_
 rintro E w1 ⟨hE, hP1, hq⟩
 have q1 := cell_of_one (hB0.kp hbX hq).p
 clear q0
 rcases hE with ⟨hv, rfl⟩ | ⟨hv, rfl⟩
 ·go_wp2_with fail; go_ret; exact ⟨by rw [hv]; rfl, hP1, hq⟩
 ·go_wp2_with fail
  go_at_call 176
  refine (is1S_ok hD hC.s_2a2a hP1).mono ?_
  rintro E w2 ⟨hE, hP2, hq2⟩; clear q1
  rcases hE with ⟨hv2, rfl⟩ | ⟨hv2, rfl⟩
  ·go_wp2_with fail; go_ret; exact ⟨by rw [hv, hv2]; rfl, hP2, hq.call (Nat.le_refl _) hq2⟩
  ·go_wp2_with fail; go_ret; exact ⟨by rw [hv, hv2]; rfl, hP2, hq.call (Nat.le_refl _) hq2⟩
end
end
end Go.Proofs.YtjndbcnmmnkilaaGreatDoor
