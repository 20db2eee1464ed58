/- Joined by a program: Pe24, Pe23, Pz1. -/
import Derived.Test.YtjndbcnmmnkilaaGreatDoorPF10
import Derived.Test.YtjndbcnmmnkilaaGreatDoorPF11
import Derived.Test.YtjndbcnmmnkilaaGreatDoorPF12
import Derived.Test.YtjndbcnmmnkilaaGreatDoorPF13
import Derived.Test.YtjndbcnmmnkilaaGreatDoorPF15
import Derived.Test.YtjndbcnmmnkilaaGreatDoorPF17
import Derived.Test.YtjndbcnmmnkilaaGreatDoorPF18
import Derived.Test.YtjndbcnmmnkilaaGreatDoorPF20
import Derived.Test.YtjndbcnmmnkilaaGreatDoorPF21
import Derived.Test.YtjndbcnmmnkilaaGreatDoorPF23
import Derived.Test.YtjndbcnmmnkilaaGreatDoorPF24
import Derived.Test.YtjndbcnmmnkilaaGreatDoorPF26
namespace Go.Proofs.YtjndbcnmmnkilaaGreatDoor
set_option linter.unusedVariables false
set_option linter.unusedSimpArgs false
set_option maxRecDepth 1000000
set_option maxHeartbeats 16000000
section
open Go.RowKit
open List (length_append length_cons length_nil length_singleton)
section
variable {wB nB gB : ByteArray → Bool} {nO : ByteArray → Option (List Int)} {e : Int} {p : Ps}
def paramsQ (nB : ByteArray → Bool) (e : Int) (p : Ps) (s : Bool × Bool) (l : List Tok) : Rs ((Bool × Bool) × Nd) :=
 if isS e ⟨#[42, 42]⟩ l then (tokN nB e l.tail).bind fun t r => .ok ((s.1, true), Nd.mk 19 (hd e l).pos t.text false [] []) r else
 (tokN nB e l).bind fun t r => if isS e ⟨#[61]⟩ r then (p.qexpr r.tail).bind fun x q => .ok ((true, s.2), Nd.mk 19 (hd e l).pos t.text false [] [x]) q else if s.1 then .bad 106 (hd e l).pos else .ok (s, Nd.mk 19 (hd e l).pos t.text false [] [Nd.mk 0 (hd e l).pos ⟨#[]⟩ false [] []]) r
def paramsG (e : Int) (s : Bool × Bool) (l : List Tok) : Bool := !s.2 && (isN l || isS e ⟨#[42, 42]⟩ l)
theorem params_eq (p : Ps) (g : Bool) (ks : List Nd) (l : List Tok) : s_params nB e p g ks l = (paramsQ nB e p (g, false) l).bind fun a r => if isS e ⟨#[44]⟩ r then (if paramsG e a.1 r.tail then p.qparams a.1.1 (ks ++ [a.2]) r.tail else .ok (ks ++ [a.2]) r.tail) else .ok (ks ++ [a.2]) r := by
 unfold s_params paramsQ paramsG
 by_cases h : isS e ⟨#[42, 42]⟩ l = true
 ·rw [if_pos h, if_pos h, Rs.bind_assoc]
  congr 1
  funext t r
  simp only [Rs.bind_ok, Bool.not_true, Bool.false_and, Bool.false_eq_true, if_false]
  split <;> rfl
 ·rw [if_neg h, if_neg h, Rs.bind_assoc]
  congr 1
  funext t r
  by_cases h2 : isS e ⟨#[61]⟩ r = true
  ·rw [if_pos h2, if_pos h2, Rs.bind_assoc, Rs.bind_assoc]
   rfl
  ·rw [if_neg h2, if_neg h2]
   cases g <;> rfl
theorem params_more (p : Nat → Ps) (h0 : ∀ s ks l, (p 0).qparams s ks l = .oof) (hS : ∀ k s ks l, (p (k + 1)).qparams s ks l = s_params nB e (p k) s ks l) (hE : ∀ k l, Lf l.length 1 ((p k).qexpr l)) :
  MoreEq e (fun k => paramsQ nB e (p k)) (paramsG e) (fun k s ks l => (p k).qparams s.1 ks l) (fun s => s.2 = false) where
 zero := fun s ks l => h0 _ _ _
 more := fun k s ks l h => by
  obtain ⟨g, r⟩ := s
  cases h
  exact (hS _ _ _ _).trans (params_eq _ _ _ _)
 ok := fun s l h => by
  unfold paramsG at h; rw [Bool.and_eq_true] at h
  simpa using h.1
 len := fun k s l a r h => by
  unfold paramsQ at h; have hl := List.length_tail (l := l)
  split at h
  ·cases ht : tokN nB e l.tail with
   | ok t q =>
    rw [ht] at h; cases h; have := Lf.tokN.get ht
    omega
   | bad c a => rw [ht] at h; cases h
   | oof => rw [ht] at h; cases h
  ·cases ht : tokN nB e l with
   | ok t q =>
    rw [ht, Rs.bind_ok] at h; have h1 := Lf.tokN.get ht
    split at h
    ·cases hx : (p k).qexpr q.tail with
     | ok x q2 =>
      rw [hx] at h; cases h; have := (hE k q.tail).get hx; have := List.length_tail (l := q)
      omega
     | bad c a => rw [hx] at h; cases h
     | oof => rw [hx] at h; cases h
    ·split at h
     ·cases h
     ·cases h; omega
   | bad c a => rw [ht] at h; cases h
   | oof => rw [ht] at h; cases h
theorem pParams1_ok (hD : Deps wB nB gB nO) (hC : Cst wB) (HA : PA e p) (X b : Nat) (s : Bool × Bool) (l : List Tok) (w : World) (hP0 : Pz e w X l) (hB0 : Bx3 X b s w) (hbX : X < b) (hne : paramsQ nB e p s l ≠ .oof) : Calls Tryz.prog 247 #[.pointer (some ⟨b, 0, none⟩), .pointer (some ⟨b + 2, 0, none⟩), .pointer (some ⟨b + 1, 0, none⟩)] w (RetQ e X b w (paramsQ nB e p s l)) := by
 obtain ⟨R, hR⟩ : ∃ R, paramsQ nB e p s l = R := ⟨_, rfl⟩
 simp only [hR] at hne ⊢
 unfold paramsQ at hR
 obtain ⟨gv, rs⟩ := s
 dsimp only at hR
 have hxp_0 := hB0.p
 have hxa_0 := hB0.a
 have hxb_0 := hB0.b
 have hbl := hB0.lt
 clear hB0
 (try dsimp only at hxa_0 hxb_0)
 have hEX : Eb X b X := .inl rfl
 have q0 := cell_of_one hxp_0
 have q1 := cell_of_one hxa_0
 have q2 := cell_of_one hxb_0
 have htk := hP0.hd
 have hpos := htk.2.1
 have htk3 := htk.2.2
 have hts : (hd e l).text.size ≤ maxLen := by unfold maxLen; omega
 clear htk
 have hXl := hP0.lt
 have hk0 : Ke w.heap.size (Eb X b) w w := Ke.refl _ _ _
 have hz0 := hk0.size
 go_enter Tryz.func247, Tryz.ntmps247
 go_upto_region 1 with fail
 generalize hG : w.alloc zN = w1 at *
 obtain ⟨hb1, hxR_1, _⟩ := nb hG
 clear hG
 obtain ⟨hk1, _, _⟩ := kf hk0 hb1
 have hP1 := hP0.later hb1
 have hxp_1 := kb hb1 hxp_0
 have hxa_1 := kb hb1 hxa_0
 have hxb_1 := kb hb1 hxb_0
 clear q0 q1 q2
 have q0 := cell_of_one hxp_1
 have q1 := cell_of_one hxa_1
 have q2 := cell_of_one hxb_1
 go_wp2_with fail
 go_at_call 55
 refine (next_ok hP1).mono ?_
 rintro E w2 ⟨rfl, hq⟩
 obtain ⟨hk2, _, _⟩ := kf hk1 hq
 have hP2 := hP1.later hq
 have hxp_2 := kb hq hxp_1
 have hxa_2 := kb hq hxa_1
 have hxb_2 := kb hq hxb_1
 have hxR_2 := kb hq hxR_1
 clear q0 q1 q2
 have q0 := cell_of_one hxp_2
 have q1 := cell_of_one hxa_2
 have q2 := cell_of_one hxb_2
 have F2_2 := tfield2 (hd e l).kind (hd e l).text (hd e l).pos
 unfold tokA
 go_wp2_with fail
 go_at_call 98
 refine (takeS_ok hD hC.s_2a2a hP2).mono ?_
 rintro E w3 hE
 rcases hE with ⟨hv, rfl, hP3, hq⟩ | ⟨hv, rfl, hP3, hq⟩
 ·simp only [hv, if_true, yO, yA] at hR; obtain ⟨hk3, hs3, hz3⟩ := ke hk2 hq hEX; have hxp_3 := kx hq hxp_2; have hxa_3 := kx hq hxa_2; have hxb_3 := kx hq hxb_2; have hxR_3 := kx hq hxR_2; clear q0 q1 q2; have q0 := cell_of_one hxp_3; have q1 := cell_of_one hxa_3; have q2 := cell_of_one hxb_3; have z := free_of_one hxb_3
  go_upto_region 4 with fail
  clear z; have hxb_4 := one_setCell (u := .bool true) hxb_3; have hxp_4 := (bx_off1 (b := (b + 2)) (i := 0) (u := .bool true) lq17).trans hxp_3; have hxa_4 := (bx_off1 (b := (b + 2)) (i := 0) (u := .bool true) lq17).trans hxa_3; have hxR_4 := (bx_off1 (b := (b + 2)) (i := 0) (u := .bool true) lq17).trans hxR_3; have hk4 := hk3.set (b + 2) 0 (.bool true) (.inr (.inr (.inr rfl))); have hP4 := hP3.blocks (fun k hk => bx_off1 (b := (b + 2)) (i := 0) (u := .bool true) lq17); have hs4 : w3.heap.size ≤ (w3.setCell ⟨b + 2, 0, none⟩ (.bool true)).heap.size := by simp [World.setCell]
  have hz4 := hk4.size
  generalize w3.setCell ⟨b + 2, 0, none⟩ (.bool true) = w4 at *
  clear q0 q1 q2 hxp_3 hxa_3 hxb_3 hxR_3 hP3; have q0 := cell_of_one hxp_4; have q1 := cell_of_one hxa_4; have q2 := cell_of_one hxb_4; have htk := hP4.hd; have htkt := htk.2.2; have htz : (hd e l.tail).text.size ≤ maxLen := by unfold maxLen; omega
  clear htk; go_wp2_with fail
  go_at_call 184
  refine (name_ok hD hP4).mono ?_
  rintro E w5 hE
  rcases hE with ⟨hv, rfl, hP5, hq⟩ | ⟨hv, rfl, hq⟩
  rotate_left 1
  ·rw [hv] at hR; simp only [Rs.bind_bad] at hR; go_wp2_with fail; exact ⟨rfl, retBadQ (hk4.callK (Nat.le_refl _) hq hEX) hR.symm⟩
  rw [hv] at hR; simp only [yO, yA] at hR; clear hv; obtain ⟨hk5, hs5, hz5⟩ := ke hk4 hq hEX; have hxp_5 := kx hq hxp_4; have hxa_5 := kx hq hxa_4; have hxb_5 := kx hq hxb_4; have hxR_5 := kx hq hxR_4; clear q0 q1 q2; have q0 := cell_of_one hxp_5; have q1 := cell_of_one hxa_5; have q2 := cell_of_one hxb_5; have F1_5 := tfield1 (hd e (l.tail)).kind (hd e (l.tail)).text (hd e (l.tail)).pos; unfold tokA; have hFz_5 := (RowS.nil Nn (w.heap.size + 1) X w5).node (k := 19) (p := (hd e l).pos) (t := (hd e l.tail).text) ⟨by decide, by decide⟩ hpos htz false; go_wp2_with fail
  go_at_call 54
  refine (node_okA _ _ _ _ _ _ _).mono ?_
  rintro E w6 ⟨rfl, hq⟩; obtain ⟨hk6, hs6, hz6⟩ := kf hk5 hq; have hP6 := hP5.later hq; have hxp_6 := kb hq hxp_5; have hxa_6 := kb hq hxa_5; have hxb_6 := kb hq hxb_5; have hxR_6 := kb hq hxR_5; have hFz_6 := hFz_5.later hq (Old.nn X _); clear q0 q1 q2; have q0 := cell_of_one hxp_6; have q1 := cell_of_one hxa_6; have q2 := cell_of_one hxb_6; obtain ⟨k0, k1, k2, k3, k4, k5⟩ := bx_cells hxR_6; have z := Lib.frozen_of_heap hxR_6; have HE := Lh (show _ ∧ _ ∧ _ ∧ _ from ⟨hk6, hP6, (⟨hxp_6, hxa_6, hxb_6⟩ : Bx3 X b (gv, true) _), hFz_6⟩)
  obtain ⟨r0, r1, r2, r3, r4, r5⟩ := bp hxR_6 (.int .i64 19) (.int .i64 ((hd e l).pos)) (.string ((hd e l.tail).text)) (.bool false) (.slice none 0 0) (.slice none 0 0); clear q0 q1 q2 hxp_6 hxa_6 hxb_6 hxR_6 hFz_6 hk6 hP6; go_wp2_with fail
  refine bodyPost_ret (v := .agg #[.int .i64 19, .int .i64 ((hd e l).pos), .string ((hd e l.tail).text), .bool false, .slice none 0 0, .slice none 0 0]) (by simp [results, Tryz.results247, go_sem, r0, r1, r2, r3, r4, r5, ndV]) rfl ?_
  exact lv71
 ·simp only [hv, yF, if_false, yO, yA] at hR; obtain ⟨hk3, hs3, hz3⟩ := ke hk2 hq hEX; have hxp_3 := kx hq hxp_2; have hxa_3 := kx hq hxa_2; have hxb_3 := kx hq hxb_2; have hxR_3 := kx hq hxR_2; clear q0 q1 q2; have q0 := cell_of_one hxp_3; have q1 := cell_of_one hxa_3; have q2 := cell_of_one hxb_3; go_wp2_with fail
  go_at_call 184
  refine (name_ok hD hP3).mono ?_
  rintro E w4 hE
  rcases hE with ⟨hv, rfl, hP4, hq⟩ | ⟨hv, rfl, hq⟩
  rotate_left 1
  ·rw [hv] at hR; simp only [Rs.bind_bad] at hR; go_wp2_with fail; exact ⟨rfl, retBadQ (hk3.callK (Nat.le_refl _) hq hEX) hR.symm⟩
  rw [hv] at hR; simp only [yO, yA] at hR; clear hv; obtain ⟨hk4, hs4, hz4⟩ := ke hk3 hq hEX; have hxp_4 := kx hq hxp_3; have hxa_4 := kx hq hxa_3; have hxb_4 := kx hq hxb_3; have hxR_4 := kx hq hxR_3; clear q0 q1 q2; have q0 := cell_of_one hxp_4; have q1 := cell_of_one hxa_4; have q2 := cell_of_one hxb_4; unfold tokA
  go_upto_region 6 with fail
  generalize hG : w4.alloc (.cells #[.int .i64 (hd e l).kind, .string (hd e l).text, .int .i64 (hd e l).pos] 39) = w5 at *
  obtain ⟨hb5, hxt_5, _⟩ := nb hG; clear hG; obtain ⟨hk5, hs5, hz5⟩ := kf hk4 hb5; have hP5 := hP4.later hb5; have hxp_5 := kb hb5 hxp_4; have hxa_5 := kb hb5 hxa_4; have hxb_5 := kb hb5 hxb_4; have hxR_5 := kb hb5 hxR_4; clear q0 q1 q2; have q0 := cell_of_one hxp_5; have q1 := cell_of_one hxa_5; have q2 := cell_of_one hxb_5; go_wp2_with fail
  go_at_call 98
  refine (takeS_ok hD hC.s_3d hP5).mono ?_
  rintro E w6 hE
  rcases hE with ⟨hv, rfl, hP6, hq⟩ | ⟨hv, rfl, hP6, hq⟩
  ·simp only [hv, if_true, yO, yA] at hR; obtain ⟨hk6, hs6, hz6⟩ := ke hk5 hq hEX; have hxp_6 := kx hq hxp_5; have hxa_6 := kx hq hxa_5; have hxb_6 := kx hq hxb_5; have hxR_6 := kx hq hxR_5; have hxt_6 := kx hq hxt_5; clear q0 q1 q2; have q0 := cell_of_one hxp_6; have q1 := cell_of_one hxa_6; have q2 := cell_of_one hxb_6; have z := free_of_one hxa_6
   go_upto_region 8 with fail
   clear z; have hxa_7 := one_setCell (u := .bool true) hxa_6; have hxp_7 := (bx_off1 (b := (b + 1)) (i := 0) (u := .bool true) lq17).trans hxp_6; have hxb_7 := (bx_off1 (b := (b + 1)) (i := 0) (u := .bool true) lq17).trans hxb_6; have hxR_7 := (bx_off1 (b := (b + 1)) (i := 0) (u := .bool true) lq17).trans hxR_6; have hxt_7 := (bx_off1 (b := (b + 1)) (i := 0) (u := .bool true) lq17).trans hxt_6; have hk7 := hk6.set (b + 1) 0 (.bool true) (.inr (.inr (.inl rfl))); have hP7 := hP6.blocks (fun k hk => bx_off1 (b := (b + 1)) (i := 0) (u := .bool true) lq17)
   have hs7 : w6.heap.size ≤ (w6.setCell ⟨b + 1, 0, none⟩ (.bool true)).heap.size := by simp [World.setCell]
   have hz7 := hk7.size
   generalize w6.setCell ⟨b + 1, 0, none⟩ (.bool true) = w7 at *
   clear q0 q1 q2 hxp_6 hxa_6 hxb_6 hxR_6 hxt_6 hP6; have q0 := cell_of_one hxp_7; have q1 := cell_of_one hxa_7; have q2 := cell_of_one hxb_7; have n1 := Rs.ne_of hR hne
   refine region_anyZ (fun W => W.heap[w4.heap.size]? = some (.cells #[.int .i64 (hd e l).kind, .string (hd e l).text, .int .i64 (hd e l).pos] 39) ∧ W.heap[b]? = some (.cells #[.pointer (some ⟨X, 0, none⟩)] 56)) 7 lq15 ?_
   refine zt 0 (.int .i64 (hd e l).pos) rfl (Or.inl ⟨by rfl, ?_⟩) ⟨hxt_7, hxp_7⟩ ?_
   ·exact lv49
   try simp only [Act.put, xA, xB, xC]
   refine zt 1 (.pointer (some ⟨w4.heap.size, 1, none⟩)) rfl (Or.inl ⟨by rfl, ?_⟩) ⟨hxt_7, hxp_7⟩ ?_
   ·exact lv49
   try simp only [Act.put, xA, xB, xC]
   refine zt 2 (.string (hd e l).text) rfl (Or.inl ⟨by rfl, ?_⟩) ⟨hxt_7, hxp_7⟩ ?_
   ·exact lv49
   try simp only [Act.put, xA, xB, xC]
   refine zt 3 (.pointer (some ⟨X, 0, none⟩)) rfl (Or.inl ⟨by rfl, ?_⟩) ⟨hxt_7, hxp_7⟩ ?_
   ·exact lv49
   try simp only [Act.put, xA, xB, xC]
   refine zo 4 rfl fun K hK => ?_
   go_simp
   go_at_call 100
   refine (HA.pexpr X _ _ (hP7.later (bl_drew (Below.refl _ _))) n1).mono ?_
   rintro E w8 hE
   rcases hE with ⟨cc, aa, hv, rfl, hq⟩ | ⟨T1, l1, A1, c1, K1, d1, hv, rfl, hP8, hF1_8, hq⟩
   ·rw [hv] at hR; exact ⟨rfl, retBadQ (hk7.callK (Nat.le_refl _) (kp_undrew hq) hEX) hR.symm⟩
   rw [hv] at hR; simp only [yO, yA] at hR; clear hv n1; have hq := kp_undrew hq; have hdr8 : w7.drew.heap.size = w7.heap.size := rfl; have hF1_8 := hF1_8.intoN (P := Nn) (lo := w5.heap.size) (x := X) lq17 lq17; obtain ⟨hk8, hs8, hz8⟩ := ke hk7 hq hEX; have hxp_8 := kx hq hxp_7; have hxa_8 := kx hq hxa_7; have hxb_8 := kx hq hxb_7; have hxR_8 := kx hq hxR_7; have hxt_8 := kx hq hxt_7; clear q0 q1 q2; have q0 := cell_of_one hxp_8; have q1 := cell_of_one hxa_8; have q2 := cell_of_one hxb_8; unfold ndV
   refine hK.out _ _ (fun _ => ⟨hxt_8, hxp_8⟩) ?_
   clear hK K
   try simp only [Act.put, xA, xB, xC]
   refine zo 5 rfl fun K hK => ?_
   go_simp
   have hro := row_made (P := Nn) (lo := w5.heap.size) (x := X) (X := X) w8 [⟨T1, A1, c1, K1, d1⟩] #[.int .i64 T1.kind, .int .i64 T1.pos, .string T1.text, .bool T1.neg, .slice A1 T1.mag.length c1, .slice K1 T1.kids.length d1] 1 rfl rfl lq17 lq17 lq16 (Old.nn X _) (by
    intro q hq; simp only [List.mem_cons, List.not_mem_nil, or_false] at hq
    rcases hq with rfl <;> assumption)
   generalize hG : w8.alloc (oN T1 A1 c1 K1 d1) = w9 at *
   obtain ⟨hb9, _, _⟩ := nb hG; clear hG; obtain ⟨hk9, hs9, hz9⟩ := kf hk8 hb9; have hP9 := hP8.later hb9; have hxp_9 := kb hb9 hxp_8; have hxa_9 := kb hb9 hxa_8; have hxb_9 := kb hb9 hxb_8; have hxR_9 := kb hb9 hxR_8; have hxt_9 := kb hb9 hxt_8; have hF1_9 := hF1_8.later hb9 (Old.nn X _); clear q0 q1 q2; have q0 := cell_of_one hxp_9; have q1 := cell_of_one hxa_9; have q2 := cell_of_one hxb_9
   refine hK.out _ _ (fun _ => ⟨hxt_9, hxp_9⟩) ?_
   clear hK K
   try simp only [Act.put, xA, xB, xC]
   have hFz_9 := hro.node (k := 19) (p := (hd e l).pos) (t := (hd e l).text) ⟨by decide, by decide⟩ hpos hts false; clear hro
   refine zo 6 rfl fun K hK => ?_
   go_simp
   go_at_call 54
   refine (node_okA _ _ _ _ _ _ _).mono ?_
   rintro E w10 ⟨rfl, hq⟩; obtain ⟨hk10, _, _⟩ := kf hk9 hq; have hP10 := hP9.later hq; have hxp_10 := kb hq hxp_9; have hxa_10 := kb hq hxa_9; have hxb_10 := kb hq hxb_9; have hxR_10 := kb hq hxR_9; have hxt_10 := kb hq hxt_9; have hF1_10 := hF1_9.later hq (Old.nn X _); have hFz_10 := hFz_9.later hq (Old.nn X _); clear q0 q1 q2; have q0 := cell_of_one hxp_10; have q1 := cell_of_one hxa_10; have q2 := cell_of_one hxb_10
   refine hK.out _ _ (fun _ => ⟨hxt_10, hxp_10⟩) ?_
   clear hK K
   try simp only [Act.put, xA, xB, xC]
   obtain ⟨k0, k1, k2, k3, k4, k5⟩ := bx_cells hxR_10; have z := Lib.frozen_of_heap hxR_10
   refine zo 7 rfl fun K hK => ?_
   go_simp
   refine hK.out _ _ (fun h => absurd rfl h) ?_
   clear hK K k0 k1 k2 k3 k4 k5 z
   try simp only [Act.put, xA, xB, xC]
   refine anyZ_end lq15 ?_ _
   have HE := Lh (show _ ∧ _ ∧ _ ∧ _ from ⟨hk10, hP10, (⟨hxp_10, hxa_10, hxb_10⟩ : Bx3 X b (true, rs) _), hFz_10⟩); obtain ⟨r0, r1, r2, r3, r4, r5⟩ := bp hxR_10 (.int .i64 19) (.int .i64 ((hd e l).pos)) (.string (hd e l).text) (.bool false) (.slice none 0 0) (.slice (some ⟨w8.heap.size, 0, none⟩) 1 1); clear q0 q1 q2 hxp_10 hxa_10 hxb_10 hxR_10 hxt_10 hF1_10 hFz_10 hk10 hP10; go_wp2_with fail
   refine bodyPost_ret (v := .agg #[.int .i64 19, .int .i64 ((hd e l).pos), .string (hd e l).text, .bool false, .slice none 0 0, .slice (some ⟨w8.heap.size, 0, none⟩) 1 1]) (by simp [results, Tryz.results247, go_sem, r0, r1, r2, r3, r4, r5, ndV]) rfl ?_
   exact lv71
  ·simp only [hv, yF, if_false, yO, yA] at hR; obtain ⟨hk6, hs6, hz6⟩ := ke hk5 hq hEX; have hxp_6 := kx hq hxp_5; have hxa_6 := kx hq hxa_5; have hxb_6 := kx hq hxb_5; have hxR_6 := kx hq hxR_5; have hxt_6 := kx hq hxt_5; clear q0 q1 q2; have q0 := cell_of_one hxp_6; have q1 := cell_of_one hxa_6; have q2 := cell_of_one hxb_6
   cases gv with
   | true =>
    simp only [if_true] at hR; go_wp2_with fail
    go_at_call 57
    refine (fail_ok _ _ _).mono ?_
    rintro E w7 ⟨rfl, hq⟩; go_wp2_with fail; exact ⟨rfl, retBadQ (hk6.below (Nat.le_refl _) hq) hR.symm⟩
   | false =>
    simp only [Bool.false_eq_true, if_false] at hR
    go_upto_region 11 with fail
    refine region_anyZ (fun W => W.heap[w4.heap.size]? = some (.cells #[.int .i64 (hd e l).kind, .string (hd e l).text, .int .i64 (hd e l).pos] 39)) 7 lq15 ?_
    refine zt 0 (.int .i64 (hd e l).pos) rfl (Or.inl ⟨by rfl, ?_⟩) hxt_6 ?_
    ·exact lv57
    try simp only [Act.put, xA, xB, xC]
    refine zt 1 (.pointer (some ⟨w4.heap.size, 1, none⟩)) rfl (Or.inl ⟨by rfl, ?_⟩) hxt_6 ?_
    ·exact lv57
    try simp only [Act.put, xA, xB, xC]
    refine zt 2 (.string (hd e l).text) rfl (Or.inl ⟨by rfl, ?_⟩) hxt_6 ?_
    ·exact lv57
    try simp only [Act.put, xA, xB, xC]
    refine zt 3 (.int .i64 (hd e l).pos) rfl (Or.inl ⟨by rfl, ?_⟩) hxt_6 ?_
    ·exact lv57
    try simp only [Act.put, xA, xB, xC]
    refine zo 4 rfl fun K hK => ?_
    go_simp
    go_at_call 178
    refine (none_okA _ _).mono ?_
    rintro E w7 ⟨rfl, hq⟩; have hq := below_undrew hq; have hdr7 : w6.drew.heap.size = w6.heap.size := rfl; obtain ⟨hk7, hs7, hz7⟩ := kf hk6 hq; have hP7 := hP6.later hq; have hxp_7 := kb hq hxp_6; have hxa_7 := kb hq hxa_6; have hxb_7 := kb hq hxb_6; have hxR_7 := kb hq hxR_6; have hxt_7 := kb hq hxt_6; clear q0 q1 q2; have q0 := cell_of_one hxp_7; have q1 := cell_of_one hxa_7; have q2 := cell_of_one hxb_7
    refine hK.out _ _ (fun _ => hxt_7) ?_
    clear hK K
    try simp only [Act.put, xA, xB, xC]
    have hFy_7 := (RowS.nil Nn (w5.heap.size) X w7).node (k := 0) (p := (hd e l).pos) (t := ⟨#[]⟩) ⟨by decide, by decide⟩ hpos lq16 false
    refine zo 5 rfl fun K hK => ?_
    go_simp
    have hro := row_made (P := Nn) (lo := w5.heap.size) (x := X) (X := X) w7 [⟨Nd.mk 0 (hd e l).pos ⟨#[]⟩ false [] [], none, 0, none, 0⟩] #[.int .i64 0, .int .i64 ((hd e l).pos), .string ⟨#[]⟩, .bool false, .slice none 0 0, .slice none 0 0] 1 rfl rfl lq17 lq17 lq16 (Old.nn X _) (by
     intro q hq; simp only [List.mem_cons, List.not_mem_nil, or_false] at hq
     rcases hq with rfl <;> assumption)
    generalize hG : w7.alloc (.cells #[.int .i64 0, .int .i64 ((hd e l).pos), .string ⟨#[]⟩, .bool false, .slice none 0 0, .slice none 0 0] 29) = w8 at *
    obtain ⟨hb8, _, _⟩ := nb hG; clear hG; obtain ⟨hk8, hs8, hz8⟩ := kf hk7 hb8; have hP8 := hP7.later hb8; have hxp_8 := kb hb8 hxp_7; have hxa_8 := kb hb8 hxa_7; have hxb_8 := kb hb8 hxb_7; have hxR_8 := kb hb8 hxR_7; have hxt_8 := kb hb8 hxt_7; have hFy_8 := hFy_7.later hb8 (Old.nn X _); clear q0 q1 q2; have q0 := cell_of_one hxp_8; have q1 := cell_of_one hxa_8; have q2 := cell_of_one hxb_8
    refine hK.out _ _ (fun _ => hxt_8) ?_
    clear hK K
    try simp only [Act.put, xA, xB, xC]
    have hFz_8 := hro.node (k := 19) (p := (hd e l).pos) (t := (hd e l).text) ⟨by decide, by decide⟩ hpos hts false; clear hro
    refine zo 6 rfl fun K hK => ?_
    go_simp
    go_at_call 54
    refine (node_okA _ _ _ _ _ _ _).mono ?_
    rintro E w9 ⟨rfl, hq⟩; obtain ⟨hk9, hs9, hz9⟩ := kf hk8 hq; have hP9 := hP8.later hq; have hxp_9 := kb hq hxp_8; have hxa_9 := kb hq hxa_8; have hxb_9 := kb hq hxb_8; have hxR_9 := kb hq hxR_8; have hxt_9 := kb hq hxt_8; have hFy_9 := hFy_8.later hq (Old.nn X _); have hFz_9 := hFz_8.later hq (Old.nn X _); clear q0 q1 q2; have q0 := cell_of_one hxp_9; have q1 := cell_of_one hxa_9; have q2 := cell_of_one hxb_9
    refine hK.out _ _ (fun _ => hxt_9) ?_
    clear hK K
    try simp only [Act.put, xA, xB, xC]
    obtain ⟨k0, k1, k2, k3, k4, k5⟩ := bx_cells hxR_9; have z := Lib.frozen_of_heap hxR_9
    refine zo 7 rfl fun K hK => ?_
    go_simp
    refine hK.out _ _ (fun h => absurd rfl h) ?_
    clear hK K k0 k1 k2 k3 k4 k5 z
    try simp only [Act.put, xA, xB, xC]
    refine anyZ_end lq15 ?_ _
    have HE := Lh (show _ ∧ _ ∧ _ ∧ _ from ⟨hk9, hP9, (⟨hxp_9, hxa_9, hxb_9⟩ : Bx3 X b (false, rs) _), hFz_9⟩); obtain ⟨r0, r1, r2, r3, r4, r5⟩ := bp hxR_9 (.int .i64 19) (.int .i64 ((hd e l).pos)) (.string (hd e l).text) (.bool false) (.slice none 0 0) (.slice (some ⟨w7.heap.size, 0, none⟩) 1 1); clear q0 q1 q2 hxp_9 hxa_9 hxb_9 hxR_9 hxt_9 hFy_9 hFz_9 hk9 hP9; go_wp2_with fail
    refine bodyPost_ret (v := .agg #[.int .i64 19, .int .i64 ((hd e l).pos), .string (hd e l).text, .bool false, .slice none 0 0, .slice (some ⟨w7.heap.size, 0, none⟩) 1 1]) (by simp [results, Tryz.results247, go_sem, r0, r1, r2, r3, r4, r5, ndV]) rfl ?_
    exact lv71
theorem pParams2_ok (hD : Deps wB nB gB nO) (hC : Cst wB) (X b : Nat) (s : Bool × Bool) (l : List Tok) (w : World) (hP0 : Pz e w X l) (hB0 : Bx3 X b s w) (hbX : X < b) :
  Calls Tryz.prog 248 #[.pointer (some ⟨b + 2, 0, none⟩), .pointer (some ⟨b, 0, none⟩)] w (fun E w' => E = .returned (.bool (paramsG e s l)) ∧ Pz e w' X l ∧ Kp w.heap.size X w w') := by
 have q0 := cell_of_one hB0.p
 have q2 := cell_of_one hB0.b
 have hbl := hB0.lt
 obtain ⟨gv, rs⟩ := s
 dsimp only at q2
 unfold paramsG
 cases rs with
 | true =>
  go_enter Tryz.func248, Tryz.ntmps248; go_wp2_with fail; go_ret; exact ⟨rfl, hP0, Kp.refl _ _ _⟩
 | false =>
  have hkd := isN_hd e l; go_enter Tryz.func248, Tryz.ntmps248; go_wp2_with fail
  go_at_call 55
  refine (next_ok hP0).mono ?_
  rintro E w1 ⟨rfl, hq⟩; have F0 := tfield0 (hd e l).kind (hd e l).text (hd e l).pos; unfold tokA; have hB1 := hB0.later hq; have hP1 := hP0.later hq; have q1 := cell_of_one hB1.p; have hs1 := hq.size; clear q0 q2
  by_cases h1 : (hd e l).kind = 1
  ·have o1 : ((hd e l).kind == 1) = true := by simp [h1]
   clear h1; go_wp2_with fail; go_ret; exact ⟨by rw [hkd, o1]; rfl, hP1, Kp.of_below hq X⟩
  ·have o1 : ((hd e l).kind == 1) = false := by simp [h1]
   clear h1; go_wp2_with fail
   go_at_call 176
   refine (is1S_ok hD hC.s_2a2a hP1).mono ?_
   rintro E w2 ⟨hE, hP2, hq2⟩; clear q1
   rcases hE with ⟨hv2, rfl⟩ | ⟨hv2, rfl⟩
   ·go_wp2_with fail; go_ret; exact ⟨by rw [hv2, hkd, o1]; rfl, hP2, (Kp.of_below hq X).call (Nat.le_refl _) hq2⟩
   ·go_wp2_with fail; go_ret; exact ⟨by rw [hv2, hkd, o1]; rfl, hP2, (Kp.of_below hq X).call (Nat.le_refl _) hq2⟩
end
section
variable {wB nB gB : ByteArray → Bool} {nO : ByteArray → Option (List Int)} {e : Int} 
theorem pArgs_ok (hD : Deps wB nB gB nO) (hC : Cst wB) (D : Nat) (HAs : ∀ k, k < D → PA e (Pp nB gB nO e k)) (X : Nat) (l : List Tok) (w : World) (hP0 : Pz e w X l) (hne : (Pp nB gB nO e D).qargs 0 [] l ≠ .oof) : Calls Tryz.prog 244 #[.pointer (some ⟨X, 0, none⟩)] w (RetL e X Nn w ((Pp nB gB nO e D).qargs 0 [] l)) := by
 have hXl := hP0.lt
 go_enter Tryz.func244, Tryz.ntmps244
 go_wp2_with fail
 have hb1 := (((Below.refl w.heap.size w).alloc (Nat.le_refl _) (.cells #[.pointer (some ⟨X, 0, none⟩)] 56)).alloc lq10 (.cells #[.bool false] 4)).alloc lq10 (.cells #[.bool false] 4)
 have hz : ((((w.alloc (.cells #[.pointer (some ⟨X, 0, none⟩)] 56)).alloc (.cells #[.bool false] 4)).alloc (.cells #[.bool false] 4))).heap.size = w.heap.size + 3 := by simp
 have hB : Bx3 X w.heap.size (false, false) (((w.alloc (.cells #[.pointer (some ⟨X, 0, none⟩)] 56)).alloc (.cells #[.bool false] 4)).alloc (.cells #[.bool false] 4)) := by
  exact lv24
 generalize ((w.alloc (.cells #[.pointer (some ⟨X, 0, none⟩)] 56)).alloc (.cells #[.bool false] 4)).alloc (.cells #[.bool false] 4) = w1 at *
 have hP1 := hP0.later hb1
 have hk1 : Kp w.heap.size X w w1 := Kp.of_below hb1 X
 refine (more_ok hD hC X w.heap.size 288 289 #[.pointer (some ⟨w.heap.size, 0, none⟩), .pointer (some ⟨w.heap.size + 2, 0, none⟩), .pointer (some ⟨w.heap.size + 1, 0, none⟩)] #[.pointer (some ⟨w.heap.size, 0, none⟩)] (run_callP _ _ Tryz.func288 lq15 lq15 _) (run_callP _ _ Tryz.func289 lq15 lq15 _) (fun k => argsQ nB e (Pp nB gB nO e k)) (fun _ l => begins e l || isS e ⟨#[42, 42]⟩ l) (fun k s ks l => (Pp nB gB nO e k).qargs (stOf s) ks l) (fun _ => True) (args_more (Pp nB gB nO e) (fun _ _ _ => rfl) (fun _ _ _ _ => rfl) (fun k l => (ef_all nB gB nO e k).eexpr l)) D (fun k hk s l w hP hB _ hne => pArgs1_ok hD hC (HAs k hk) X _ s l w hP hB hXl hne) (fun s l w hP hB => pArgs2_ok hD hC X _ s l w hP hB hXl) (false, false) l w1 hP1 hB trivial hXl hne).mono ?_
 exact lv16
theorem pParams_ok (hD : Deps wB nB gB nO) (hC : Cst wB) (D : Nat) (HAs : ∀ k, k < D → PA e (Pp nB gB nO e k)) (X : Nat) (l : List Tok) (w : World) (hP0 : Pz e w X l) (hne : (Pp nB gB nO e D).qparams false [] l ≠ .oof) : Calls Tryz.prog 185 #[.pointer (some ⟨X, 0, none⟩)] w (RetL e X Nn w ((Pp nB gB nO e D).qparams false [] l)) := by
 have hXl := hP0.lt
 go_enter Tryz.func185, Tryz.ntmps185
 go_wp2_with fail
 have hb1 := (((Below.refl w.heap.size w).alloc (Nat.le_refl _) (.cells #[.pointer (some ⟨X, 0, none⟩)] 56)).alloc lq10 (.cells #[.bool false] 4)).alloc lq10 (.cells #[.bool false] 4)
 have hz : ((((w.alloc (.cells #[.pointer (some ⟨X, 0, none⟩)] 56)).alloc (.cells #[.bool false] 4)).alloc (.cells #[.bool false] 4))).heap.size = w.heap.size + 3 := by simp
 have hB : Bx3 X w.heap.size (false, false) (((w.alloc (.cells #[.pointer (some ⟨X, 0, none⟩)] 56)).alloc (.cells #[.bool false] 4)).alloc (.cells #[.bool false] 4)) := by
  exact lv24
 generalize ((w.alloc (.cells #[.pointer (some ⟨X, 0, none⟩)] 56)).alloc (.cells #[.bool false] 4)).alloc (.cells #[.bool false] 4) = w1 at *
 have hP1 := hP0.later hb1
 have hk1 : Kp w.heap.size X w w1 := Kp.of_below hb1 X
 refine (more_ok hD hC X w.heap.size 247 248 #[.pointer (some ⟨w.heap.size, 0, none⟩), .pointer (some ⟨w.heap.size + 2, 0, none⟩), .pointer (some ⟨w.heap.size + 1, 0, none⟩)] #[.pointer (some ⟨w.heap.size + 2, 0, none⟩), .pointer (some ⟨w.heap.size, 0, none⟩)] (run_callP _ _ Tryz.func247 lq15 lq15 _) (run_callP _ _ Tryz.func248 lq15 lq15 _) (fun k => paramsQ nB e (Pp nB gB nO e k)) (paramsG e) (fun k s ks l => (Pp nB gB nO e k).qparams s.1 ks l) (fun s => s.2 = false) (params_more (Pp nB gB nO e) (fun _ _ _ => rfl) (fun _ _ _ _ => rfl) (fun k l => (ef_all nB gB nO e k).eexpr l)) D (fun k hk s l w hP hB _ hne => pParams1_ok hD hC (HAs k hk) X _ s l w hP hB hXl hne) (fun s l w hP hB => pParams2_ok hD hC X _ s l w hP hB hXl) (false, false) l w1 hP1 hB rfl hXl hne).mono ?_
 exact lv16
end
section
variable {wB nB gB : ByteArray → Bool} {nO : ByteArray → Option (List Int)} {e : Int}
theorem pa_step (hD : Deps wB nB gB nO) (hC : Cst wB) (D : Nat) (H : ∀ k, k ≤ D → PA e (Pp nB gB nO e k)) : PA e (Pp nB gB nO e (D + 1)) where
 pexpr := pExpr_ok hD hC (H D (Nat.le_refl _))
 por := pOr_ok hD hC D H
 pand := pAnd_ok hD hC D H
 pnot := pNot_ok hD hC (H D (Nat.le_refl _))
 pcompare := pCompare_ok hD hC (H D (Nat.le_refl _))
 pbits := pBits_ok hD hC D H
 pxor := pXor_ok hD hC D H
 pboth := pBoth_ok hD hC D H
 psum := pSum_ok hD hC D H
 pterm := pTerm_ok hD hC D H
 pminus := pMinus_ok hD hC (H D (Nat.le_refl _))
 ppostfix := pPostfix_ok hD hC D H
 pexprs := pExprs_ok hD hC (H D (Nat.le_refl _))
 patom := pAtom_ok hD hC (H D (Nat.le_refl _))
 pround := pRound_ok hD hC (H D (Nat.le_refl _))
 psquare := pSquare_ok hD hC (H D (Nat.le_refl _))
 pcurly := pCurly_ok hD hC (H D (Nat.le_refl _))
 pitem := pItem_ok hD hC (H D (Nat.le_refl _))
 ptargets := pTargets_ok hD hC D H
 passign := pAssign_ok hD hC (H D (Nat.le_refl _))
 psimple := pSimple_ok hD hC (H D (Nat.le_refl _))
 pblock := pBlock_ok hD hC D H
 pchoice := pChoice_ok hD hC (H D (Nat.le_refl _))
 pargs := pArgs_ok hD hC (D + 1) fun k hk => H k (Nat.le_of_lt_succ hk)
 pparams := pParams_ok hD hC (D + 1) fun k hk => H k (Nat.le_of_lt_succ hk)
 pnames := pNames_ok hD hC (D + 1)
 prest := pRest_ok hD hC (D + 1) fun k hk => H k (Nat.le_of_lt_succ hk)
 pitems := pItems_ok hD hC (D + 1) fun k hk => H k (Nat.le_of_lt_succ hk)
 pcomp := pComp_ok hD hC D H
 ppair := pPair_ok hD hC (H D (Nat.le_refl _))
 pstmt := pStatement_ok hD hC (pDef_ok hD hC (H D (Nat.le_refl _)) fun l ks r h hl => by have := params_len nB gB nO e D false [] l ks r h; simp only [length_nil] at this; omega) (pClass_ok hD hC (H D (Nat.le_refl _))) (pTry_ok hD hC D H) (H D (Nat.le_refl _))
theorem pa_le (hD : Deps wB nB gB nO) (hC : Cst wB) : ∀ (D k : Nat), k ≤ D → PA e (Pp nB gB nO e k)
 | 0, k, h => by
  cases Nat.le_zero.1 h
  exact pa_zero nB gB nO e
 | D + 1, k, h => by
  rcases Nat.lt_or_ge k (D + 1) with h2 | h2
  ·exact pa_le hD hC D k (Nat.le_of_lt_succ h2)
  ·cases Nat.le_antisymm h h2
   exact pa_step hD hC D (pa_le hD hC D)
end
end
end Go.Proofs.YtjndbcnmmnkilaaGreatDoor
