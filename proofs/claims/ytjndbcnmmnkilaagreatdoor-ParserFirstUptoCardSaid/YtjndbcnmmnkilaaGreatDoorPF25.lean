/- Joined by a program: Pm1, Pm2. -/
import Derived.Test.YtjndbcnmmnkilaaGreatDoorPF08
namespace Go.Proofs.YtjndbcnmmnkilaaGreatDoor
set_option linter.unusedVariables false
set_option linter.unusedSimpArgs false
set_option maxRecDepth 1000000
set_option maxHeartbeats 16000000
section
open Go.RowKit
open List (length_append length_cons length_nil length_singleton)
structure Ke (B : Nat) (E : Nat → Prop) (w w' : World) : Prop where
 os : w'.os = w.os
 tape : w'.tape = w.tape
 output : w'.output = w.output
 size : w.heap.size ≤ w'.heap.size
 block : ∀ k, k < B → ¬ E k → w'.heap[k]? = w.heap[k]?
section
variable {B B' X : Nat} {E E' : Nat → Prop} {w w' w'' : World}
theorem Ke.refl (B : Nat) (E : Nat → Prop) (w : World) : Ke B E w w := ⟨rfl, rfl, rfl, Nat.le_refl _, fun _ _ _ => rfl⟩
theorem Ke.trans (h : Ke B E w w') (k : Ke B E w' w'') : Ke B E w w'' :=
 ⟨k.os.trans h.os, k.tape.trans h.tape, k.output.trans h.output, Nat.le_trans h.size k.size, fun i hi hx => (k.block i hi hx).trans (h.block i hi hx)⟩
theorem Ke.mono (h : Ke B E w w') (hB : B' ≤ B) : Ke B' E w w' := ⟨h.os, h.tape, h.output, h.size, fun k hk => h.block k (Nat.lt_of_lt_of_le hk hB)⟩
theorem Ke.of_kp (h : Kp B X w w') (hX : E X) : Ke B E w w' := ⟨h.os, h.tape, h.output, h.size, fun k hk hE => h.block k hk fun e => hE (e ▸ hX)⟩
theorem Ke.of_below (h : Below B w w') (E : Nat → Prop) : Ke B E w w' := ⟨h.os, h.tape, h.output, h.size, fun k hk _ => h.block k hk⟩
theorem Ke.call (h : Ke B E w w') (hB : B ≤ w.heap.size) (k : Ke w'.heap.size E w' w'') : Ke B E w w'' := h.trans (k.mono (Nat.le_trans hB h.size))
theorem Ke.callK (h : Ke B E w w') (hB : B ≤ w.heap.size) (k : Kp w'.heap.size X w' w'') (hX : E X) : Ke B E w w'' := h.call hB (.of_kp k hX)
theorem Ke.below (h : Ke B E w w') (hB : B ≤ w.heap.size) (k : Below w'.heap.size w' w'') : Ke B E w w'' := h.call hB (.of_below k E)
theorem Ke.set (h : Ke B E w w') (b i : Nat) (u : Value) (hb : B ≤ b ∨ E b) : Ke B E w (w'.setCell ⟨b, i, none⟩ u) :=
 h.trans ⟨rfl, rfl, rfl, by simp [World.setCell], fun k hk hx => Below.heap_setCell _ _ _ _ (fun e => by
  simp at e
  subst e
  rcases hb with hb | hb
  ·omega
  ·exact hx hb)⟩
theorem Ke.kp (h : Ke B E w w') (hB : B' ≤ B) (hE : ∀ k, E k → k = X ∨ B' ≤ k) : Kp B' X w w' := ⟨h.os, h.tape, h.output, h.size, fun k hk hx => h.block k lq17 fun e => by
 rcases hE k e with e | e
 ·exact hx e
 ·omega⟩
end
section
variable {P : Nat → Prop} {E : Nat → Prop} {w w' : World} {T : Nd} {ks : List Nd} {A K : Option Addr} {c d lo x X : Nat}
theorem St.ke (hs : St (Pt P lo x w.heap.size) w T A c K d) (hk : Ke w.heap.size E w w') (hP : Old P X w.heap.size) (hE : ∀ k, E k → ¬ P k ∧ k < lo) : St (Pt P lo x w'.heap.size) w' T A c K d :=
 hs.move (fun k q => q.elim (fun q => hk.block k (hP k q).2 fun e => (hE k e).1 q) fun ⟨a, b, _⟩ => hk.block k b fun e => by have := (hE k e).2; omega) fun k q => q.grow hk.size
theorem RowS.ke (hr : RowS P lo x w A c ks) (hk : Ke w.heap.size E w w') (hP : Old P X w.heap.size) (hE : ∀ k, E k → ¬ P k ∧ k < lo) : RowS P lo x w' A c ks :=
 hr.move (fun k q => q.elim (fun q => hk.block k (hP k q).2 fun e => (hE k e).1 q) fun ⟨a, b, _⟩ => hk.block k b fun e => by have := (hE k e).2; omega) hk.size
end
theorem ke {E : Nat → Prop} {X : Nat} {w w' w'' : World} (h : Ke w.heap.size E w w') (k : Kp w'.heap.size X w' w'') (hE : E X) : Ke w.heap.size E w w'' ∧ w'.heap.size ≤ w''.heap.size ∧ w.heap.size ≤ w''.heap.size := ⟨h.callK (Nat.le_refl _) k hE, k.size, Nat.le_trans h.size k.size⟩
theorem kf {E : Nat → Prop} {w w' w'' : World} (h : Ke w.heap.size E w w') (k : Below w'.heap.size w' w'') : Ke w.heap.size E w w'' ∧ w'.heap.size ≤ w''.heap.size ∧ w.heap.size ≤ w''.heap.size := ⟨h.below (Nat.le_refl _) k, k.size, Nat.le_trans h.size k.size⟩

structure Bx3 (X b : Nat) (s : Bool × Bool) (w : World) : Prop where
 p : w.heap[b]? = some (.cells #[.pointer (some ⟨X, 0, none⟩)] 56 (0, 0))
 a : w.heap[b + 1]? = some (.cells #[.bool s.1] 4 (0, 0))
 b : w.heap[b + 2]? = some (.cells #[.bool s.2] 4 (0, 0))
def Eb (X b k : Nat) : Prop := k = X ∨ k = b + 1 ∨ k = b + 2
section
variable {X b : Nat} {s : Bool × Bool} {w w' : World}
theorem Bx3.of (h : Bx3 X b s w) (hk : ∀ k, b ≤ k → k ≤ b + 2 → w'.heap[k]? = w.heap[k]?) : Bx3 X b s w' :=
 ⟨(hk _ lq17 lq17).trans h.p, (hk _ lq17 lq17).trans h.a, (hk _ lq17 lq17).trans h.b⟩
theorem Bx3.lt (h : Bx3 X b s w) : b + 2 < w.heap.size := lt_of_block h.b
theorem Bx3.kp (h : Bx3 X b s w) (hX : X < b) (hk : Kp w.heap.size X w w') : Bx3 X b s w' := h.of fun k h1 h2 => hk.block k (by have := h.lt; omega) lq17
theorem Bx3.later (h : Bx3 X b s w) (hk : Below w.heap.size w w') : Bx3 X b s w' := h.of fun k h1 h2 => hk.5 k (by have := h.lt; omega)
end
def RetQ (e : Int) (X b : Nat) (w : World) (R : Rs ((Bool × Bool) × Nd)) (E : Ending) (w' : World) : Prop :=
 (∃ c a, R = .bad c a ∧ E = .panicked [{ v := stopP c a, recovered := false }] ∧ Ke w.heap.size (Eb X b) w w') ∨
 ∃ s t l A c K d, R = .ok (s, t) l ∧ E = .returned (ndV t A c K d) ∧ Pz e w' X l ∧ Bx3 X b s w' ∧ St (Pt Nn w.heap.size X w'.heap.size) w' t A c K d ∧ Ke w.heap.size (Eb X b) w w'
def RetM (e : Int) (X b : Nat) (w : World) (R : Rs (List Nd)) (E : Ending) (w' : World) : Prop :=
 (∃ c a, R = .bad c a ∧ E = .panicked [{ v := stopP c a, recovered := false }] ∧ Ke w.heap.size (Eb X b) w w') ∨
 ∃ ks l A c, R = .ok ks l ∧ E = .returned (.slice A ks.length c) ∧ Pz e w' X l ∧ RowS Nn w.heap.size X w' A c ks ∧ Ke w.heap.size (Eb X b) w w'
section
variable {wB nB gB : ByteArray → Bool} {nO : ByteArray → Option (List Int)} {e : Int}
structure MoreEq (e : Int) (q : Nat → Bool × Bool → List Tok → Rs ((Bool × Bool) × Nd)) (bq : Bool × Bool → List Tok → Bool) (M : Nat → Bool × Bool → List Nd → List Tok → Rs (List Nd)) (Ok : Bool × Bool → Prop) : Prop where
 zero : ∀ s ks l, M 0 s ks l = .oof
 more : ∀ k s ks l, Ok s → M (k + 1) s ks l = (q k s l).bind fun a r => if isS e ⟨#[44]⟩ r then (if bq a.1 r.tail then M k a.1 (ks ++ [a.2]) r.tail else .ok (ks ++ [a.2]) r.tail) else .ok (ks ++ [a.2]) r
 ok : ∀ s l, bq s l = true → Ok s
 len : ∀ k s l a r, q k s l = .ok a r → r.length ≤ l.length
theorem more_ok (hD : Deps wB nB gB nO) (hC : Cst wB) (X b : Nat) (f1 f2 : FuncId) (C1 C2 : Array Value) (hr1 : ∀ W, (callFunc f1 C1).run Tryz.prog W = .ok (.enter f1 C1) W) (hr2 : ∀ W, (callFunc f2 C2).run Tryz.prog W = .ok (.enter f2 C2) W)
  (q : Nat → Bool × Bool → List Tok → Rs ((Bool × Bool) × Nd)) (bq : Bool × Bool → List Tok → Bool) (M : Nat → Bool × Bool → List Nd → List Tok → Rs (List Nd)) (Ok : Bool × Bool → Prop) (hM' : MoreEq e q bq M Ok) (D : Nat)
  (H1' : ∀ k, k < D → ∀ s l w, Pz e w X l → Bx3 X b s w → Ok s → q k s l ≠ .oof → Calls Tryz.prog f1 C1 w (RetQ e X b w (q k s l)))
  (H2' : ∀ s l w, Pz e w X l → Bx3 X b s w → Calls Tryz.prog f2 C2 w (fun E w' => E = .returned (.bool (bq s l)) ∧ Pz e w' X l ∧ Kp w.heap.size X w w'))
  (s0 : Bool × Bool) (l : List Tok) (w : World) (hP0 : Pz e w X l) (hB0 : Bx3 X b s0 w) (hOk0 : Ok s0) (hbX : X < b) (hne : M D s0 [] l ≠ .oof) :
  Calls Tryz.prog 246 #[.pointer (some ⟨X, 0, none⟩), .func (.func f1) #[] C1, .func (.func f2) #[] C2] w (RetM e X b w (M D s0 [] l)) := by
 obtain ⟨R, hR⟩ : ∃ R, M D s0 [] l = R := ⟨_, rfl⟩
 rw [hR] at hne ⊢
 have hXl := hP0.lt
 have hln := hP0.ln
 have hbl := hB0.lt
 have hEX : Eb X b X := .inl rfl
 have HM := Lh hM'
 have HH1 := Lh H1'
 have HH2 := Lh H2'
 clear hM' H1' H2'
 have hEl : ∀ k, Eb X b k → ¬ Nn k ∧ k < w.heap.size := fun k h => ⟨fun h => h.elim, by rcases h with h | h | h <;> omega⟩
 cases D with
 | zero => exact absurd (hR.symm.trans (HM.out.zero _ _ _)) hne
 | succ D =>
 rw [HM.out.more _ _ _ _ hOk0] at hR
 have n1 := Rs.ne_of hR hne
 go_enter Tryz.func246, Tryz.ntmps246
 go_wp2_with fail
 refine (HH1.out D lq17 s0 l w hP0 hB0 hOk0 n1).mono ?_
 intro E w1 hE
 rcases hE with ⟨cc, aa, hv, rfl, hq⟩ | ⟨s1, T1, l1, A1, c1, K1, d1, hv, rfl, hP1, hB1, hF1, hq⟩
 ·rw [hv] at hR; go_wp2_with fail; exact ⟨rfl, .inl ⟨cc, aa, hR.symm, rfl, hq⟩⟩
 have hle0 := HM.out.len _ _ _ _ _ hv
 rw [hv] at hR
 simp only [Rs.bind_ok, List.nil_append] at hR
 clear hv n1
 unfold ndV
 have hz1 := hq.size
 have hk1 := hq
 clear hq hP0 hB0
 have hro := row_made (P := Nn) (lo := w.heap.size) (x := X) (X := X) w1 [⟨T1, A1, c1, K1, d1⟩] #[.int .i64 T1.kind, .int .i64 T1.pos, .string T1.text, .bool T1.neg, .slice A1 T1.mag.length c1, .slice K1 T1.kids.length d1] 1 rfl rfl lq17 lq17 lq16 (Old.nn X _) (by
  intro q hq; simp only [List.mem_cons, List.not_mem_nil, or_false] at hq
  rcases hq with rfl
  exact hF1)
 go_upto_region 2 with fail
 generalize hG : w1.alloc (oN T1 A1 c1 K1 d1) = w2 at *
 obtain ⟨hb2, _, _⟩ := nb hG
 clear hG
 have hk2 := hk1.below (Nat.le_refl _) hb2
 have hP2 := hP1.later hb2
 have hB2 := hB1.later hb2
 clear hk1 hP1 hB1 hF1 hb2
 go_loopg [7] D (fun k v wr => ∃ (s : Bool × Bool) (ks : List Nd) (l' : List Tok) (A : Option Addr) (c : Nat), v = .slice A ks.length c ∧ Hid (Pz e wr X l' ∧ Bx3 X b s wr ∧ RowS Nn w.heap.size X wr A c ks ∧ Ke w.heap.size (Eb X b) w wr ∧ (if isS e ⟨#[44]⟩ l' then (if bq s l'.tail then M k s ks l'.tail else .ok ks l'.tail) else .ok ks l') = R ∧ ks.length + l'.length ≤ 1000001 ∧ k ≤ D))
 case atStart => exact ⟨s1, [T1], l1, _, 1, rfl, Lh ⟨hP2, hB2, hro, hk2, hR, by simp only [length_cons, length_nil]; omega, Nat.le_refl _⟩⟩
 case round =>
  obtain ⟨s2, ks, l0, A0, c0, rfl, hH⟩ := hrel; obtain ⟨hP10, hB10, hR10, hk10, hRk, hN, hgk⟩ := hH.out; clear hH hP2 hB2 hro hk2 hR; have hz10 := hk10.size; go_wp2_with fail
  go_at_call 176
  refine (is1S_ok hD hC.s_2c hP10).mono ?_
  rintro E w11 ⟨hE, hP11, hq⟩; have hk11 := hk10.callK (Nat.le_refl _) hq hEX; have hB11 := hB10.kp hbX hq; have hR11 := hR10.kp hq (Old.nn X _) lq17; have hs11 := hq.size; clear hk10 hB10 hR10 hP10 hq
  rcases hE with ⟨hv, rfl⟩ | ⟨hv, rfl⟩
  ·simp only [hv, if_true] at hRk; have htl := tlSf hv; clear hv; go_wp2_with fail
   go_at_call 177
   refine (pass_ok hP11).mono ?_
   rintro E w12 ⟨rfl, hP12, hq⟩; have hk12 := hk11.callK (Nat.le_refl _) hq hEX; have hB12 := hB11.kp hbX hq; have hR12 := hR11.kp hq (Old.nn X _) lq17; have hs12 := hq.size; clear hk11 hB11 hR11 hP11 hq; unfold tokA; go_wp2_with fail
   refine (HH2.out s2 _ w12 hP12 hB12).mono ?_
   rintro E w13 ⟨rfl, hP13, hq⟩; have hk13 := hk12.callK (Nat.le_refl _) hq hEX; have hB13 := hB12.kp hbX hq; have hR13 := hR12.kp hq (Old.nn X _) lq17; have hs13 := hq.size; clear hk12 hB12 hR12 hP12 hq
   rcases hbq : bq s2 l0.tail with _ | _
   ·rw [hbq] at hRk; simp only [Bool.false_eq_true, if_false] at hRk; have HE := Lh (show _ ∧ _ ∧ _ from ⟨hP13, hR13, hk13⟩); clear hP13 hR13 hk13; go_wp2_with fail; go_ret; exact .inr ⟨ks, _, A0, c0, hRk.symm, rfl, HE.out.1, HE.out.2.1, HE.out.2.2⟩
   ·have hOk2 := HM.out.ok _ _ hbq; rw [hbq] at hRk; simp only [if_true] at hRk
    cases gk with
    | zero => exact absurd (hRk.symm.trans (HM.out.zero _ _ _)) hne
    | succ gk =>
    rw [HM.out.more _ _ _ _ hOk2] at hRk; have n1 := Rs.ne_of hRk hne; have hlt := hR13.lt; go_wp2_with fail
    refine (HH1.out gk lq17 s2 _ w13 hP13 hB13 hOk2 n1).mono ?_
    intro E w14 hE
    rcases hE with ⟨cc, aa, hv, rfl, hq⟩ | ⟨s3, T1, l1, A1, c1, K1, d1, hv, rfl, hP14, hB14, hF1, hq⟩
    ·rw [hv] at hRk; go_wp2_with fail; exact ⟨rfl, .inl ⟨cc, aa, hRk.symm, rfl, hk13.call (Nat.le_refl _) hq⟩⟩
    have hle := HM.out.len _ _ _ _ _ hv; rw [hv] at hRk; simp only [Rs.bind_ok] at hRk; clear hv n1; have hA := hF1.away (P := Nn) (lo := w.heap.size) (x := X) (own := (Value.slice A0 ks.length c0).ownBlock) (fun _ h => h.elim) lq17 lq17 (fun g e => (hlt g e).2); clear hF1 hlt; have hk14 := hk13.call (Nat.le_refl _) hq; have hR14 := hR13.ke hq (Old.nn X _) hEl; have hs14 := hq.size; clear hk13 hB13 hR13 hP13 hq; unfold ndV
    have hb15 := (Below.refl w14.heap.size w14).alloc (Nat.le_refl _) (.cells #[.int .i64 T1.kind, .int .i64 T1.pos, .string T1.text, .bool T1.neg, .slice A1 T1.mag.length c1, .slice K1 T1.kids.length d1] 29); have hbq2 := heap_alloc_new w14 (.cells #[.int .i64 T1.kind, .int .i64 T1.pos, .string T1.text, .bool T1.neg, .slice A1 T1.mag.length c1, .slice K1 T1.kids.length d1] 29); have hse15 : w14.heap.size + 1 ≤ (w14.alloc (.cells #[.int .i64 T1.kind, .int .i64 T1.pos, .string T1.text, .bool T1.neg, .slice A1 T1.mag.length c1, .slice K1 T1.kids.length d1] 29)).heap.size := by simp
    have hA := hA.laterA hb15 (Old.nn X _); have hk15 := hk14.below (Nat.le_refl _) hb15; have hP15 := hP14.later hb15; have hB15 := hB14.later hb15; have hR15 := hR14.later hb15 (Old.nn X _); have hl15 := hB15.lt; clear hk14 hP14 hB14 hR14 hb15; go_wp2_with (at_builtin; refine wp_append_row rfl _ _ rfl hR15 rfl hA w14.heap.size rfl hbq2 lq17 lq17 lq17 (Old.nn X _) ?_; intro g16 cap16 w16 hRn hq hgl hgr); have hk16 := hk15.trans (Ke.of_below hq (Eb X b)); have hP16 := hP15.blocks (fun k hk => hq.5 k lq17); have hB16 := hB15.of (fun k h1 h2 => hq.5 k lq17)
    have HE := Lh (show _ ∧ _ ∧ _ ∧ _ from ⟨hP16, hB16, hRn, hk16⟩); clear hP16 hB16 hRn hk16 hA hbq2 hgr hk15 hP15 hB15 hR15 hq; go_wp2_with fail
    go_roundg gk
    case measure => omega
    case rel => exact ⟨s3, ks ++ [T1], l1, some ⟨g16, 0, none⟩, cap16, by simp, Lh ⟨HE.out.1, HE.out.2.1, HE.out.2.2.1, HE.out.2.2.2, hRk, by simp only [length_append, length_cons, length_nil]; omega, by omega⟩⟩
  ·simp only [hv, Bool.false_eq_true, if_false] at hRk; have HE := Lh (show _ ∧ _ ∧ _ from ⟨hP11, hR11, hk11⟩); clear hP11 hR11 hk11; go_wp2_with fail; go_ret; exact .inr ⟨ks, _, A0, c0, hRk.symm, rfl, HE.out.1, HE.out.2.1, HE.out.2.2⟩
end
end
end Go.Proofs.YtjndbcnmmnkilaaGreatDoor
