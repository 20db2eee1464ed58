/- whole.Divide: numbers divided. -/
import Derived.Test.YtegdbcnloodljaaDoorD4
import Derived.Test.YtegdbcnloodljaaDoorBoxes
import Derived.Test.YtegdbcnloodljaaDoorW8
import Derived.Test.YtegdbcnloodljaaDoorW6
import Derived.Test.YtegdbcnloodljaaDoorR6
import Derived.Test.YtegdbcnloodljaaDoorW9
import Derived.Deep.RegionHeld3
import Derived.Deep.DeepCutAuto
namespace Go.Proofs.YtegdbcnloodljaaDoor
set_option linter.unusedVariables false
set_option linter.unusedSimpArgs false
open Go.RowKit
set_option maxRecDepth 1000000

/-- quotient and rest, rounded down. -/
def dq (X Y : Int) : Int := if 0 < Y then X / Y else (-X) / (-Y)
def dr (X Y : Int) : Int := if 0 < Y then X % Y else -((-X) % (-Y))
def dvO (X Y : Int) : Bool := big X || big Y || decide (Y = 0) || big (dq X Y)
def dvQ (X Y : Int) : Option Int := if dvO X Y then none else some (dq X Y)
def dvR (X Y : Int) : Option Int := if dvO X Y then none else some (dr X Y)
def dvE (X Y : Int) : Int := if big X || big Y then 3 else if Y = 0 then 2 else if big (dq X Y) then 3 else 0
theorem dv_pos {X Y q r : Int} (h : X = Y * q + r) (h0 : 0 ≤ r) (h1 : r < Y) : dq X Y = q ∧ dr X Y = r := by
  have hp : 0 < Y := by omega
  have := (Int.ediv_emod_unique (a := X) (b := Y) (r := r) (q := q) hp).2 ⟨by omega, h0, h1⟩
  rw [dq, dr, if_pos hp, if_pos hp]; exact this
theorem dv_neg {X Y q r : Int} (h : X = Y * q + r) (h0 : r ≤ 0) (h1 : Y < r) : dq X Y = q ∧ dr X Y = r := by
  have hp : 0 < -Y := by omega
  have := (Int.ediv_emod_unique (a := -X) (b := -Y) (r := -r) (q := q) hp).2 ⟨by rw [h, Int.neg_mul]; omega, by omega, by omega⟩
  rw [dq, dr, if_neg (by omega), if_neg (by omega)]
  exact ⟨this.1, by rw [this.2]; omega⟩
theorem valI_cases (b : Bool) (zs : List Int) : valI b zs = if b then -(val zs) else val zs := by cases b <;> rfl
theorem dv_same {b : Bool} {a d n l : Int} (h : a = d * n + l) (h0 : 0 ≤ l) (h1 : l < d) : dq (if b then -a else a) (if b then -d else d) = n ∧ dr (if b then -a else a) (if b then -d else d) = if b then -l else l := by
  cases b with
  | false => exact dv_pos h h0 h1
  | true => exact dv_neg (by simp only [if_true]; rw [h, Int.neg_mul]; omega) (by simp; omega) (by simp; omega)
theorem dv_zero {b1 b2 : Bool} {a d n : Int} (hb : b1 ≠ b2) (h : a = d * n) (hd : 0 < d) : dq (if b1 then -a else a) (if b2 then -d else d) = -n ∧ dr (if b1 then -a else a) (if b2 then -d else d) = 0 := by
  cases b1 <;> cases b2
  · exact absurd rfl hb
  · exact dv_neg (by simp only [Bool.false_eq_true, if_false, if_true]; rw [h]; grind) (by omega) (by simp; omega)
  · exact dv_pos (by simp only [Bool.false_eq_true, if_false, if_true]; rw [h]; grind) (by omega) (by simp; omega)
  · exact absurd rfl hb
theorem dv_other {b1 b2 : Bool} {a d n l : Int} (hb : b1 ≠ b2) (h : a = d * n + l) (h0 : 0 < l) (h1 : l < d) : dq (if b1 then -a else a) (if b2 then -d else d) = -(n + 1) ∧ dr (if b1 then -a else a) (if b2 then -d else d) = if b2 then -(d - l) else d - l := by
  cases b1 <;> cases b2
  · exact absurd rfl hb
  · exact dv_neg (by simp only [Bool.false_eq_true, if_false, if_true]; rw [h]; grind) (by simp; omega) (by simp; omega)
  · exact dv_pos (by simp only [Bool.false_eq_true, if_false, if_true]; rw [h]; grind) (by simp; omega) (by simp; omega)
  · exact absurd rfl hb

/-- four boxes. -/
def B4 (w : World) (a0 a1 b0 b1 q0 q1 r0 r1 : Value) (W : World) : Prop :=
  Bx w.heap.size a0 a1 W ∧ Bx (w.heap.size + 1) b0 b1 W ∧ Bx (w.heap.size + 1 + 1) q0 q1 W ∧ Bx (w.heap.size + 1 + 1 + 1) r0 r1 W
theorem B4.later {w : World} {a0 a1 b0 b1 q0 q1 r0 r1 : Value} {W W' : World} (h : B4 w a0 a1 b0 b1 q0 q1 r0 r1 W) (hb : Below W.heap.size W W') : B4 w a0 a1 b0 b1 q0 q1 r0 r1 W' :=
  ⟨h.1.later hb, h.2.1.later hb, h.2.2.1.later hb, h.2.2.2.later hb⟩
theorem B4.setQ {w : World} {a0 a1 b0 b1 q0 q1 r0 r1 : Value} {W : World} (h : B4 w a0 a1 b0 b1 q0 q1 r0 r1 W) (x y : Value) : B4 w a0 a1 b0 b1 x y r0 r1 ((W.setCell ⟨w.heap.size + 1 + 1, 0, none⟩ x).setCell ⟨w.heap.size + 1 + 1, 1, none⟩ y) :=
  ⟨h.1.off (by omega) x y, h.2.1.off (by omega) x y, h.2.2.1.set x y, h.2.2.2.off (by omega) x y⟩
theorem B4.setR {w : World} {a0 a1 b0 b1 q0 q1 r0 r1 : Value} {W : World} (h : B4 w a0 a1 b0 b1 q0 q1 r0 r1 W) (x y : Value) : B4 w a0 a1 b0 b1 q0 q1 x y ((W.setCell ⟨w.heap.size + 1 + 1 + 1, 0, none⟩ x).setCell ⟨w.heap.size + 1 + 1 + 1, 1, none⟩ y) :=
  ⟨h.1.off (by omega) x y, h.2.1.off (by omega) x y, h.2.2.1.off (by omega) x y, h.2.2.2.set x y⟩
theorem b4_new (w : World) (a0 a1 b0 b1 : Value) : B4 w a0 a1 b0 b1 (.bool false) (.slice none 0 0) (.bool false) (.slice none 0 0) ((((w.alloc (.cells #[a0, a1] 24)).alloc (.cells #[b0, b1] 24)).alloc (.cells #[.bool false, .slice none 0 0] 24)).alloc (.cells #[.bool false, .slice none 0 0] 24)) := by
  refine ⟨⟨?_, ?_, ?_, ?_, ?_⟩, ⟨?_, ?_, ?_, ?_, ?_⟩, ⟨?_, ?_, ?_, ?_, ?_⟩, ⟨?_, ?_, ?_, ?_, ?_⟩⟩ <;> simp [go_sem] <;> omega
/-- what is handed back of a division. -/
def RetDiv (w : World) (X Y : Int) (e : Ending) (w' : World) : Prop :=
  ∃ A1 c1 A2 c2, e = .returned (.tuple #[.agg #[.bool (cb (dvQ X Y)), .slice A1 (cz (dvQ X Y)).length c1], .agg #[.bool (cb (dvR X Y)), .slice A2 (cz (dvR X Y)).length c2], .int .i64 (dvE X Y)]) ∧ CanAt w' w.heap.size (dvQ X Y) A1 c1 ∧ CanAt w' w.heap.size (dvR X Y) A2 c2 ∧ Below w.heap.size w w'
theorem form_cn (neg : Bool) (A : Option Addr) (c : Nat) (zs : List Int) (base : Nat) (w : World) (hW : W32 zs) (hf : FrI w base .u32 A zs) (hl : zs.length ≤ c) (hc : c ≤ 9223372036854775807) (S : Int) (hS : valI neg zs = S) :
    Calls Tryd.prog 46 #[.bool neg, .slice A zs.length c] w fun e w' => ∃ A' c', e = .returned (.agg #[.bool (cb (some S)), .slice A' (cz (some S)).length c']) ∧ CanAt w' base (some S) A' c' ∧ Below w.heap.size w w' := by
  refine (form_int neg A c zs base w hW hf hl hc S hS).mono ?_
  rintro e w' ⟨b', A', n', c', rfl, hv, hb⟩
  obtain ⟨A2, c2, e2, h2⟩ := hv.can
  exact ⟨A2, c2, by rw [e2], h2, hb⟩
theorem CanAt.both {w : World} {base : Nat} {O : Option Int} {A : Option Addr} {c : Nat} (h : CanAt w base O A c) (k : Nat) (hk : k < base) (x y : Value) : CanAt ((w.setCell ⟨k, 0, none⟩ x).setCell ⟨k, 1, none⟩ y) base O A c := (h.setCell (p := ⟨k, 0, none⟩) hk _).setCell (p := ⟨k, 1, none⟩) hk _
theorem FrI.take' {w : World} {base : Nat} {k : IntKind} {A : Option Addr} {zs : List Int} (h : FrI w base k A zs) (n : Nat) : FrI w base k A (zs.take n) := fun i hi => by
  rw [List.length_take] at hi
  obtain ⟨b, off, z, hA, hB, hz, hc, hf⟩ := h i (by omega)
  exact ⟨b, off, z, hA, hB, by rw [List.getElem?_take_of_lt (by omega)]; exact hz, hc, hf⟩
theorem rdI_lit (w : World) (k : IntKind) (z : Int) (t : TypeId) (n : Nat) (hn : n = w.heap.size) : RdI (w.alloc (.cells #[.int k z] t)) k (some ⟨n, 0, none⟩) [z] := by
  subst hn; exact rdI_one w k z t
theorem dv_none {X Y : Int} (h : dvO X Y = true) : dvQ X Y = none ∧ dvR X Y = none := by rw [dvQ, dvR, h]; exact ⟨rfl, rfl⟩

set_option maxHeartbeats 8000000 in
theorem wDivide_ok (b1 b2 : Bool) (A B : Option Addr) (c d : Nat) (xs ys : List Int) (w : World) (hX : W32 xs) (hY : W32 ys) (hr : RdI w .u32 A xs) (hs : RdI w .u32 B ys) (hl : xs.length ≤ c) (hc : c ≤ 9223372036854775807) (hl2 : ys.length ≤ d) (hd : d ≤ 9223372036854775807) :
    Calls Tryd.prog 41 #[.agg #[.bool b1, .slice A xs.length c], .agg #[.bool b2, .slice B ys.length d]] w (RetDiv w (valI b1 xs) (valI b2 ys)) := by
  have hL1 : ∀ W, Below w.heap.size w W → Calls Tryd.prog 61 #[.agg #[.bool b1, .slice A xs.length c]] W fun e w' => e = .returned (.bool (big (valI b1 xs))) ∧ Below W.heap.size W w' := fun W hb => by
    have := wlong_ok b1 A c xs W (hr.later hb) hl hc
    rw [big_valI hX, ← show decide (256 < (trimN xs).length) = decide (BIG ≤ val xs) from by rw [Bool.eq_iff_iff]; simp only [decide_eq_true_eq]; exact long_iff hX]
    exact this
  have hL2 : ∀ W, Below w.heap.size w W → Calls Tryd.prog 61 #[.agg #[.bool b2, .slice B ys.length d]] W fun e w' => e = .returned (.bool (big (valI b2 ys))) ∧ Below W.heap.size W w' := fun W hb => by
    have := wlong_ok b2 B d ys W (hs.later hb) hl2 hd
    rw [big_valI hY, ← show decide (256 < (trimN ys).length) = decide (BIG ≤ val ys) from by rw [Bool.eq_iff_iff]; simp only [decide_eq_true_eq]; exact long_iff hY]
    exact this
  unfold RetDiv
  obtain ⟨W0, hW0⟩ : ∃ W0, (((w.alloc (.cells #[.bool b1, .slice A xs.length c] 24)).alloc (.cells #[.bool b2, .slice B ys.length d] 24)).alloc (.cells #[.bool false, .slice none 0 0] 24)).alloc (.cells #[.bool false, .slice none 0 0] 24) = W0 := ⟨_, rfl⟩
  have hz : Below w.heap.size w W0 := by rw [← hW0]; exact ((((Below.refl _ _).alloc (Nat.le_refl _) _).alloc (by simp) _).alloc (by simp; omega) _).alloc (by simp; omega) _
  have K := b4_new w (.bool b1) (.slice A xs.length c) (.bool b2) (.slice B ys.length d)
  rw [hW0] at K
  have K0 := K
  obtain ⟨⟨ka0, ka1, ka2, ka3, ka4⟩, ⟨kb0, kb1, kb2, kb3, kb4⟩, ⟨kq0, kq1, kq2, kq3, kq4⟩, ⟨kr0, kr1, kr2, kr3, kr4⟩⟩ := K0
  cases h1 : big (valI b1 xs) with
  | true =>
    have hO : dvO (valI b1 xs) (valI b2 ys) = true := by rw [dvO, h1]; rfl
    have hE : dvE (valI b1 xs) (valI b2 ys) = 3 := by rw [dvE, h1]; rfl
    rw [h1] at hL1
    obtain ⟨hQ, hR⟩ := dv_none hO
    rw [hQ, hR, hE]
    clear hQ hR hE hO
    go_enter Tryd.func41, Tryd.ntmps41
    go_wp2_with fail
    go_at_call 61
    refine (hL1 _ hz).mono ?_
    rintro e w1 ⟨rfl, hb⟩
    have K := K.later hb
    have hz := hz.trans (hb.mono hz.size)
    clear ka0 ka1 ka2 ka3 ka4 kb0 kb1 kb2 kb3 kb4 kq0 kq1 kq2 kq3 kq4 kr0 kr1 kr2 kr3 kr4
    have K0 := K
    obtain ⟨⟨ka0, ka1, ka2, ka3, ka4⟩, ⟨kb0, kb1, kb2, kb3, kb4⟩, ⟨kq0, kq1, kq2, kq3, kq4⟩, ⟨kr0, kr1, kr2, kr3, kr4⟩⟩ := K0
    obtain ⟨w9, hw9⟩ : ∃ w9, w9 = w1 := ⟨w1, rfl⟩
    subst hw9
    go_wp2
    go_region
    go_wp2
    have KE := (K.setQ (.bool false) (.slice none 0 0)).setR (.bool false) (.slice none 0 0)
    have hE : Below w.heap.size w ((((w9.setCell ⟨w.heap.size + 1 + 1, 0, none⟩ (.bool false)).setCell ⟨w.heap.size + 1 + 1, 1, none⟩ (.slice none 0 0)).setCell ⟨w.heap.size + 1 + 1 + 1, 0, none⟩ (.bool false)).setCell ⟨w.heap.size + 1 + 1 + 1, 1, none⟩ (.slice none 0 0)) := (((hz.setCell (p := ⟨w.heap.size + 1 + 1, 0, none⟩) (by show w.heap.size ≤ w.heap.size + 1 + 1; omega) _).setCell (p := ⟨w.heap.size + 1 + 1, 1, none⟩) (by show w.heap.size ≤ w.heap.size + 1 + 1; omega) _).setCell (p := ⟨w.heap.size + 1 + 1 + 1, 0, none⟩) (by show w.heap.size ≤ w.heap.size + 1 + 1 + 1; omega) _).setCell (p := ⟨w.heap.size + 1 + 1 + 1, 1, none⟩) (by show w.heap.size ≤ w.heap.size + 1 + 1 + 1; omega) _
    replace KE := KE.later (below_drew (Below.refl _ _))
    replace hE := below_drew hE
    generalize ((((w9.setCell ⟨w.heap.size + 1 + 1, 0, none⟩ (.bool false)).setCell ⟨w.heap.size + 1 + 1, 1, none⟩ (.slice none 0 0)).setCell ⟨w.heap.size + 1 + 1 + 1, 0, none⟩ (.bool false)).setCell ⟨w.heap.size + 1 + 1 + 1, 1, none⟩ (.slice none 0 0)).drew = WE at KE hE ⊢
    clear ka0 ka1 ka2 ka3 ka4 kb0 kb1 kb2 kb3 kb4 kq0 kq1 kq2 kq3 kq4 kr0 kr1 kr2 kr3 kr4 K
    obtain ⟨⟨ka0, ka1, ka2, ka3, ka4⟩, ⟨kb0, kb1, kb2, kb3, kb4⟩, ⟨kq0, kq1, kq2, kq3, kq4⟩, ⟨kr0, kr1, kr2, kr3, kr4⟩⟩ := KE
    exact bodyPost_ret (v := .tuple #[.agg #[.bool false, .slice none 0 0], .agg #[.bool false, .slice none 0 0], .int .i64 3]) (by simp [results, Tryd.results41, go_sem, kq0, kq1, kq4, kr0, kr1, kr4]) rfl ⟨none, 0, none, 0, rfl, can_none _ _, can_none _ _, hE⟩
  | false =>
    rw [h1] at hL1
    cases h2 : big (valI b2 ys) with
    | true =>
      have hO : dvO (valI b1 xs) (valI b2 ys) = true := by rw [dvO, h1, h2]; rfl
      have hE : dvE (valI b1 xs) (valI b2 ys) = 3 := by rw [dvE, h1, h2]; rfl
      rw [h2] at hL2
      obtain ⟨hQ, hR⟩ := dv_none hO
      rw [hQ, hR, hE]
      clear hQ hR hE hO
      go_enter Tryd.func41, Tryd.ntmps41
      go_wp2_with fail
      go_at_call 61
      refine (hL1 _ hz).mono ?_
      rintro e w1 ⟨rfl, hb⟩
      have K := K.later hb
      have hz := hz.trans (hb.mono hz.size)
      clear ka0 ka1 ka2 ka3 ka4 kb0 kb1 kb2 kb3 kb4 kq0 kq1 kq2 kq3 kq4 kr0 kr1 kr2 kr3 kr4
      have K0 := K
      obtain ⟨⟨ka0, ka1, ka2, ka3, ka4⟩, ⟨kb0, kb1, kb2, kb3, kb4⟩, ⟨kq0, kq1, kq2, kq3, kq4⟩, ⟨kr0, kr1, kr2, kr3, kr4⟩⟩ := K0
      go_wp2_with fail
      go_at_call 61
      refine (hL2 _ hz).mono ?_
      rintro e w9 ⟨rfl, hb⟩
      have K := K.later hb
      have hz := hz.trans (hb.mono hz.size)
      clear ka0 ka1 ka2 ka3 ka4 kb0 kb1 kb2 kb3 kb4 kq0 kq1 kq2 kq3 kq4 kr0 kr1 kr2 kr3 kr4
      have K0 := K
      obtain ⟨⟨ka0, ka1, ka2, ka3, ka4⟩, ⟨kb0, kb1, kb2, kb3, kb4⟩, ⟨kq0, kq1, kq2, kq3, kq4⟩, ⟨kr0, kr1, kr2, kr3, kr4⟩⟩ := K0
      go_wp2
      go_region
      go_wp2
      have KE := (K.setQ (.bool false) (.slice none 0 0)).setR (.bool false) (.slice none 0 0)
      have hE : Below w.heap.size w ((((w9.setCell ⟨w.heap.size + 1 + 1, 0, none⟩ (.bool false)).setCell ⟨w.heap.size + 1 + 1, 1, none⟩ (.slice none 0 0)).setCell ⟨w.heap.size + 1 + 1 + 1, 0, none⟩ (.bool false)).setCell ⟨w.heap.size + 1 + 1 + 1, 1, none⟩ (.slice none 0 0)) := (((hz.setCell (p := ⟨w.heap.size + 1 + 1, 0, none⟩) (by show w.heap.size ≤ w.heap.size + 1 + 1; omega) _).setCell (p := ⟨w.heap.size + 1 + 1, 1, none⟩) (by show w.heap.size ≤ w.heap.size + 1 + 1; omega) _).setCell (p := ⟨w.heap.size + 1 + 1 + 1, 0, none⟩) (by show w.heap.size ≤ w.heap.size + 1 + 1 + 1; omega) _).setCell (p := ⟨w.heap.size + 1 + 1 + 1, 1, none⟩) (by show w.heap.size ≤ w.heap.size + 1 + 1 + 1; omega) _
      replace KE := KE.later (below_drew (Below.refl _ _))
      replace hE := below_drew hE
      generalize ((((w9.setCell ⟨w.heap.size + 1 + 1, 0, none⟩ (.bool false)).setCell ⟨w.heap.size + 1 + 1, 1, none⟩ (.slice none 0 0)).setCell ⟨w.heap.size + 1 + 1 + 1, 0, none⟩ (.bool false)).setCell ⟨w.heap.size + 1 + 1 + 1, 1, none⟩ (.slice none 0 0)).drew = WE at KE hE ⊢
      clear ka0 ka1 ka2 ka3 ka4 kb0 kb1 kb2 kb3 kb4 kq0 kq1 kq2 kq3 kq4 kr0 kr1 kr2 kr3 kr4 K
      obtain ⟨⟨ka0, ka1, ka2, ka3, ka4⟩, ⟨kb0, kb1, kb2, kb3, kb4⟩, ⟨kq0, kq1, kq2, kq3, kq4⟩, ⟨kr0, kr1, kr2, kr3, kr4⟩⟩ := KE
      exact bodyPost_ret (v := .tuple #[.agg #[.bool false, .slice none 0 0], .agg #[.bool false, .slice none 0 0], .int .i64 3]) (by simp [results, Tryd.results41, go_sem, kq0, kq1, kq4, kr0, kr1, kr4]) rfl ⟨none, 0, none, 0, rfl, can_none _ _, can_none _ _, hE⟩
    | false =>
      rw [h2] at hL2
      have s1 : (trimN xs).length ≤ 256 := by
        have := h1; rw [big_valI hX, decide_eq_false_iff_not, ← long_iff hX] at this; omega
      have s2 : (trimN ys).length ≤ 256 := by
        have := h2; rw [big_valI hY, decide_eq_false_iff_not, ← long_iff hY] at this; omega
      have hT1 : ∀ W, Below w.heap.size w W → Calls Tryd.prog 54 #[.slice A xs.length c] W fun e w' => e = .returned (.slice A (trimN xs).length c) ∧ w' = W := fun W hb => (trim_any A c xs W (hr.later hb) hl hc).mono fun e w' h => ⟨h.1, h.2.symm⟩
      have hT2 : ∀ W, Below w.heap.size w W → Calls Tryd.prog 54 #[.slice B ys.length d] W fun e w' => e = .returned (.slice B (trimN ys).length d) ∧ w' = W := fun W hb => (trim_any B d ys W (hs.later hb) hl2 hd).mono fun e w' h => ⟨h.1, h.2.symm⟩
      have hSg : ∀ W, Below w.heap.size w W → Calls Tryd.prog 43 #[.agg #[.bool b2, .slice B ys.length d]] W fun e w' => e = .returned (.int .i64 (sgn3 (valI b2 ys))) ∧ Below W.heap.size W w' := fun W hb => wsign_ok b2 B d ys W hY (hs.later hb) hl2 hd
      have e1 : valI b1 xs = valI b1 (trimN xs) := by rw [valI, valI, val_trimN]
      have e2 : valI b2 ys = valI b2 (trimN ys) := by rw [valI, valI, val_trimN]
      rw [e1] at h1 ⊢
      rw [e2] at h2 hSg ⊢
      have wX := trimN_w32 hX
      have wY := trimN_w32 hY
      have nX := trimN_nt xs
      have nY := trimN_nt ys
      have rX : RdI w .u32 A (trimN xs) := hr.take _
      have rY : RdI w .u32 B (trimN ys) := hs.take _
      have lX := trimN_le xs
      have lY := trimN_le ys
      have hs0 := Lib.hid hs
      have HTN := Lib.hid (show trimN ys = trimN ys from rfl)
      generalize trimN xs = ps at *
      generalize hqs : trimN ys = qs at *
      clear e1 e2 hX hY hr hs HTN
      by_cases hy0 : qs = []
      · subst hy0
        have hY0 : valI b2 [] = 0 := by cases b2 <;> rfl
        rw [hY0] at hSg h2 ⊢
        have hO : dvO (valI b1 ps) 0 = true := by rw [dvO, h1, h2]; rfl
        have hE : dvE (valI b1 ps) 0 = 2 := by rw [dvE, h1, h2]; rfl
        have hsg : sgn3 0 = 0 := by decide
        rw [hsg] at hSg
        obtain ⟨hQ, hR⟩ := dv_none hO
        rw [hQ, hR, hE]
        clear hQ hR hE hO hsg hT1 hT2
        go_enter Tryd.func41, Tryd.ntmps41
        go_wp2_with fail
        go_at_call 61
        refine (hL1 _ hz).mono ?_
        rintro e w1 ⟨rfl, hb⟩
        have K := K.later hb
        have hz := hz.trans (hb.mono hz.size)
        clear ka0 ka1 ka2 ka3 ka4 kb0 kb1 kb2 kb3 kb4 kq0 kq1 kq2 kq3 kq4 kr0 kr1 kr2 kr3 kr4
        have K0 := K
        obtain ⟨⟨ka0, ka1, ka2, ka3, ka4⟩, ⟨kb0, kb1, kb2, kb3, kb4⟩, ⟨kq0, kq1, kq2, kq3, kq4⟩, ⟨kr0, kr1, kr2, kr3, kr4⟩⟩ := K0
        go_wp2_with fail
        go_at_call 61
        refine (hL2 _ hz).mono ?_
        rintro e w2 ⟨rfl, hb⟩
        have K := K.later hb
        have hz := hz.trans (hb.mono hz.size)
        clear ka0 ka1 ka2 ka3 ka4 kb0 kb1 kb2 kb3 kb4 kq0 kq1 kq2 kq3 kq4 kr0 kr1 kr2 kr3 kr4
        have K0 := K
        obtain ⟨⟨ka0, ka1, ka2, ka3, ka4⟩, ⟨kb0, kb1, kb2, kb3, kb4⟩, ⟨kq0, kq1, kq2, kq3, kq4⟩, ⟨kr0, kr1, kr2, kr3, kr4⟩⟩ := K0
        go_wp2_with fail
        go_at_call 43
        refine (hSg _ hz).mono ?_
        rintro e w9 ⟨rfl, hb⟩
        have K := K.later hb
        have hz := hz.trans (hb.mono hz.size)
        clear ka0 ka1 ka2 ka3 ka4 kb0 kb1 kb2 kb3 kb4 kq0 kq1 kq2 kq3 kq4 kr0 kr1 kr2 kr3 kr4
        have K0 := K
        obtain ⟨⟨ka0, ka1, ka2, ka3, ka4⟩, ⟨kb0, kb1, kb2, kb3, kb4⟩, ⟨kq0, kq1, kq2, kq3, kq4⟩, ⟨kr0, kr1, kr2, kr3, kr4⟩⟩ := K0
        go_wp2
        go_region
        go_wp2
        have KE := (K.setQ (.bool false) (.slice none 0 0)).setR (.bool false) (.slice none 0 0)
        have hE : Below w.heap.size w ((((w9.setCell ⟨w.heap.size + 1 + 1, 0, none⟩ (.bool false)).setCell ⟨w.heap.size + 1 + 1, 1, none⟩ (.slice none 0 0)).setCell ⟨w.heap.size + 1 + 1 + 1, 0, none⟩ (.bool false)).setCell ⟨w.heap.size + 1 + 1 + 1, 1, none⟩ (.slice none 0 0)) := (((hz.setCell (p := ⟨w.heap.size + 1 + 1, 0, none⟩) (by show w.heap.size ≤ w.heap.size + 1 + 1; omega) _).setCell (p := ⟨w.heap.size + 1 + 1, 1, none⟩) (by show w.heap.size ≤ w.heap.size + 1 + 1; omega) _).setCell (p := ⟨w.heap.size + 1 + 1 + 1, 0, none⟩) (by show w.heap.size ≤ w.heap.size + 1 + 1 + 1; omega) _).setCell (p := ⟨w.heap.size + 1 + 1 + 1, 1, none⟩) (by show w.heap.size ≤ w.heap.size + 1 + 1 + 1; omega) _
        replace KE := KE.later (below_drew (Below.refl _ _))
        replace hE := below_drew hE
        generalize ((((w9.setCell ⟨w.heap.size + 1 + 1, 0, none⟩ (.bool false)).setCell ⟨w.heap.size + 1 + 1, 1, none⟩ (.slice none 0 0)).setCell ⟨w.heap.size + 1 + 1 + 1, 0, none⟩ (.bool false)).setCell ⟨w.heap.size + 1 + 1 + 1, 1, none⟩ (.slice none 0 0)).drew = WE at KE hE ⊢
        clear ka0 ka1 ka2 ka3 ka4 kb0 kb1 kb2 kb3 kb4 kq0 kq1 kq2 kq3 kq4 kr0 kr1 kr2 kr3 kr4 K
        obtain ⟨⟨ka0, ka1, ka2, ka3, ka4⟩, ⟨kb0, kb1, kb2, kb3, kb4⟩, ⟨kq0, kq1, kq2, kq3, kq4⟩, ⟨kr0, kr1, kr2, kr3, kr4⟩⟩ := KE
        exact bodyPost_ret (v := .tuple #[.agg #[.bool false, .slice none 0 0], .agg #[.bool false, .slice none 0 0], .int .i64 2]) (by simp [results, Tryd.results41, go_sem, kq0, kq1, kq4, kr0, kr1, kr4]) rfl ⟨none, 0, none, 0, rfl, can_none _ _, can_none _ _, hE⟩
      · have hqn : 0 < qs.length := List.length_pos_iff.2 hy0
        have hqv : 0 < val qs := by have := (nt_len wY nY 0).1 hqn; simp at this; omega
        have hYn : valI b2 qs ≠ 0 := by rw [valI_cases]; split <;> omega
        have hsg : (sgn3 (valI b2 qs) == 0) = false := by unfold sgn3; split <;> first | rfl | (split <;> first | rfl | (exfalso; omega))
        generalize sgn3 (valI b2 qs) = σ at *
        go_enter Tryd.func41, Tryd.ntmps41
        go_wp2_with fail
        go_at_call 61
        refine (hL1 _ hz).mono ?_
        rintro e w1 ⟨rfl, hb⟩
        have K := K.later hb
        have hz := hz.trans (hb.mono hz.size)
        clear ka0 ka1 ka2 ka3 ka4 kb0 kb1 kb2 kb3 kb4 kq0 kq1 kq2 kq3 kq4 kr0 kr1 kr2 kr3 kr4
        have K0 := K
        obtain ⟨⟨ka0, ka1, ka2, ka3, ka4⟩, ⟨kb0, kb1, kb2, kb3, kb4⟩, ⟨kq0, kq1, kq2, kq3, kq4⟩, ⟨kr0, kr1, kr2, kr3, kr4⟩⟩ := K0
        go_wp2_with fail
        go_at_call 61
        refine (hL2 _ hz).mono ?_
        rintro e w2 ⟨rfl, hb⟩
        have K := K.later hb
        have hz := hz.trans (hb.mono hz.size)
        clear ka0 ka1 ka2 ka3 ka4 kb0 kb1 kb2 kb3 kb4 kq0 kq1 kq2 kq3 kq4 kr0 kr1 kr2 kr3 kr4
        have K0 := K
        obtain ⟨⟨ka0, ka1, ka2, ka3, ka4⟩, ⟨kb0, kb1, kb2, kb3, kb4⟩, ⟨kq0, kq1, kq2, kq3, kq4⟩, ⟨kr0, kr1, kr2, kr3, kr4⟩⟩ := K0
        go_wp2_with fail
        go_at_call 43
        refine (hSg _ hz).mono ?_
        rintro e w9 ⟨rfl, hb⟩
        have K := K.later hb
        have hz := hz.trans (hb.mono hz.size)
        clear ka0 ka1 ka2 ka3 ka4 kb0 kb1 kb2 kb3 kb4 kq0 kq1 kq2 kq3 kq4 kr0 kr1 kr2 kr3 kr4
        have K0 := K
        obtain ⟨⟨ka0, ka1, ka2, ka3, ka4⟩, ⟨kb0, kb1, kb2, kb3, kb4⟩, ⟨kq0, kq1, kq2, kq3, kq4⟩, ⟨kr0, kr1, kr2, kr3, kr4⟩⟩ := K0
        have HB := Lib.hid (And.intro h1 h2)
        clear hL1 hL2 hSg h1 h2
        go_upto_region 5 with fail
        have HPK : ∀ W, Below w9.heap.size w9 W → (W.cell? ⟨w.heap.size, 1, none⟩ = some (.slice A xs.length c) ∧ W.cell? ⟨w.heap.size + 1, 1, none⟩ = some (.slice B ys.length d) ∧ w.heap.size < W.heap.size ∧ w.heap.size + 1 < W.heap.size) := fun W h => ⟨(K.later h).1.2.1, (K.later h).2.1.2.1, (K.later h).1.2.2.2.2, (K.later h).2.1.2.2.2.2⟩
        have hd9 : Below w9.heap.size w9 w9.drew := below_drew (Below.refl _ _)
        have hzd := below_drew hz
        clear ka2 ka3 kb2 kb3 kq0 kq1 kq2 kq3 kq4 kr0 kr1 kr2 kr3 kr4 ka0 kb0
        have HK := Lib.hid K
        have HYn := Lib.hid (And.intro hYn hqv)
        clear K hYn hqv hsg hy0 hW0
        go_region_held3 (fun W => W.cell? ⟨w.heap.size, 1, none⟩ = some (.slice A xs.length c) ∧ W.cell? ⟨w.heap.size + 1, 1, none⟩ = some (.slice B ys.length d) ∧ w.heap.size < W.heap.size ∧ w.heap.size + 1 < W.heap.size) (exact HPK _ (by repeat first | with_reducible exact Below.refl _ _ | with_reducible assumption | with_reducible refine below_drew ?_)) (first
          | (go_at_call 54; refine (hT1 _ (by first | exact hz | exact hzd)).mono ?_; rintro e w5 ⟨rfl, rfl⟩; clear hT1; have hN1 := True.intro)
          | (go_at_call 54; have hN2 := hN1; refine (hT2 _ (by first | exact hz | exact hzd)).mono ?_; rintro e w5 ⟨rfl, rfl⟩; clear hT2)
          | (go_at_call 69; refine (wdivide_ok A B c d ps qs _ wX wY nX nY (rX.later (by first | exact hz | exact hzd)) (rY.later (by first | exact hz | exact hzd)) (by omega) hc (by omega) hd (by omega) (by omega) hqn).mono ?_; rintro e w6 ⟨A1, A2, c1, c2, ns, ls, rfl, n1, n2, n3, n4, n5, n6, wn, wl, fn, fl, hdv, hlv, hb⟩; have HB6 : Below w9.heap.size w9 w6 := (by first | exact hb | exact hd9.trans hb); have HD6 := Lib.hid (And.intro hdv hlv); clear hdv hlv hb))
        have K := HK.out.later HB6
        have hz6 := hz.trans (HB6.mono hz.size)
        have HRY := Lib.hid (rY.later (hz.trans (HB6.mono hz.size)))
        have HHS := Lib.hid (hs0.out.later (hz.trans (HB6.mono hz.size)))
        replace hz := hz6
        clear ka1 ka4 kb1 kb4 hzd HPK hd9 rX rY
        obtain ⟨⟨ka0, ka1, ka2, ka3, ka4⟩, ⟨kb0, kb1, kb2, kb3, kb4⟩, ⟨kq0, kq1, kq2, kq3, kq4⟩, ⟨kr0, kr1, kr2, kr3, kr4⟩⟩ := K
        have K := HK.out.later HB6
        have b4 : w.heap.size + 1 + 1 + 1 + 1 ≤ w9.heap.size := HK.out.2.2.2.2.2.2.2
        have fn := fn.mono b4
        have fl := (fl.mono b4)
        have hTl := trim_any A2 c2 ls w6 fl.rd n3 n4
        have fl : FrI w6 (w.heap.size + 1 + 1 + 1 + 1) .u32 A2 (trimN ls) := fl.take' _
        have wl2 := trimN_w32 wl
        have vl2 : val (trimN ls) = val ls := val_trimN ls
        have ll2 := trimN_le ls
        have nl2 := trimN_nt ls
        generalize hlt : trimN ls = lt at *
        go_wp2_with fail
        go_at_call 54
        refine hTl.mono ?_
        rintro e w7 ⟨rfl, rfl⟩
        have HDV := Lib.hid (show val ps = val qs * val ns + val lt ∧ val lt < val qs ∧ 0 ≤ val lt ∧ 0 < val qs by rw [vl2]; exact ⟨HD6.out.1, HD6.out.2, val_nn wl, HYn.out.2⟩)
        clear vl2 hTl HB6 wl HD6
        obtain ⟨Dq, hDq⟩ : ∃ Dq, dq (valI b1 ps) (valI b2 qs) = Dq := ⟨_, rfl⟩
        obtain ⟨Dr, hDr⟩ : ∃ Dr, dr (valI b1 ps) (valI b2 qs) = Dr := ⟨_, rfl⟩
        have HO := Lib.hid (show (big Dq = true → dvQ (valI b1 ps) (valI b2 qs) = none ∧ dvR (valI b1 ps) (valI b2 qs) = none ∧ dvE (valI b1 ps) (valI b2 qs) = 3) ∧ (big Dq = false → dvQ (valI b1 ps) (valI b2 qs) = some Dq ∧ dvR (valI b1 ps) (valI b2 qs) = some Dr ∧ dvE (valI b1 ps) (valI b2 qs) = 0) from by
          have hy := HYn.out.1
          have h1 := HB.out.1
          have h2 := HB.out.2
          refine ⟨fun h => ?_, fun h => ?_⟩
          · have : dvO (valI b1 ps) (valI b2 qs) = true := by rw [dvO, hDq, h]; simp
            exact ⟨(dv_none this).1, (dv_none this).2, by rw [dvE, h1, h2, if_neg (by decide), if_neg hy, hDq, h]; rfl⟩
          · have : dvO (valI b1 ps) (valI b2 qs) = false := by rw [dvO, h1, h2, hDq, h, decide_eq_false hy]; rfl
            refine ⟨by rw [dvQ, this, hDq]; rfl, by rw [dvR, this, hDr]; rfl, by rw [dvE, h1, h2, if_neg (by decide), if_neg hy, hDq, h]; rfl⟩)
        by_cases hbb : b1 = b2
        · subst hbb
          have hdv := dv_same (b := b1) HDV.out.1 HDV.out.2.2.1 HDV.out.2.1
          rw [← valI_cases, ← valI_cases, ← valI_cases, hDq, hDr] at hdv
          obtain ⟨rfl, rfl⟩ := hdv
          obtain ⟨Dq, hDq⟩ : ∃ Dq, val ns = Dq := ⟨_, rfl⟩
          obtain ⟨Dr, hDr⟩ : ∃ Dr, valI b1 lt = Dr := ⟨_, rfl⟩
          rw [hDq] at HO
          rw [hDr] at HO
          have hF1 := fun W (hb : Below w6.heap.size w6 W) => form_cn false A1 c1 ns (w.heap.size + 1 + 1 + 1 + 1) W wn (fn.later hb) n1 n2 Dq hDq
          have hF2 := fun W (hb : Below w6.heap.size w6 W) => form_cn b1 A2 c2 lt (w.heap.size + 1 + 1 + 1 + 1) W wl2 (fl.later hb) (by omega) n4 Dr hDr
          have HPK : ∀ W, Below w6.heap.size w6 W → (W.cell? ⟨w.heap.size, 0, none⟩ = some (.bool b1) ∧ w.heap.size < W.heap.size) := fun W h => ⟨(K.later h).1.1, (K.later h).1.2.2.2.2⟩
          have HPQ : ∀ (W : World) (x y : Value), (W.cell? ⟨w.heap.size, 0, none⟩ = some (.bool b1) ∧ w.heap.size < W.heap.size) → ((fun W => W.cell? ⟨w.heap.size, 0, none⟩ = some (.bool b1) ∧ w.heap.size < W.heap.size) ((W.setCell ⟨w.heap.size + 1 + 1, 0, none⟩ x).setCell ⟨w.heap.size + 1 + 1, 1, none⟩ y)) := fun W x y h => ⟨cell_off (cell_off h.1 (by simp; omega)) (by simp; omega), by simpa using h.2⟩
          have HPR : ∀ (W : World) (x y : Value), (W.cell? ⟨w.heap.size, 0, none⟩ = some (.bool b1) ∧ w.heap.size < W.heap.size) → ((fun W => W.cell? ⟨w.heap.size, 0, none⟩ = some (.bool b1) ∧ w.heap.size < W.heap.size) ((W.setCell ⟨w.heap.size + 1 + 1 + 1, 0, none⟩ x).setCell ⟨w.heap.size + 1 + 1 + 1, 1, none⟩ y)) := fun W x y h => ⟨cell_off (cell_off h.1 (by simp; omega)) (by simp; omega), by simpa using h.2⟩
          have hd6 : Below w6.heap.size w6 w6.drew := below_drew (Below.refl _ _)
          have HK := Lib.hid K
          have HLT := Lib.hid nl2
          clear K hDq hDr nl2 HDV kq0 kq1 kq2 kq3 kq4 kr0 kr1 kr2 kr3 kr4 kb2 kb3 ka2 ka3
          go_upto_region 9 with fail
          go_region_held3 (fun W => W.cell? ⟨w.heap.size, 0, none⟩ = some (.bool b1) ∧ w.heap.size < W.heap.size) (first | (with_reducible refine HPR _ _ _ ?_; with_reducible refine HPQ _ _ _ ?_; exact HPK _ (by repeat first | with_reducible exact Below.refl _ _ | with_reducible assumption | with_reducible refine below_drew ?_)) | (with_reducible refine HPQ _ _ _ ?_; exact HPK _ (by repeat first | with_reducible exact Below.refl _ _ | with_reducible assumption | with_reducible refine below_drew ?_)) | (with_reducible refine HPR _ _ _ ?_; exact HPK _ (by repeat first | with_reducible exact Below.refl _ _ | with_reducible assumption | with_reducible refine below_drew ?_)) | exact HPK _ (by repeat first | with_reducible exact Below.refl _ _ | with_reducible assumption | with_reducible refine below_drew ?_)) (first
            | (go_at_call 46; refine (hF1 _ (by first | with_reducible exact Below.refl _ _ | exact hd6)).mono ?_; rintro e w7 ⟨Aq, cq, rfl, Cq, b7⟩; have H7 : Below w6.heap.size w6 w7 := (by first | with_reducible exact b7 | exact hd6.trans b7); clear hF1 b7)
            | (go_at_call 46; refine (hF2 _ H7).mono ?_; rintro e w8 ⟨Ar, cr, rfl, Cr, b8⟩; have H8 := H7.trans (b8.mono H7.size); have Cq8 := Cq.later b8; obtain ⟨⟨ma0, ma1, ma2, ma3, ma4⟩, ⟨mb0, mb1, mb2, mb3, mb4⟩, ⟨mq0, mq1, mq2, mq3, mq4⟩, ⟨mr0, mr1, mr2, mr3, mr4⟩⟩ := HK.out.later H8; clear hF2 b8))
          have K := ((HK.out.later H8).setQ (.bool (cb (some Dq))) (.slice Aq (cz (some Dq)).length cq)).setR (.bool (cb (some Dr))) (.slice Ar (cz (some Dr)).length cr)
          have hz10 : Below w.heap.size w ((((w8.setCell ⟨w.heap.size + 1 + 1, 0, none⟩ (.bool (cb (some Dq)))).setCell ⟨w.heap.size + 1 + 1, 1, none⟩ (.slice Aq (cz (some Dq)).length cq)).setCell ⟨w.heap.size + 1 + 1 + 1, 0, none⟩ (.bool (cb (some Dr)))).setCell ⟨w.heap.size + 1 + 1 + 1, 1, none⟩ (.slice Ar (cz (some Dr)).length cr)) := ((((hz.trans (H8.mono hz.size)).setCell (p := ⟨w.heap.size + 1 + 1, 0, none⟩) (by show w.heap.size ≤ w.heap.size + 1 + 1; omega) _).setCell (p := ⟨w.heap.size + 1 + 1, 1, none⟩) (by show w.heap.size ≤ w.heap.size + 1 + 1; omega) _).setCell (p := ⟨w.heap.size + 1 + 1 + 1, 0, none⟩) (by show w.heap.size ≤ w.heap.size + 1 + 1 + 1; omega) _).setCell (p := ⟨w.heap.size + 1 + 1 + 1, 1, none⟩) (by show w.heap.size ≤ w.heap.size + 1 + 1 + 1; omega) _
          have Cq10 := (Cq8.both (w.heap.size + 1 + 1) (by omega) (.bool (cb (some Dq))) (.slice Aq (cz (some Dq)).length cq)).both (w.heap.size + 1 + 1 + 1) (by omega) (.bool (cb (some Dr))) (.slice Ar (cz (some Dr)).length cr)
          have Cr10 := (Cr.both (w.heap.size + 1 + 1) (by omega) (.bool (cb (some Dq))) (.slice Aq (cz (some Dq)).length cq)).both (w.heap.size + 1 + 1 + 1) (by omega) (.bool (cb (some Dr))) (.slice Ar (cz (some Dr)).length cr)
          generalize ((((w8.setCell ⟨w.heap.size + 1 + 1, 0, none⟩ (.bool (cb (some Dq)))).setCell ⟨w.heap.size + 1 + 1, 1, none⟩ (.slice Aq (cz (some Dq)).length cq)).setCell ⟨w.heap.size + 1 + 1 + 1, 0, none⟩ (.bool (cb (some Dr)))).setCell ⟨w.heap.size + 1 + 1 + 1, 1, none⟩ (.slice Ar (cz (some Dr)).length cr)) = w10 at K hz10 Cq10 Cr10 ⊢
          replace hz := hz10
          have Cq := Cq10
          have Cr := Cr10
          clear ka0 ka1 ka4 kb0 kb1 kb4 ma0 ma1 ma2 ma3 ma4 mb0 mb1 mb2 mb3 mb4 mq0 mq1 mq2 mq3 mq4 mr0 mr1 mr2 mr3 mr4 HPK HPQ HPR hd6 HK fn fl wn wl2 HB HYn
          obtain ⟨⟨ka0, ka1, ka2, ka3, ka4⟩, ⟨kb0, kb1, kb2, kb3, kb4⟩, ⟨kq0, kq1, kq2, kq3, kq4⟩, ⟨kr0, kr1, kr2, kr3, kr4⟩⟩ := id K
          have hFt := fits_can Cq
          have b4' : w.heap.size + 1 + 1 + 1 + 1 ≤ w10.heap.size := K.2.2.2.2.2.2.2
          cases hbg : big Dq with
          | true =>
            have HOQ := Lib.hid (HO.out.1 hbg)
            have hk : keepO Dq = none := by rw [keepO, hbg]; rfl
            rw [hk] at hFt
            unfold RetB at hFt
            rw [show ce none = 3 from rfl, show cb none = false from rfl, show (cz none).length = 0 from rfl] at hFt
            clear hbg hk HO
            go_wp2_with fail
            go_at_call 48
            refine (hFt).mono ?_
            rintro e w11 ⟨Af, cf, rfl, Cf, hb⟩
            have K := K.later hb
            have hz := hz.trans (hb.mono hz.size)
            clear ka0 ka1 ka2 ka3 ka4 kb0 kb1 kb2 kb3 kb4 kq0 kq1 kq2 kq3 kq4 kr0 kr1 kr2 kr3 kr4
            have K0 := K
            obtain ⟨⟨ka0, ka1, ka2, ka3, ka4⟩, ⟨kb0, kb1, kb2, kb3, kb4⟩, ⟨kq0, kq1, kq2, kq3, kq4⟩, ⟨kr0, kr1, kr2, kr3, kr4⟩⟩ := K0
            obtain ⟨w12, hw12⟩ : ∃ u, (w11.setCell ⟨w.heap.size + 1 + 1, 0, none⟩ (.bool false)).setCell ⟨w.heap.size + 1 + 1, 1, none⟩ (.slice Af 0 cf) = u := ⟨_, rfl⟩
            replace K := K.setQ (.bool false) (.slice Af 0 cf)
            replace hz : Below w.heap.size w ((w11.setCell ⟨w.heap.size + 1 + 1, 0, none⟩ (.bool false)).setCell ⟨w.heap.size + 1 + 1, 1, none⟩ (.slice Af 0 cf)) := (hz.setCell (p := ⟨w.heap.size + 1 + 1, 0, none⟩) (by show w.heap.size ≤ w.heap.size + 1 + 1; omega) _).setCell (p := ⟨w.heap.size + 1 + 1, 1, none⟩) (by show w.heap.size ≤ w.heap.size + 1 + 1; omega) _
            rw [hw12] at K hz
            have HK := Lib.hid K
            have KQ := K.2.2.1
            have KR := K.2.2.2
            obtain ⟨nq0, nq1, nq2, nq3, nq4⟩ := KQ
            obtain ⟨nr0, nr1, nr2, nr3, nr4⟩ := KR
            clear K
            go_wp2
            have K := HK.out
            have KE := (K.setQ (.bool false) (.slice none 0 0)).setR (.bool false) (.slice none 0 0)
            have hE : Below w.heap.size w ((((w12.setCell ⟨w.heap.size + 1 + 1, 0, none⟩ (.bool false)).setCell ⟨w.heap.size + 1 + 1, 1, none⟩ (.slice none 0 0)).setCell ⟨w.heap.size + 1 + 1 + 1, 0, none⟩ (.bool false)).setCell ⟨w.heap.size + 1 + 1 + 1, 1, none⟩ (.slice none 0 0)) := (((hz.setCell (p := ⟨w.heap.size + 1 + 1, 0, none⟩) (by show w.heap.size ≤ w.heap.size + 1 + 1; omega) _).setCell (p := ⟨w.heap.size + 1 + 1, 1, none⟩) (by show w.heap.size ≤ w.heap.size + 1 + 1; omega) _).setCell (p := ⟨w.heap.size + 1 + 1 + 1, 0, none⟩) (by show w.heap.size ≤ w.heap.size + 1 + 1 + 1; omega) _).setCell (p := ⟨w.heap.size + 1 + 1 + 1, 1, none⟩) (by show w.heap.size ≤ w.heap.size + 1 + 1 + 1; omega) _
            generalize ((((w12.setCell ⟨w.heap.size + 1 + 1, 0, none⟩ (.bool false)).setCell ⟨w.heap.size + 1 + 1, 1, none⟩ (.slice none 0 0)).setCell ⟨w.heap.size + 1 + 1 + 1, 0, none⟩ (.bool false)).setCell ⟨w.heap.size + 1 + 1 + 1, 1, none⟩ (.slice none 0 0)) = WE at KE hE ⊢
            clear ka0 ka1 ka2 ka3 ka4 kb0 kb1 kb2 kb3 kb4 kq0 kq1 kq2 kq3 kq4 kr0 kr1 kr2 kr3 kr4 K
            obtain ⟨⟨ka0, ka1, ka2, ka3, ka4⟩, ⟨kb0, kb1, kb2, kb3, kb4⟩, ⟨kq0, kq1, kq2, kq3, kq4⟩, ⟨kr0, kr1, kr2, kr3, kr4⟩⟩ := KE
            exact bodyPost_ret (v := .tuple #[.agg #[.bool false, .slice none 0 0], .agg #[.bool false, .slice none 0 0], .int .i64 3]) (by simp [results, Tryd.results41, go_sem, kq0, kq1, kq4, kr0, kr1, kr4]) rfl ⟨none, 0, none, 0, by rw [HOQ.out.1, HOQ.out.2.1, HOQ.out.2.2]; rfl, by rw [HOQ.out.1]; exact can_none _ _, by rw [HOQ.out.2.1]; exact can_none _ _, hE⟩
          | false =>
            have HOQ := Lib.hid (HO.out.2 hbg)
            have hk : keepO Dq = some Dq := by rw [keepO, hbg]; rfl
            rw [hk] at hFt
            unfold RetB at hFt
            rw [show ce (some Dq) = 0 from rfl] at hFt
            clear hbg hk HO
            go_wp2_with fail
            go_at_call 48
            refine (hFt).mono ?_
            rintro e w11 ⟨Af, cf, rfl, Cf, hb⟩
            have K := K.later hb
            have hz := hz.trans (hb.mono hz.size)
            clear ka0 ka1 ka2 ka3 ka4 kb0 kb1 kb2 kb3 kb4 kq0 kq1 kq2 kq3 kq4 kr0 kr1 kr2 kr3 kr4
            have K0 := K
            obtain ⟨⟨ka0, ka1, ka2, ka3, ka4⟩, ⟨kb0, kb1, kb2, kb3, kb4⟩, ⟨kq0, kq1, kq2, kq3, kq4⟩, ⟨kr0, kr1, kr2, kr3, kr4⟩⟩ := K0
            obtain ⟨w12, hw12⟩ : ∃ u, ((w11.setCell ⟨w.heap.size + 1 + 1, 0, none⟩ (.bool (cb (some Dq)))).setCell ⟨w.heap.size + 1 + 1, 1, none⟩ (.slice Af (cz (some Dq)).length cf)) = u := ⟨_, rfl⟩
            replace K := K.setQ (.bool (cb (some Dq))) (.slice Af (cz (some Dq)).length cf)
            replace hz : Below w.heap.size w ((w11.setCell ⟨w.heap.size + 1 + 1, 0, none⟩ (.bool (cb (some Dq)))).setCell ⟨w.heap.size + 1 + 1, 1, none⟩ (.slice Af (cz (some Dq)).length cf)) := (hz.setCell (p := ⟨w.heap.size + 1 + 1, 0, none⟩) (by show w.heap.size ≤ w.heap.size + 1 + 1; omega) _).setCell (p := ⟨w.heap.size + 1 + 1, 1, none⟩) (by show w.heap.size ≤ w.heap.size + 1 + 1; omega) _
            have Cq12 := Cf.both (w.heap.size + 1 + 1) (by omega) (.bool (cb (some Dq))) (.slice Af (cz (some Dq)).length cf)
            have Cr12 := (Cr.later hb).both (w.heap.size + 1 + 1) (by omega) (.bool (cb (some Dq))) (.slice Af (cz (some Dq)).length cf)
            rw [hw12] at K hz Cq12 Cr12
            have HK := Lib.hid K
            have KQ := K.2.2.1
            have KR := K.2.2.2
            obtain ⟨nq0, nq1, nq2, nq3, nq4⟩ := KQ
            obtain ⟨nr0, nr1, nr2, nr3, nr4⟩ := KR
            clear K
            go_wp2
            go_region
            go_wp2
            have K := HK.out
            have KE := (K.setQ (.bool (cb (some Dq))) (.slice Af (cz (some Dq)).length cf)).setR (.bool (cb (some Dr))) (.slice Ar (cz (some Dr)).length cr)
            have hE : Below w.heap.size w ((((w12.setCell ⟨w.heap.size + 1 + 1, 0, none⟩ (.bool (cb (some Dq)))).setCell ⟨w.heap.size + 1 + 1, 1, none⟩ (.slice Af (cz (some Dq)).length cf)).setCell ⟨w.heap.size + 1 + 1 + 1, 0, none⟩ (.bool (cb (some Dr)))).setCell ⟨w.heap.size + 1 + 1 + 1, 1, none⟩ (.slice Ar (cz (some Dr)).length cr)) := (((hz.setCell (p := ⟨w.heap.size + 1 + 1, 0, none⟩) (by show w.heap.size ≤ w.heap.size + 1 + 1; omega) _).setCell (p := ⟨w.heap.size + 1 + 1, 1, none⟩) (by show w.heap.size ≤ w.heap.size + 1 + 1; omega) _).setCell (p := ⟨w.heap.size + 1 + 1 + 1, 0, none⟩) (by show w.heap.size ≤ w.heap.size + 1 + 1 + 1; omega) _).setCell (p := ⟨w.heap.size + 1 + 1 + 1, 1, none⟩) (by show w.heap.size ≤ w.heap.size + 1 + 1 + 1; omega) _
            have CQ := (Cq12.both (w.heap.size + 1 + 1) (by omega) (.bool (cb (some Dq))) (.slice Af (cz (some Dq)).length cf)).both (w.heap.size + 1 + 1 + 1) (by omega) (.bool (cb (some Dr))) (.slice Ar (cz (some Dr)).length cr)
            have CR := (Cr12.both (w.heap.size + 1 + 1) (by omega) (.bool (cb (some Dq))) (.slice Af (cz (some Dq)).length cf)).both (w.heap.size + 1 + 1 + 1) (by omega) (.bool (cb (some Dr))) (.slice Ar (cz (some Dr)).length cr)
            replace KE := KE.later (below_drew (Below.refl _ _))
            replace hE := below_drew hE
            replace CQ := CQ.later (below_drew (Below.refl _ _))
            replace CR := CR.later (below_drew (Below.refl _ _))
            generalize ((((w12.setCell ⟨w.heap.size + 1 + 1, 0, none⟩ (.bool (cb (some Dq)))).setCell ⟨w.heap.size + 1 + 1, 1, none⟩ (.slice Af (cz (some Dq)).length cf)).setCell ⟨w.heap.size + 1 + 1 + 1, 0, none⟩ (.bool (cb (some Dr)))).setCell ⟨w.heap.size + 1 + 1 + 1, 1, none⟩ (.slice Ar (cz (some Dr)).length cr)).drew = WE at KE hE CQ CR ⊢
            clear ka0 ka1 ka2 ka3 ka4 kb0 kb1 kb2 kb3 kb4 kq0 kq1 kq2 kq3 kq4 kr0 kr1 kr2 kr3 kr4 K
            obtain ⟨⟨ka0, ka1, ka2, ka3, ka4⟩, ⟨kb0, kb1, kb2, kb3, kb4⟩, ⟨kq0, kq1, kq2, kq3, kq4⟩, ⟨kr0, kr1, kr2, kr3, kr4⟩⟩ := KE
            exact bodyPost_ret (v := .tuple #[.agg #[.bool (cb (some Dq)), .slice Af (cz (some Dq)).length cf], .agg #[.bool (cb (some Dr)), .slice Ar (cz (some Dr)).length cr], .int .i64 0]) (by simp [results, Tryd.results41, go_sem, kq0, kq1, kq4, kr0, kr1, kr4]) rfl ⟨Af, cf, Ar, cr, by rw [HOQ.out.1, HOQ.out.2.1, HOQ.out.2.2], by rw [HOQ.out.1]; exact CQ.mono (by omega), by rw [HOQ.out.2.1]; exact CR.mono (by omega), hE⟩
        · have hbf : (b1 == b2) = false := by cases b1 <;> cases b2 <;> first | rfl | exact absurd rfl hbb
          by_cases hlt0 : lt = []
          · subst hlt0
            have hdv := dv_zero (b1 := b1) (b2 := b2) (a := val ps) (d := val qs) (n := val ns) hbb (by have := HDV.out.1; simp only [val, Int.add_zero] at this; exact this) HDV.out.2.2.2
            rw [← valI_cases, ← valI_cases, hDq, hDr] at hdv
            obtain ⟨hdv1, hDr0⟩ := hdv
            have hDq2 : valI true ns = Dq := by rw [hdv1]; rfl
            have hF1 := fun W (hb : Below w6.heap.size w6 W) => form_cn true A1 c1 ns (w.heap.size + 1 + 1 + 1 + 1) W wn (fn.later hb) n1 n2 Dq hDq2
            have HK := Lib.hid K
            have hl00 : ([] : List Int).length = 0 := rfl
            replace hDr0 := Lib.hid hDr0
            clear K hDq hDr hdv1 hDq2 nl2 HDV
            go_wp2_with fail
            go_at_call 46
            refine (hF1 _ (Below.refl _ _)).mono ?_
            rintro e w8 ⟨Aq, cq, rfl, Cq, H8⟩
            have K := HK.out.later H8
            replace hz := hz.trans (H8.mono hz.size)
            clear ka0 ka1 ka2 ka3 ka4 kb0 kb1 kb2 kb3 kb4 kq0 kq1 kq2 kq3 kq4 kr0 kr1 kr2 kr3 kr4
            obtain ⟨⟨ka0, ka1, ka2, ka3, ka4⟩, ⟨kb0, kb1, kb2, kb3, kb4⟩, ⟨kq0, kq1, kq2, kq3, kq4⟩, ⟨kr0, kr1, kr2, kr3, kr4⟩⟩ := id K
            have b4' : w.heap.size + 1 + 1 + 1 + 1 ≤ w8.heap.size := K.2.2.2.2.2.2.2
            obtain ⟨w10, hw10⟩ : ∃ u, ((w8.setCell ⟨w.heap.size + 1 + 1, 0, none⟩ (.bool (cb (some Dq)))).setCell ⟨w.heap.size + 1 + 1, 1, none⟩ (.slice Aq (cz (some Dq)).length cq)) = u := ⟨_, rfl⟩
            replace K := K.setQ (.bool (cb (some Dq))) (.slice Aq (cz (some Dq)).length cq)
            replace hz : Below w.heap.size w ((w8.setCell ⟨w.heap.size + 1 + 1, 0, none⟩ (.bool (cb (some Dq)))).setCell ⟨w.heap.size + 1 + 1, 1, none⟩ (.slice Aq (cz (some Dq)).length cq)) := (hz.setCell (p := ⟨w.heap.size + 1 + 1, 0, none⟩) (by show w.heap.size ≤ w.heap.size + 1 + 1; omega) _).setCell (p := ⟨w.heap.size + 1 + 1, 1, none⟩) (by show w.heap.size ≤ w.heap.size + 1 + 1; omega) _
            replace Cq := Cq.both (w.heap.size + 1 + 1) (by omega) (.bool (cb (some Dq))) (.slice Aq (cz (some Dq)).length cq)
            rw [hw10] at K hz Cq
            obtain ⟨Ar, hAr⟩ : ∃ Ar : Option Addr, Ar = none := ⟨none, rfl⟩
            obtain ⟨cr, hcr⟩ : ∃ cr : Nat, cr = 0 := ⟨0, rfl⟩
            have K : B4 w (.bool b1) (.slice A xs.length c) (.bool b2) (.slice B ys.length d) (.bool (cb (some Dq))) (.slice Aq (cz (some Dq)).length cq) (.bool (cb (some Dr))) (.slice Ar (cz (some Dr)).length cr) w10 := by rw [hDr0.out]; subst hAr hcr; exact K
            have Cr : CanAt w10 (w.heap.size + 1 + 1 + 1 + 1) (some Dr) Ar cr := by rw [hDr0.out]; subst hAr hcr; exact ⟨Nat.le_refl _, by decide, fun i hi => absurd hi (by simp [cz, wds, wdsF])⟩
            have HK := Lib.hid K
            clear K hF1 HRY HHS fn fl wn wl2 HB HYn hbf hl00
            have KA := HK.out.1
            have KB := HK.out.2.1
            have KQ := HK.out.2.2.1
            have KR := HK.out.2.2.2
            clear hDr0 hAr hcr
            obtain ⟨ja0, ja1, ja2, ja3, ja4⟩ := KA
            obtain ⟨jb0, jb1, jb2, jb3, jb4⟩ := KB
            obtain ⟨jq0, jq1, jq2, jq3, jq4⟩ := KQ
            obtain ⟨jr0, jr1, jr2, jr3, jr4⟩ := KR
            go_upto_region 12 with fail
            clear ja0 ja1 ja2 ja3 ja4 jb0 jb1 jb2 jb3 jb4 jq0 jq1 jq2 jq3 jq4 jr0 jr1 jr2 jr3 jr4 ka0 ka1 ka2 ka3 ka4 kb0 kb1 kb2 kb3 kb4 kq0 kq1 kq2 kq3 kq4 kr0 kr1 kr2 kr3 kr4
            have K := HK.out
            obtain ⟨⟨ka0, ka1, ka2, ka3, ka4⟩, ⟨kb0, kb1, kb2, kb3, kb4⟩, ⟨kq0, kq1, kq2, kq3, kq4⟩, ⟨kr0, kr1, kr2, kr3, kr4⟩⟩ := id K
            clear HK hw10 b4'
            have hFt := fits_can Cq
            have b4' : w.heap.size + 1 + 1 + 1 + 1 ≤ w10.heap.size := K.2.2.2.2.2.2.2
            cases hbg : big Dq with
            | true =>
              have HOQ := Lib.hid (HO.out.1 hbg)
              have hk : keepO Dq = none := by rw [keepO, hbg]; rfl
              rw [hk] at hFt
              unfold RetB at hFt
              rw [show ce none = 3 from rfl, show cb none = false from rfl, show (cz none).length = 0 from rfl] at hFt
              clear hbg hk HO
              go_wp2_with fail
              go_at_call 48
              refine (hFt).mono ?_
              rintro e w11 ⟨Af, cf, rfl, Cf, hb⟩
              have K := K.later hb
              have hz := hz.trans (hb.mono hz.size)
              clear ka0 ka1 ka2 ka3 ka4 kb0 kb1 kb2 kb3 kb4 kq0 kq1 kq2 kq3 kq4 kr0 kr1 kr2 kr3 kr4
              have K0 := K
              obtain ⟨⟨ka0, ka1, ka2, ka3, ka4⟩, ⟨kb0, kb1, kb2, kb3, kb4⟩, ⟨kq0, kq1, kq2, kq3, kq4⟩, ⟨kr0, kr1, kr2, kr3, kr4⟩⟩ := K0
              obtain ⟨w12, hw12⟩ : ∃ u, (w11.setCell ⟨w.heap.size + 1 + 1, 0, none⟩ (.bool false)).setCell ⟨w.heap.size + 1 + 1, 1, none⟩ (.slice Af 0 cf) = u := ⟨_, rfl⟩
              replace K := K.setQ (.bool false) (.slice Af 0 cf)
              replace hz : Below w.heap.size w ((w11.setCell ⟨w.heap.size + 1 + 1, 0, none⟩ (.bool false)).setCell ⟨w.heap.size + 1 + 1, 1, none⟩ (.slice Af 0 cf)) := (hz.setCell (p := ⟨w.heap.size + 1 + 1, 0, none⟩) (by show w.heap.size ≤ w.heap.size + 1 + 1; omega) _).setCell (p := ⟨w.heap.size + 1 + 1, 1, none⟩) (by show w.heap.size ≤ w.heap.size + 1 + 1; omega) _
              rw [hw12] at K hz
              have HK := Lib.hid K
              have KQ := K.2.2.1
              have KR := K.2.2.2
              obtain ⟨nq0, nq1, nq2, nq3, nq4⟩ := KQ
              obtain ⟨nr0, nr1, nr2, nr3, nr4⟩ := KR
              clear K
              go_wp2
              have K := HK.out
              have KE := (K.setQ (.bool false) (.slice none 0 0)).setR (.bool false) (.slice none 0 0)
              have hE : Below w.heap.size w ((((w12.setCell ⟨w.heap.size + 1 + 1, 0, none⟩ (.bool false)).setCell ⟨w.heap.size + 1 + 1, 1, none⟩ (.slice none 0 0)).setCell ⟨w.heap.size + 1 + 1 + 1, 0, none⟩ (.bool false)).setCell ⟨w.heap.size + 1 + 1 + 1, 1, none⟩ (.slice none 0 0)) := (((hz.setCell (p := ⟨w.heap.size + 1 + 1, 0, none⟩) (by show w.heap.size ≤ w.heap.size + 1 + 1; omega) _).setCell (p := ⟨w.heap.size + 1 + 1, 1, none⟩) (by show w.heap.size ≤ w.heap.size + 1 + 1; omega) _).setCell (p := ⟨w.heap.size + 1 + 1 + 1, 0, none⟩) (by show w.heap.size ≤ w.heap.size + 1 + 1 + 1; omega) _).setCell (p := ⟨w.heap.size + 1 + 1 + 1, 1, none⟩) (by show w.heap.size ≤ w.heap.size + 1 + 1 + 1; omega) _
              generalize ((((w12.setCell ⟨w.heap.size + 1 + 1, 0, none⟩ (.bool false)).setCell ⟨w.heap.size + 1 + 1, 1, none⟩ (.slice none 0 0)).setCell ⟨w.heap.size + 1 + 1 + 1, 0, none⟩ (.bool false)).setCell ⟨w.heap.size + 1 + 1 + 1, 1, none⟩ (.slice none 0 0)) = WE at KE hE ⊢
              clear ka0 ka1 ka2 ka3 ka4 kb0 kb1 kb2 kb3 kb4 kq0 kq1 kq2 kq3 kq4 kr0 kr1 kr2 kr3 kr4 K
              obtain ⟨⟨ka0, ka1, ka2, ka3, ka4⟩, ⟨kb0, kb1, kb2, kb3, kb4⟩, ⟨kq0, kq1, kq2, kq3, kq4⟩, ⟨kr0, kr1, kr2, kr3, kr4⟩⟩ := KE
              exact bodyPost_ret (v := .tuple #[.agg #[.bool false, .slice none 0 0], .agg #[.bool false, .slice none 0 0], .int .i64 3]) (by simp [results, Tryd.results41, go_sem, kq0, kq1, kq4, kr0, kr1, kr4]) rfl ⟨none, 0, none, 0, by rw [HOQ.out.1, HOQ.out.2.1, HOQ.out.2.2]; rfl, by rw [HOQ.out.1]; exact can_none _ _, by rw [HOQ.out.2.1]; exact can_none _ _, hE⟩
            | false =>
              have HOQ := Lib.hid (HO.out.2 hbg)
              have hk : keepO Dq = some Dq := by rw [keepO, hbg]; rfl
              rw [hk] at hFt
              unfold RetB at hFt
              rw [show ce (some Dq) = 0 from rfl] at hFt
              clear hbg hk HO
              go_wp2_with fail
              go_at_call 48
              refine (hFt).mono ?_
              rintro e w11 ⟨Af, cf, rfl, Cf, hb⟩
              have K := K.later hb
              have hz := hz.trans (hb.mono hz.size)
              clear ka0 ka1 ka2 ka3 ka4 kb0 kb1 kb2 kb3 kb4 kq0 kq1 kq2 kq3 kq4 kr0 kr1 kr2 kr3 kr4
              have K0 := K
              obtain ⟨⟨ka0, ka1, ka2, ka3, ka4⟩, ⟨kb0, kb1, kb2, kb3, kb4⟩, ⟨kq0, kq1, kq2, kq3, kq4⟩, ⟨kr0, kr1, kr2, kr3, kr4⟩⟩ := K0
              obtain ⟨w12, hw12⟩ : ∃ u, ((w11.setCell ⟨w.heap.size + 1 + 1, 0, none⟩ (.bool (cb (some Dq)))).setCell ⟨w.heap.size + 1 + 1, 1, none⟩ (.slice Af (cz (some Dq)).length cf)) = u := ⟨_, rfl⟩
              replace K := K.setQ (.bool (cb (some Dq))) (.slice Af (cz (some Dq)).length cf)
              replace hz : Below w.heap.size w ((w11.setCell ⟨w.heap.size + 1 + 1, 0, none⟩ (.bool (cb (some Dq)))).setCell ⟨w.heap.size + 1 + 1, 1, none⟩ (.slice Af (cz (some Dq)).length cf)) := (hz.setCell (p := ⟨w.heap.size + 1 + 1, 0, none⟩) (by show w.heap.size ≤ w.heap.size + 1 + 1; omega) _).setCell (p := ⟨w.heap.size + 1 + 1, 1, none⟩) (by show w.heap.size ≤ w.heap.size + 1 + 1; omega) _
              have Cq12 := Cf.both (w.heap.size + 1 + 1) (by omega) (.bool (cb (some Dq))) (.slice Af (cz (some Dq)).length cf)
              have Cr12 := (Cr.later hb).both (w.heap.size + 1 + 1) (by omega) (.bool (cb (some Dq))) (.slice Af (cz (some Dq)).length cf)
              rw [hw12] at K hz Cq12 Cr12
              have HK := Lib.hid K
              have KQ := K.2.2.1
              have KR := K.2.2.2
              obtain ⟨nq0, nq1, nq2, nq3, nq4⟩ := KQ
              obtain ⟨nr0, nr1, nr2, nr3, nr4⟩ := KR
              clear K
              go_wp2
              go_region
              go_wp2
              have K := HK.out
              have KE := (K.setQ (.bool (cb (some Dq))) (.slice Af (cz (some Dq)).length cf)).setR (.bool (cb (some Dr))) (.slice Ar (cz (some Dr)).length cr)
              have hE : Below w.heap.size w ((((w12.setCell ⟨w.heap.size + 1 + 1, 0, none⟩ (.bool (cb (some Dq)))).setCell ⟨w.heap.size + 1 + 1, 1, none⟩ (.slice Af (cz (some Dq)).length cf)).setCell ⟨w.heap.size + 1 + 1 + 1, 0, none⟩ (.bool (cb (some Dr)))).setCell ⟨w.heap.size + 1 + 1 + 1, 1, none⟩ (.slice Ar (cz (some Dr)).length cr)) := (((hz.setCell (p := ⟨w.heap.size + 1 + 1, 0, none⟩) (by show w.heap.size ≤ w.heap.size + 1 + 1; omega) _).setCell (p := ⟨w.heap.size + 1 + 1, 1, none⟩) (by show w.heap.size ≤ w.heap.size + 1 + 1; omega) _).setCell (p := ⟨w.heap.size + 1 + 1 + 1, 0, none⟩) (by show w.heap.size ≤ w.heap.size + 1 + 1 + 1; omega) _).setCell (p := ⟨w.heap.size + 1 + 1 + 1, 1, none⟩) (by show w.heap.size ≤ w.heap.size + 1 + 1 + 1; omega) _
              have CQ := (Cq12.both (w.heap.size + 1 + 1) (by omega) (.bool (cb (some Dq))) (.slice Af (cz (some Dq)).length cf)).both (w.heap.size + 1 + 1 + 1) (by omega) (.bool (cb (some Dr))) (.slice Ar (cz (some Dr)).length cr)
              have CR := (Cr12.both (w.heap.size + 1 + 1) (by omega) (.bool (cb (some Dq))) (.slice Af (cz (some Dq)).length cf)).both (w.heap.size + 1 + 1 + 1) (by omega) (.bool (cb (some Dr))) (.slice Ar (cz (some Dr)).length cr)
              replace KE := KE.later (below_drew (Below.refl _ _))
              replace hE := below_drew hE
              replace CQ := CQ.later (below_drew (Below.refl _ _))
              replace CR := CR.later (below_drew (Below.refl _ _))
              generalize ((((w12.setCell ⟨w.heap.size + 1 + 1, 0, none⟩ (.bool (cb (some Dq)))).setCell ⟨w.heap.size + 1 + 1, 1, none⟩ (.slice Af (cz (some Dq)).length cf)).setCell ⟨w.heap.size + 1 + 1 + 1, 0, none⟩ (.bool (cb (some Dr)))).setCell ⟨w.heap.size + 1 + 1 + 1, 1, none⟩ (.slice Ar (cz (some Dr)).length cr)).drew = WE at KE hE CQ CR ⊢
              clear ka0 ka1 ka2 ka3 ka4 kb0 kb1 kb2 kb3 kb4 kq0 kq1 kq2 kq3 kq4 kr0 kr1 kr2 kr3 kr4 K
              obtain ⟨⟨ka0, ka1, ka2, ka3, ka4⟩, ⟨kb0, kb1, kb2, kb3, kb4⟩, ⟨kq0, kq1, kq2, kq3, kq4⟩, ⟨kr0, kr1, kr2, kr3, kr4⟩⟩ := KE
              exact bodyPost_ret (v := .tuple #[.agg #[.bool (cb (some Dq)), .slice Af (cz (some Dq)).length cf], .agg #[.bool (cb (some Dr)), .slice Ar (cz (some Dr)).length cr], .int .i64 0]) (by simp [results, Tryd.results41, go_sem, kq0, kq1, kq4, kr0, kr1, kr4]) rfl ⟨Af, cf, Ar, cr, by rw [HOQ.out.1, HOQ.out.2.1, HOQ.out.2.2], by rw [HOQ.out.1]; exact CQ.mono (by omega), by rw [HOQ.out.2.1]; exact CR.mono (by omega), hE⟩
          · have hltp : 0 < lt.length := List.length_pos_iff.2 hlt0
            have hltv : 0 < val lt := by have := (nt_len wl2 nl2 0).1 hltp; simp at this; omega
            have hlen : lt.length ≤ qs.length := by
              rcases Nat.lt_or_ge qs.length lt.length with h | h
              · have h3 := (nt_len wl2 nl2 qs.length).1 h
                have h4 := val_bound wY
                have h5 := HDV.out.2.1
                omega
              · exact h
            have hdv := dv_other (b1 := b1) (b2 := b2) hbb HDV.out.1 hltv HDV.out.2.1
            rw [← valI_cases, ← valI_cases, hDq, hDr] at hdv
            have HDQ := Lib.hid hdv
            clear hdv
            have w1' : W32 [(1 : Int)] := W32.cons (by decide) (by decide) W32.nil
            have x0 : ((lt.length : Int) == 0) = false := by simp; omega
            have hAd := fun (W : World) (B' : Option Addr) (hb : Below w6.heap.size w6 W) (h1 : RdI W .u32 B' [1]) => wadd_ok A1 B' c1 1 ns [1] W wn w1' (fn.later hb).rd h1 n1 n2 (Nat.le_refl _) (by decide) n5 (by decide)
            have hTr := fun (W : World) (hb : Below w6.heap.size w6 W) => trim_any B d ys W (HHS.out.later hb) hl2 hd
            rw [hqs] at hTr
            have hSb := fun (W : World) (hb : Below w6.heap.size w6 W) => wsub_ok B A2 d c2 qs lt W wY wl2 (HRY.out.later hb) (fl.later hb).rd (by omega) hd (by omega) n4 (by omega) hlen (by have := HDV.out.2.1; omega)
            have hFq := fun (zs : List Int) (AZ : Option Addr) (cZ : Nat) (W : World) (hz' : val zs = val ns + val [1]) (wz : W32 zs) (fz : FrI W (w.heap.size + 1 + 1 + 1 + 1) .u32 AZ zs) (lz : zs.length ≤ cZ) (mz : cZ ≤ 9223372036854775807) => form_cn true AZ cZ zs (w.heap.size + 1 + 1 + 1 + 1) W wz fz lz mz Dq (by rw [HDQ.out.1]; show -(val zs) = _; rw [hz']; simp [val])
            have hFr := fun (zs : List Int) (AZ : Option Addr) (cZ : Nat) (W : World) (hz' : val zs = val qs - val lt) (wz : W32 zs) (fz : FrI W (w.heap.size + 1 + 1 + 1 + 1) .u32 AZ zs) (lz : zs.length ≤ cZ) (mz : cZ ≤ 9223372036854775807) => form_cn b2 AZ cZ zs (w.heap.size + 1 + 1 + 1 + 1) W wz fz lz mz Dr (by rw [HDQ.out.2, valI_cases, hz'])
            have HPK : ∀ W, Below w6.heap.size w6 W → (W.cell? ⟨w.heap.size + 1, 0, none⟩ = some (.bool b2) ∧ W.cell? ⟨w.heap.size + 1, 1, none⟩ = some (.slice B ys.length d) ∧ w.heap.size + 1 < W.heap.size) := fun W h => ⟨(K.later h).2.1.1, (K.later h).2.1.2.1, (K.later h).2.1.2.2.2.2⟩
            have HPQ : ∀ (W : World) (x y : Value), (W.cell? ⟨w.heap.size + 1, 0, none⟩ = some (.bool b2) ∧ W.cell? ⟨w.heap.size + 1, 1, none⟩ = some (.slice B ys.length d) ∧ w.heap.size + 1 < W.heap.size) → ((fun W => W.cell? ⟨w.heap.size + 1, 0, none⟩ = some (.bool b2) ∧ W.cell? ⟨w.heap.size + 1, 1, none⟩ = some (.slice B ys.length d) ∧ w.heap.size + 1 < W.heap.size) ((W.setCell ⟨w.heap.size + 1 + 1, 0, none⟩ x).setCell ⟨w.heap.size + 1 + 1, 1, none⟩ y)) := fun W x y h => ⟨cell_off (cell_off h.1 (by show w.heap.size + 1 + 1 ≠ w.heap.size + 1; omega)) (by show w.heap.size + 1 + 1 ≠ w.heap.size + 1; omega), cell_off (cell_off h.2.1 (by show w.heap.size + 1 + 1 ≠ w.heap.size + 1; omega)) (by show w.heap.size + 1 + 1 ≠ w.heap.size + 1; omega), by simpa using h.2.2⟩
            have HPR : ∀ (W : World) (x y : Value), (W.cell? ⟨w.heap.size + 1, 0, none⟩ = some (.bool b2) ∧ W.cell? ⟨w.heap.size + 1, 1, none⟩ = some (.slice B ys.length d) ∧ w.heap.size + 1 < W.heap.size) → ((fun W => W.cell? ⟨w.heap.size + 1, 0, none⟩ = some (.bool b2) ∧ W.cell? ⟨w.heap.size + 1, 1, none⟩ = some (.slice B ys.length d) ∧ w.heap.size + 1 < W.heap.size) ((W.setCell ⟨w.heap.size + 1 + 1 + 1, 0, none⟩ x).setCell ⟨w.heap.size + 1 + 1 + 1, 1, none⟩ y)) := fun W x y h => ⟨cell_off (cell_off h.1 (by show w.heap.size + 1 + 1 + 1 ≠ w.heap.size + 1; omega)) (by show w.heap.size + 1 + 1 + 1 ≠ w.heap.size + 1; omega), cell_off (cell_off h.2.1 (by show w.heap.size + 1 + 1 + 1 ≠ w.heap.size + 1; omega)) (by show w.heap.size + 1 + 1 + 1 ≠ w.heap.size + 1; omega), by simpa using h.2.2⟩
            have hd6 : Below w6.heap.size w6 w6.drew := below_drew (Below.refl _ _)
            have hal : Below w6.heap.size w6 (w6.drew.alloc (.cells #[.int .u32 1] 62)) := hd6.alloc (Nat.le_refl _) _
            have hal2 : Below w6.heap.size w6 (w6.alloc (.cells #[.int .u32 1] 62)) := (Below.refl _ _).alloc (Nat.le_refl _) _
            have b4'' : w.heap.size + 1 + 1 + 1 + 1 ≤ w6.heap.size := K.2.2.2.2.2.2.2
            have HK := Lib.hid K
            clear K hDq hDr nl2 HDV hltp hltv hlen kq0 kq1 kq2 kq3 kq4 kr0 kr1 kr2 kr3 kr4 kb2 kb3 ka2 ka3
            go_upto_region 7 with fail
            go_region_held3 (fun W => W.cell? ⟨w.heap.size + 1, 0, none⟩ = some (.bool b2) ∧ W.cell? ⟨w.heap.size + 1, 1, none⟩ = some (.slice B ys.length d) ∧ w.heap.size + 1 < W.heap.size) (first | (with_reducible refine HPR _ _ _ ?_; with_reducible refine HPQ _ _ _ ?_; exact HPK _ (by repeat first | with_reducible exact Below.refl _ _ | with_reducible assumption | with_reducible refine below_drew ?_ | with_reducible refine Below.alloc ?_ (by first | exact Nat.le_refl _ | (simp; done) | (simp; omega) | omega) _)) | (with_reducible refine HPQ _ _ _ ?_; exact HPK _ (by repeat first | with_reducible exact Below.refl _ _ | with_reducible assumption | with_reducible refine below_drew ?_ | with_reducible refine Below.alloc ?_ (by first | exact Nat.le_refl _ | (simp; done) | (simp; omega) | omega) _)) | (with_reducible refine HPR _ _ _ ?_; exact HPK _ (by repeat first | with_reducible exact Below.refl _ _ | with_reducible assumption | with_reducible refine below_drew ?_ | with_reducible refine Below.alloc ?_ (by first | exact Nat.le_refl _ | (simp; done) | (simp; omega) | omega) _)) | exact HPK _ (by repeat first | with_reducible exact Below.refl _ _ | with_reducible assumption | with_reducible refine below_drew ?_ | with_reducible refine Below.alloc ?_ (by first | exact Nat.le_refl _ | (simp; done) | (simp; omega) | omega) _)) (first
              | (go_at_call 62; refine (hAd _ _ (by repeat first | with_reducible exact Below.refl _ _ | with_reducible assumption | with_reducible refine below_drew ?_ | with_reducible refine Below.alloc ?_ (by first | exact Nat.le_refl _ | (simp; done) | (simp; omega) | omega) _) (by first | with_reducible exact rdI_lit _ _ _ _ _ (by simp) | with_reducible exact rdI_lit _ _ _ _ _ rfl | with_reducible exact (rdI_lit _ _ _ _ _ (by simp)).later (below_drew (Below.refl _ _)) | fail)).mono ?_; rintro e w7 ⟨zs, wz, hz', zl, AZ, cZ, rfl, lz, mz, fz, b7⟩; have H7 : Below w6.heap.size w6 w7 := (by first | with_reducible exact hal.trans (b7.mono hal.size) | with_reducible exact hal2.trans (b7.mono hal2.size) | with_reducible exact (below_drew hal2).trans (b7.mono (below_drew hal2).size)); have fz := fz.mono (base' := w.heap.size + 1 + 1 + 1 + 1) (by first | exact Nat.le_trans b4'' hal.size | exact Nat.le_trans b4'' hal2.size); clear hAd b7)
              | (go_at_call 46; refine (hFq zs AZ cZ _ hz' wz fz lz mz).mono ?_; rintro e w8 ⟨Aq, cq, rfl, Cq, b8⟩; have H8 := H7.trans (b8.mono H7.size); clear hFq hz' wz zl b8)
              | (go_at_call 54; refine (hTr _ H8).mono ?_; rintro e w9' ⟨rfl, rfl⟩; clear hTr; have hN3 := True.intro)
              | (go_at_call 63; refine (hSb _ H8).mono ?_; rintro e w11 ⟨us, wu, hu, ul, AU, cU, rfl, lu, mu, fu, b11⟩; have H11 := H8.trans (b11.mono H8.size); have Cq11 := Cq.later b11; have fu := fu.mono (show w.heap.size + 1 + 1 + 1 + 1 ≤ _ from Nat.le_trans b4'' H8.size); clear hSb b11)
              | (go_at_call 46; refine (hFr us AU cU _ hu wu fu lu mu).mono ?_; rintro e w13 ⟨Ar, cr, rfl, Cr, b13⟩; have H13 := H11.trans (b13.mono H11.size); have Cq13 := Cq11.later b13; obtain ⟨⟨ma0, ma1, ma2, ma3, ma4⟩, ⟨mb0, mb1, mb2, mb3, mb4⟩, ⟨mq0, mq1, mq2, mq3, mq4⟩, ⟨mr0, mr1, mr2, mr3, mr4⟩⟩ := HK.out.later H13; clear hFr hu wu ul b13))
            have K := ((HK.out.later H13).setQ (.bool (cb (some Dq))) (.slice Aq (cz (some Dq)).length cq)).setR (.bool (cb (some Dr))) (.slice Ar (cz (some Dr)).length cr)
            have hz10 : Below w.heap.size w ((((w13.setCell ⟨w.heap.size + 1 + 1, 0, none⟩ (.bool (cb (some Dq)))).setCell ⟨w.heap.size + 1 + 1, 1, none⟩ (.slice Aq (cz (some Dq)).length cq)).setCell ⟨w.heap.size + 1 + 1 + 1, 0, none⟩ (.bool (cb (some Dr)))).setCell ⟨w.heap.size + 1 + 1 + 1, 1, none⟩ (.slice Ar (cz (some Dr)).length cr)) := ((((hz.trans (H13.mono hz.size)).setCell (p := ⟨w.heap.size + 1 + 1, 0, none⟩) (by show w.heap.size ≤ w.heap.size + 1 + 1; omega) _).setCell (p := ⟨w.heap.size + 1 + 1, 1, none⟩) (by show w.heap.size ≤ w.heap.size + 1 + 1; omega) _).setCell (p := ⟨w.heap.size + 1 + 1 + 1, 0, none⟩) (by show w.heap.size ≤ w.heap.size + 1 + 1 + 1; omega) _).setCell (p := ⟨w.heap.size + 1 + 1 + 1, 1, none⟩) (by show w.heap.size ≤ w.heap.size + 1 + 1 + 1; omega) _
            have Cq10 := (Cq13.both (w.heap.size + 1 + 1) (by omega) (.bool (cb (some Dq))) (.slice Aq (cz (some Dq)).length cq)).both (w.heap.size + 1 + 1 + 1) (by omega) (.bool (cb (some Dr))) (.slice Ar (cz (some Dr)).length cr)
            have Cr10 := (Cr.both (w.heap.size + 1 + 1) (by omega) (.bool (cb (some Dq))) (.slice Aq (cz (some Dq)).length cq)).both (w.heap.size + 1 + 1 + 1) (by omega) (.bool (cb (some Dr))) (.slice Ar (cz (some Dr)).length cr)
            generalize ((((w13.setCell ⟨w.heap.size + 1 + 1, 0, none⟩ (.bool (cb (some Dq)))).setCell ⟨w.heap.size + 1 + 1, 1, none⟩ (.slice Aq (cz (some Dq)).length cq)).setCell ⟨w.heap.size + 1 + 1 + 1, 0, none⟩ (.bool (cb (some Dr)))).setCell ⟨w.heap.size + 1 + 1 + 1, 1, none⟩ (.slice Ar (cz (some Dr)).length cr)) = w10 at K hz10 Cq10 Cr10 ⊢
            replace hz := hz10
            have Cq := Cq10
            have Cr := Cr10
            clear ka0 ka1 ka4 kb0 kb1 kb4 ma0 ma1 ma2 ma3 ma4 mb0 mb1 mb2 mb3 mb4 mq0 mq1 mq2 mq3 mq4 mr0 mr1 mr2 mr3 mr4 HPK HPQ HPR hd6 HK fn fl wn wl2 HB HYn HRY HHS hal hal2 b4'' HDQ
            obtain ⟨⟨ka0, ka1, ka2, ka3, ka4⟩, ⟨kb0, kb1, kb2, kb3, kb4⟩, ⟨kq0, kq1, kq2, kq3, kq4⟩, ⟨kr0, kr1, kr2, kr3, kr4⟩⟩ := id K
            have hFt := fits_can Cq
            have b4' : w.heap.size + 1 + 1 + 1 + 1 ≤ w10.heap.size := K.2.2.2.2.2.2.2
            cases hbg : big Dq with
            | true =>
              have HOQ := Lib.hid (HO.out.1 hbg)
              have hk : keepO Dq = none := by rw [keepO, hbg]; rfl
              rw [hk] at hFt
              unfold RetB at hFt
              rw [show ce none = 3 from rfl, show cb none = false from rfl, show (cz none).length = 0 from rfl] at hFt
              clear hbg hk HO
              go_wp2_with fail
              go_at_call 48
              refine (hFt).mono ?_
              rintro e w11 ⟨Af, cf, rfl, Cf, hb⟩
              have K := K.later hb
              have hz := hz.trans (hb.mono hz.size)
              clear ka0 ka1 ka2 ka3 ka4 kb0 kb1 kb2 kb3 kb4 kq0 kq1 kq2 kq3 kq4 kr0 kr1 kr2 kr3 kr4
              have K0 := K
              obtain ⟨⟨ka0, ka1, ka2, ka3, ka4⟩, ⟨kb0, kb1, kb2, kb3, kb4⟩, ⟨kq0, kq1, kq2, kq3, kq4⟩, ⟨kr0, kr1, kr2, kr3, kr4⟩⟩ := K0
              obtain ⟨w12, hw12⟩ : ∃ u, (w11.setCell ⟨w.heap.size + 1 + 1, 0, none⟩ (.bool false)).setCell ⟨w.heap.size + 1 + 1, 1, none⟩ (.slice Af 0 cf) = u := ⟨_, rfl⟩
              replace K := K.setQ (.bool false) (.slice Af 0 cf)
              replace hz : Below w.heap.size w ((w11.setCell ⟨w.heap.size + 1 + 1, 0, none⟩ (.bool false)).setCell ⟨w.heap.size + 1 + 1, 1, none⟩ (.slice Af 0 cf)) := (hz.setCell (p := ⟨w.heap.size + 1 + 1, 0, none⟩) (by show w.heap.size ≤ w.heap.size + 1 + 1; omega) _).setCell (p := ⟨w.heap.size + 1 + 1, 1, none⟩) (by show w.heap.size ≤ w.heap.size + 1 + 1; omega) _
              rw [hw12] at K hz
              have HK := Lib.hid K
              have KQ := K.2.2.1
              have KR := K.2.2.2
              obtain ⟨nq0, nq1, nq2, nq3, nq4⟩ := KQ
              obtain ⟨nr0, nr1, nr2, nr3, nr4⟩ := KR
              clear K
              go_wp2
              have K := HK.out
              have KE := (K.setQ (.bool false) (.slice none 0 0)).setR (.bool false) (.slice none 0 0)
              have hE : Below w.heap.size w ((((w12.setCell ⟨w.heap.size + 1 + 1, 0, none⟩ (.bool false)).setCell ⟨w.heap.size + 1 + 1, 1, none⟩ (.slice none 0 0)).setCell ⟨w.heap.size + 1 + 1 + 1, 0, none⟩ (.bool false)).setCell ⟨w.heap.size + 1 + 1 + 1, 1, none⟩ (.slice none 0 0)) := (((hz.setCell (p := ⟨w.heap.size + 1 + 1, 0, none⟩) (by show w.heap.size ≤ w.heap.size + 1 + 1; omega) _).setCell (p := ⟨w.heap.size + 1 + 1, 1, none⟩) (by show w.heap.size ≤ w.heap.size + 1 + 1; omega) _).setCell (p := ⟨w.heap.size + 1 + 1 + 1, 0, none⟩) (by show w.heap.size ≤ w.heap.size + 1 + 1 + 1; omega) _).setCell (p := ⟨w.heap.size + 1 + 1 + 1, 1, none⟩) (by show w.heap.size ≤ w.heap.size + 1 + 1 + 1; omega) _
              generalize ((((w12.setCell ⟨w.heap.size + 1 + 1, 0, none⟩ (.bool false)).setCell ⟨w.heap.size + 1 + 1, 1, none⟩ (.slice none 0 0)).setCell ⟨w.heap.size + 1 + 1 + 1, 0, none⟩ (.bool false)).setCell ⟨w.heap.size + 1 + 1 + 1, 1, none⟩ (.slice none 0 0)) = WE at KE hE ⊢
              clear ka0 ka1 ka2 ka3 ka4 kb0 kb1 kb2 kb3 kb4 kq0 kq1 kq2 kq3 kq4 kr0 kr1 kr2 kr3 kr4 K
              obtain ⟨⟨ka0, ka1, ka2, ka3, ka4⟩, ⟨kb0, kb1, kb2, kb3, kb4⟩, ⟨kq0, kq1, kq2, kq3, kq4⟩, ⟨kr0, kr1, kr2, kr3, kr4⟩⟩ := KE
              exact bodyPost_ret (v := .tuple #[.agg #[.bool false, .slice none 0 0], .agg #[.bool false, .slice none 0 0], .int .i64 3]) (by simp [results, Tryd.results41, go_sem, kq0, kq1, kq4, kr0, kr1, kr4]) rfl ⟨none, 0, none, 0, by rw [HOQ.out.1, HOQ.out.2.1, HOQ.out.2.2]; rfl, by rw [HOQ.out.1]; exact can_none _ _, by rw [HOQ.out.2.1]; exact can_none _ _, hE⟩
            | false =>
              have HOQ := Lib.hid (HO.out.2 hbg)
              have hk : keepO Dq = some Dq := by rw [keepO, hbg]; rfl
              rw [hk] at hFt
              unfold RetB at hFt
              rw [show ce (some Dq) = 0 from rfl] at hFt
              clear hbg hk HO
              go_wp2_with fail
              go_at_call 48
              refine (hFt).mono ?_
              rintro e w11 ⟨Af, cf, rfl, Cf, hb⟩
              have K := K.later hb
              have hz := hz.trans (hb.mono hz.size)
              clear ka0 ka1 ka2 ka3 ka4 kb0 kb1 kb2 kb3 kb4 kq0 kq1 kq2 kq3 kq4 kr0 kr1 kr2 kr3 kr4
              have K0 := K
              obtain ⟨⟨ka0, ka1, ka2, ka3, ka4⟩, ⟨kb0, kb1, kb2, kb3, kb4⟩, ⟨kq0, kq1, kq2, kq3, kq4⟩, ⟨kr0, kr1, kr2, kr3, kr4⟩⟩ := K0
              obtain ⟨w12, hw12⟩ : ∃ u, ((w11.setCell ⟨w.heap.size + 1 + 1, 0, none⟩ (.bool (cb (some Dq)))).setCell ⟨w.heap.size + 1 + 1, 1, none⟩ (.slice Af (cz (some Dq)).length cf)) = u := ⟨_, rfl⟩
              replace K := K.setQ (.bool (cb (some Dq))) (.slice Af (cz (some Dq)).length cf)
              replace hz : Below w.heap.size w ((w11.setCell ⟨w.heap.size + 1 + 1, 0, none⟩ (.bool (cb (some Dq)))).setCell ⟨w.heap.size + 1 + 1, 1, none⟩ (.slice Af (cz (some Dq)).length cf)) := (hz.setCell (p := ⟨w.heap.size + 1 + 1, 0, none⟩) (by show w.heap.size ≤ w.heap.size + 1 + 1; omega) _).setCell (p := ⟨w.heap.size + 1 + 1, 1, none⟩) (by show w.heap.size ≤ w.heap.size + 1 + 1; omega) _
              have Cq12 := Cf.both (w.heap.size + 1 + 1) (by omega) (.bool (cb (some Dq))) (.slice Af (cz (some Dq)).length cf)
              have Cr12 := (Cr.later hb).both (w.heap.size + 1 + 1) (by omega) (.bool (cb (some Dq))) (.slice Af (cz (some Dq)).length cf)
              rw [hw12] at K hz Cq12 Cr12
              have HK := Lib.hid K
              have KQ := K.2.2.1
              have KR := K.2.2.2
              obtain ⟨nq0, nq1, nq2, nq3, nq4⟩ := KQ
              obtain ⟨nr0, nr1, nr2, nr3, nr4⟩ := KR
              clear K
              go_wp2
              go_region
              go_wp2
              have K := HK.out
              have KE := (K.setQ (.bool (cb (some Dq))) (.slice Af (cz (some Dq)).length cf)).setR (.bool (cb (some Dr))) (.slice Ar (cz (some Dr)).length cr)
              have hE : Below w.heap.size w ((((w12.setCell ⟨w.heap.size + 1 + 1, 0, none⟩ (.bool (cb (some Dq)))).setCell ⟨w.heap.size + 1 + 1, 1, none⟩ (.slice Af (cz (some Dq)).length cf)).setCell ⟨w.heap.size + 1 + 1 + 1, 0, none⟩ (.bool (cb (some Dr)))).setCell ⟨w.heap.size + 1 + 1 + 1, 1, none⟩ (.slice Ar (cz (some Dr)).length cr)) := (((hz.setCell (p := ⟨w.heap.size + 1 + 1, 0, none⟩) (by show w.heap.size ≤ w.heap.size + 1 + 1; omega) _).setCell (p := ⟨w.heap.size + 1 + 1, 1, none⟩) (by show w.heap.size ≤ w.heap.size + 1 + 1; omega) _).setCell (p := ⟨w.heap.size + 1 + 1 + 1, 0, none⟩) (by show w.heap.size ≤ w.heap.size + 1 + 1 + 1; omega) _).setCell (p := ⟨w.heap.size + 1 + 1 + 1, 1, none⟩) (by show w.heap.size ≤ w.heap.size + 1 + 1 + 1; omega) _
              have CQ := (Cq12.both (w.heap.size + 1 + 1) (by omega) (.bool (cb (some Dq))) (.slice Af (cz (some Dq)).length cf)).both (w.heap.size + 1 + 1 + 1) (by omega) (.bool (cb (some Dr))) (.slice Ar (cz (some Dr)).length cr)
              have CR := (Cr12.both (w.heap.size + 1 + 1) (by omega) (.bool (cb (some Dq))) (.slice Af (cz (some Dq)).length cf)).both (w.heap.size + 1 + 1 + 1) (by omega) (.bool (cb (some Dr))) (.slice Ar (cz (some Dr)).length cr)
              replace KE := KE.later (below_drew (Below.refl _ _))
              replace hE := below_drew hE
              replace CQ := CQ.later (below_drew (Below.refl _ _))
              replace CR := CR.later (below_drew (Below.refl _ _))
              generalize ((((w12.setCell ⟨w.heap.size + 1 + 1, 0, none⟩ (.bool (cb (some Dq)))).setCell ⟨w.heap.size + 1 + 1, 1, none⟩ (.slice Af (cz (some Dq)).length cf)).setCell ⟨w.heap.size + 1 + 1 + 1, 0, none⟩ (.bool (cb (some Dr)))).setCell ⟨w.heap.size + 1 + 1 + 1, 1, none⟩ (.slice Ar (cz (some Dr)).length cr)).drew = WE at KE hE CQ CR ⊢
              clear ka0 ka1 ka2 ka3 ka4 kb0 kb1 kb2 kb3 kb4 kq0 kq1 kq2 kq3 kq4 kr0 kr1 kr2 kr3 kr4 K
              obtain ⟨⟨ka0, ka1, ka2, ka3, ka4⟩, ⟨kb0, kb1, kb2, kb3, kb4⟩, ⟨kq0, kq1, kq2, kq3, kq4⟩, ⟨kr0, kr1, kr2, kr3, kr4⟩⟩ := KE
              exact bodyPost_ret (v := .tuple #[.agg #[.bool (cb (some Dq)), .slice Af (cz (some Dq)).length cf], .agg #[.bool (cb (some Dr)), .slice Ar (cz (some Dr)).length cr], .int .i64 0]) (by simp [results, Tryd.results41, go_sem, kq0, kq1, kq4, kr0, kr1, kr4]) rfl ⟨Af, cf, Ar, cr, by rw [HOQ.out.1, HOQ.out.2.1, HOQ.out.2.2], by rw [HOQ.out.1]; exact CQ.mono (by omega), by rw [HOQ.out.2.1]; exact CR.mono (by omega), hE⟩
end Go.Proofs.YtegdbcnloodljaaDoor
