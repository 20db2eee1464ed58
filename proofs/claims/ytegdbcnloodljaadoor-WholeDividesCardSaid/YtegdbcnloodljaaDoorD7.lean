/- The reference's Divide (chapter 1). -/
import Derived.Test.YtegdbcnloodljaaDoorD5
import Derived.Test.YtegdbcnloodljaaDoorD6
import Derived.Test.YtegdbcnloodljaaDoorRSm
namespace Go.Proofs.YtegdbcnloodljaaDoor
set_option linter.unusedVariables false
set_option linter.unusedSimpArgs false
open Go.RowKit
set_option maxRecDepth 1000000

theorem B4.setA {w : World} {a0 a1 b0 b1 q0 q1 r0 r1 : Value} {W : World} (h : B4 w a0 a1 b0 b1 q0 q1 r0 r1 W) (x y : Value) : B4 w x y b0 b1 q0 q1 r0 r1 ((W.setCell ⟨w.heap.size, 0, none⟩ x).setCell ⟨w.heap.size, 1, none⟩ y) :=
  ⟨h.1.set x y, h.2.1.off (by omega) x y, h.2.2.1.off (by omega) x y, h.2.2.2.off (by omega) x y⟩
theorem B4.setB {w : World} {a0 a1 b0 b1 q0 q1 r0 r1 : Value} {W : World} (h : B4 w a0 a1 b0 b1 q0 q1 r0 r1 W) (x y : Value) : B4 w a0 a1 x y q0 q1 r0 r1 ((W.setCell ⟨w.heap.size + 1, 0, none⟩ x).setCell ⟨w.heap.size + 1, 1, none⟩ y) :=
  ⟨h.1.off (by omega) x y, h.2.1.set x y, h.2.2.1.off (by omega) x y, h.2.2.2.off (by omega) x y⟩
theorem B4.off {w : World} {a0 a1 b0 b1 q0 q1 r0 r1 : Value} {W : World} (h : B4 w a0 a1 b0 b1 q0 q1 r0 r1 W) {m : Nat} (hm : w.heap.size + 1 + 1 + 1 < m) (x y : Value) : B4 w a0 a1 b0 b1 q0 q1 r0 r1 ((W.setCell ⟨m, 0, none⟩ x).setCell ⟨m, 1, none⟩ y) :=
  ⟨h.1.off (by omega) x y, h.2.1.off (by omega) x y, h.2.2.1.off (by omega) x y, h.2.2.2.off (by omega) x y⟩
theorem cb_valI {b : Bool} {zs : List Int} (h : 0 < val zs) : cb (some (valI b zs)) = b := by
  rw [valI_cases]
  cases b <;> simp [cb] <;> omega
theorem cz_nil {X : Int} : cz (some X) = [] ↔ X = 0 := by
  constructor
  · intro h
    have := valI_c X
    rw [h] at this
    rw [← this]; cases cb (some X) <;> rfl
  · intro h; rw [h]; rfl
theorem small_of_le {X Y : Int} (h : big X = false) (hle : (Y.natAbs : Int) ≤ (X.natAbs : Int)) : big Y = false := by
  unfold big at *
  simp only [decide_eq_false_iff_not] at *
  omega
theorem val_c (X : Int) : val (cz (some X)) = (X.natAbs : Int) := by rw [cz, val_wds]
theorem c_if (X : Int) : (if cb (some X) then -(val (cz (some X))) else val (cz (some X))) = X := by rw [← valI_cases]; exact valI_c X
/-- what the reference's sizes say of the numbers: Q0 and R0 as they are made; whether they are to be turned. -/
theorem ref_dv {X Y n l : Int} (h : (X.natAbs : Int) = (Y.natAbs : Int) * n + l) (h0 : 0 ≤ l) (h1 : l < (Y.natAbs : Int)) :
    (l = 0 ∨ cb (some X) = cb (some Y) → dq X Y = (if (cb (some X) != cb (some Y)) then -n else n) ∧ dr X Y = (if cb (some X) then -l else l)) ∧
    (0 < l → cb (some X) ≠ cb (some Y) → dq X Y = (if (cb (some X) != cb (some Y)) then -n else n) + -1 ∧ dr X Y = (if cb (some X) then -l else l) + Y) := by
  have hX := c_if X
  have hY := c_if Y
  rw [val_c] at hX hY
  generalize cb (some X) = b1 at *
  generalize cb (some Y) = b2 at *
  generalize (X.natAbs : Int) = a at *
  generalize (Y.natAbs : Int) = d at *
  subst hX hY
  by_cases hb : b1 = b2
  · subst hb
    have := dv_same (b := b1) h h0 h1
    refine ⟨fun _ => ?_, fun _ hn => absurd rfl hn⟩
    rw [this.1, this.2]
    cases b1 <;> exact ⟨rfl, rfl⟩
  · have hne : (b1 != b2) = true := by cases b1 <;> cases b2 <;> first | rfl | exact absurd rfl hb
    rw [hne, if_pos rfl]
    refine ⟨fun hh => ?_, fun hl _ => ?_⟩
    · have hl : l = 0 := hh.resolve_right hb
      subst hl
      have := dv_zero (b1 := b1) (b2 := b2) (a := a) (d := d) (n := n) hb (by omega) h1
      rw [this.1, this.2]
      refine ⟨rfl, ?_⟩
      cases b1 <;> rfl
    · have := dv_other (b1 := b1) (b2 := b2) hb h hl h1
      rw [this.1, this.2]
      refine ⟨by omega, ?_⟩
      cases b1 <;> cases b2
      · exact absurd rfl hb
      · simp; omega
      · simp; omega
      · exact absurd rfl hb
theorem CanAt.apart {w : World} {base : Nat} {O : Option Int} {A : Option Addr} {c : Nat} (h : CanAt w base O A c) (k : Nat) (hne : 0 < (cz O).length → ∀ ad, A = some ad → ad.block ≠ k) (x y : Value) : CanAt ((w.setCell ⟨k, 0, none⟩ x).setCell ⟨k, 1, none⟩ y) base O A c := by
  refine ⟨h.1, h.2.1, fun i hi => ?_⟩
  obtain ⟨b, off, z, hA, hB, hz, hc, hf⟩ := h.2.2 i hi
  have hk : b ≠ k := hne (by omega) _ hA
  exact ⟨b, off, z, hA, hB, hz, cell_off (cell_off hc (Ne.symm hk)) (Ne.symm hk), by rw [World.frozen?_setCell, World.frozen?_setCell]; exact hf⟩
theorem minus_one : cz (some (-1)) = [1] := by decide

set_option maxHeartbeats 8000000 in
theorem refDivide_ok (b1 b2 : Bool) (A B : Option Addr) (c d : Nat) (xs ys : List Int) (w : World) (hX : W32 xs) (hY : W32 ys) (hr : RdI w .u32 A xs) (hs : RdI w .u32 B ys) (hl : xs.length ≤ c) (hc : c ≤ 9223372036854775807) (hl2 : ys.length ≤ d) (hd : d ≤ 9223372036854775807) (hm : xs.length ≤ 400000) (hm2 : ys.length ≤ 400000) :
    Calls Tryd.prog 42 #[.agg #[.bool b1, .slice A xs.length c], .agg #[.bool b2, .slice B ys.length d]] w (RetDiv w (valI b1 xs) (valI b2 ys)) := by
  have hL1 := fun W (hb : Below w.heap.size w W) => refLong_ok b1 A c xs W hX (hr.later hb) hl hc (by omega)
  have hL2 := fun W (hb : Below w.heap.size w W) => refLong_ok b2 B d ys W hY (hs.later hb) hl2 hd (by omega)
  have hF1 := fun W (hb : Below w.heap.size w W) => refForm_can b1 A c xs W hX (hr.later hb) hl hc (by omega)
  have hF2 := fun W (hb : Below w.heap.size w W) => refForm_can b2 B d ys W hY (hs.later hb) hl2 hd (by omega)
  unfold RetDiv
  generalize valI b1 xs = X at *
  generalize valI b2 ys = Y at *
  clear hX hY hr hs
  obtain ⟨W0, hW0⟩ : ∃ W0, (((w.alloc (.cells #[.bool b1, .slice A xs.length c] 24)).alloc (.cells #[.bool b2, .slice B ys.length d] 24)).alloc (.cells #[.bool false, .slice none 0 0] 24)).alloc (.cells #[.bool false, .slice none 0 0] 24) = W0 := ⟨_, rfl⟩
  have hz : Below w.heap.size w W0 := by rw [← hW0]; exact ((((Below.refl _ _).alloc (Nat.le_refl _) _).alloc (by simp) _).alloc (by simp; omega) _).alloc (by simp; omega) _
  have K := b4_new w (.bool b1) (.slice A xs.length c) (.bool b2) (.slice B ys.length d)
  rw [hW0] at K
  obtain ⟨⟨ka0, ka1, ka2, ka3, ka4⟩, ⟨kb0, kb1, kb2, kb3, kb4⟩, ⟨kq0, kq1, kq2, kq3, kq4⟩, ⟨kr0, kr1, kr2, kr3, kr4⟩⟩ := id K
  have HOE := Lib.hid (show (big X = true → dvQ X Y = none ∧ dvR X Y = none ∧ dvE X Y = 3) ∧ (big X = false → big Y = true → dvQ X Y = none ∧ dvR X Y = none ∧ dvE X Y = 3) ∧ (big X = false → big Y = false → Y = 0 → dvQ X Y = none ∧ dvR X Y = none ∧ dvE X Y = 2) from by
    refine ⟨fun h => ?_, fun h h' => ?_, fun h h' h'' => ?_⟩
    · have : dvO X Y = true := by rw [dvO, h]; rfl
      exact ⟨(dv_none this).1, (dv_none this).2, by rw [dvE, h]; rfl⟩
    · have : dvO X Y = true := by rw [dvO, h, h']; rfl
      exact ⟨(dv_none this).1, (dv_none this).2, by rw [dvE, h, h']; rfl⟩
    · have : dvO X Y = true := by rw [dvO, h, h', decide_eq_true h'']; rfl
      exact ⟨(dv_none this).1, (dv_none this).2, by rw [dvE, h, h', if_neg (by decide), if_pos h'']⟩)
  cases h1 : big X with
  | true =>
    have HOQ := Lib.hid (HOE.out.1 h1)
    rw [h1] at hL1
    clear hF1 hF2 hL2 HOE
    go_enter Tryd.func42, Tryd.ntmps42
    go_wp2_with fail
    go_at_call 64
    refine (hL1 _ hz).mono ?_
    rintro e w9 ⟨rfl, hb⟩
    replace K := K.later hb
    replace hz := hz.trans (hb.mono hz.size)
    clear ka0 ka1 ka2 ka3 ka4 kb0 kb1 kb2 kb3 kb4 kq0 kq1 kq2 kq3 kq4 kr0 kr1 kr2 kr3 kr4
    obtain ⟨⟨ka0, ka1, ka2, ka3, ka4⟩, ⟨kb0, kb1, kb2, kb3, kb4⟩, ⟨kq0, kq1, kq2, kq3, kq4⟩, ⟨kr0, kr1, kr2, kr3, kr4⟩⟩ := id K
    clear hb
    go_wp2
    have KE := (K.setQ (.bool false) (.slice none 0 0)).setR (.bool false) (.slice none 0 0)
    have hE : Below w.heap.size w ((((w9.setCell ⟨w.heap.size + 1 + 1, 0, none⟩ (.bool false)).setCell ⟨w.heap.size + 1 + 1, 1, none⟩ (.slice none 0 0)).setCell ⟨w.heap.size + 1 + 1 + 1, 0, none⟩ (.bool false)).setCell ⟨w.heap.size + 1 + 1 + 1, 1, none⟩ (.slice none 0 0)) := (((hz.setCell (p := ⟨w.heap.size + 1 + 1, 0, none⟩) (by show w.heap.size ≤ w.heap.size + 1 + 1; omega) _).setCell (p := ⟨w.heap.size + 1 + 1, 1, none⟩) (by show w.heap.size ≤ w.heap.size + 1 + 1; omega) _).setCell (p := ⟨w.heap.size + 1 + 1 + 1, 0, none⟩) (by show w.heap.size ≤ w.heap.size + 1 + 1 + 1; omega) _).setCell (p := ⟨w.heap.size + 1 + 1 + 1, 1, none⟩) (by show w.heap.size ≤ w.heap.size + 1 + 1 + 1; omega) _
    generalize ((((w9.setCell ⟨w.heap.size + 1 + 1, 0, none⟩ (.bool false)).setCell ⟨w.heap.size + 1 + 1, 1, none⟩ (.slice none 0 0)).setCell ⟨w.heap.size + 1 + 1 + 1, 0, none⟩ (.bool false)).setCell ⟨w.heap.size + 1 + 1 + 1, 1, none⟩ (.slice none 0 0)) = WE at KE hE ⊢
    clear ka0 ka1 ka2 ka3 ka4 kb0 kb1 kb2 kb3 kb4 kq0 kq1 kq2 kq3 kq4 kr0 kr1 kr2 kr3 kr4 K
    obtain ⟨⟨ka0, ka1, ka2, ka3, ka4⟩, ⟨kb0, kb1, kb2, kb3, kb4⟩, ⟨kq0, kq1, kq2, kq3, kq4⟩, ⟨kr0, kr1, kr2, kr3, kr4⟩⟩ := KE
    exact bodyPost_ret (v := .tuple #[.agg #[.bool false, .slice none 0 0], .agg #[.bool false, .slice none 0 0], .int .i64 3]) (by simp [results, Tryd.results42, go_sem, kq0, kq1, kq4, kr0, kr1, kr4]) rfl ⟨none, 0, none, 0, by rw [HOQ.out.1, HOQ.out.2.1, HOQ.out.2.2]; rfl, by rw [HOQ.out.1]; exact can_none _ _, by rw [HOQ.out.2.1]; exact can_none _ _, hE⟩
  | false =>
    rw [h1] at hL1
    cases h2 : big Y with
    | true =>
      have HOQ := Lib.hid (HOE.out.2.1 h1 h2)
      rw [h2] at hL2
      clear hF1 hF2 HOE
      go_enter Tryd.func42, Tryd.ntmps42
      go_wp2_with fail
      go_at_call 64
      refine (hL1 _ hz).mono ?_
      rintro e w1 ⟨rfl, hb⟩
      replace K := K.later hb
      replace hz := hz.trans (hb.mono hz.size)
      clear ka0 ka1 ka2 ka3 ka4 kb0 kb1 kb2 kb3 kb4 kq0 kq1 kq2 kq3 kq4 kr0 kr1 kr2 kr3 kr4
      obtain ⟨⟨ka0, ka1, ka2, ka3, ka4⟩, ⟨kb0, kb1, kb2, kb3, kb4⟩, ⟨kq0, kq1, kq2, kq3, kq4⟩, ⟨kr0, kr1, kr2, kr3, kr4⟩⟩ := id K
      clear hb
      go_wp2_with fail
      go_at_call 64
      refine (hL2 _ hz).mono ?_
      rintro e w9 ⟨rfl, hb⟩
      replace K := K.later hb
      replace hz := hz.trans (hb.mono hz.size)
      clear ka0 ka1 ka2 ka3 ka4 kb0 kb1 kb2 kb3 kb4 kq0 kq1 kq2 kq3 kq4 kr0 kr1 kr2 kr3 kr4
      obtain ⟨⟨ka0, ka1, ka2, ka3, ka4⟩, ⟨kb0, kb1, kb2, kb3, kb4⟩, ⟨kq0, kq1, kq2, kq3, kq4⟩, ⟨kr0, kr1, kr2, kr3, kr4⟩⟩ := id K
      clear hb
      go_wp2
      have KE := (K.setQ (.bool false) (.slice none 0 0)).setR (.bool false) (.slice none 0 0)
      have hE : Below w.heap.size w ((((w9.setCell ⟨w.heap.size + 1 + 1, 0, none⟩ (.bool false)).setCell ⟨w.heap.size + 1 + 1, 1, none⟩ (.slice none 0 0)).setCell ⟨w.heap.size + 1 + 1 + 1, 0, none⟩ (.bool false)).setCell ⟨w.heap.size + 1 + 1 + 1, 1, none⟩ (.slice none 0 0)) := (((hz.setCell (p := ⟨w.heap.size + 1 + 1, 0, none⟩) (by show w.heap.size ≤ w.heap.size + 1 + 1; omega) _).setCell (p := ⟨w.heap.size + 1 + 1, 1, none⟩) (by show w.heap.size ≤ w.heap.size + 1 + 1; omega) _).setCell (p := ⟨w.heap.size + 1 + 1 + 1, 0, none⟩) (by show w.heap.size ≤ w.heap.size + 1 + 1 + 1; omega) _).setCell (p := ⟨w.heap.size + 1 + 1 + 1, 1, none⟩) (by show w.heap.size ≤ w.heap.size + 1 + 1 + 1; omega) _
      generalize ((((w9.setCell ⟨w.heap.size + 1 + 1, 0, none⟩ (.bool false)).setCell ⟨w.heap.size + 1 + 1, 1, none⟩ (.slice none 0 0)).setCell ⟨w.heap.size + 1 + 1 + 1, 0, none⟩ (.bool false)).setCell ⟨w.heap.size + 1 + 1 + 1, 1, none⟩ (.slice none 0 0)) = WE at KE hE ⊢
      clear ka0 ka1 ka2 ka3 ka4 kb0 kb1 kb2 kb3 kb4 kq0 kq1 kq2 kq3 kq4 kr0 kr1 kr2 kr3 kr4 K
      obtain ⟨⟨ka0, ka1, ka2, ka3, ka4⟩, ⟨kb0, kb1, kb2, kb3, kb4⟩, ⟨kq0, kq1, kq2, kq3, kq4⟩, ⟨kr0, kr1, kr2, kr3, kr4⟩⟩ := KE
      exact bodyPost_ret (v := .tuple #[.agg #[.bool false, .slice none 0 0], .agg #[.bool false, .slice none 0 0], .int .i64 3]) (by simp [results, Tryd.results42, go_sem, kq0, kq1, kq4, kr0, kr1, kr4]) rfl ⟨none, 0, none, 0, by rw [HOQ.out.1, HOQ.out.2.1, HOQ.out.2.2]; rfl, by rw [HOQ.out.1]; exact can_none _ _, by rw [HOQ.out.2.1]; exact can_none _ _, hE⟩
    | false =>
      rw [h2] at hL2
      have sX := cz_len h1
      have sY := cz_len h2
      go_enter Tryd.func42, Tryd.ntmps42
      go_wp2_with fail
      go_at_call 64
      refine (hL1 _ hz).mono ?_
      rintro e w1 ⟨rfl, hb⟩
      replace K := K.later hb
      replace hz := hz.trans (hb.mono hz.size)
      clear ka0 ka1 ka2 ka3 ka4 kb0 kb1 kb2 kb3 kb4 kq0 kq1 kq2 kq3 kq4 kr0 kr1 kr2 kr3 kr4
      obtain ⟨⟨ka0, ka1, ka2, ka3, ka4⟩, ⟨kb0, kb1, kb2, kb3, kb4⟩, ⟨kq0, kq1, kq2, kq3, kq4⟩, ⟨kr0, kr1, kr2, kr3, kr4⟩⟩ := id K
      clear hb
      go_wp2_with fail
      go_at_call 64
      refine (hL2 _ hz).mono ?_
      rintro e w2 ⟨rfl, hb⟩
      replace K := K.later hb
      replace hz := hz.trans (hb.mono hz.size)
      clear ka0 ka1 ka2 ka3 ka4 kb0 kb1 kb2 kb3 kb4 kq0 kq1 kq2 kq3 kq4 kr0 kr1 kr2 kr3 kr4
      obtain ⟨⟨ka0, ka1, ka2, ka3, ka4⟩, ⟨kb0, kb1, kb2, kb3, kb4⟩, ⟨kq0, kq1, kq2, kq3, kq4⟩, ⟨kr0, kr1, kr2, kr3, kr4⟩⟩ := id K
      clear hb
      go_wp2_with fail
      have b4 : w.heap.size + 1 + 1 + 1 + 1 ≤ w2.heap.size := kr4
      clear hL1 hL2
      go_at_call 37
      refine (hF1 _ hz).mono ?_
      rintro e w3 ⟨A3, c3, rfl, CX, hb⟩
      replace K := K.later hb
      replace hz := hz.trans (hb.mono hz.size)
      clear ka0 ka1 ka2 ka3 ka4 kb0 kb1 kb2 kb3 kb4 kq0 kq1 kq2 kq3 kq4 kr0 kr1 kr2 kr3 kr4
      obtain ⟨⟨ka0, ka1, ka2, ka3, ka4⟩, ⟨kb0, kb1, kb2, kb3, kb4⟩, ⟨kq0, kq1, kq2, kq3, kq4⟩, ⟨kr0, kr1, kr2, kr3, kr4⟩⟩ := id K
      clear hb
      replace CX := CX.mono b4
      obtain ⟨v3, hv3⟩ : ∃ u, ((w3.setCell ⟨w.heap.size, 0, none⟩ (.bool (cb (some X)))).setCell ⟨w.heap.size, 1, none⟩ (.slice A3 (cz (some X)).length c3)) = u := ⟨_, rfl⟩
      replace K := K.setA (.bool (cb (some X))) (.slice A3 (cz (some X)).length c3)
      replace hz : Below w.heap.size w ((w3.setCell ⟨w.heap.size, 0, none⟩ (.bool (cb (some X)))).setCell ⟨w.heap.size, 1, none⟩ (.slice A3 (cz (some X)).length c3)) := (hz.setCell (p := ⟨w.heap.size, 0, none⟩) (by show w.heap.size ≤ w.heap.size; omega) _).setCell (p := ⟨w.heap.size, 1, none⟩) (by show w.heap.size ≤ w.heap.size; omega) _
      replace CX := CX.both (w.heap.size) (by omega) (.bool (cb (some X))) (.slice A3 (cz (some X)).length c3)
      rw [hv3] at K hz CX
      have K' := K
      obtain ⟨⟨na0, na1, na2, na3, na4⟩, ⟨nb0, nb1, nb2, nb3, nb4⟩, ⟨nq0, nq1, nq2, nq3, nq4⟩, ⟨nr0, nr1, nr2, nr3, nr4⟩⟩ := K'
      go_wp2_with fail
      clear hv3 na0 na1 na2 na3 na4 nb0 nb1 nb2 nb3 nb4 nq0 nq1 nq2 nq3 nq4 nr0 nr1 nr2 nr3 nr4
      have b4 : w.heap.size + 1 + 1 + 1 + 1 ≤ v3.heap.size := K.2.2.2.2.2.2.2
      go_at_call 37
      refine (hF2 _ hz).mono ?_
      rintro e w4 ⟨A4, c4, rfl, CY, hb⟩
      replace K := K.later hb
      replace hz := hz.trans (hb.mono hz.size)
      replace CX := CX.later hb
      clear ka0 ka1 ka2 ka3 ka4 kb0 kb1 kb2 kb3 kb4 kq0 kq1 kq2 kq3 kq4 kr0 kr1 kr2 kr3 kr4
      obtain ⟨⟨ka0, ka1, ka2, ka3, ka4⟩, ⟨kb0, kb1, kb2, kb3, kb4⟩, ⟨kq0, kq1, kq2, kq3, kq4⟩, ⟨kr0, kr1, kr2, kr3, kr4⟩⟩ := id K
      clear hb
      replace CY := CY.mono b4
      obtain ⟨v4, hv4⟩ : ∃ u, ((w4.setCell ⟨w.heap.size + 1, 0, none⟩ (.bool (cb (some Y)))).setCell ⟨w.heap.size + 1, 1, none⟩ (.slice A4 (cz (some Y)).length c4)) = u := ⟨_, rfl⟩
      replace K := K.setB (.bool (cb (some Y))) (.slice A4 (cz (some Y)).length c4)
      replace hz : Below w.heap.size w ((w4.setCell ⟨w.heap.size + 1, 0, none⟩ (.bool (cb (some Y)))).setCell ⟨w.heap.size + 1, 1, none⟩ (.slice A4 (cz (some Y)).length c4)) := (hz.setCell (p := ⟨w.heap.size + 1, 0, none⟩) (by show w.heap.size ≤ w.heap.size + 1; omega) _).setCell (p := ⟨w.heap.size + 1, 1, none⟩) (by show w.heap.size ≤ w.heap.size + 1; omega) _
      replace CX := CX.both (w.heap.size + 1) (by omega) (.bool (cb (some Y))) (.slice A4 (cz (some Y)).length c4)
      replace CY := CY.both (w.heap.size + 1) (by omega) (.bool (cb (some Y))) (.slice A4 (cz (some Y)).length c4)
      rw [hv4] at K hz CX CY
      clear hF1 hF2
      have HK := Lib.hid K
      obtain ⟨⟨na0, na1, na2, na3, na4⟩, ⟨nb0, nb1, nb2, nb3, nb4⟩, ⟨nq0, nq1, nq2, nq3, nq4⟩, ⟨nr0, nr1, nr2, nr3, nr4⟩⟩ := id K
      by_cases hy0 : cz (some Y) = []
      · have HOQ := Lib.hid (HOE.out.2.2 h1 h2 (cz_nil.1 hy0))
        have hl0 : (cz (some Y)).length = 0 := by rw [hy0]; rfl
        rw [hl0] at hv4 HK nb1 ⊢
        clear HOE K hy0 CY
        clear hl0
        go_wp2
        have K := HK.out
        clear ka0 ka1 ka2 ka3 ka4 kb0 kb1 kb2 kb3 kb4 kq0 kq1 kq2 kq3 kq4 kr0 kr1 kr2 kr3 kr4
        obtain ⟨⟨ka0, ka1, ka2, ka3, ka4⟩, ⟨kb0, kb1, kb2, kb3, kb4⟩, ⟨kq0, kq1, kq2, kq3, kq4⟩, ⟨kr0, kr1, kr2, kr3, kr4⟩⟩ := id K
        have KE := (K.setQ (.bool false) (.slice none 0 0)).setR (.bool false) (.slice none 0 0)
        have hE : Below w.heap.size w ((((v4.setCell ⟨w.heap.size + 1 + 1, 0, none⟩ (.bool false)).setCell ⟨w.heap.size + 1 + 1, 1, none⟩ (.slice none 0 0)).setCell ⟨w.heap.size + 1 + 1 + 1, 0, none⟩ (.bool false)).setCell ⟨w.heap.size + 1 + 1 + 1, 1, none⟩ (.slice none 0 0)) := (((hz.setCell (p := ⟨w.heap.size + 1 + 1, 0, none⟩) (by show w.heap.size ≤ w.heap.size + 1 + 1; omega) _).setCell (p := ⟨w.heap.size + 1 + 1, 1, none⟩) (by show w.heap.size ≤ w.heap.size + 1 + 1; omega) _).setCell (p := ⟨w.heap.size + 1 + 1 + 1, 0, none⟩) (by show w.heap.size ≤ w.heap.size + 1 + 1 + 1; omega) _).setCell (p := ⟨w.heap.size + 1 + 1 + 1, 1, none⟩) (by show w.heap.size ≤ w.heap.size + 1 + 1 + 1; omega) _
        generalize ((((v4.setCell ⟨w.heap.size + 1 + 1, 0, none⟩ (.bool false)).setCell ⟨w.heap.size + 1 + 1, 1, none⟩ (.slice none 0 0)).setCell ⟨w.heap.size + 1 + 1 + 1, 0, none⟩ (.bool false)).setCell ⟨w.heap.size + 1 + 1 + 1, 1, none⟩ (.slice none 0 0)) = WE at KE hE ⊢
        clear ka0 ka1 ka2 ka3 ka4 kb0 kb1 kb2 kb3 kb4 kq0 kq1 kq2 kq3 kq4 kr0 kr1 kr2 kr3 kr4 K
        obtain ⟨⟨ka0, ka1, ka2, ka3, ka4⟩, ⟨kb0, kb1, kb2, kb3, kb4⟩, ⟨kq0, kq1, kq2, kq3, kq4⟩, ⟨kr0, kr1, kr2, kr3, kr4⟩⟩ := KE
        exact bodyPost_ret (v := .tuple #[.agg #[.bool false, .slice none 0 0], .agg #[.bool false, .slice none 0 0], .int .i64 2]) (by simp [results, Tryd.results42, go_sem, kq0, kq1, kq4, kr0, kr1, kr4]) rfl ⟨none, 0, none, 0, by rw [HOQ.out.1, HOQ.out.2.1, HOQ.out.2.2]; rfl, by rw [HOQ.out.1]; exact can_none _ _, by rw [HOQ.out.2.1]; exact can_none _ _, hE⟩
      · have hYn : 0 < (cz (some Y)).length := List.length_pos_iff.2 hy0
        have x0 : (((cz (some Y)).length : Int) == 0) = false := by simp; omega
        have hYv : Y ≠ 0 := fun e => hy0 (cz_nil.2 e)
        have HYv := Lib.hid hYv
        have HBB := Lib.hid (And.intro h1 h2)
        clear K hy0 hYv h1 h2
        have hYa : 1 ≤ (Y.natAbs : Int) := by have := HYv.out; omega
        have hBy := refBy_ok A3 A4 c3 c4 (cz (some X)) (cz (some Y)) v4 (cz_w32 _) (cz_w32 _) (cz_nt _) CX.2.2.rd CY.2.2.rd CX.1 CX.2.1 CY.1 CY.2.1 (by omega) (by omega) hYn
        clear HOE hYn
        go_wp2_with fail
        clear hv4 na0 na1 na2 na3 na4 nb0 nb1 nb2 nb3 nb4 nq0 nq1 nq2 nq3 nq4 nr0 nr1 nr2 nr3 nr4
        have K := HK.out
        have NY := Lib.hid (can_block CY)
        have b4 : w.heap.size + 1 + 1 + 1 + 1 ≤ v4.heap.size := K.2.2.2.2.2.2.2
        go_at_call 70
        refine (hBy).mono ?_
        rintro e w5 ⟨A5, A6, c5, c6, ns, ls, rfl, n1, n2, n3, n4, n5, n6, wn, wl, fn, fl, hdv, hlv, hb⟩
        have s45 := hb.size
        replace K := K.later hb
        replace hz := hz.trans (hb.mono hz.size)
        replace CX := CX.later hb
        replace CY := CY.later hb
        clear ka0 ka1 ka2 ka3 ka4 kb0 kb1 kb2 kb3 kb4 kq0 kq1 kq2 kq3 kq4 kr0 kr1 kr2 kr3 kr4
        obtain ⟨⟨ka0, ka1, ka2, ka3, ka4⟩, ⟨kb0, kb1, kb2, kb3, kb4⟩, ⟨kq0, kq1, kq2, kq3, kq4⟩, ⟨kr0, kr1, kr2, kr3, kr4⟩⟩ := id K
        clear hb
        rw [val_c, val_c] at hdv
        rw [val_c] at hlv
        have hl0 := val_nn wl
        have hn0 := val_nn wn
        obtain ⟨hd1, hd2⟩ := ref_dv hdv hl0 hlv
        obtain ⟨Q0, hQ0⟩ : ∃ Q0, valI (cb (some X) != cb (some Y)) ns = Q0 := ⟨_, rfl⟩
        obtain ⟨R0, hR0⟩ : ∃ R0, valI (cb (some X)) ls = R0 := ⟨_, rfl⟩
        rw [← valI_cases, ← valI_cases, hQ0, hR0] at hd1 hd2
        have hqa : (Q0.natAbs : Int) = val ns := by rw [← hQ0]; exact valI_abs wn
        have hra : (R0.natAbs : Int) = val ls := by rw [← hR0]; exact valI_abs wl
        have hmul : val ns ≤ (Y.natAbs : Int) * val ns := by have := Int.mul_le_mul_of_nonneg_right hYa hn0; omega
        have sQ0 := cz_len (small_of_le HBB.out.1 (show (Q0.natAbs : Int) ≤ (X.natAbs : Int) by omega))
        have sR0 := cz_len (small_of_le HBB.out.2 (show (R0.natAbs : Int) ≤ (Y.natAbs : Int) by omega))
        have HA := Lib.hid (show (cz (some R0) = [] ∨ cb (some R0) = cb (some Y) → dq X Y = Q0 ∧ dr X Y = R0 ∧ big Q0 = false) ∧ (cz (some R0) ≠ [] → cb (some R0) ≠ cb (some Y) → dq X Y = Q0 + -1 ∧ dr X Y = R0 + Y ∧ big (Q0 + -1) = false) from by
          have hq1 : big Q0 = false := small_of_le HBB.out.1 (by omega)
          refine ⟨fun h => ?_, fun h h' => ?_⟩
          · have : val ls = 0 ∨ cb (some X) = cb (some Y) := by
              by_cases hz0 : val ls = 0
              · exact Or.inl hz0
              · right
                have hcb := cb_valI (b := cb (some X)) (zs := ls) (by omega)
                rw [hR0] at hcb
                rcases h with h | h
                · have := cz_nil.1 h; omega
                · rw [← hcb]; exact h
            exact ⟨(hd1 this).1, (hd1 this).2, hq1⟩
          · have hz0 : 0 < val ls := by
              rcases Int.lt_or_le 0 (val ls) with h3 | h3
              · exact h3
              · exact absurd (cz_nil.2 (show R0 = 0 by omega)) h
            have hcb := cb_valI (b := cb (some X)) (zs := ls) hz0
            rw [hR0] at hcb
            rw [hcb] at h'
            have := hd2 hz0 h'
            refine ⟨this.1, this.2, small_of_le HBB.out.1 ?_⟩
            omega)
        have hMq := fun W (hb : Below w5.heap.size w5 W) => (made_int (cb (some X) != cb (some Y)) A5 c5 ns W wn (fn.later hb).rd n1 n2 n5 Q0 hQ0).mono fun e w' h => retI_can h
        have hMr := fun W (hb : Below w5.heap.size w5 W) => (made_int (cb (some X)) A6 c6 ls W wl (fl.later hb).rd n3 n4 n6 R0 hR0).mono fun e w' h => retI_can h
        have z5 := Below.refl w5.heap.size w5
        clear hdv hlv hl0 hn0 hd1 hd2 hqa hra hmul hQ0 hR0 hBy HK hYa
        go_wp2_with fail
        have b5 : w.heap.size + 1 + 1 + 1 + 1 ≤ w5.heap.size := kr4
        go_at_call 52
        refine (hMq _ z5).mono ?_
        rintro e w6 ⟨Aq, cq, rfl, CQ, hb⟩
        replace z5 := z5.trans (hb.mono z5.size)
        have hsz6 := hb.size
        replace CQ := CQ.mono b5
        replace K := K.later hb
        replace hz := hz.trans (hb.mono hz.size)
        replace CX := CX.later hb
        replace CY := CY.later hb
        clear ka0 ka1 ka2 ka3 ka4 kb0 kb1 kb2 kb3 kb4 kq0 kq1 kq2 kq3 kq4 kr0 kr1 kr2 kr3 kr4
        obtain ⟨⟨ka0, ka1, ka2, ka3, ka4⟩, ⟨kb0, kb1, kb2, kb3, kb4⟩, ⟨kq0, kq1, kq2, kq3, kq4⟩, ⟨kr0, kr1, kr2, kr3, kr4⟩⟩ := id K
        clear hb hMq
        obtain ⟨u6, hu6⟩ : ∃ u, w6.alloc (.cells #[.bool (cb (some Q0)), .slice Aq (cz (some Q0)).length cq] 24) = u := ⟨_, rfl⟩
        obtain ⟨hb, KQ⟩ := bx_new w6 _ _ u6 hu6
        replace z5 := z5.trans (hb.mono z5.size)
        replace K := K.later hb
        replace hz := hz.trans (hb.mono hz.size)
        replace CX := CX.later hb
        replace CY := CY.later hb
        replace CQ := CQ.later hb
        clear ka0 ka1 ka2 ka3 ka4 kb0 kb1 kb2 kb3 kb4 kq0 kq1 kq2 kq3 kq4 kr0 kr1 kr2 kr3 kr4
        obtain ⟨⟨ka0, ka1, ka2, ka3, ka4⟩, ⟨kb0, kb1, kb2, kb3, kb4⟩, ⟨kq0, kq1, kq2, kq3, kq4⟩, ⟨kr0, kr1, kr2, kr3, kr4⟩⟩ := id K
        clear hb
        obtain ⟨xq0, xq1, xq2, xq3, xq4⟩ := id KQ
        have g6 : w.heap.size + 1 + 1 + 1 < w6.heap.size := Nat.lt_of_lt_of_le b5 hsz6
        go_wp2_with fail
        clear hu6
        go_at_call 52
        refine (hMr _ z5).mono ?_
        rintro e w7 ⟨Ar, cr, rfl, CR, hb⟩
        have hu6s : w6.heap.size < u6.heap.size := KQ.2.2.2.2
        have hsz7 : w6.heap.size < w7.heap.size := Nat.lt_of_lt_of_le KQ.2.2.2.2 hb.size
        replace K := K.later hb
        replace hz := hz.trans (hb.mono hz.size)
        replace CX := CX.later hb
        replace CY := CY.later hb
        replace CQ := CQ.later hb
        replace KQ := KQ.later hb
        clear ka0 ka1 ka2 ka3 ka4 kb0 kb1 kb2 kb3 kb4 kq0 kq1 kq2 kq3 kq4 kr0 kr1 kr2 kr3 kr4
        obtain ⟨⟨ka0, ka1, ka2, ka3, ka4⟩, ⟨kb0, kb1, kb2, kb3, kb4⟩, ⟨kq0, kq1, kq2, kq3, kq4⟩, ⟨kr0, kr1, kr2, kr3, kr4⟩⟩ := id K
        obtain ⟨xq0, xq1, xq2, xq3, xq4⟩ := id KQ
        clear hb hMr z5
        obtain ⟨u7, hu7⟩ : ∃ u, w7.alloc (.cells #[.bool (cb (some R0)), .slice Ar (cz (some R0)).length cr] 24) = u := ⟨_, rfl⟩
        obtain ⟨hb, KR⟩ := bx_new w7 _ _ u7 hu7
        replace K := K.later hb
        replace hz := hz.trans (hb.mono hz.size)
        replace CX := CX.later hb
        replace CY := CY.later hb
        replace CQ := CQ.later hb
        replace KQ := KQ.later hb
        replace CR := CR.later hb
        clear ka0 ka1 ka2 ka3 ka4 kb0 kb1 kb2 kb3 kb4 kq0 kq1 kq2 kq3 kq4 kr0 kr1 kr2 kr3 kr4
        obtain ⟨⟨ka0, ka1, ka2, ka3, ka4⟩, ⟨kb0, kb1, kb2, kb3, kb4⟩, ⟨kq0, kq1, kq2, kq3, kq4⟩, ⟨kr0, kr1, kr2, kr3, kr4⟩⟩ := id K
        obtain ⟨xq0, xq1, xq2, xq3, xq4⟩ := id KQ
        clear hb
        obtain ⟨xq0, xq1, xq2, xq3, xq4⟩ := id KQ
        obtain ⟨xr0, xr1, xr2, xr3, xr4⟩ := id KR
        have g7 : w.heap.size + 1 + 1 + 1 < w7.heap.size := by omega
        have g67 : w6.heap.size ≠ w7.heap.size := by omega
        by_cases hr0 : cz (some R0) = []
        · have HF := Lib.hid (HA.out.1 (Or.inl hr0))
          have xr : decide ((0 : Int) < ((cz (some R0)).length : Int)) = false := by rw [hr0]; rfl
          have xr2 : decide (0 < (cz (some R0)).length) = false := by rw [hr0]; rfl
          have xr3 : ¬ (0 < (cz (some R0)).length) := by rw [hr0]; decide
          have xr4' : ¬ ((0 : Int) < ((cz (some R0)).length : Int)) := by rw [hr0]; decide
          clear hr0
          have HOQ := Lib.hid (show dvQ X Y = some (Q0) ∧ dvR X Y = some (R0) ∧ dvE X Y = 0 from by
            obtain ⟨e1, e2, e3⟩ := HF.out
            obtain ⟨h1, h2⟩ := HBB.out
            have : dvO X Y = false := by rw [dvO, h1, h2, e1, e3, decide_eq_false HYv.out]; rfl
            exact ⟨by rw [dvQ, this, e1]; rfl, by rw [dvR, this, e2]; rfl, by rw [dvE, h1, h2, if_neg (by decide), if_neg HYv.out, e1, e3]; rfl⟩)
          have hLq := refLong_ok (cb (some (Q0))) Aq cq (cz (some (Q0))) _ (cz_w32 _) CQ.2.2.rd CQ.1 CQ.2.1 (by omega)
          rw [valI_c, HF.out.2.2] at hLq
          clear HF HBB HYv HA
          go_wp2_with fail
          go_at_call 64
          refine (hLq).mono ?_
          rintro e w10 ⟨rfl, hb⟩
          replace K := K.later hb
          replace hz := hz.trans (hb.mono hz.size)
          replace CX := CX.later hb
          replace CY := CY.later hb
          replace CQ := CQ.later hb
          replace KQ := KQ.later hb
          replace CR := CR.later hb
          replace KR := KR.later hb
          clear ka0 ka1 ka2 ka3 ka4 kb0 kb1 kb2 kb3 kb4 kq0 kq1 kq2 kq3 kq4 kr0 kr1 kr2 kr3 kr4
          obtain ⟨⟨ka0, ka1, ka2, ka3, ka4⟩, ⟨kb0, kb1, kb2, kb3, kb4⟩, ⟨kq0, kq1, kq2, kq3, kq4⟩, ⟨kr0, kr1, kr2, kr3, kr4⟩⟩ := id K
          obtain ⟨xq0, xq1, xq2, xq3, xq4⟩ := id KQ
          obtain ⟨xr0, xr1, xr2, xr3, xr4⟩ := id KR
          clear hb
          try (clear xr xs xs2)
          try (clear yr2 yr3 yr4)
          have K9 := Lib.hid K
          have C9 := Lib.hid (And.intro CQ CR)
          have Z9 := Lib.hid hz
          try (clear CX CY)
          go_wp2
          go_region
          go_wp2
          replace K := K9.out
          have KE := (K.setQ (.bool (cb (some (Q0)))) (.slice Aq (cz (some (Q0))).length cq)).setR (.bool (cb (some (R0)))) (.slice Ar (cz (some (R0))).length cr)
          have hE : Below w.heap.size w ((((w10.setCell ⟨w.heap.size + 1 + 1, 0, none⟩ (.bool (cb (some (Q0))))).setCell ⟨w.heap.size + 1 + 1, 1, none⟩ (.slice Aq (cz (some (Q0))).length cq)).setCell ⟨w.heap.size + 1 + 1 + 1, 0, none⟩ (.bool (cb (some (R0))))).setCell ⟨w.heap.size + 1 + 1 + 1, 1, none⟩ (.slice Ar (cz (some (R0))).length cr)) := (((hz.setCell (p := ⟨w.heap.size + 1 + 1, 0, none⟩) (by show w.heap.size ≤ w.heap.size + 1 + 1; omega) _).setCell (p := ⟨w.heap.size + 1 + 1, 1, none⟩) (by show w.heap.size ≤ w.heap.size + 1 + 1; omega) _).setCell (p := ⟨w.heap.size + 1 + 1 + 1, 0, none⟩) (by show w.heap.size ≤ w.heap.size + 1 + 1 + 1; omega) _).setCell (p := ⟨w.heap.size + 1 + 1 + 1, 1, none⟩) (by show w.heap.size ≤ w.heap.size + 1 + 1 + 1; omega) _
          have CQE := (C9.out.1.both (w.heap.size + 1 + 1) (by omega) (.bool (cb (some (Q0)))) (.slice Aq (cz (some (Q0))).length cq)).both (w.heap.size + 1 + 1 + 1) (by omega) (.bool (cb (some (R0)))) (.slice Ar (cz (some (R0))).length cr)
          have CRE := (C9.out.2.both (w.heap.size + 1 + 1) (by omega) (.bool (cb (some (Q0)))) (.slice Aq (cz (some (Q0))).length cq)).both (w.heap.size + 1 + 1 + 1) (by omega) (.bool (cb (some (R0)))) (.slice Ar (cz (some (R0))).length cr)
          replace KE := KE.later (below_drew (Below.refl _ _))
          replace hE := below_drew hE
          replace CQE := CQE.later (below_drew (Below.refl _ _))
          replace CRE := CRE.later (below_drew (Below.refl _ _))
          generalize ((((w10.setCell ⟨w.heap.size + 1 + 1, 0, none⟩ (.bool (cb (some (Q0))))).setCell ⟨w.heap.size + 1 + 1, 1, none⟩ (.slice Aq (cz (some (Q0))).length cq)).setCell ⟨w.heap.size + 1 + 1 + 1, 0, none⟩ (.bool (cb (some (R0))))).setCell ⟨w.heap.size + 1 + 1 + 1, 1, none⟩ (.slice Ar (cz (some (R0))).length cr)).drew = WE at KE hE CQE CRE ⊢
          clear ka0 ka1 ka2 ka3 ka4 kb0 kb1 kb2 kb3 kb4 kq0 kq1 kq2 kq3 kq4 kr0 kr1 kr2 kr3 kr4 K
          obtain ⟨⟨ka0, ka1, ka2, ka3, ka4⟩, ⟨kb0, kb1, kb2, kb3, kb4⟩, ⟨kq0, kq1, kq2, kq3, kq4⟩, ⟨kr0, kr1, kr2, kr3, kr4⟩⟩ := KE
          exact bodyPost_ret (v := .tuple #[.agg #[.bool (cb (some (Q0))), .slice Aq (cz (some (Q0))).length cq], .agg #[.bool (cb (some (R0))), .slice Ar (cz (some (R0))).length cr], .int .i64 0]) (by simp [results, Tryd.results42, go_sem, kq0, kq1, kq4, kr0, kr1, kr4]) rfl ⟨Aq, cq, Ar, cr, by rw [HOQ.out.1, HOQ.out.2.1, HOQ.out.2.2], by rw [HOQ.out.1]; exact CQE.mono (by omega), by rw [HOQ.out.2.1]; exact CRE.mono (by omega), hE⟩
        · by_cases hs0 : cb (some R0) = cb (some Y)
          · have HF := Lib.hid (HA.out.1 (Or.inr hs0))
            have xr : decide ((0 : Int) < ((cz (some R0)).length : Int)) = true := by have := List.length_pos_iff.2 hr0; simp; omega
            have xs : (cb (some R0) != cb (some Y)) = false := by rw [hs0]; simp
            have xs2 : (cb (some R0) == cb (some Y)) = true := by rw [hs0]; simp
            have yr3 : 0 < (cz (some R0)).length := List.length_pos_iff.2 hr0
            have yr4 : (0 : Int) < ((cz (some R0)).length : Int) := by omega
            have yr2 : decide (0 < (cz (some R0)).length) = true := decide_eq_true yr3
            clear hr0 hs0
            have HOQ := Lib.hid (show dvQ X Y = some (Q0) ∧ dvR X Y = some (R0) ∧ dvE X Y = 0 from by
              obtain ⟨e1, e2, e3⟩ := HF.out
              obtain ⟨h1, h2⟩ := HBB.out
              have : dvO X Y = false := by rw [dvO, h1, h2, e1, e3, decide_eq_false HYv.out]; rfl
              exact ⟨by rw [dvQ, this, e1]; rfl, by rw [dvR, this, e2]; rfl, by rw [dvE, h1, h2, if_neg (by decide), if_neg HYv.out, e1, e3]; rfl⟩)
            have hLq := refLong_ok (cb (some (Q0))) Aq cq (cz (some (Q0))) _ (cz_w32 _) CQ.2.2.rd CQ.1 CQ.2.1 (by omega)
            rw [valI_c, HF.out.2.2] at hLq
            clear HF HBB HYv HA
            go_wp2_with fail
            go_at_call 64
            refine (hLq).mono ?_
            rintro e w10 ⟨rfl, hb⟩
            replace K := K.later hb
            replace hz := hz.trans (hb.mono hz.size)
            replace CX := CX.later hb
            replace CY := CY.later hb
            replace CQ := CQ.later hb
            replace KQ := KQ.later hb
            replace CR := CR.later hb
            replace KR := KR.later hb
            clear ka0 ka1 ka2 ka3 ka4 kb0 kb1 kb2 kb3 kb4 kq0 kq1 kq2 kq3 kq4 kr0 kr1 kr2 kr3 kr4
            obtain ⟨⟨ka0, ka1, ka2, ka3, ka4⟩, ⟨kb0, kb1, kb2, kb3, kb4⟩, ⟨kq0, kq1, kq2, kq3, kq4⟩, ⟨kr0, kr1, kr2, kr3, kr4⟩⟩ := id K
            obtain ⟨xq0, xq1, xq2, xq3, xq4⟩ := id KQ
            obtain ⟨xr0, xr1, xr2, xr3, xr4⟩ := id KR
            clear hb
            try (clear xr xs xs2)
            try (clear yr2 yr3 yr4)
            have K9 := Lib.hid K
            have C9 := Lib.hid (And.intro CQ CR)
            have Z9 := Lib.hid hz
            try (clear CX CY)
            go_wp2
            go_region
            go_wp2
            replace K := K9.out
            have KE := (K.setQ (.bool (cb (some (Q0)))) (.slice Aq (cz (some (Q0))).length cq)).setR (.bool (cb (some (R0)))) (.slice Ar (cz (some (R0))).length cr)
            have hE : Below w.heap.size w ((((w10.setCell ⟨w.heap.size + 1 + 1, 0, none⟩ (.bool (cb (some (Q0))))).setCell ⟨w.heap.size + 1 + 1, 1, none⟩ (.slice Aq (cz (some (Q0))).length cq)).setCell ⟨w.heap.size + 1 + 1 + 1, 0, none⟩ (.bool (cb (some (R0))))).setCell ⟨w.heap.size + 1 + 1 + 1, 1, none⟩ (.slice Ar (cz (some (R0))).length cr)) := (((hz.setCell (p := ⟨w.heap.size + 1 + 1, 0, none⟩) (by show w.heap.size ≤ w.heap.size + 1 + 1; omega) _).setCell (p := ⟨w.heap.size + 1 + 1, 1, none⟩) (by show w.heap.size ≤ w.heap.size + 1 + 1; omega) _).setCell (p := ⟨w.heap.size + 1 + 1 + 1, 0, none⟩) (by show w.heap.size ≤ w.heap.size + 1 + 1 + 1; omega) _).setCell (p := ⟨w.heap.size + 1 + 1 + 1, 1, none⟩) (by show w.heap.size ≤ w.heap.size + 1 + 1 + 1; omega) _
            have CQE := (C9.out.1.both (w.heap.size + 1 + 1) (by omega) (.bool (cb (some (Q0)))) (.slice Aq (cz (some (Q0))).length cq)).both (w.heap.size + 1 + 1 + 1) (by omega) (.bool (cb (some (R0)))) (.slice Ar (cz (some (R0))).length cr)
            have CRE := (C9.out.2.both (w.heap.size + 1 + 1) (by omega) (.bool (cb (some (Q0)))) (.slice Aq (cz (some (Q0))).length cq)).both (w.heap.size + 1 + 1 + 1) (by omega) (.bool (cb (some (R0)))) (.slice Ar (cz (some (R0))).length cr)
            replace KE := KE.later (below_drew (Below.refl _ _))
            replace hE := below_drew hE
            replace CQE := CQE.later (below_drew (Below.refl _ _))
            replace CRE := CRE.later (below_drew (Below.refl _ _))
            generalize ((((w10.setCell ⟨w.heap.size + 1 + 1, 0, none⟩ (.bool (cb (some (Q0))))).setCell ⟨w.heap.size + 1 + 1, 1, none⟩ (.slice Aq (cz (some (Q0))).length cq)).setCell ⟨w.heap.size + 1 + 1 + 1, 0, none⟩ (.bool (cb (some (R0))))).setCell ⟨w.heap.size + 1 + 1 + 1, 1, none⟩ (.slice Ar (cz (some (R0))).length cr)).drew = WE at KE hE CQE CRE ⊢
            clear ka0 ka1 ka2 ka3 ka4 kb0 kb1 kb2 kb3 kb4 kq0 kq1 kq2 kq3 kq4 kr0 kr1 kr2 kr3 kr4 K
            obtain ⟨⟨ka0, ka1, ka2, ka3, ka4⟩, ⟨kb0, kb1, kb2, kb3, kb4⟩, ⟨kq0, kq1, kq2, kq3, kq4⟩, ⟨kr0, kr1, kr2, kr3, kr4⟩⟩ := KE
            exact bodyPost_ret (v := .tuple #[.agg #[.bool (cb (some (Q0))), .slice Aq (cz (some (Q0))).length cq], .agg #[.bool (cb (some (R0))), .slice Ar (cz (some (R0))).length cr], .int .i64 0]) (by simp [results, Tryd.results42, go_sem, kq0, kq1, kq4, kr0, kr1, kr4]) rfl ⟨Aq, cq, Ar, cr, by rw [HOQ.out.1, HOQ.out.2.1, HOQ.out.2.2], by rw [HOQ.out.1]; exact CQE.mono (by omega), by rw [HOQ.out.2.1]; exact CRE.mono (by omega), hE⟩
          · have HF := Lib.hid (HA.out.2 hr0 hs0)
            have xr : decide ((0 : Int) < ((cz (some R0)).length : Int)) = true := by have := List.length_pos_iff.2 hr0; simp; omega
            have xs : (cb (some R0) != cb (some Y)) = true := by simp; exact hs0
            have xs2 : (cb (some R0) == cb (some Y)) = false := by simp; exact hs0
            have xr3 : 0 < (cz (some R0)).length := List.length_pos_iff.2 hr0
            have xr4' : (0 : Int) < ((cz (some R0)).length : Int) := by omega
            have xr2 : decide (0 < (cz (some R0)).length) = true := decide_eq_true xr3
            clear hr0 hs0
            have hOf := fun W => (refOf_ok (-1) W (by omega)).mono fun e w' h => retI_can h
            go_wp2_with fail
            go_region_with (first
              | (go_at_call 38; refine (hOf _).mono ?_; rintro e w8 ⟨A8, c8, rfl, C8, b8⟩; have H8 : Below u7.heap.size u7 w8 := (by first | exact b8 | exact (below_drew (Below.refl _ _)).trans b8); clear hOf b8; have hs8 := H8.size; obtain ⟨vq0, vq1, vq2, vq3, vq4⟩ := KQ.later H8)
              | (go_at_call 66; refine (refSum_can (CQ.later H8) C8 (by omega) (by rw [minus_one]; decide)).mono ?_; rintro e w9 ⟨Ap, cp, rfl, CP, b9⟩; have H9 := H8.trans (b9.mono H8.size); have hs9 := H9.size; obtain ⟨yq0, yq1, yq2, yq3, yq4⟩ := KQ.later H9; have yrr := (KR.later H9).2.2.2.2; clear C8 b9))
            all_goals
              have hb := H9
              replace K := K.later hb
              replace hz := hz.trans (hb.mono hz.size)
              replace CX := CX.later hb
              replace CY := CY.later hb
              replace CQ := CQ.later hb
              replace KQ := KQ.later hb
              replace CR := CR.later hb
              replace KR := KR.later hb
              clear ka0 ka1 ka2 ka3 ka4 kb0 kb1 kb2 kb3 kb4 kq0 kq1 kq2 kq3 kq4 kr0 kr1 kr2 kr3 kr4
              obtain ⟨⟨ka0, ka1, ka2, ka3, ka4⟩, ⟨kb0, kb1, kb2, kb3, kb4⟩, ⟨kq0, kq1, kq2, kq3, kq4⟩, ⟨kr0, kr1, kr2, kr3, kr4⟩⟩ := id K
              obtain ⟨xq0, xq1, xq2, xq3, xq4⟩ := id KQ
              obtain ⟨xr0, xr1, xr2, xr3, xr4⟩ := id KR
              have b7 : w.heap.size + 1 + 1 + 1 + 1 ≤ u7.heap.size := by omega
              replace CP := CP.mono (show u7.heap.size ≤ _ from H8.size)
              have hne6 : 0 < (cz (some Y)).length → ∀ ad, A4 = some ad → ad.block ≠ w6.heap.size := fun h0 ad ha => by have := (NY.out h0 ad ha).2; omega
              clear CX CQ
              clear yq0 yq1 yq2 yq3 yq4 vq0 vq1 vq2 vq3 vq4 yrr xr xr2 xr3 xr4' xs xs2 hs8 hs9
              obtain ⟨w11, hw11⟩ : ∃ u, ((w9.setCell ⟨w6.heap.size, 0, none⟩ (.bool (cb (some (Q0 + -1))))).setCell ⟨w6.heap.size, 1, none⟩ (.slice Ap (cz (some (Q0 + -1))).length cp)) = u := ⟨_, rfl⟩
              replace K := K.off (m := w6.heap.size) (by omega) (.bool (cb (some (Q0 + -1)))) (.slice Ap (cz (some (Q0 + -1))).length cp)
              replace hz : Below w.heap.size w ((w9.setCell ⟨w6.heap.size, 0, none⟩ (.bool (cb (some (Q0 + -1))))).setCell ⟨w6.heap.size, 1, none⟩ (.slice Ap (cz (some (Q0 + -1))).length cp)) := (hz.setCell (p := ⟨w6.heap.size, 0, none⟩) (by show w.heap.size ≤ w6.heap.size; omega) _).setCell (p := ⟨w6.heap.size, 1, none⟩) (by show w.heap.size ≤ w6.heap.size; omega) _
              replace CY := CY.apart (w6.heap.size) hne6 (.bool (cb (some (Q0 + -1)))) (.slice Ap (cz (some (Q0 + -1))).length cp)
              replace KQ := KQ.set (.bool (cb (some (Q0 + -1)))) (.slice Ap (cz (some (Q0 + -1))).length cp)
              replace CR := CR.both (w6.heap.size) (by omega) (.bool (cb (some (Q0 + -1)))) (.slice Ap (cz (some (Q0 + -1))).length cp)
              replace KR := KR.off (m := w6.heap.size) (by omega) (.bool (cb (some (Q0 + -1)))) (.slice Ap (cz (some (Q0 + -1))).length cp)
              replace CP := CP.both (w6.heap.size) (by omega) (.bool (cb (some (Q0 + -1)))) (.slice Ap (cz (some (Q0 + -1))).length cp)
              rw [hw11] at K hz CY KQ CR KR CP
              clear H8 H9 hb
              try (rw [hw11])
              clear hw11
              clear ka0 ka1 ka2 ka3 ka4 kb0 kb1 kb2 kb3 kb4 kq0 kq1 kq2 kq3 kq4 kr0 kr1 kr2 kr3 kr4
              obtain ⟨⟨ka0, ka1, ka2, ka3, ka4⟩, ⟨kb0, kb1, kb2, kb3, kb4⟩, ⟨kq0, kq1, kq2, kq3, kq4⟩, ⟨kr0, kr1, kr2, kr3, kr4⟩⟩ := id K
              obtain ⟨xq0, xq1, xq2, xq3, xq4⟩ := id KQ
              obtain ⟨xr0, xr1, xr2, xr3, xr4⟩ := id KR
              have hSu := refSum_can CR CY (by omega) (by omega)
              have g711 : w7.heap.size < w11.heap.size := KR.2.2.2.2
              go_wp2_with fail
              go_at_call 66
              refine (hSu).mono ?_
              rintro e w12 ⟨As, cs, rfl, CS, hb⟩
              replace K := K.later hb
              replace hz := hz.trans (hb.mono hz.size)
              replace CY := CY.later hb
              replace KQ := KQ.later hb
              replace CR := CR.later hb
              replace KR := KR.later hb
              replace CP := CP.later hb
              clear ka0 ka1 ka2 ka3 ka4 kb0 kb1 kb2 kb3 kb4 kq0 kq1 kq2 kq3 kq4 kr0 kr1 kr2 kr3 kr4
              obtain ⟨⟨ka0, ka1, ka2, ka3, ka4⟩, ⟨kb0, kb1, kb2, kb3, kb4⟩, ⟨kq0, kq1, kq2, kq3, kq4⟩, ⟨kr0, kr1, kr2, kr3, kr4⟩⟩ := id K
              obtain ⟨xq0, xq1, xq2, xq3, xq4⟩ := id KQ
              obtain ⟨xr0, xr1, xr2, xr3, xr4⟩ := id KR
              clear hb
              have s11 : w7.heap.size < w11.heap.size := g711
              clear CY CR
              obtain ⟨w13, hw13⟩ : ∃ u, ((w12.setCell ⟨w7.heap.size, 0, none⟩ (.bool (cb (some (R0 + Y))))).setCell ⟨w7.heap.size, 1, none⟩ (.slice As (cz (some (R0 + Y))).length cs)) = u := ⟨_, rfl⟩
              replace K := K.off (m := w7.heap.size) (by omega) (.bool (cb (some (R0 + Y)))) (.slice As (cz (some (R0 + Y))).length cs)
              replace hz : Below w.heap.size w ((w12.setCell ⟨w7.heap.size, 0, none⟩ (.bool (cb (some (R0 + Y))))).setCell ⟨w7.heap.size, 1, none⟩ (.slice As (cz (some (R0 + Y))).length cs)) := (hz.setCell (p := ⟨w7.heap.size, 0, none⟩) (by show w.heap.size ≤ w7.heap.size; omega) _).setCell (p := ⟨w7.heap.size, 1, none⟩) (by show w.heap.size ≤ w7.heap.size; omega) _
              replace KQ := KQ.off (m := w7.heap.size) (by omega) (.bool (cb (some (R0 + Y)))) (.slice As (cz (some (R0 + Y))).length cs)
              replace KR := KR.set (.bool (cb (some (R0 + Y)))) (.slice As (cz (some (R0 + Y))).length cs)
              replace CP := CP.both (w7.heap.size) (by omega) (.bool (cb (some (R0 + Y)))) (.slice As (cz (some (R0 + Y))).length cs)
              replace CS := CS.both (w7.heap.size) (by omega) (.bool (cb (some (R0 + Y)))) (.slice As (cz (some (R0 + Y))).length cs)
              rw [hw13] at K hz KQ KR CP CS
              clear ka0 ka1 ka2 ka3 ka4 kb0 kb1 kb2 kb3 kb4 kq0 kq1 kq2 kq3 kq4 kr0 kr1 kr2 kr3 kr4
              obtain ⟨⟨ka0, ka1, ka2, ka3, ka4⟩, ⟨kb0, kb1, kb2, kb3, kb4⟩, ⟨kq0, kq1, kq2, kq3, kq4⟩, ⟨kr0, kr1, kr2, kr3, kr4⟩⟩ := id K
              obtain ⟨xq0, xq1, xq2, xq3, xq4⟩ := id KQ
              obtain ⟨xr0, xr1, xr2, xr3, xr4⟩ := id KR
              have HOQ := Lib.hid (show dvQ X Y = some (Q0 + -1) ∧ dvR X Y = some (R0 + Y) ∧ dvE X Y = 0 from by
                obtain ⟨e1, e2, e3⟩ := HF.out
                obtain ⟨h1, h2⟩ := HBB.out
                have : dvO X Y = false := by rw [dvO, h1, h2, e1, e3, decide_eq_false HYv.out]; rfl
                exact ⟨by rw [dvQ, this, e1]; rfl, by rw [dvR, this, e2]; rfl, by rw [dvE, h1, h2, if_neg (by decide), if_neg HYv.out, e1, e3]; rfl⟩)
              have hLq := refLong_ok (cb (some (Q0 + -1))) Ap cp (cz (some (Q0 + -1))) _ (cz_w32 _) CP.2.2.rd CP.1 CP.2.1 (by have := cz_len HF.out.2.2; omega)
              rw [valI_c, HF.out.2.2] at hLq
              clear HF HBB HYv HA
              go_wp2_with fail
              go_at_call 64
              refine (hLq).mono ?_
              rintro e w10 ⟨rfl, hb⟩
              replace K := K.later hb
              replace hz := hz.trans (hb.mono hz.size)
              replace KQ := KQ.later hb
              replace KR := KR.later hb
              replace CP := CP.later hb
              replace CS := CS.later hb
              clear ka0 ka1 ka2 ka3 ka4 kb0 kb1 kb2 kb3 kb4 kq0 kq1 kq2 kq3 kq4 kr0 kr1 kr2 kr3 kr4
              obtain ⟨⟨ka0, ka1, ka2, ka3, ka4⟩, ⟨kb0, kb1, kb2, kb3, kb4⟩, ⟨kq0, kq1, kq2, kq3, kq4⟩, ⟨kr0, kr1, kr2, kr3, kr4⟩⟩ := id K
              obtain ⟨xq0, xq1, xq2, xq3, xq4⟩ := id KQ
              obtain ⟨xr0, xr1, xr2, xr3, xr4⟩ := id KR
              clear hb
              try (clear xr xs xs2)
              try (clear yr2 yr3 yr4)
              have K9 := Lib.hid K
              have C9 := Lib.hid (And.intro CP CS)
              have Z9 := Lib.hid hz
              try (clear CX CY)
              go_wp2
              go_region
              go_wp2
              replace K := K9.out
              have KE := (K.setQ (.bool (cb (some (Q0 + -1)))) (.slice Ap (cz (some (Q0 + -1))).length cp)).setR (.bool (cb (some (R0 + Y)))) (.slice As (cz (some (R0 + Y))).length cs)
              have hE : Below w.heap.size w ((((w10.setCell ⟨w.heap.size + 1 + 1, 0, none⟩ (.bool (cb (some (Q0 + -1))))).setCell ⟨w.heap.size + 1 + 1, 1, none⟩ (.slice Ap (cz (some (Q0 + -1))).length cp)).setCell ⟨w.heap.size + 1 + 1 + 1, 0, none⟩ (.bool (cb (some (R0 + Y))))).setCell ⟨w.heap.size + 1 + 1 + 1, 1, none⟩ (.slice As (cz (some (R0 + Y))).length cs)) := (((hz.setCell (p := ⟨w.heap.size + 1 + 1, 0, none⟩) (by show w.heap.size ≤ w.heap.size + 1 + 1; omega) _).setCell (p := ⟨w.heap.size + 1 + 1, 1, none⟩) (by show w.heap.size ≤ w.heap.size + 1 + 1; omega) _).setCell (p := ⟨w.heap.size + 1 + 1 + 1, 0, none⟩) (by show w.heap.size ≤ w.heap.size + 1 + 1 + 1; omega) _).setCell (p := ⟨w.heap.size + 1 + 1 + 1, 1, none⟩) (by show w.heap.size ≤ w.heap.size + 1 + 1 + 1; omega) _
              have CQE := (C9.out.1.both (w.heap.size + 1 + 1) (by omega) (.bool (cb (some (Q0 + -1)))) (.slice Ap (cz (some (Q0 + -1))).length cp)).both (w.heap.size + 1 + 1 + 1) (by omega) (.bool (cb (some (R0 + Y)))) (.slice As (cz (some (R0 + Y))).length cs)
              have CRE := (C9.out.2.both (w.heap.size + 1 + 1) (by omega) (.bool (cb (some (Q0 + -1)))) (.slice Ap (cz (some (Q0 + -1))).length cp)).both (w.heap.size + 1 + 1 + 1) (by omega) (.bool (cb (some (R0 + Y)))) (.slice As (cz (some (R0 + Y))).length cs)
              replace KE := KE.later (below_drew (Below.refl _ _))
              replace hE := below_drew hE
              replace CQE := CQE.later (below_drew (Below.refl _ _))
              replace CRE := CRE.later (below_drew (Below.refl _ _))
              generalize ((((w10.setCell ⟨w.heap.size + 1 + 1, 0, none⟩ (.bool (cb (some (Q0 + -1))))).setCell ⟨w.heap.size + 1 + 1, 1, none⟩ (.slice Ap (cz (some (Q0 + -1))).length cp)).setCell ⟨w.heap.size + 1 + 1 + 1, 0, none⟩ (.bool (cb (some (R0 + Y))))).setCell ⟨w.heap.size + 1 + 1 + 1, 1, none⟩ (.slice As (cz (some (R0 + Y))).length cs)).drew = WE at KE hE CQE CRE ⊢
              clear ka0 ka1 ka2 ka3 ka4 kb0 kb1 kb2 kb3 kb4 kq0 kq1 kq2 kq3 kq4 kr0 kr1 kr2 kr3 kr4 K
              obtain ⟨⟨ka0, ka1, ka2, ka3, ka4⟩, ⟨kb0, kb1, kb2, kb3, kb4⟩, ⟨kq0, kq1, kq2, kq3, kq4⟩, ⟨kr0, kr1, kr2, kr3, kr4⟩⟩ := KE
              exact bodyPost_ret (v := .tuple #[.agg #[.bool (cb (some (Q0 + -1))), .slice Ap (cz (some (Q0 + -1))).length cp], .agg #[.bool (cb (some (R0 + Y))), .slice As (cz (some (R0 + Y))).length cs], .int .i64 0]) (by simp [results, Tryd.results42, go_sem, kq0, kq1, kq4, kr0, kr1, kr4]) rfl ⟨Ap, cp, As, cs, by rw [HOQ.out.1, HOQ.out.2.1, HOQ.out.2.2], by rw [HOQ.out.1]; exact CQE.mono (by omega), by rw [HOQ.out.2.1]; exact CRE.mono (by omega), hE⟩
end Go.Proofs.YtegdbcnloodljaaDoor
