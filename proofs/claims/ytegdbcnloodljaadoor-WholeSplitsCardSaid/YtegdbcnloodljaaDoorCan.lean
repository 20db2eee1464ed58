/- One row for each number; what sums and products hand back, in one form. Plain but for the words on endings. -/
import Derived.Test.YtegdbcnloodljaaDoorR4
import Derived.Test.YtegdbcnloodljaaDoorW11
namespace Go.Proofs.YtegdbcnloodljaaDoor
set_option linter.unusedVariables false
set_option linter.unusedSimpArgs false
open Go.RowKit
set_option maxRecDepth 1000000

/-- the words of a number, the lowest first. -/
def wdsF : Nat → Nat → List Int
  | 0, _ => []
  | f + 1, n => if n = 0 then [] else ((n % 4294967296 : Nat) : Int) :: wdsF f (n / 4294967296)
def wds (n : Nat) : List Int := wdsF n n
theorem wdsF_ok : ∀ (f n : Nat), n ≤ f → W32 (wdsF f n) ∧ NT (wdsF f n) ∧ val (wdsF f n) = (n : Int)
  | 0, n, h => by
    have : n = 0 := by omega
    subst this
    exact ⟨W32.nil, trivial, rfl⟩
  | f + 1, n, h => by
    rw [wdsF]
    by_cases h0 : n = 0
    · rw [if_pos h0, h0]; exact ⟨W32.nil, trivial, rfl⟩
    · rw [if_neg h0]
      obtain ⟨h1, h2, h3⟩ := wdsF_ok f (n / 4294967296) (by omega)
      refine ⟨W32.cons (by omega) (by omega) h1, ?_, ?_⟩
      · cases hw : wdsF f (n / 4294967296) with
        | nil =>
          rw [hw] at h3
          have : n / 4294967296 = 0 := by simp [val] at h3; omega
          show ((n % 4294967296 : Nat) : Int) ≠ 0
          omega
        | cons y ys => rw [hw] at h2; exact h2
      · rw [val, h3]; omega
theorem wds_w32 (n : Nat) : W32 (wds n) := (wdsF_ok n n (Nat.le_refl _)).1
theorem wds_nt (n : Nat) : NT (wds n) := (wdsF_ok n n (Nat.le_refl _)).2.1
theorem val_wds (n : Nat) : val (wds n) = (n : Int) := (wdsF_ok n n (Nat.le_refl _)).2.2

/-- the sign, the words, the error's number of an answer. -/
def cb : Option Int → Bool
  | none => false
  | some S => decide (S < 0)
def cz : Option Int → List Int
  | none => []
  | some S => wds S.natAbs
def ce : Option Int → Int
  | none => 3
  | some _ => 0
theorem cz_w32 (O : Option Int) : W32 (cz O) := by cases O with | none => exact W32.nil | some S => exact wds_w32 _
theorem cz_nt (O : Option Int) : NT (cz O) := by cases O with | none => trivial | some S => exact wds_nt _
theorem valI_c (S : Int) : valI (cb (some S)) (cz (some S)) = S := by
  rw [valI, cb, cz, val_wds]
  by_cases h : S < 0
  · rw [decide_eq_true h, if_pos rfl]; omega
  · rw [decide_eq_false h, if_neg (by decide)]; omega

/-- An Int in new memory, in its one form. -/
def CanAt (w : World) (base : Nat) (O : Option Int) (A : Option Addr) (c : Nat) : Prop := (cz O).length ≤ c ∧ c ≤ 9223372036854775807 ∧ FrI w base .u32 A (cz O)
theorem CanAt.later {w w' : World} {base : Nat} {O : Option Int} {A : Option Addr} {c : Nat} (h : CanAt w base O A c) (hb : Below w.heap.size w w') : CanAt w' base O A c := ⟨h.1, h.2.1, h.2.2.later hb⟩
theorem CanAt.mono {w : World} {base base' : Nat} {O : Option Int} {A : Option Addr} {c : Nat} (h : CanAt w base O A c) (hb : base' ≤ base) : CanAt w base' O A c := ⟨h.1, h.2.1, h.2.2.mono hb⟩
theorem CanAt.at {w : World} {base : Nat} {S : Int} {A : Option Addr} {c : Nat} (h : CanAt w base (some S) A c) : IntAt w base S (.agg #[.bool (cb (some S)), .slice A (cz (some S)).length c]) := by
  refine ⟨_, A, c, cz (some S), rfl, h.1, h.2.1, h.2.2, cz_w32 _, cz_nt _, valI_c S, ?_⟩
  intro hb e
  have h1 := val_wds S.natAbs
  rw [cz] at e
  rw [e, val] at h1
  simp only [cb, decide_eq_true_eq] at hb
  omega
theorem IntAt.can {w : World} {base : Nat} {S : Int} {v : Value} (h : IntAt w base S v) : ∃ A c, v = .agg #[.bool (cb (some S)), .slice A (cz (some S)).length c] ∧ CanAt w base (some S) A c := by
  obtain ⟨b, A, c, zs, rfl, h1, h2, h3, h4, h5, h6, h7⟩ := h
  have hv := val_nn h4
  have ha := valI_abs (b := b) h4
  rw [h6] at ha
  have hz : zs = cz (some S) := by
    refine canon h4 (cz_w32 _) h5 (cz_nt _) ?_
    rw [cz, val_wds]; omega
  have hb : b = cb (some S) := by
    have h0 := nt_zero h4 h5
    rw [cb]
    cases b
    · rw [valI, if_neg (by decide)] at h6
      rw [decide_eq_false]; omega
    · have := h7 rfl
      rw [valI, if_pos rfl] at h6
      have hne : val zs ≠ 0 := fun e => this (h0.1 e)
      rw [decide_eq_true]; omega
  subst hb
  rw [hz] at h1 h3 ⊢
  exact ⟨A, c, rfl, h1, h2, h3⟩

/-- an answer and its error's number. -/
def RetO (w : World) (O : Option Int) (e : Ending) (w' : World) : Prop :=
  ∃ A c, e = .returned (.tuple #[.agg #[.bool (cb O), .slice A (cz O).length c], .int .i64 (ce O)]) ∧ CanAt w' w.heap.size O A c ∧ Below w.heap.size w w'
theorem retO_of {w w' : World} {O : Option Int} {e : Ending} (h : RetSum w O e w') : RetO w O e w' := by
  obtain ⟨h1, h2⟩ := h
  cases O with
  | none =>
    dsimp only at h1
    subst h1
    exact ⟨none, 0, rfl, ⟨Nat.le_refl _, by omega, fun i hi => by simp [cz] at hi⟩, h2⟩
  | some S =>
    obtain ⟨v, rfl, hv⟩ := h1
    obtain ⟨A, c, rfl, hc⟩ := hv.can
    exact ⟨A, c, rfl, hc, h2⟩
/-- an Int that is answered. -/
theorem retI_can {w w' : World} {X : Int} {e : Ending} (h : RetI w X e w') : ∃ A c, e = .returned (.agg #[.bool (cb (some X)), .slice A (cz (some X)).length c]) ∧ CanAt w' w.heap.size (some X) A c ∧ Below w.heap.size w w' := by
  obtain ⟨b', A', n', c', rfl, h1, h2⟩ := h
  obtain ⟨A, c, hv, hc⟩ := h1.can
  exact ⟨A, c, by rw [hv], hc, h2⟩
end Go.Proofs.YtegdbcnloodljaaDoor
