/- Sums and products of readable Ints, by their numbers. -/
import Derived.Test.YtegdbcnloodljaaDoorM2
import Derived.Test.YtegdbcnloodljaaDoorW9
namespace Go.Proofs.YtegdbcnloodljaaDoor
set_option linter.unusedVariables false
set_option linter.unusedSimpArgs false
open Go.RowKit
set_option maxRecDepth 1000000

/-- a slice of words that reads as the Int X, under a sign. -/
def IsI (w : World) (b : Bool) (A : Option Addr) (n c : Nat) (X : Int) : Prop := ∃ zs, n = zs.length ∧ RdI w .u32 A zs ∧ W32 zs ∧ zs.length ≤ c ∧ c ≤ 9223372036854775807 ∧ zs.length ≤ 400000 ∧ valI b zs = X
theorem IsI.later {w w' : World} {b : Bool} {A : Option Addr} {n c : Nat} {X : Int} (h : IsI w b A n c X) (hb : Below w.heap.size w w') : IsI w' b A n c X := by
  obtain ⟨zs, h1, h2, h3⟩ := h
  exact ⟨zs, h1, h2.later hb, h3⟩
/-- an answer in its one form. -/
def RetC (w : World) (S : Int) (e : Ending) (w' : World) : Prop := ∃ A n c, e = .returned (.agg #[.bool (cb (some S)), .slice A n c]) ∧ n = (cz (some S)).length ∧ CanAt w' w.heap.size (some S) A c ∧ Below w.heap.size w w'
/-- less than so many words. -/
def Sm (X : Int) (k : Nat) : Prop := (X.natAbs : Int) < 4294967296 ^ k
theorem Sm.mono {X : Int} {j k : Nat} (h : Sm X j) (hk : j ≤ k) : Sm X k := Int.lt_of_lt_of_le h (pow_mono hk)
theorem Sm.big {X : Int} {k : Nat} (h : Sm X k) (hk : k ≤ 256) : big X = false := by
  rw [Go.Proofs.YtegdbcnloodljaaDoor.big, decide_eq_false_iff_not]
  have := h.mono hk
  unfold Sm at this
  unfold BIG
  omega
theorem Sm.add {X Y : Int} {k : Nat} (h1 : Sm X k) (h2 : Sm Y k) : Sm (X + Y) (k + 1) := by
  unfold Sm at *
  have p := pow_pos k
  rw [Int.pow_succ]
  omega
theorem Sm.neg {X : Int} {k : Nat} (h : Sm X k) : Sm (-X) k := by unfold Sm at *; rw [Int.natAbs_neg]; exact h
theorem Sm.mul {X Y : Int} {j k : Nat} (h1 : Sm X j) (h2 : Sm Y k) : Sm (X * Y) (j + k) := by
  unfold Sm at *
  rw [Int.natAbs_mul, Int.natCast_mul, Int.pow_add]
  have p := pow_pos j
  have q := pow_pos k
  generalize (4294967296 : Int) ^ j = P at *
  generalize (4294967296 : Int) ^ k = Q at *
  have a : (X.natAbs : Int) * (Y.natAbs : Int) ≤ (P - 1) * (Q - 1) := Int.mul_le_mul (by omega) (by omega) (by omega) (by omega)
  have : (P - 1) * (Q - 1) = P * Q - P - Q + 1 := by grind
  rw [this] at a
  generalize (X.natAbs : Int) * (Y.natAbs : Int) = R at *
  generalize P * Q = T at *
  omega
theorem IsI.sm {w : World} {b : Bool} {A : Option Addr} {n c : Nat} {X : Int} (h : IsI w b A n c X) : Sm X n := by
  obtain ⟨zs, h1, h2, h3, _, _, _, h4⟩ := h
  have := val_bound h3
  have := valI_abs (b := b) h3
  unfold Sm
  rw [h1, ← h4, valI_abs h3]
  exact val_bound h3
theorem CanAt.isI {w : World} {base : Nat} {S : Int} {A : Option Addr} {c n : Nat} (h : CanAt w base (some S) A c) (hn : n = (cz (some S)).length) (hS : Sm S 257) : IsI w (cb (some S)) A n c S :=
  ⟨cz (some S), hn, h.2.2.rd, cz_w32 _, h.1, h.2.1, Nat.le_trans (cz_len2 hS) (by omega), valI_c S⟩
theorem retC_of {w w' : World} {S : Int} {e : Ending} (h : RetI w S e w') : RetC w S e w' := by
  obtain ⟨A, c, he, hc, hb⟩ := retI_can h
  exact ⟨A, _, c, he, rfl, hc, hb⟩
/-- an answer, and that it was not refused. -/
def RetCT (w : World) (S : Int) (T : Value) (e : Ending) (w' : World) : Prop := ∃ A n c, e = .returned (.tuple #[.agg #[.bool (cb (some S)), .slice A n c], T]) ∧ n = (cz (some S)).length ∧ CanAt w' w.heap.size (some S) A c ∧ Below w.heap.size w w'
theorem retCT_of {w w' : World} {S : Int} {e : Ending} (h : RetO w (some S) e w') : RetCT w S (.int .i64 0) e w' := by
  obtain ⟨A, c, he, hc, hb⟩ := h
  exact ⟨A, _, c, he, rfl, hc, hb⟩
section
variable {w : World} {b1 b2 : Bool} {A B : Option Addr} {m n c d : Nat} {X Y : Int}
theorem vAdd (h : IsI w b1 A m c X) (h' : IsI w b2 B n d Y) {k : Nat} (h1 : Sm X k) (h2 : Sm Y k) (hk : k ≤ 255) : Calls Tryd.prog 22 #[.agg #[.bool b1, .slice A m c], .agg #[.bool b2, .slice B n d]] w (RetCT w (X + Y) (.int .i64 0)) := by
  obtain ⟨xs, rfl, r1, q1, l1, m1, _, v1⟩ := h
  obtain ⟨ys, rfl, r2, q2, l2, m2, _, v2⟩ := h'
  have := wAdd_ok b1 b2 A B c d xs ys w q1 q2 r1 r2 l1 m1 l2 m2
  rw [v1, v2, addO, h1.big (by omega), h2.big (by omega), (h1.add h2).big (by omega)] at this
  exact this.mono fun e w' h => retCT_of (retO_of h)
theorem vSum (h : IsI w b1 A m c X) (h' : IsI w b2 B n d Y) {k : Nat} (h1 : Sm X k) (h2 : Sm Y k) (hk : k ≤ 255) : Calls Tryd.prog 15 #[.agg #[.bool b1, .slice A m c], .agg #[.bool b2, .slice B n d]] w (RetCT w (X + Y) (.bool true)) := by
  obtain ⟨xs, rfl, r1, q1, l1, m1, _, v1⟩ := h
  obtain ⟨ys, rfl, r2, q2, l2, m2, _, v2⟩ := h'
  have := wSum_ok b1 b2 A B c d xs ys w q1 q2 r1 r2 l1 m1 l2 m2
  rw [v1, v2, addO, h1.big (by omega), h2.big (by omega), (h1.add h2).big (by omega)] at this
  refine this.mono ?_
  rintro e w' ⟨⟨b, A', n', c', rfl, hv⟩, hb⟩
  obtain ⟨A2, c2, he, hc⟩ := hv.can
  exact ⟨A2, _, c2, by rw [he], rfl, hc, hb⟩
theorem vCompare (h : IsI w b1 A m c X) (h' : IsI w b2 B n d Y) : Calls Tryd.prog 13 #[.agg #[.bool b1, .slice A m c], .agg #[.bool b2, .slice B n d]] w fun e w' => e = .returned (.int .i64 (cmp3 X Y)) ∧ Below w.heap.size w w' := by
  obtain ⟨xs, rfl, r1, q1, l1, m1, _, v1⟩ := h
  obtain ⟨ys, rfl, r2, q2, l2, m2, _, v2⟩ := h'
  have := wCompare_ok b1 b2 A B c d xs ys w q1 q2 r1 r2 l1 m1 l2 m2
  rw [v1, v2] at this
  exact this
theorem vNegate (h : IsI w b1 A m c X) : Calls Tryd.prog 14 #[.agg #[.bool b1, .slice A m c]] w (RetC w (-X)) := by
  obtain ⟨xs, rfl, r1, q1, l1, m1, k1, v1⟩ := h
  have := wNegate_ok b1 A c xs w q1 r1 l1 m1 (by omega)
  rw [v1] at this
  exact this.mono fun e w' h => retC_of h
theorem vOf (v : Int) (w : World) (hv : -9223372036854775808 ≤ v ∧ v ≤ 9223372036854775807) : Calls Tryd.prog 33 #[.int .i64 v] w (RetC w v) :=
  (wOf_ok v w hv).mono fun e w' h => retC_of h
theorem vMul (h : IsI w b1 A m c X) (h' : IsI w b2 B n d Y) {j k : Nat} (h1 : Sm X j) (h2 : Sm Y k) (hk : j + k ≤ 256) : Calls Tryd.prog 27 #[.agg #[.bool b1, .slice A m c], .agg #[.bool b2, .slice B n d]] w (RetCT w (X * Y) (.int .i64 0)) := by
  obtain ⟨xs, rfl, r1, q1, l1, m1, _, v1⟩ := h
  obtain ⟨ys, rfl, r2, q2, l2, m2, _, v2⟩ := h'
  have := wMul_ok b1 b2 A B c d xs ys w q1 q2 r1 r2 l1 m1 l2 m2
  rw [v1, v2, mulO, h1.big (by omega), h2.big (by omega), (h1.mul h2).big hk] at this
  exact this.mono fun e w' h => retCT_of h
end
end Go.Proofs.YtegdbcnloodljaaDoor
