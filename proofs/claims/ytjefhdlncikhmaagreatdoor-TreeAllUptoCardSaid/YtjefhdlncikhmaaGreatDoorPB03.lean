/- Joined by a program: NdW, Nd1, Shp, Shp2, Utf, LxP, QPlain, Let2, Numb, Quoted, Quote, RefGood, Right. -/
import Derived.WalkKit
import Derived.Lib.MapLaws
import Derived.Lib.TrimUEq
import Derived.Lib.ValidLaws
import Derived.Lib.RuneBytes
import Derived.Lib.TrimAscii
import Derived.Laws.RangeAny
import Derived.BigCall
import Derived.BigQuiet
import Derived.Deep.QuietTactic
import Derived.LoopTactic
import Derived.WalkLawsBesides
import Derived.Laws.DeepBits32
import Derived.Lib.Strings
import Derived.Laws.BitsAllLaws
import Derived.Lib.Hide
import Derived.Lib.AppendStr
import Derived.Laws.BytesArg
import Derived.Laws.Cover4
import Derived.Test.YtjefhdlncikhmaaGreatDoorPB01
import Derived.Test.YtjefhdlncikhmaaGreatDoorShelf
namespace Go.Proofs.YtjefhdlncikhmaaGreatDoor
section
set_option linter.unusedVariables false
set_option linter.unusedSimpArgs false
open Go.RowKit
set_option maxRecDepth 1000000
theorem weights_take (l : List Nd) (k : Nat) (t : Nd) (h : l[k]? = some t) : weights (l.take (k + 1)) = weights (l.take k) + t.weight := by
  induction l generalizing k with
  | nil => simp at h
  | cons a r ih =>
    cases k with
    | zero => simp at h; subst h; simp [weights]
    | succ k =>
      rw [List.getElem?_cons_succ] at h
      rw [List.take_succ_cons, List.take_succ_cons, weights, weights, ih k h]; omega
theorem weights_take_le (l : List Nd) (k : Nat) : weights (l.take k) ≤ weights l := by
  induction l generalizing k with
  | nil => simp
  | cons a r ih =>
    cases k with
    | zero => simp [weights]
    | succ k => rw [List.take_succ_cons, weights, weights]; have := ih k; omega
theorem weights_len : ∀ l : List Nd, l.length ≤ weights l
  | [] => Nat.le_refl _
  | a :: r => by rw [weights, List.length_cons, a.weight_eq]; have := weights_len r; omega
def WeightR (T : Nd) (left r : Int) : Prop := ((T.weight : Int) ≤ left ∧ r = T.weight) ∨ (left < T.weight ∧ left < r ∧ r ≤ T.weight)
theorem WeightR.bounds {T : Nd} {left r : Int} (h : WeightR T left r) (h0 : 0 ≤ left) : 0 ≤ r ∧ r ≤ T.weight := by
  rcases h with ⟨h1, h2⟩ | ⟨h1, h2, h3⟩
  · omega
  · omega
set_option maxHeartbeats 8000000 in
theorem weight_ok (T : Nd) : ∀ (A : Option Addr) (c : Nat) (K : Option Addr) (d : Nat) (left : Int) (w : World), NodeAt w T A c K d → T.weight ≤ 1048576 → -1099511627776 ≤ left → left ≤ 1099511627776 →
    Calls Tryz.prog 20 #[ndV T A c K d, .int .i64 left] w fun e w' => (∃ r, e = .returned (.int .i64 r) ∧ WeightR T left r) ∧ Below w.heap.size w w' := by
  induction T using Nd.ind with
  | h T ih =>
    intro A c K d left w hN hW h0 h1
    have hp := hN.parts
    obtain ⟨hm1, hm2, _, _, hk1, hk2, hk64, ha64, hts, hKs⟩ := hp
    have hwe := T.weight_eq
    have HK := Lib.hid (fun (i : Nat) (t : Nd) (hi : T.kids[i]? = some t) => hN.kid hi)
    obtain ⟨own, hown⟩ : ∃ own, 1 + T.text.size + T.mag.length = own := ⟨_, rfl⟩
    have hb1 := (Below.refl w.heap.size w).alloc (Nat.le_refl _) (.cells #[.int .i64 T.kind, .int .i64 T.pos, .string T.text, .bool T.neg, .slice A T.mag.length c, .slice K T.kids.length d] 27)
    have hbox := (cellsN_new w T A c K d 27).box
    obtain ⟨c0, c1, c2, c3, c4, c5⟩ := hbox
    unfold ndV
    clear hKs hN
    unfold maxLen at hm2 hk2
    have hkw : T.kids.length ≤ 1048576 := by have := weights_len T.kids; omega
    go_enter Tryz.func20, Tryz.ntmps20
    go_wp2_with fail
    generalize w.alloc (.cells #[.int .i64 T.kind, .int .i64 T.pos, .string T.text, .bool T.neg, .slice A T.mag.length c, .slice K T.kids.length d] 27) = w1 at *
    go_loopw [5, 6] (fun xv iv wr => ∃ (x : Int) (k : Nat), xv = .int .i64 x ∧ iv = .int .i64 k ∧ k ≤ T.kids.length ∧ ((x = own + weights (T.kids.take k)) ∨ (left < x ∧ x ≤ own + weights (T.kids.take k))) ∧ (own : Int) ≤ x ∧ Below w1.heap.size w1 wr) (fun _ iv _ => T.kids.length - (intOf iv).toNat)
    case atStart => exact ⟨own, 0, by rw [← hown]; simp, rfl, Nat.zero_le _, .inl (by simp [weights]), Int.le_refl _, Below.refl _ _⟩
    case round =>
      obtain ⟨x, k, rfl, rfl, hk, hx, hox, hbr⟩ := hrel
      have hwt := weights_take_le T.kids k
      have hx1 : x ≤ own + weights (T.kids.take k) := by omega
      have hx2 : x ≤ 1048576 := by omega
      have hx3 : 0 ≤ x := by omega
      have d5 := cell_later hbr c5
      have hwl : w.heap.size < wr.heap.size := Nat.lt_of_lt_of_le (World.block_lt_of_cell? _ _ c5) hbr.size
      have hbw := hb1.trans (hbr.mono hb1.size)
      by_cases hkl : k < T.kids.length
      · have o1 : decide ((k : Int) < (T.kids.length : Int)) = true := decide_eq_true (by omega)
        have o2 : decide (k < T.kids.length) = true := decide_eq_true hkl
        by_cases hxl : x ≤ left
        · have o3 : decide (x ≤ left) = true := decide_eq_true hxl
          obtain ⟨t, ht⟩ : ∃ t, T.kids[k]? = some t := ⟨_, List.getElem?_eq_getElem hkl⟩
          obtain ⟨b, off, A', c', K', d', hK, hC, hNt⟩ := HK.out k t ht
          subst hK
          have htm := List.mem_of_getElem? ht
          have htw := T.weight_kid htm
          obtain ⟨n0, n1, n2, n3, n4, n5⟩ := hC.later hbw
          have hwk := weights_take T.kids k t ht
          have HI := Lib.hid (fun W hW => ih t htm A' c' K' d' (left - x) W (hNt.later hW) (by omega) (by omega) (by omega))
          clear hC hNt ht htm
          go_wp2_with (go_at_call 20; refine (HI.out _ hbw).mono ?_; rintro e w3 ⟨⟨r, rfl, hr⟩, hb3⟩; have hr0 := hr.bounds (by omega); obtain ⟨hr1, hr2⟩ := hr0)
          go_roundw
          case rel =>
            refine ⟨x + r, k + 1, by go_num, by go_num, by omega, ?_, by omega, hbr.trans (hb3.mono hbr.size)⟩
            rw [hwk]
            rcases hr with ⟨h1, h2⟩ | ⟨h1, h2, h3⟩
            · rcases hx with hx | hx
              · left; omega
              · omega
            · right; omega
          case measure => simp [intOf]; omega
        · have o3 : decide (x ≤ left) = false := decide_eq_false hxl
          go_wp2_with fail
          go_ret
          refine ⟨⟨x, rfl, .inr ⟨?_, by omega, ?_⟩⟩, hbw⟩ <;> omega
      · have o1 : decide ((k : Int) < (T.kids.length : Int)) = false := decide_eq_false (by omega)
        have o2 : decide (k < T.kids.length) = false := decide_eq_false hkl
        have hke : T.kids.take k = T.kids := List.take_of_length_le (by omega)
        rw [hke] at hx hx1
        clear hwt hke
        go_wp2_with fail
        go_ret
        refine ⟨⟨x, rfl, ?_⟩, hbw⟩
        unfold WeightR
        rcases hx with hx | hx <;> omega
end
section
set_option linter.unusedVariables false
set_option linter.unusedSimpArgs false
open Go.RowKit
set_option maxRecDepth 1000000
theorem large_ok (T : Nd) (A : Option Addr) (c : Nat) (K : Option Addr) (d : Nat) (w : World) (hN : NodeAt w T A c K d) (hW : T.weight ≤ 1048576) :
    Calls Tryz.prog 7 #[ndV T A c K d] w fun e w' => e = .returned (.bool (decide (3000 < T.weight))) ∧ Below w.heap.size w w' := by
  have hN2 := fun o => hN.later ((Below.refl w.heap.size w).alloc (Nat.le_refl _) o)
  obtain ⟨hm1, hm2, hrm, hw32, hk1, hk2, hk64, ha64, hts, hKs⟩ := hN.parts
  unfold maxLen at hm2 hk2 hts
  obtain ⟨hk64a, hk64b⟩ := hk64
  obtain ⟨ha64a, ha64b⟩ := ha64
  have HK := Lib.hid (fun (i : Nat) (t : Nd) (hi : T.kids[i]? = some t) => hN.kid hi)
  have hb1 := (Below.refl w.heap.size w).alloc (Nat.le_refl _) (.cells #[.int .i64 T.kind, .int .i64 T.pos, .string T.text, .bool T.neg, .slice A T.mag.length c, .slice K T.kids.length d] 27)
  obtain ⟨c0, c1, c2, c3, c4, c5⟩ := (cellsN_new w T A c K d 27).box
  unfold ndV
  clear hKs hN
  go_enter Tryz.func7, Tryz.ntmps7
  go_wp2_with (go_at_call 20; refine (weight_ok T A c K d 3000 _ (hN2 _) hW (by decide) (by decide)).mono ?_; rintro e w3 ⟨⟨r, rfl, hr⟩, hb3⟩)
  go_ret
  have hd : decide ((3000 : Int) < r) = decide (3000 < T.weight) := by
    rcases hr with ⟨h1, h2⟩ | ⟨h1, h2, h3⟩
    · rw [decide_eq_false (by omega), decide_eq_false (by omega)]
    · rw [decide_eq_true (by omega), decide_eq_true (by omega)]
  exact ⟨by rw [← hd]; rfl, hb1.trans (hb3.mono hb1.size)⟩
end
section
set_option linter.unusedVariables false
set_option linter.unusedSimpArgs false
open Go.RowKit
set_option maxRecDepth 1000000
/-- a function's value that tells p of every tree of depth at most D, from here on. -/
def ShapeOk (D : Nat) (w : World) (v : Value) (p : Nd → Bool) : Prop :=
  ∃ f caps, v = .func (.func f) #[] caps ∧ (∀ args W, (callFunc f args).run Tryz.prog W = .ok (.enter f args) W) ∧ ∀ W, Below w.heap.size w W → ∀ (T : Nd) (A : Option Addr) (c : Nat) (K : Option Addr) (d : Nat), T.depth ≤ D → T.weight ≤ 1048576 → NodeAt W T A c K d →
    Calls Tryz.prog f (#[ndV T A c K d] ++ caps) W fun e w' => e = .returned (.bool (p T)) ∧ Below W.heap.size W w'
theorem ShapeOk.later {D : Nat} {w w' : World} {v : Value} {p : Nd → Bool} (h : ShapeOk D w v p) (hb : Below w.heap.size w w') : ShapeOk D w' v p := by
  obtain ⟨f, caps, hv, hrn, hf⟩ := h
  exact ⟨f, caps, hv, hrn, fun W hW => hf W (hb.trans (hW.mono hb.size))⟩
def ShapesAt (D : Nat) (w : World) (A : Option Addr) (L : List (Nd → Bool)) : Prop := ∀ i p, L[i]? = some p → ∃ b off v, A = some ⟨b, off, none⟩ ∧ w.cell? ⟨b, off + i, none⟩ = some v ∧ ShapeOk D w v p
theorem ShapesAt.later {D : Nat} {w w' : World} {A : Option Addr} {L : List (Nd → Bool)} (h : ShapesAt D w A L) (hb : Below w.heap.size w w') : ShapesAt D w' A L := fun i p hi => by
  obtain ⟨b, off, v, hA, hc, hs⟩ := h i p hi
  exact ⟨b, off, v, hA, cell_later hb hc, hs.later hb⟩
def rowB : List Nd → List (Nd → Bool) → Bool
  | [], [] => true
  | t :: r, p :: q => p t && rowB r q
  | _, _ => false
theorem rowB_len : ∀ {l : List Nd} {L : List (Nd → Bool)}, l.length ≠ L.length → rowB l L = false
  | [], [], h => absurd rfl h
  | [], _ :: _, _ => rfl
  | _ :: _, [], _ => rfl
  | t :: r, p :: q, h => by rw [rowB, rowB_len (l := r) (L := q) (by simpa using h), Bool.and_false]
theorem rowB_drop {l : List Nd} {L : List (Nd → Bool)} {k : Nat} {t : Nd} {p : Nd → Bool} (ht : l[k]? = some t) (hp : L[k]? = some p) : rowB (l.drop k) (L.drop k) = (p t && rowB (l.drop (k + 1)) (L.drop (k + 1))) := by
  obtain ⟨h1, rfl⟩ := List.getElem?_eq_some_iff.1 ht
  obtain ⟨h2, rfl⟩ := List.getElem?_eq_some_iff.1 hp
  rw [List.drop_eq_getElem_cons h1, List.drop_eq_getElem_cons h2, rowB]
/-- kids within bounds. -/
def Within (D : Nat) (l : List Nd) : Prop := ∀ t ∈ l, t.depth ≤ D ∧ t.weight ≤ 1048576
set_option maxHeartbeats 8000000 in
theorem row_ok (D : Nat) (l : List Nd) (n : Nat) (K : Option Addr) (d : Nat) (L : List (Nd → Bool)) (m : Nat) (A : Option Addr) (c : Nat) (w : World) (hn : l.length = n) (hl : KidsAt w l K 0) (hW : Within D l) (hm : L.length = m) (hL : ShapesAt D w A L) (hnd : n ≤ d) (hd : d ≤ maxLen) (hmc : m ≤ c) (hc : c ≤ maxLen) :
    Calls Tryz.prog 127 #[.slice K n d, .slice A m c] w fun e w' => e = .returned (.bool (rowB l L)) ∧ Below w.heap.size w w' := by
  unfold maxLen at hd hc
  have HK := Lib.hid hl
  have HL := Lib.hid hL
  have HW := Lib.hid hW
  have HN := Lib.hid hn
  have HM := Lib.hid hm
  by_cases hnm : n = m
  · subst hnm
    have e1 : ((n : Int) != (n : Int)) = false := by simp
    clear hl hL hW hn hm
    go_enter Tryz.func127, Tryz.ntmps127
    go_wp2_with fail
    go_loopw [14] (fun iv wr => ∃ k : Nat, iv = .int .i64 k ∧ k ≤ n ∧ Hid (rowB l L = rowB (l.drop k) (L.drop k)) ∧ Below w.heap.size w wr) (fun iv _ => n - (intOf iv).toNat)
    case atStart => exact ⟨0, rfl, Nat.zero_le _, Lib.hid (by simp), Below.refl _ _⟩
    case round =>
      obtain ⟨k, rfl, hk, hR, hbr⟩ := hrel
      by_cases hkl : k < n
      · have o1 : decide ((k : Int) < (n : Int)) = true := decide_eq_true (by omega)
        have o2 : decide (k < n) = true := decide_eq_true hkl
        obtain ⟨t, ht⟩ : ∃ t, l[k]? = some t := ⟨_, List.getElem?_eq_getElem (by rw [HN.out]; exact hkl)⟩
        obtain ⟨p, hp⟩ : ∃ p, L[k]? = some p := ⟨_, List.getElem?_eq_getElem (by rw [HM.out]; exact hkl)⟩
        obtain ⟨b, off, A', c', K', d', hK, hC, hNt⟩ := HK.out.kid ht
        rw [Nat.zero_add] at hC
        subst hK
        obtain ⟨b2, off2, v, hA, hv, f, caps, hvf, hrn, hf⟩ := HL.out k p hp
        subst hA hvf
        obtain ⟨n0, n1, n2, n3, n4, n5⟩ := hC.later hbr
        have hv2 := cell_later hbr hv
        obtain ⟨hd1, hw1⟩ := HW.out t (List.mem_of_getElem? ht)
        have hI := hf wr hbr t A' c' K' d' hd1 hw1 (hNt.later hbr)
        unfold ndV at hI
        have hRD := Lib.hid (rowB_drop ht hp)
        clear hC hNt ht hp hf hd1 hw1 hv
        have HI := Lib.hid hI
        clear hI
        cases hpt : p t with
        | true =>
          rw [hpt] at HI
          rw [hpt, Bool.true_and] at hRD
          go_wp2_with (with_reducible refine HI.out.mono ?_; rintro e w3 ⟨rfl, hb3⟩)
          go_roundw
          case rel => exact ⟨k + 1, by go_num, by omega, Lib.hid (hR.out.trans hRD.out), hbr.trans (hb3.mono hbr.size)⟩
          case measure => simp [intOf]; omega
        | false =>
          rw [hpt] at HI
          rw [hpt, Bool.false_and] at hRD
          go_wp2_with (with_reducible refine HI.out.mono ?_; rintro e w3 ⟨rfl, hb3⟩)
          go_ret
          exact ⟨by rw [hR.out, hRD.out]; rfl, hbr.trans (hb3.mono hbr.size)⟩
      · have o1 : decide ((k : Int) < (n : Int)) = false := decide_eq_false (by omega)
        have o2 : decide (k < n) = false := decide_eq_false hkl
        have hR2 := hR.out
        rw [List.drop_eq_nil_of_le (by have := HN.out; omega), List.drop_eq_nil_of_le (by have := HM.out; omega), rowB] at hR2
        go_wp2_with fail
        go_ret
        exact ⟨by rw [hR2]; rfl, hbr⟩
  · have e1 : ((n : Int) != (m : Int)) = true := by simp; omega
    have e2 : (n != m) = true := by simp; omega
    have hR2 : rowB l L = false := rowB_len (by omega)
    rw [hR2]
    clear hl hL hW hR2
    go_enter Tryz.func127, Tryz.ntmps127
    go_wp2_with fail
    go_ret
    exact ⟨rfl, Below.refl _ _⟩
end
section
set_option linter.unusedVariables false
set_option linter.unusedSimpArgs false
open Go.RowKit
set_option maxRecDepth 1000000
theorem run_call (f : FuncId) (fn : Func) (h : Tryz.prog.funcs[f]? = some fn) (h1 : (fn.name == "runtime.NumGoroutine") = false) (h2 : fn.body.isNone = false) (args : Array Value) (W : World) : (callFunc f args).run Tryz.prog W = .ok (.enter f args) W := by
  have h1' : ¬ fn.name = "runtime.NumGoroutine" := by simpa using h1
  have h2' : ¬ fn.body = none := by intro e; rw [e] at h2; exact absurd h2 (by decide)
  unfold callFunc
  simp [h, h1', h2']
/-- a box of one value. -/
theorem box_one (w : World) (v : Value) (t : TypeId) : (w.alloc (.cells #[v] t)).cell? ⟨w.heap.size, 0, none⟩ = some v := cell_of_row _ _ 0 _ _ _ (heap_alloc_new w _)
theorem within_kids {D : Nat} {T : Nd} (hD : T.depth ≤ D + 1) (hW : T.weight ≤ 1048576) : Within D T.kids := fun t ht => by
  have h1 := Nd.depth_kid ht
  have h2 := Nd.weight_kid ht
  omega
theorem kids1_ok (D : Nat) (L : List (Nd → Bool)) (m c' X : Nat) (A' : Option Addr) (w : World) (hm : L.length = m) (hL : ShapesAt D w A' L) (hmc : m ≤ c') (hc : c' ≤ maxLen) (hX : w.cell? ⟨X, 0, none⟩ = some (.slice A' m c')) (T : Nd) (A : Option Addr) (c : Nat) (K : Option Addr) (d : Nat) (hD : T.depth ≤ D + 1) (hW : T.weight ≤ 1048576) (hN : NodeAt w T A c K d) :
    Calls Tryz.prog 126 #[ndV T A c K d, .pointer (some ⟨X, 0, none⟩)] w fun e w' => e = .returned (.bool (rowB T.kids L)) ∧ Below w.heap.size w w' := by
  have hWi := within_kids hD hW
  have hX2 := fun o => cell_later ((Below.refl w.heap.size w).alloc (Nat.le_refl _) o) hX
  have hXl := World.block_lt_of_cell? w _ hX
  have hR := fun o => row_ok D T.kids T.kids.length K d L m A' c' (w.alloc o) rfl (hN.parts.2.2.2.2.2.2.2.2.2.later ((Below.refl w.heap.size w).alloc (Nat.le_refl _) o)) hWi hm (hL.later ((Below.refl w.heap.size w).alloc (Nat.le_refl _) o)) hN.parts.2.2.2.2.1 hN.parts.2.2.2.2.2.1 hmc hc
  have HR := Lib.hid hR
  clear hR hL hWi
  obtain ⟨hm1, hm2, hrm, hw32, hk1, hk2, hk64, ha64, hts, hKs⟩ := hN.parts
  unfold maxLen at hm2 hk2 hts
  obtain ⟨hk64a, hk64b⟩ := hk64
  obtain ⟨ha64a, ha64b⟩ := ha64
  have HK := Lib.hid (fun (i : Nat) (t : Nd) (hi : T.kids[i]? = some t) => hN.kid hi)
  have hb1 := (Below.refl w.heap.size w).alloc (Nat.le_refl _) (.cells #[.int .i64 T.kind, .int .i64 T.pos, .string T.text, .bool T.neg, .slice A T.mag.length c, .slice K T.kids.length d] 27)
  obtain ⟨c0, c1, c2, c3, c4, c5⟩ := (cellsN_new w T A c K d 27).box
  have c6 := hX2 (.cells #[.int .i64 T.kind, .int .i64 T.pos, .string T.text, .bool T.neg, .slice A T.mag.length c, .slice K T.kids.length d] 27)
  clear hX hX2
  unfold ndV
  clear hKs hN
  go_enter Tryz.func126, Tryz.ntmps126
  go_wp2_with (go_at_call 127; refine (HR.out _).mono ?_; rintro e w3 ⟨rfl, hb3⟩)
  go_ret
  exact ⟨rfl, hb1.trans (hb3.mono hb1.size)⟩
end
section
set_option linter.unusedVariables false
set_option linter.unusedSimpArgs false
open Go.Lib
set_option maxRecDepth 1000000
/-- a rune's bytes. -/
def enc (r : Nat) : List UInt8 := (Utf8.encode (r : Int)).data.toList
/-- a scalar value. -/
def Sc (r : Nat) : Prop := r < 55296 ∨ (57344 ≤ r ∧ r ≤ 1114111)
instance (r : Nat) : Decidable (Sc r) := by unfold Sc; infer_instance
theorem valid_of (r : Nat) (h : Sc r) : Utf8.valid (r : Int) = true := by
  unfold Sc at h; simp [Utf8.valid]; omega
theorem valid_not (r : Nat) (h : ¬ Sc r) : Utf8.valid (r : Int) = false := by
  unfold Sc at h; simp [Utf8.valid]; omega
theorem enc1 (r : Nat) (c1 : r < 128) : enc r = [UInt8.ofNat r] := by
  have v : Utf8.valid (r : Int) = true := valid_of r (by unfold Sc; omega)
  simp [enc, Utf8.encode, v, c1]
theorem enc2 (r : Nat) (c1 : ¬ r < 128) (c2 : r < 2048) : enc r = [UInt8.ofNat (192 + r / 64), UInt8.ofNat (128 + r % 64)] := by
  have v : Utf8.valid (r : Int) = true := valid_of r (by unfold Sc; omega)
  simp [enc, Utf8.encode, v, c1, c2]
theorem enc3 (r : Nat) (c2 : ¬ r < 2048) (c3 : r < 65536) (hv : Sc r) : enc r = [UInt8.ofNat (224 + r / 4096), UInt8.ofNat (128 + r / 64 % 64), UInt8.ofNat (128 + r % 64)] := by
  have v : Utf8.valid (r : Int) = true := valid_of r hv
  have c1 : ¬ r < 128 := by omega
  simp [enc, Utf8.encode, v, c1, c2, c3]
theorem enc4 (r : Nat) (c3 : ¬ r < 65536) (hv : Sc r) : enc r = [UInt8.ofNat (240 + r / 262144), UInt8.ofNat (128 + r / 4096 % 64), UInt8.ofNat (128 + r / 64 % 64), UInt8.ofNat (128 + r % 64)] := by
  have v : Utf8.valid (r : Int) = true := valid_of r hv
  have c1 : ¬ r < 128 := by omega
  have c2 : ¬ r < 2048 := by omega
  simp [enc, Utf8.encode, v, c1, c2, c3]
theorem encBad (r : Nat) (h : ¬ Sc r) : enc r = [239, 191, 189] := by
  simp [enc, Utf8.encode, valid_not r h, Utf8.runeError]
theorem enc_len (r : Nat) : 1 ≤ (enc r).length ∧ (enc r).length ≤ 4 := by
  by_cases hv : Sc r
  · by_cases c1 : r < 128
    · simp [enc1 r c1]
    by_cases c2 : r < 2048
    · simp [enc2 r c1 c2]
    by_cases c3 : r < 65536
    · simp [enc3 r c2 c3 hv]
    · simp [enc4 r c3 hv]
  · simp [encBad r hv]
theorem dec_sc (l : List UInt8) : Sc (decodeL l).1 := by
  rw [decodeL_N]
  have h0 := (l.getD 0 0).toNat_lt; have h1 := (l.getD 1 0).toNat_lt
  generalize (l.getD 0 0).toNat = a at *
  generalize (l.getD 1 0).toNat = b at *
  generalize (l.getD 2 0).toNat = c at *
  generalize (l.getD 3 0).toNat = d at *
  unfold decodeN Sc
  repeat' split
  all_goals simp only
  all_goals omega
/-- the bad byte's sign. -/
def Bad (l : List UInt8) : Prop := (decodeL l).1 = 65533 ∧ (decodeL l).2 = 1
instance (l : List UInt8) : Decidable (Bad l) := by unfold Bad; infer_instance
theorem enc_Z (r : Nat) : enc r = encodeRune (r : Int) := by
  by_cases hv : Sc r
  · by_cases c1 : r < 128
    · rw [enc1 r c1, encodeRune, encodeRuneZ_one (by omega) (by omega)]; simp
    by_cases c2 : r < 2048
    · rw [enc2 r c1 c2, encodeRune, encodeRuneZ_two (by omega) (by omega)]
      simp only [List.map_cons, List.map_nil]
      congr 1
    by_cases c3 : r < 65536
    · unfold Sc at hv
      rw [enc3 r c2 c3 hv, encodeRune, encodeRuneZ_three (by omega)]
      simp only [List.map_cons, List.map_nil]
      congr 1
    · unfold Sc at hv
      rw [enc4 r c3 hv, encodeRune, encodeRuneZ_four (by omega) (by omega)]
      simp only [List.map_cons, List.map_nil]
      congr 1
  · rw [encBad r hv, encodeRune, encodeRuneZ_bad (by unfold Sc at hv; omega)]
    rfl
theorem enc_dec (l : List UInt8) (hne : l ≠ []) (hb : ¬ Bad l) : enc (decodeL l).1 = l.take (decodeL l).2 := by
  rw [enc_Z]; exact encode_decode l hne hb
theorem enc_fffd : enc 65533 = [239, 191, 189] := by rfl
def pc : Nat → List UInt8 → List Nat
  | 0, _ => []
  | f + 1, l => if l = [] then [] else (decodeL l).1 :: pc f (l.drop (decodeL l).2)
def pieces (l : List UInt8) : List Nat := pc l.length l
def encs (rs : List Nat) : List UInt8 := rs.flatMap enc
theorem pc_nil : ∀ f, pc f [] = [] := by intro f; cases f <;> simp [pc]
theorem pc_fuel : ∀ (f g : Nat) (l : List UInt8), l.length ≤ f → l.length ≤ g → pc f l = pc g l
  | 0, g, l, h, _ => by
    have : l = [] := List.length_eq_zero_iff.1 (by omega)
    rw [this, pc_nil, pc_nil]
  | f + 1, 0, l, _, h => by
    have : l = [] := List.length_eq_zero_iff.1 (by omega)
    rw [this, pc_nil, pc_nil]
  | f + 1, g + 1, l, hf, hg => by
    simp only [pc]
    by_cases hne : l = []
    · simp [hne]
    · have hw := decodeL_width l
      rw [if_neg hne, if_neg hne, pc_fuel f g _ (by rw [List.length_drop]; omega) (by rw [List.length_drop]; omega)]
theorem pieces_nil : pieces [] = [] := rfl
theorem pieces_step (l : List UInt8) (hne : l ≠ []) : pieces l = (decodeL l).1 :: pieces (l.drop (decodeL l).2) := by
  have hl : 0 < l.length := List.length_pos_iff.2 hne
  have hw := decodeL_width l
  obtain ⟨n, hn⟩ : ∃ n, l.length = n + 1 := ⟨l.length - 1, by omega⟩
  unfold pieces
  rw [hn]
  show (if l = [] then [] else _) = _
  rw [if_neg hne, pc_fuel n (l.drop (decodeL l).2).length _ (by rw [List.length_drop]; omega) (Nat.le_refl _)]
theorem encs_nil : encs [] = [] := rfl
theorem encs_cons (r : Nat) (rs : List Nat) : encs (r :: rs) = enc r ++ encs rs := rfl
/-- induction along the runes. -/
theorem rune_ind {p : List UInt8 → Prop} (h0 : p []) (hs : ∀ l, l ≠ [] → p (l.drop (decodeL l).2) → p l) : ∀ l, p l := by
  have : ∀ (n : Nat) (l : List UInt8), l.length ≤ n → p l := by
    intro n
    induction n with
    | zero => intro l h; rw [List.length_eq_zero_iff.1 (by omega : l.length = 0)]; exact h0
    | succ n ih =>
      intro l h
      by_cases hne : l = []
      · rw [hne]; exact h0
      · have hw := decodeL_width l
        have hl : 0 < l.length := List.length_pos_iff.2 hne
        exact hs l hne (ih _ (by rw [List.length_drop]; omega))
  exact fun l => this l.length l (Nat.le_refl _)
theorem pieces_len : ∀ l, (pieces l).length ≤ l.length := by
  apply rune_ind
  · simp [pieces_nil]
  · intro l hne ih
    have hw := decodeL_width l
    have hle := decodeL_le l hne
    rw [List.length_drop] at ih
    rw [pieces_step l hne, List.length_cons]
    omega
theorem encs_len : ∀ l, l.length ≤ (encs (pieces l)).length := by
  apply rune_ind
  · simp
  · intro l hne ih
    have hle := decodeL_le l hne
    rw [List.length_drop] at ih
    rw [pieces_step l hne, encs_cons, List.length_append]
    by_cases hb : Bad l
    · rw [hb.1, enc_fffd]
      have := hb.2
      simp
      omega
    · rw [enc_dec l hne hb, List.length_take]
      omega
theorem good_iff : ∀ l, (encs (pieces l) = l ↔ validD l = true) := by
  apply rune_ind
  · simp [pieces_nil, encs_nil, validD_nil]
  · intro l hne ih
    have hle := decodeL_le l hne
    rw [validD_step l hne, pieces_step l hne, encs_cons]
    by_cases hb : Bad l
    · rw [if_pos (show (decodeL l).1 = 65533 ∧ (decodeL l).2 = 1 from hb)]
      constructor
      · intro h
        exfalso
        have h1 := congrArg List.length h
        have h2 := encs_len (l.drop (decodeL l).2)
        rw [List.length_drop] at h2
        rw [hb.1, enc_fffd, List.length_append] at h1
        have := hb.2
        simp at h1
        omega
      · simp
    · rw [if_neg (show ¬ ((decodeL l).1 = 65533 ∧ (decodeL l).2 = 1) from hb), ← ih]
      rw [enc_dec l hne hb]
      constructor
      · intro h
        have : l.take (decodeL l).2 ++ encs (pieces (l.drop (decodeL l).2)) = l.take (decodeL l).2 ++ l.drop (decodeL l).2 := by rw [h, List.take_append_drop]
        exact List.append_cancel_left this
      · intro h; rw [h, List.take_append_drop]
end
section
set_option linter.unusedVariables false
set_option linter.unusedSimpArgs false
set_option maxRecDepth 1000000
def isDig (c : UInt8) : Bool := 48 ≤ c.toNat && c.toNat ≤ 57
def isLet (c : UInt8) : Bool := (97 ≤ c.toNat && c.toNat ≤ 122) || (65 ≤ c.toNat && c.toNat ≤ 90) || c.toNat == 95
def isWd (c : UInt8) : Bool := isLet c || isDig c
def wordsL : List (List UInt8) := [[97, 110, 100], [97, 115], [98, 114, 101, 97, 107], [99, 108, 97, 115, 115], [99, 111, 110, 116, 105, 110, 117, 101], [100, 101, 102], [100, 101, 108], [101, 108, 105, 102], [101, 108, 115, 101], [101, 120, 99, 101, 112, 116], [70, 97, 108, 115, 101], [102, 111, 114], [103, 108, 111, 98, 97, 108], [105, 102], [105, 110], [105, 115], [78, 111, 110, 101], [110, 111, 110, 108, 111, 99, 97, 108], [110, 111, 116], [111, 114], [112, 97, 115, 115], [114, 97, 105, 115, 101], [114, 101, 116, 117, 114, 110], [84, 114, 117, 101], [116, 114, 121], [119, 104, 105, 108, 101]]
def wordB (l : List UInt8) : Bool := wordsL.contains l
end
section
set_option linter.unusedVariables false
set_option linter.unusedSimpArgs false
open Go.Lib
set_option maxRecDepth 1000000
/-- a digit's sign. -/
def hexc (d : Nat) : UInt8 := UInt8.ofNat (if d < 10 then 48 + d else 87 + d)
/-- so many digits of a number. -/
def numb : Nat → Nat → List UInt8
  | _, 0 => []
  | r, n + 1 => numb (r / 16) n ++ [hexc (r % 16)]
theorem numb2 (r : Nat) : numb r 2 = [hexc (r / 16 % 16), hexc (r % 16)] := rfl
theorem numb4 (r : Nat) : numb r 4 = [hexc (r / 16 / 16 / 16 % 16), hexc (r / 16 / 16 % 16), hexc (r / 16 % 16), hexc (r % 16)] := rfl
theorem numb_len : ∀ (n r : Nat), (numb r n).length = n
  | 0, _ => rfl
  | n + 1, r => by simp [numb, numb_len n]
/-- the runes that stand as \u and four digits. -/
def Wide (r : Nat) : Prop := (128 ≤ r ∧ r ≤ 159) ∨ r = 8232 ∨ r = 8233 ∨ r = 65279
instance (r : Nat) : Decidable (Wide r) := by unfold Wide; infer_instance
/-- how a rune stands in quotes. -/
def quotedL (r : Nat) : List UInt8 :=
  if r = 39 ∨ r = 92 then 92 :: enc r
  else if r = 10 then [92, 110]
  else if r = 9 then [92, 116]
  else if r < 32 ∨ r = 127 then 92 :: 120 :: numb r 2
  else if Wide r then 92 :: 117 :: numb r 4
  else enc r
/-- runes in quotes. -/
def quoteL (rs : List Nat) : List UInt8 := 39 :: (rs.flatMap quotedL ++ [39])
theorem quotedL_len (r : Nat) : 1 ≤ (quotedL r).length ∧ (quotedL r).length ≤ 6 := by
  have h := enc_len r
  unfold quotedL
  split
  · simp; omega
  split
  · simp
  split
  · simp
  split
  · simp [numb_len]
  split
  · simp [numb_len]
  · omega
theorem quoteds_len : ∀ rs : List Nat, rs.length ≤ (rs.flatMap quotedL).length ∧ (rs.flatMap quotedL).length ≤ 6 * rs.length
  | [] => by simp
  | r :: rs => by
    have h := quotedL_len r
    have h2 := quoteds_len rs
    simp only [List.flatMap_cons, List.length_append, List.length_cons]
    omega
end
section
set_option linter.unusedVariables false
set_option linter.unusedSimpArgs false
open Go.RowKit Go.Shelf
theorem heap_later {w w' : World} (hb : Below w.heap.size w w') {k : Nat} {o : Obj} (h : w.heap[k]? = some o) : w'.heap[k]? = some o :=
  (hb.block k (Array.getElem?_eq_some_iff.1 h).1).trans h
theorem bAt_later {T e : TypeId} {B b : Nat} {p : Value} {bs : List Value} {w w' : World} (h : Lib.BuilderAtF T e B b p bs w) (hb : Below w.heap.size w w') : Lib.BuilderAtF T e B b p bs w' := by
  obtain ⟨hB, v, hbk, hown, hne⟩ := h
  refine ⟨hB, v, heap_later hb hbk, ⟨hown.1, ?_⟩, hne⟩
  rcases hown.2 with hn | ⟨g, cap, cur, fz, hv, hbg, hg, rest⟩
  · exact .inl hn
  · exact .inr ⟨g, cap, cur, fz, hv, hbg, heap_later hb hg, rest⟩
theorem beqI {a b : Nat} (h : a ≠ b) : ((a : Int) == (b : Int)) = false := by simp; omega
/-- the bytes from a place on. -/
theorem bytes_at (s : ByteArray) (i : Nat) (h : i < s.size) : s.data.toList.drop i = s[i] :: s.data.toList.drop (i + 1) := by
  rw [List.drop_eq_getElem_cons (by simpa using h)]; rfl
end
section
set_option linter.unusedVariables false
set_option linter.unusedSimpArgs false
open Go.RowKit Go.Shelf
set_option maxRecDepth 1000000
/-- the array behind i digits of d. -/
def numCell (r d i j : Nat) : Value := if j < d ∧ d - 1 - j < i then .int .u8 (hexc (r / 16 ^ (d - 1 - j) % 16)).toNat else .int .u8 0
def numCells (r d i : Nat) : Array Value := #[numCell r d i 0, numCell r d i 1, numCell r d i 2, numCell r d i 3]
theorem nat_and15 (q : Nat) : q &&& 15 = q % 16 := by
  have := Nat.and_two_pow_sub_one_eq_mod q 4
  simpa using this
theorem and15 (q : Nat) (hq : q ≤ 1114111) : bits BinOp.and IntKind.i32 (q : Int) 15 = ((q % 16 : Nat) : Int) := by
  show IntKind.i32.wrap ((BitVec.ofInt 32 (q : Int) &&& BitVec.ofInt 32 ((15 : Nat) : Int)).toNat : Int) = _
  rw [BitVec.toNat_and, ofInt_u32 q (by omega), ofInt_u32 15 (by omega), nat_and15]
  exact wrap_i32_small _ (by omega) (by omega)
theorem hexAt (m : Nat) (h : m < 16) : (⟨#[48, 49, 50, 51, 52, 53, 54, 55, 56, 57, 97, 98, 99, 100, 101, 102]⟩ : ByteArray)[m]'(h) = hexc m := by
  have : ∀ m : Fin 16, (⟨#[48, 49, 50, 51, 52, 53, 54, 55, 56, 57, 97, 98, 99, 100, 101, 102]⟩ : ByteArray)[m.1]'(m.2) = hexc m.1 := by decide
  exact this ⟨m, h⟩
theorem conv_arr (w : World) (l : List UInt8) (cs : Array Value) (t : TypeId) (c : Nat) (hc : ∀ j (hj : j < l.length), cs[j]? = some (.int .u8 (l[j].toNat : Int))) :
    (convert 40 9 (.slice (some ⟨w.heap.size, 0, none⟩) l.length c)).run Tryz.prog (w.alloc (.cells cs t)) = .ok (.string ⟨l.toArray⟩) (w.alloc (.cells cs t)) := by
  refine run_convert_bytes_back _ _ _ 5 _ _ l Tryz.underlying40 Tryz.underlying5 Tryz.underlying9 ?_
  intro j hj
  have := hc j hj
  rw [Addr.add_lit, World.cell?_alloc_at _ _ _ _ (by rfl)]
  simpa using this
set_option maxHeartbeats 1000000 in
theorem numbered_ok (r d : Nat) (hd : d = 2 ∨ d = 4) (hr : r ≤ 1114111) (w : World) :
    Calls Tryz.prog 216 #[.int .i32 r, .int .i64 d] w fun e w' => e = .returned (.string ⟨(numb r d).toArray⟩) ∧ Below w.heap.size w w' := by
  have hcv : ∀ c, (convert 40 9 (.slice (some ⟨w.heap.size, 0, none⟩) d c)).run Tryz.prog (w.alloc (.cells (numCells r d d) 189)) = .ok (.string ⟨(numb r d).toArray⟩) (w.alloc (.cells (numCells r d d) 189)) := by
    intro c
    have h := conv_arr w (numb r d) (numCells r d d) 189 c ?_
    · rw [numb_len] at h; exact h
    · intro j hj
      rw [numb_len] at hj
      rcases hd with rfl | rfl
      · have : j = 0 ∨ j = 1 := by omega
        rcases this with rfl | rfl <;> simp [numCells, numCell, numb2]
      · have : j = 0 ∨ j = 1 ∨ j = 2 ∨ j = 3 := by omega
        rcases this with rfl | rfl | rfl | rfl <;> simp [numCells, numCell, numb4, Nat.div_div_eq_div_mul]
  obtain ⟨X, hX⟩ : ∃ X, (⟨(numb r d).toArray⟩ : ByteArray) = X := ⟨_, rfl⟩
  rw [hX]
  rw [hX] at hcv
  clear hX
  rcases hd with rfl | rfl
  · rw [show ((2 : Nat) : Int) = 2 from rfl]
    go_enter Tryz.func216, Tryz.ntmps216
    go_wp2
    go_loopw [0, 6, 8] (fun v0 v6 v8 wr => ∃ i : Nat, v0 = .int .i32 (r / 16 ^ i : Nat) ∧ v8 = .int .i64 i ∧ i ≤ 2 ∧ wr = w.alloc (.cells (numCells r 2 i) 189)) (fun _ _ v8 _ => 2 - (intOf v8).toNat)
    case atStart => exact ⟨0, by simp, rfl, by omega, rfl⟩
    case round =>
      obtain ⟨i, rfl, rfl, hi, rfl⟩ := hrel
      have hcase : i = 0 ∨ i = 1 ∨ i = 2 := by omega
      obtain ⟨q, hq⟩ : ∃ q, r / 16 ^ i = q := ⟨_, rfl⟩
      have hql : q ≤ 1114111 := by rw [← hq]; exact Nat.le_trans (Nat.div_le_self _ _) hr
      have ha := and15 q hql
      obtain ⟨m, hm⟩ : ∃ m, q % 16 = m := ⟨_, rfl⟩
      have hml : m < 16 := by rw [← hm]; exact Nat.mod_lt _ (by decide)
      have hn : r / 16 ^ (i + 1) = q / 16 := by rw [← hq, Nat.pow_succ, Nat.div_div_eq_div_mul]
      rw [hm] at ha
      rw [hq]
      have HQ := Lib.hid hq
      have HM := Lib.hid hm
      have HN := Lib.hid hn
      clear hq hm hi hn
      rcases hcase with rfl | rfl | rfl
      · simp only [numCells]
        clear hcv
        go_wp2
        go_roundw
        case rel => exact ⟨1, by rw [HN.out]; simp, rfl, by omega, by rw [hexAt m hml, ← HM.out, ← HQ.out]; simp [numCells, numCell]⟩
        case measure => simp [intOf]
      · simp only [numCells]
        clear hcv
        go_wp2
        go_roundw
        case rel => exact ⟨2, by rw [HN.out]; simp, rfl, by omega, by rw [hexAt m hml, ← HM.out, ← HQ.out]; simp [numCells, numCell]⟩
        case measure => simp [intOf]
      · go_wp2
        go_ret
        exact ⟨rfl, Below.alloc (Below.refl _ _) (Nat.le_refl _) _⟩
  · rw [show ((4 : Nat) : Int) = 4 from rfl]
    go_enter Tryz.func216, Tryz.ntmps216
    go_wp2
    go_loopw [0, 6, 8] (fun v0 v6 v8 wr => ∃ i : Nat, v0 = .int .i32 (r / 16 ^ i : Nat) ∧ v8 = .int .i64 i ∧ i ≤ 4 ∧ wr = w.alloc (.cells (numCells r 4 i) 189)) (fun _ _ v8 _ => 4 - (intOf v8).toNat)
    case atStart => exact ⟨0, by simp, rfl, by omega, rfl⟩
    case round =>
      obtain ⟨i, rfl, rfl, hi, rfl⟩ := hrel
      have hcase : i = 0 ∨ i = 1 ∨ i = 2 ∨ i = 3 ∨ i = 4 := by omega
      obtain ⟨q, hq⟩ : ∃ q, r / 16 ^ i = q := ⟨_, rfl⟩
      have hql : q ≤ 1114111 := by rw [← hq]; exact Nat.le_trans (Nat.div_le_self _ _) hr
      have ha := and15 q hql
      obtain ⟨m, hm⟩ : ∃ m, q % 16 = m := ⟨_, rfl⟩
      have hml : m < 16 := by rw [← hm]; exact Nat.mod_lt _ (by decide)
      have hn : r / 16 ^ (i + 1) = q / 16 := by rw [← hq, Nat.pow_succ, Nat.div_div_eq_div_mul]
      rw [hm] at ha
      rw [hq]
      have HQ := Lib.hid hq
      have HM := Lib.hid hm
      have HN := Lib.hid hn
      clear hq hm hi hn
      rcases hcase with rfl | rfl | rfl | rfl | rfl
      · simp only [numCells]
        clear hcv
        go_wp2
        go_roundw
        case rel => exact ⟨1, by rw [HN.out]; simp, rfl, by omega, by rw [hexAt m hml, ← HM.out, ← HQ.out]; simp [numCells, numCell]⟩
        case measure => simp [intOf]
      · simp only [numCells]
        clear hcv
        go_wp2
        go_roundw
        case rel => exact ⟨2, by rw [HN.out]; simp, rfl, by omega, by rw [hexAt m hml, ← HM.out, ← HQ.out]; simp [numCells, numCell]⟩
        case measure => simp [intOf]
      · simp only [numCells]
        clear hcv
        go_wp2
        go_roundw
        case rel => exact ⟨3, by rw [HN.out]; simp, rfl, by omega, by rw [hexAt m hml, ← HM.out, ← HQ.out]; simp [numCells, numCell]⟩
        case measure => simp [intOf]
      · simp only [numCells]
        clear hcv
        go_wp2
        go_roundw
        case rel => exact ⟨4, by rw [HN.out]; simp, rfl, by omega, by rw [hexAt m hml, ← HM.out, ← HQ.out]; simp [numCells, numCell]⟩
        case measure => simp [intOf]
      · go_wp2
        go_ret
        exact ⟨rfl, Below.alloc (Below.refl _ _) (Nat.le_refl _) _⟩
end
section
set_option linter.unusedVariables false
set_option linter.unusedSimpArgs false
open Go.RowKit Go.Shelf
set_option maxRecDepth 1000000
theorem str_eq {a b : ByteArray} (h : a.data.toList = b.data.toList) : a = b := ByteArray.ext (Array.ext' h)
theorem str_of (l : List UInt8) : (⟨l.toArray⟩ : ByteArray).data.toList = l := by simp
theorem str_app (a b : ByteArray) : (a ++ b).data.toList = a.data.toList ++ b.data.toList := by simp [ByteArray.data_append]
set_option maxHeartbeats 1000000 in
theorem quoted_ok (r : Nat) (hr : Sc r) (w : World) :
    Calls Tryz.prog 192 #[.int .i32 r] w fun e w' => e = .returned (.string ⟨(quotedL r).toArray⟩) ∧ Below w.heap.size w w' := by
  have hb : r ≤ 1114111 := by unfold Sc at hr; omega
  have hn2 := fun wx => numbered_ok r 2 (Or.inl rfl) hb wx
  have hn4 := fun wx => numbered_ok r 4 (Or.inr rfl) hb wx
  obtain ⟨X, hX⟩ : ∃ X, (⟨(quotedL r).toArray⟩ : ByteArray) = X := ⟨_, rfl⟩
  rw [hX]
  have hXl : X.data.toList = quotedL r := by rw [← hX, str_of]
  clear hX
  unfold quotedL at hXl
  by_cases h39 : r = 39
  · subst h39
    have HX := Lib.hid (show (⟨#[92]⟩ : ByteArray) ++ Utf8.encode 39 = X from str_eq (by rw [hXl, str_app]; rfl))
    clear hXl hn2 hn4
    go_enter Tryz.func192, Tryz.ntmps192
    go_wp2
    go_ret
    exact ⟨by rw [← HX.out]; rfl, Below.refl _ _⟩
  by_cases h92 : r = 92
  · subst h92
    have HX := Lib.hid (show (⟨#[92]⟩ : ByteArray) ++ Utf8.encode 92 = X from str_eq (by rw [hXl, str_app]; rfl))
    clear hXl hn2 hn4
    go_enter Tryz.func192, Tryz.ntmps192
    go_wp2
    go_ret
    exact ⟨by rw [← HX.out]; rfl, Below.refl _ _⟩
  rw [if_neg (by omega)] at hXl
  by_cases h10 : r = 10
  · subst h10
    have HX := Lib.hid (show (⟨#[92, 110]⟩ : ByteArray) = X from str_eq (by rw [hXl]; rfl))
    clear hXl hn2 hn4
    go_enter Tryz.func192, Tryz.ntmps192
    go_wp2
    go_ret
    exact ⟨by rw [← HX.out]; rfl, Below.refl _ _⟩
  rw [if_neg h10] at hXl
  by_cases h9 : r = 9
  · subst h9
    have HX := Lib.hid (show (⟨#[92, 116]⟩ : ByteArray) = X from str_eq (by rw [hXl]; rfl))
    clear hXl hn2 hn4
    go_enter Tryz.func192, Tryz.ntmps192
    go_wp2
    go_ret
    exact ⟨by rw [← HX.out]; rfl, Below.refl _ _⟩
  rw [if_neg h9] at hXl
  have b39 : ((r : Int) == 39) = false := beqI (b := 39) h39
  have b92 : ((r : Int) == 92) = false := beqI (b := 92) h92
  have b10 : ((r : Int) == 10) = false := beqI (b := 10) h10
  have b9 : ((r : Int) == 9) = false := beqI (b := 9) h9
  clear h39 h92 h10 h9
  by_cases hx : r < 32 ∨ r = 127
  · rw [if_pos hx] at hXl
    obtain ⟨Y, hY⟩ : ∃ Y, (⟨(numb r 2).toArray⟩ : ByteArray) = Y := ⟨_, rfl⟩
    have HX := Lib.hid (show (⟨#[92, 120]⟩ : ByteArray) ++ Y = X from str_eq (by rw [hXl, str_app, ← hY, str_of]; rfl))
    have hYs : Y.size = 2 := by rw [← hY]; exact numb_len 2 r
    rw [hY] at hn2
    clear hXl hn4 hY
    have hx2 : (r : Int) < 32 ∨ r = 127 := by omega
    clear hx hb hr
    rcases hx2 with hx2 | rfl
    all_goals
      go_enter Tryz.func192, Tryz.ntmps192
      go_wp2_with (go_at_call 216; refine (hn2 _).mono ?_; rintro e w1 ⟨rfl, hb1⟩)
      go_ret
      exact ⟨by rw [← HX.out]; rfl, hb1⟩
  rw [if_neg hx] at hXl
  have x32 : 32 ≤ (r : Int) := by omega
  have b127 : ((r : Int) == 127) = false := beqI (b := 127) (by omega)
  by_cases hw : Wide r
  · rw [if_pos hw] at hXl
    obtain ⟨Y, hY⟩ : ∃ Y, (⟨(numb r 4).toArray⟩ : ByteArray) = Y := ⟨_, rfl⟩
    have HX := Lib.hid (show (⟨#[92, 117]⟩ : ByteArray) ++ Y = X from str_eq (by rw [hXl, str_app, ← hY, str_of]; rfl))
    have hYs : Y.size = 4 := by rw [← hY]; exact numb_len 4 r
    rw [hY] at hn4
    have hw2 : (128 ≤ (r : Int) ∧ (r : Int) ≤ 159) ∨ r = 8232 ∨ r = 8233 ∨ r = 65279 := by unfold Wide at hw; omega
    clear hXl hn2 hY hx hb hr hw
    rcases hw2 with ⟨y1, y2⟩ | rfl | rfl | rfl
    all_goals
      go_enter Tryz.func192, Tryz.ntmps192
      go_wp2_with (go_at_call 216; refine (hn4 _).mono ?_; rintro e w1 ⟨rfl, hb1⟩)
      go_ret
      exact ⟨by rw [← HX.out]; rfl, hb1⟩
  · rw [if_neg hw] at hXl
    have HX := Lib.hid (show Utf8.encode (r : Int) = X from str_eq (by rw [hXl]; rfl))
    have hb' : r < 2147483648 := by omega
    have hw2 : ((r : Int) < 128 ∨ (128 ≤ (r : Int) ∧ 159 < (r : Int))) ∧ r ≠ 8232 ∧ r ≠ 8233 ∧ r ≠ 65279 := by unfold Wide at hw; omega
    obtain ⟨hw2, z1, z2, z3⟩ := hw2
    have b1 : ((r : Int) == 8232) = false := beqI (b := 8232) z1
    have b2 : ((r : Int) == 8233) = false := beqI (b := 8233) z2
    have b3 : ((r : Int) == 65279) = false := beqI (b := 65279) z3
    clear hXl hn2 hn4 hx hr hw z1 z2 z3
    rcases hw2 with y1 | ⟨y1, y2⟩
    all_goals
      go_enter Tryz.func192, Tryz.ntmps192
      go_wp2
      go_ret
      exact ⟨by rw [← HX.out]; rfl, Below.refl _ _⟩
end
section
set_option linter.unusedVariables false
set_option linter.unusedSimpArgs false
open Go.RowKit Go.Shelf
set_option maxRecDepth 1000000
theorem strCells_bytes (s : ByteArray) : Lib.strCells s = Lib.byteCells s.data.toList := rfl
set_option maxHeartbeats 2000000 in
theorem quote_ok (s : ByteArray) (w : World) (hs : s.size ≤ 1099511627776) :
    Calls Tryz.prog 142 #[.string s] w fun e w' => e = .returned (.string ⟨(quoteL (pieces s.data.toList)).toArray⟩) ∧ Below w.heap.size w w' := by
  obtain ⟨Q, hQ⟩ : ∃ Q, quoteL (pieces s.data.toList) = Q := ⟨_, rfl⟩
  rw [hQ]
  have HQ := Lib.hid hQ
  clear hQ
  go_enter Tryz.func142, Tryz.ntmps142
  go_wp2_with (go_at_call 191; refine (Tryz.bWriteByte w.heap.size w.heap.size [] 39 _ (Lib.IsBuilderF.of (Lib.fresh_isBuilder 56 5 w)) (by simp) (by simp)).mono ?_; rintro e w1 ⟨rfl, h1, b1, k1⟩)
  simp only [List.nil_append] at h1
  have bw0 : Below w.heap.size w w1 := ((Below.refl _ w).alloc (Nat.le_refl _) _).trans b1
  have hib : w.heap.size < w1.heap.size := Nat.lt_of_lt_of_le (by simp) b1.size
  obtain ⟨ib, hibe⟩ : ∃ ib, w1.heap.size = ib := ⟨_, rfl⟩
  have hI0 : Lib.BuilderAtF 56 5 w.heap.size w.heap.size (.pointer (some ⟨w.heap.size, 0, none⟩)) [.int .u8 39] (w1.iter s 0) := bAt_later h1 ((Below.refl _ w1).alloc (Nat.le_refl _) _)
  have hit0 : (w1.iter s 0).heap[ib]? = some (.stringIter s 0) := by rw [← hibe]; exact World.iter_heap w1 s 0
  have hbw0 : Below w.heap.size w (w1.iter s 0) := bw0.alloc (Nat.le_of_lt hib) _
  rw [hibe] at hib
  rw [hibe]
  go_loopw [] (fun wr => ∃ (pos : Nat) (rs : List Nat), Lib.BuilderAtF 56 5 w.heap.size w.heap.size (.pointer (some ⟨w.heap.size, 0, none⟩)) (Lib.byteCells (39 :: rs.flatMap quotedL)) wr ∧ wr.heap[ib]? = some (.stringIter s pos) ∧ Below w.heap.size w wr ∧ rs.length ≤ pos ∧ pos ≤ s.size ∧ Hid (rs ++ pieces (s.data.toList.drop pos) = pieces s.data.toList)) (fun wr => s.size - wr.iterPos ib)
  case atStart => exact ⟨0, [], hI0, hit0, hbw0, Nat.le_refl _, Nat.zero_le _, rfl⟩
  case round =>
    obtain ⟨pos, rs, hI, hit, hbw, hrl, hps, hT⟩ := hrel
    have hsz : ib < wr.heap.size := (Array.getElem?_eq_some_iff.1 hit).1
    have hl6 := quoteds_len rs
    have hcl : (Lib.byteCells (39 :: rs.flatMap quotedL)).length = 1 + (rs.flatMap quotedL).length := by rw [Lib.byteCells_length, List.length_cons]; omega
    by_cases hp : pos < s.size
    · have hnx : ∀ ty, (Instr.next (.pointer (some ⟨ib, 0, none⟩)) true ty).run Tryz.prog wr = _ := fun ty => Lib.run_next_any_at wr ib s pos ty hit hp
      have hla := bytes_at s pos hp
      have hne : s.data.toList.drop pos ≠ [] := by rw [hla]; simp
      have hwd := Lib.decodeL_width (s.data.toList.drop pos)
      have hle := Lib.decodeL_le (s.data.toList.drop pos) hne
      have hsc := dec_sc (s.data.toList.drop pos)
      have hst := pieces_step _ hne
      rw [List.length_drop, show s.data.toList.length = s.size by simp] at hle
      rw [Lib.decodeL_drop] at hwd hst hle hsc
      rw [List.drop_drop] at hst
      have hI2 := hI.iterAt hit (pos + (Utf8.decode s pos).2)
      have hit2 := Lib.iterAt_heap wr ib s pos (pos + (Utf8.decode s pos).2) hit
      have hbw2 := Lib.below_iterAt hbw (k := ib) (Nat.le_of_lt hib) s (pos + (Utf8.decode s pos).2)
      rw [hst] at hT
      have hqd := fun wx => quoted_ok (Utf8.decode s pos).1 hsc wx
      have HL := Lib.hid (And.intro hrl (And.intro hwd (And.intro hps hle)))
      clear hla hne hst hrl hsz hwd hle hps hsc
      generalize (Utf8.decode s pos).1 = r at *
      generalize (Utf8.decode s pos).2 = n at *
      generalize hW2 : wr.iterAt ib s (pos + n) = W2 at *
      have hq6 := quotedL_len r
      obtain ⟨Y, hY⟩ : ∃ Y, (⟨(quotedL r).toArray⟩ : ByteArray) = Y := ⟨_, rfl⟩
      have hYl : Y.data.toList = quotedL r := by rw [← hY, str_of]
      have hYs : Y.size = (quotedL r).length := by rw [← hYl]; rfl
      simp only [hY] at hqd
      have HS := Lib.hid (show (Lib.byteCells (39 :: rs.flatMap quotedL)).length + Y.size ≤ 140737488355328 by rw [hcl, hYs]; have := HL.out; omega)
      have HY := Lib.hid hYl
      clear hq6 hYl hYs hY hcl hl6
      go_wp2_with (first
        | (go_at_call 192; refine (hqd _).mono ?_; rintro e W3 ⟨rfl, hb3⟩)
        | (go_at_call 147; refine (Tryz.bWriteString w.heap.size w.heap.size _ Y _ (.inr (bAt_later hI2 hb3)) HS.out ((hbw2.trans (hb3.mono hbw2.size)).size)).mono ?_; rintro e W4 ⟨rfl, h4, b4, k4⟩))
      have hbw3 := hbw2.trans (hb3.mono hbw2.size)
      have hit4 : W4.heap[ib]? = some (.stringIter s (pos + n)) := k4 _ _ (heap_later hb3 hit2) (by intro e1; injection e1 with e1; omega) (by intro c fz e1; cases e1)
      go_roundw
      case rel =>
        refine ⟨pos + n, rs ++ [r], ?_, hit4, hbw3.trans b4, ?_, ?_, ?_⟩
        · rw [strCells_bytes, HY.out, ← Lib.byteCells_append] at h4
          rw [List.flatMap_append, List.flatMap_cons, List.flatMap_nil, List.append_nil, ← List.cons_append]
          exact h4
        · have := HL.out; simp; omega
        · have := HL.out; omega
        · rw [List.append_assoc]; exact hT
      case measure =>
        have := HL.out
        simp only [World.iterPos, hit4, hit]
        omega
    · have hnx : ∀ ty, (Instr.next (.pointer (some ⟨ib, 0, none⟩)) true ty).run Tryz.prog wr = _ := fun ty => Lib.run_next_end_at wr ib s pos ty hit hp
      have hT1 : rs = pieces s.data.toList := by
        have := hT.out
        rw [List.drop_eq_nil_of_le (by simp; omega), pieces_nil, List.append_nil] at this
        exact this
      have HC := Lib.hid (show (Lib.byteCells (39 :: rs.flatMap quotedL)).length + 1 ≤ 140737488355328 by rw [hcl]; omega)
      have HE : Lib.byteCells (39 :: rs.flatMap quotedL) ++ [Value.int .u8 39] = Lib.byteCells Q := by
        rw [← HQ.out, ← hT1, quoteL, ← List.cons_append, Lib.byteCells_append]; rfl
      have HE := Lib.hid HE
      clear hT hT1 hcl hl6 hrl
      go_wp2_with (first
        | (go_at_call 191; refine (Tryz.bWriteByte w.heap.size w.heap.size _ 39 _ (.inr hI) HC.out hbw.size).mono ?_; rintro e W5 ⟨rfl, h5, b5, k5⟩; rw [HE.out] at h5)
        | (go_at_call 32; refine (Tryz.Builder_String_any_k w.heap.size w.heap.size Q _ (.inr h5) (Nat.le_trans hbw.size b5.size)).mono ?_; rintro e W6 ⟨rfl, _, b6, _⟩))
      go_ret
      exact ⟨rfl, hbw.trans (b5.trans b6)⟩
end
section
set_option linter.unusedVariables false
set_option linter.unusedSimpArgs false
open Go.RowKit Go.Shelf
set_option maxRecDepth 1000000
/-- is a text UTF-8 all through? -/
def goodB (s : ByteArray) : Bool := encs (pieces s.data.toList) == s.data.toList
theorem goodB_iff (s : ByteArray) : goodB s = true ↔ encs (pieces s.data.toList) = s.data.toList := by simp [goodB]
end
section
set_option linter.unusedVariables false
set_option linter.unusedSimpArgs false
set_option maxRecDepth 1000000
/-- is a text a name? -/
def nameB (s : List UInt8) : Bool := match s with
  | [] => false
  | c :: r => isLet c && r.all isWd && !wordB (c :: r)
def noNumB (t : Nd) : Bool := !t.neg && t.mag.length == 0
def numB (t : Nd) : Bool := !t.neg && decide (t.mag.length ≤ 256) && !(t.mag.getLast? == some 0)
def isTargetK (k : Int) : Bool := k == 31 || k == 53 || k == 54
/-- what a kid may be. -/
inductive Sh where
  | expr | stmt | target | targets | block | none
  | of (k : Int)
  | or2 (a b : Sh)
def Sh.ev (R : Nd → Bool) : Sh → Nd → Bool
  | .expr, t => !(t.kind == 39) && !(t.kind == 40) && !(t.kind == 52) && decide (31 ≤ t.kind) && R t
  | .stmt, t => decide (3 ≤ t.kind) && decide (t.kind ≤ 21) && !(t.kind == 19) && R t
  | .target, t => isTargetK t.kind && R t
  | .targets, t => (isTargetK t.kind && R t) || (t.kind == 23 && R t)
  | .block, t => t.kind == 2 && decide (0 < t.kids.length) && R t
  | .none, t => t.kind == 0 && t.text.size == 0 && noNumB t && t.kids.length == 0
  | .of k, t => t.kind == k && R t
  | .or2 a b, t => a.ev R t || b.ev R t
/-- parameters. -/
def paramsB (R : Nd → Bool) : Bool → List Nd → Bool
  | _, [] => true
  | g, p :: r =>
    if !(p.kind == 19) || !R p then false
    else match p.kids with
      | [] => r.isEmpty
      | q :: _ => if !(q.kind == 0) then paramsB R true r else if g then false else paramsB R g r
/-- what a try catches. -/
def catchB (R : Nd → Bool) : List Nd → Bool
  | [] => true
  | x :: r => x.kind == 22 && R x && !((match x.kids with | [] => false | q :: _ => q.kind == 0) && !r.isEmpty) && catchB R r
/-- what a node's kids may be. -/
inductive Fm where
  | row (l : List Sh)
  | some (n : Nat) (s : Sh)
  | dfn | prm | tri | exc | cll
  | cmp (s : Sh)
def Fm.ev (R : Nd → Bool) : Fm → Nd → Bool
  | .row l, t => rowB t.kids (l.map (Sh.ev R))
  | .some n s, t => decide (n ≤ t.kids.length) && t.kids.all (s.ev R)
  | .dfn, t => decide (1 ≤ t.kids.length) && paramsB R false t.kids.dropLast && (t.kids.drop (t.kids.length - 1)).all (Sh.block.ev R)
  | .prm, t => t.kids.length == 0 || rowB t.kids [(Sh.or2 .none .expr).ev R]
  | .tri, t => decide (2 ≤ t.kids.length) && (t.kids.take 1).all (Sh.block.ev R) && catchB R (t.kids.drop 1)
  | .exc, t => rowB t.kids [(Sh.or2 .none .expr).ev R, Sh.block.ev R] && (t.text.size == 0 || nameB t.text.data.toList && !(t.kids.take 1).any (fun q => q.kind == 0))
  | .cmp s, t => decide (3 ≤ t.kids.length) && rowB (t.kids.take 3) [s.ev R, Sh.targets.ev R, Sh.expr.ev R] && (t.kids.drop 3).all (Sh.expr.ev R)
  | .cll, t => decide (1 ≤ t.kids.length) && (t.kids.take 1).all (Sh.expr.ev R) && (let r := ((t.kids.drop 1).dropWhile (Sh.expr.ev R)).dropWhile ((Sh.of 52).ev R); r.isEmpty || rowB r [(Sh.of 40).ev R])
/-- what a node's text may be. -/
inductive Tx where
  | non | name | exc | good
  | words (l : List (List UInt8))
def Tx.ev : Tx → ByteArray → Bool
  | .non, s => s.size == 0
  | .name, s => nameB s.data.toList
  | .exc, s => s.size == 0 || nameB s.data.toList
  | .good, s => goodB s
  | .words l, s => l.contains s.data.toList
def signsL : List (List UInt8) := [[43], [45], [42], [47, 47], [37], [38], [124], [94]]
def compsL : List (List UInt8) := [[61, 61], [33, 61], [60], [60, 61], [62], [62, 61], [105, 110], [110, 111, 116, 32, 105, 110], [105, 115], [105, 115, 32, 110, 111, 116]]
def constsL : List (List UInt8) := [[78, 111, 110, 101], [84, 114, 117, 101], [70, 97, 108, 115, 101]]
def forms : List (Int × Tx × Fm) := [(1, .non, .row [.of 2]), (2, .non, .some 0 .stmt), (3, .non, .row [.expr]), (4, .non, .row [.target, .expr]), (5, .non, .row [.of 23, .expr]), (6, .words signsL, .row [.target, .expr]), (7, .non, .row [.target]),
  (8, .non, .row []), (9, .non, .row []), (10, .non, .row []), (11, .non, .row [.or2 .none .expr]), (12, .non, .row [.or2 .none .expr]), (13, .non, .some 1 (.of 31)), (14, .non, .some 1 (.of 31)), (15, .non, .row [.expr, .block, .or2 .none .block]), (16, .non, .row [.expr, .block]),
  (17, .non, .row [.targets, .expr, .block]), (18, .name, .dfn), (19, .name, .prm), (20, .name, .row [.or2 .none .expr, .block]), (21, .non, .tri), (22, .exc, .exc), (23, .non, .some 2 .target),
  (31, .name, .row []), (32, .non, .row []), (33, .good, .row []), (34, .words constsL, .row []), (35, .non, .some 0 .expr), (36, .non, .some 0 .expr), (37, .non, .some 1 .expr), (38, .non, .some 0 (.or2 (.of 39) (.of 40))), (39, .non, .row [.expr, .expr]), (45, .non, .row [.expr, .expr]), (46, .non, .row [.expr, .expr]), (54, .non, .row [.expr, .expr]),
  (40, .non, .row [.expr]), (47, .non, .row [.expr]), (50, .non, .row [.expr]), (41, .non, .cmp .expr), (42, .non, .cmp .expr), (43, .non, .cmp (.of 39)), (44, .non, .row [.expr, .expr, .expr]), (48, .words compsL, .row [.expr, .expr]), (49, .words signsL, .row [.expr, .expr]), (51, .non, .cll), (52, .name, .row [.expr]), (53, .name, .row [.expr])]
def formOf (k : Int) : Option (Tx × Fm) := (forms.find? (fun x => x.1 == k)).map (·.2)
def rightN : Nat → Nd → Bool
  | 0, _ => false
  | n + 1, T => match formOf T.kind with
    | none => false
    | some x => x.1.ev T.text && (if T.kind = 32 then numB T else noNumB T) && x.2.ev (rightN n) T
/-- is a tree of its kind's shape? -/
def Nd.right (T : Nd) : Bool := rightN T.depth T
section
variable {R R' : Nd → Bool}
theorem Sh.congr {t : Nd} (h : R t = R' t) : ∀ s : Sh, s.ev R t = s.ev R' t
  | .expr => by simp only [Sh.ev, h]
  | .stmt => by simp only [Sh.ev, h]
  | .target => by simp only [Sh.ev, h]
  | .targets => by simp only [Sh.ev, h]
  | .block => by simp only [Sh.ev, h]
  | .none => rfl
  | .of k => by simp only [Sh.ev, h]
  | .or2 a b => by simp only [Sh.ev, Sh.congr h a, Sh.congr h b]
theorem rowB_congr : ∀ (l : List Nd) (L : List Sh), (∀ t ∈ l, R t = R' t) → rowB l (L.map (Sh.ev R)) = rowB l (L.map (Sh.ev R'))
  | [], [], _ => rfl
  | [], _ :: _, _ => rfl
  | _ :: _, [], _ => rfl
  | t :: r, s :: q, h => by
    simp only [List.map_cons, rowB]
    rw [Sh.congr (h t (List.mem_cons_self ..)) s, rowB_congr r q (fun t ht => h t (List.mem_cons_of_mem _ ht))]
theorem all_congr (s : Sh) : ∀ (l : List Nd), (∀ t ∈ l, R t = R' t) → l.all (s.ev R) = l.all (s.ev R')
  | [], _ => rfl
  | t :: r, h => by rw [List.all_cons, List.all_cons, Sh.congr (h t (List.mem_cons_self ..)) s, all_congr s r (fun t ht => h t (List.mem_cons_of_mem _ ht))]
theorem params_congr : ∀ (l : List Nd) (g : Bool), (∀ t ∈ l, R t = R' t) → paramsB R g l = paramsB R' g l
  | [], g, _ => by simp [paramsB]
  | p :: r, g, h => by
    have h1 := h p (List.mem_cons_self ..)
    have h2 := fun g => params_congr r g (fun t ht => h t (List.mem_cons_of_mem _ ht))
    simp only [paramsB, h1, h2]
theorem catch_congr : ∀ (l : List Nd), (∀ t ∈ l, R t = R' t) → catchB R l = catchB R' l
  | [], _ => rfl
  | p :: r, h => by
    have h1 := h p (List.mem_cons_self ..)
    have h2 := catch_congr r (fun t ht => h t (List.mem_cons_of_mem _ ht))
    simp only [catchB, h1, h2]
theorem dropWhile_congr (s : Sh) : ∀ (l : List Nd), (∀ t ∈ l, R t = R' t) → l.dropWhile (s.ev R) = l.dropWhile (s.ev R')
  | [], _ => rfl
  | t :: r, h => by
    rw [List.dropWhile_cons, List.dropWhile_cons, Sh.congr (h t (List.mem_cons_self ..)) s, dropWhile_congr s r (fun t ht => h t (List.mem_cons_of_mem _ ht))]
theorem mem_dropWhile {p : Nd → Bool} {l : List Nd} {t : Nd} (h : t ∈ l.dropWhile p) : t ∈ l := (List.dropWhile_sublist p).mem h
theorem Fm.congr {T : Nd} (h : ∀ t ∈ T.kids, R t = R' t) : ∀ f : Fm, f.ev R T = f.ev R' T
  | .row l => rowB_congr _ l h
  | .some n s => by simp only [Fm.ev, all_congr s T.kids h]
  | .dfn => by
    simp only [Fm.ev]
    rw [params_congr _ _ (fun t ht => h t ((List.dropLast_sublist _).mem ht)), all_congr .block _ (fun t ht => h t (List.mem_of_mem_drop ht))]
  | .prm => by
    simp only [Fm.ev]
    have := rowB_congr T.kids [Sh.or2 .none .expr] h
    simp only [List.map_cons, List.map_nil] at this
    rw [this]
  | .tri => by
    simp only [Fm.ev]
    rw [catch_congr _ (fun t ht => h t (List.mem_of_mem_drop ht)), all_congr .block _ (fun t ht => h t (List.mem_of_mem_take ht))]
  | .exc => by
    simp only [Fm.ev]
    have := rowB_congr T.kids [Sh.or2 .none .expr, Sh.block] h
    simp only [List.map_cons, List.map_nil] at this
    rw [this]
  | .cmp s => by
    simp only [Fm.ev]
    have := rowB_congr (T.kids.take 3) [s, Sh.targets, Sh.expr] (fun t ht => h t (List.mem_of_mem_take ht))
    simp only [List.map_cons, List.map_nil] at this
    rw [this, all_congr .expr _ (fun t ht => h t (List.mem_of_mem_drop ht))]
  | .cll => by
    simp only [Fm.ev]
    rw [all_congr .expr _ (fun t ht => h t (List.mem_of_mem_take ht)), dropWhile_congr .expr _ (fun t ht => h t (List.mem_of_mem_drop ht))]
    rw [dropWhile_congr (.of 52) _ (fun t ht => h t (List.mem_of_mem_drop (mem_dropWhile ht)))]
    have := rowB_congr (((T.kids.drop 1).dropWhile (Sh.expr.ev R')).dropWhile ((Sh.of 52).ev R')) [Sh.of 40] (fun t ht => h t (List.mem_of_mem_drop (mem_dropWhile (mem_dropWhile ht))))
    simp only [List.map_cons, List.map_nil] at this
    rw [this]
end
theorem rightN_two : ∀ (n m : Nat) (T : Nd), T.depth ≤ n → T.depth ≤ m → rightN n T = rightN m T
  | 0, _, T, h, _ => by rw [T.depth_eq] at h; omega
  | _, 0, T, _, h => by rw [T.depth_eq] at h; omega
  | n + 1, m + 1, T, hn, hm => by
    have hc : ∀ f : Fm, f.ev (rightN n) T = f.ev (rightN m) T := fun f => f.congr fun t ht => by
      have hk := Nd.depth_kid ht
      exact rightN_two n m t (by omega) (by omega)
    simp only [rightN, hc]
theorem right_eq (T : Nd) : T.right = match formOf T.kind with
    | none => false
    | some x => x.1.ev T.text && (if T.kind = 32 then numB T else noNumB T) && x.2.ev Nd.right T := by
  have hd := T.depth_eq
  have hc : ∀ f : Fm, f.ev (rightN (depths T.kids)) T = f.ev Nd.right T := fun f => f.congr fun t ht => rightN_two _ _ t (depths_le ht) (Nat.le_refl _)
  unfold Nd.right
  rw [hd, rightN]
  simp only [hc]
  rfl
end
end Go.Proofs.YtjefhdlncikhmaaGreatDoor
