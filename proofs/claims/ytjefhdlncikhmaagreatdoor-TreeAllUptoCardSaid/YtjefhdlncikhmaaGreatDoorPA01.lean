/- Joined by a program: Nd1, Wlk2, FlP, GoA1, AllB1, Flt1. -/
import Derived.WalkKit
import Derived.WalkSpells
import Derived.WalkLawsBesides
import Derived.Lib.Hide
import Derived.Maps.AppendAt
import Derived.Deep.AppendLies
import Derived.RegionTactic
import Derived.OwnWalk
import Derived.Shelf.Strings.Builder1
import Derived.Shelf.Strings.Builder2
import Derived.Shelf.Strings.Trim
import Derived.Shelf.Small.Utf8
import Derived.Shelf.Small.Strs
import Derived.Shelf.Strings.BuilderF
import Derived.Shelf.Strings.BuilderK
import Derived.Shelf.Strings.Builder2Cap
import Derived.Shelf.Strings.Search1
import Derived.Shelf.Strings.Prefix
import Derived.Shelf.Unicode.Decode
import Derived.Shelf.Strings.Runes
import Derived.Shelf.Strings.AsciiSet
import Derived.Shelf.Bits.Mul64
import Derived.Shelf.Strings.Repeat
import Derived.Shelf.Unicode.DecodeSlow
import Derived.Shelf.Unicode.DecodeAny
import Derived.Shelf.Strings.BuilderCap
import Derived.Shelf.Slices.Turned
import Derived.Ground.SlgnProg
import Derived.Shelf.SlicesE.Clone
import Derived.Test.YtjefhdlncikhmaaGreatDoorProg
import Derived.Deep.RegionHeld3
import Derived.Deep.RegionWith
import Derived.Lib.MapLaws
import Derived.Lib.TrimUEq
import Derived.Lib.ValidLaws
import Derived.Lib.RuneBytes
import Derived.Lib.TrimAscii
import Derived.Laws.RangeAny
import Derived.Lib.AppendStr
import Derived.Laws.BytesArg
import Derived.Laws.Cover4
import Derived.BigCall
import Derived.BigQuiet
import Derived.Deep.QuietTactic
import Derived.LoopTactic
import Derived.Laws.DeepBits32
import Derived.Lib.Strings
import Derived.Laws.BitsAllLaws
import Derived.Shelf.Strings.BuilderRune
import Derived.Deep.RegionLaw
import Derived.Lib.UnsafeStr
import Derived.Lib.BufferWrite
import Derived.Laws.MakeOwn
import Derived.Deep.OwnRows
import Derived.Shelf.Unicode.ValidAny
import Derived.OneCell
import Derived.Lib.FrozenHead2
import Derived.Lib.OthersKept
import Derived.Test.YtjefhdlncikhmaaGreatDoorRows
import Derived.Deep.DeepCutAuto
import Derived.Deep.CutBlock
import Derived.RangeFuncBox
import Derived.RangeFuncNested
import Derived.RangeFuncBound
import Derived.RangeFuncCalls
import Derived.RangeFuncLeaves
import Derived.Shelf.Abstract
import Derived.Shelf.RegionOpen
import Derived.OwnWalkIn
import Derived.TacticsInMore
import Derived.LoopNIn
import Derived.LoopIn
import Derived.Laws.EntriesVeiled
import Derived.Test.YtjefhdlncikhmaaGreatDoorChecked
import Derived.Lib.SliceRun
import Derived.Lib.Walk
import Derived.Test.YtjefhdlncikhmaaGreatDoorPB01
import Derived.Test.YtjefhdlncikhmaaGreatDoorPB03
import Derived.Test.YtjefhdlncikhmaaGreatDoorPB04
import Derived.Test.YtjefhdlncikhmaaGreatDoorPB05
import Derived.Test.YtjefhdlncikhmaaGreatDoorPB06
import Derived.Test.YtjefhdlncikhmaaGreatDoorPB07
import Derived.Test.YtjefhdlncikhmaaGreatDoorPB08
import Derived.Test.YtjefhdlncikhmaaGreatDoorPB09
import Derived.Test.YtjefhdlncikhmaaGreatDoorPB10
import Derived.Test.YtjefhdlncikhmaaGreatDoorPB11
import Derived.Test.YtjefhdlncikhmaaGreatDoorPB12
import Derived.Test.YtjefhdlncikhmaaGreatDoorPB13
import Derived.Test.YtjefhdlncikhmaaGreatDoorPB14
import Derived.Test.YtjefhdlncikhmaaGreatDoorPB15
import Derived.Test.YtjefhdlncikhmaaGreatDoorPB16
import Derived.Test.YtjefhdlncikhmaaGreatDoorPB17
import Derived.Test.YtjefhdlncikhmaaGreatDoorPB18
import Derived.Test.YtjefhdlncikhmaaGreatDoorPB19
import Derived.Test.YtjefhdlncikhmaaGreatDoorPB20
import Derived.Test.YtjefhdlncikhmaaGreatDoorPB21
import Derived.Test.YtjefhdlncikhmaaGreatDoorPB22
import Derived.Test.YtjefhdlncikhmaaGreatDoorPB23
import Derived.Test.YtjefhdlncikhmaaGreatDoorPB24
import Derived.Test.YtjefhdlncikhmaaGreatDoorPB25
import Derived.Test.YtjefhdlncikhmaaGreatDoorPB26
import Derived.Test.YtjefhdlncikhmaaGreatDoorShelf
namespace Go.Proofs.YtjefhdlncikhmaaGreatDoor
section
set_option linter.unusedVariables false
set_option linter.unusedSimpArgs false
open Go.RowKit
set_option maxRecDepth 1000000
theorem counts_take (l : List Nd) (k : Nat) (t : Nd) (h : l[k]? = some t) : counts (l.take (k + 1)) = counts (l.take k) + t.count := by
  induction l generalizing k with
  | nil => simp at h
  | cons a r ih =>
    cases k with
    | zero => simp at h; subst h; simp [counts]
    | succ k =>
      rw [List.getElem?_cons_succ] at h
      rw [List.take_succ_cons, List.take_succ_cons, counts, counts, ih k h]; omega
theorem counts_take_le (l : List Nd) (k : Nat) : counts (l.take k) ≤ counts l := by
  induction l generalizing k with
  | nil => simp
  | cons a r ih =>
    cases k with
    | zero => simp [counts]
    | succ k => rw [List.take_succ_cons, counts, counts]; have := ih k; omega
mutual
theorem Nd.count_weight : ∀ T : Nd, T.count ≤ T.weight
  | .mk _ _ t _ m ks => by rw [Nd.count, Nd.weight]; have := counts_weights ks; omega
theorem counts_weights : ∀ l : List Nd, counts l ≤ weights l
  | [] => Nat.le_refl _
  | t :: r => by rw [counts, weights]; have := Nd.count_weight t; have := counts_weights r; omega
end
mutual
theorem Nd.depth_count : ∀ T : Nd, T.depth ≤ T.count
  | .mk _ _ t _ m ks => by rw [Nd.count, Nd.depth]; have := depths_counts ks; omega
theorem depths_counts : ∀ l : List Nd, depths l ≤ counts l
  | [] => Nat.le_refl _
  | t :: r => by rw [counts, depths]; have := Nd.depth_count t; have := depths_counts r; omega
end
end
section
set_option linter.unusedVariables false
set_option linter.unusedSimpArgs false
open Go.RowKit
set_option maxRecDepth 1000000
section
variable {σ : Type} (P : σ → Nat → Nd → Prop) (step : σ → Nat → Nd → σ × Bool)
mutual
/-- all that the walk comes to is expected. -/
def okF (s : σ) (n : Nat) : Nd → Prop
  | .mk k a t b m ks => P s n (.mk k a t b m ks) ∧ ((step s n (.mk k a t b m ks)).2 = true → okL (step s n (.mk k a t b m ks)).1 (n + 1) ks)
def okL (s : σ) (n : Nat) : List Nd → Prop
  | [] => True
  | t :: r => okF s n t ∧ ((walkF step s n t).2 = true → okL (walkF step s n t).1 n r)
end
end
section
variable {σ : Type} {P : σ → Nat → Nd → Prop} {step : σ → Nat → Nd → σ × Bool}
theorem okF.here {s : σ} {n : Nat} {T : Nd} (h : okF P step s n T) : P s n T := by
  cases T; rw [okF] at h; exact h.1
theorem okF.kids {s : σ} {n : Nat} {T : Nd} (h : okF P step s n T) : (step s n T).2 = true → okL P step (step s n T).1 (n + 1) T.kids := by
  cases T; rw [okF] at h; exact h.2
theorem okF.of {s : σ} {n : Nat} {T : Nd} (h : P s n T) (hk : (step s n T).2 = true → okL P step (step s n T).1 (n + 1) T.kids) : okF P step s n T := by
  cases T; rw [okF]; exact ⟨h, hk⟩
theorem okL_drop {l : List Nd} {k : Nat} {t : Nd} {s : σ} {n : Nat} (h : l[k]? = some t) (ho : okL P step s n (l.drop k)) : okF P step s n t ∧ ((walkF step s n t).2 = true → okL P step (walkF step s n t).1 n (l.drop (k + 1))) := by
  obtain ⟨h1, rfl⟩ := List.getElem?_eq_some_iff.1 h
  rw [List.drop_eq_getElem_cons h1, okL] at ho
  exact ho
end
/-- what a callback does to a state that lies in memory: k more calls may come. -/
structure CbP {σ : Type} (P : σ → Nat → Nd → Prop) (Q : Nat → Prop) (Rep : Nat → σ → World → Prop) (step : σ → Nat → Nd → σ × Bool) (w0 : World) (f : FuncId) (caps : Array Value) : Prop where
  q0 : ∀ b, Q b → w0.heap.size ≤ b
  later : ∀ k s W W', Rep k s W → Below W.heap.size W W' → Rep k s W'
  less : ∀ k s W, Rep (k + 1) s W → Rep k s W
  q1 : ∀ k s W, Rep k s W → ∀ b, Q b → b < W.heap.size
  run : ∀ args W, (callFunc f args).run Tryz.prog W = .ok (.enter f args) W
  call : ∀ k s W n T A c K d, P s n T → Below w0.heap.size w0 W → Rep (k + 1) s W → NodeAt W T A c K d → T.weight ≤ 1048576 → n ≤ 1048576 →
    Calls Tryz.prog f (#[.int .i64 ((n : Nat) : Int), ndV T A c K d] ++ caps) W fun e w' => e = .returned (.bool (step s n T).2) ∧ Rep k (step s n T).1 w' ∧ KeepsQ Q W w'
theorem CbP.lessN {σ : Type} {P : σ → Nat → Nd → Prop} {Q : Nat → Prop} {Rep : Nat → σ → World → Prop} {step : σ → Nat → Nd → σ × Bool} {w0 : World} {f : FuncId} {caps : Array Value} (h : CbP P Q Rep step w0 f caps) (j k : Nat) (s : σ) (W : World) (hR : Rep (k + j) s W) : Rep k s W := by
  induction j with
  | zero => exact hR
  | succ j ih => exact ih (h.less _ _ _ hR)
set_option maxHeartbeats 16000000 in
theorem walkP_ok {σ : Type} {P : σ → Nat → Nd → Prop} {Q : Nat → Prop} {Rep : Nat → σ → World → Prop} {step : σ → Nat → Nd → σ × Bool} {w0 : World} {f : FuncId} {caps : Array Value} (hCb : CbP P Q Rep step w0 f caps) (T : Nd) : ∀ (A : Option Addr) (c : Nat) (K : Option Addr) (d : Nat) (n k : Nat) (s : σ) (w : World), okF P step s n T → NodeAt w0 T A c K d → Below w0.heap.size w0 w → Rep (k + T.count) s w → T.weight ≤ 1048576 → n + T.depth ≤ 1048576 →
    Calls Tryz.prog 28 #[.int .i64 ((n : Nat) : Int), ndV T A c K d, .func (.func f) #[] caps] w fun e w' => e = .returned (.bool (walkF step s n T).2) ∧ Rep k (walkF step s n T).1 w' ∧ KeepsQ Q w w' := by
  induction T using Nd.ind with
  | h T ih =>
    intro A c K d n k s w hok hN hb0 hR hW hD
    have hrn := hCb.run
    have HOK := Lib.hid hok.kids
    have hTd := T.depth_eq
    have hNw := hN.later hb0
    have hbx := (Below.refl w.heap.size w).alloc (Nat.le_refl _) (.cells #[.int .i64 T.kind, .int .i64 T.pos, .string T.text, .bool T.neg, .slice A T.mag.length c, .slice K T.kids.length d] 27)
    have hq1 := hCb.q1 _ _ _ hR
    rw [T.count_eq, show k + (counts T.kids + 1) = (k + counts T.kids) + 1 by omega] at hR
    have hI := hCb.call (k + counts T.kids) s (w.alloc (.cells #[.int .i64 T.kind, .int .i64 T.pos, .string T.text, .bool T.neg, .slice A T.mag.length c, .slice K T.kids.length d] 27)) n T A c K d hok.here (hb0.trans (hbx.mono hb0.size)) (hCb.later _ _ _ _ hR hbx) (hNw.later hbx) hW (by omega)
    unfold ndV at hI
    have HI := Lib.hid hI
    have hb1 := hbx
    obtain ⟨c0, c1, c2, c3, c4, c5⟩ := (cellsN_new w T A c K d 27).box
    have hkp := hNw.parts
    obtain ⟨hm1, hm2, _, _, hk1, hk2, _, _, hts, _⟩ := hkp
    unfold maxLen at hm2 hk2 hts
    have HK := Lib.hid (fun (i : Nat) (t : Nd) (hi : T.kids[i]? = some t) => hNw.kid hi)
    have HK0 := Lib.hid (fun (i : Nat) (t : Nd) (hi : T.kids[i]? = some t) => hN.kid hi)
    have HQ := Lib.hid hq1
    have HE := Lib.hid (walkF_eq step s n T)
    have HB0 := Lib.hid hb0
    have hns : n ≤ 1048576 := by omega
    have hwl : w.heap.size < (w.alloc (.cells #[.int .i64 T.kind, .int .i64 T.pos, .string T.text, .bool T.neg, .slice A T.mag.length c, .slice K T.kids.length d] 27)).heap.size := by simp
    have hkw : T.kids.length ≤ 1048576 := by have := weights_len T.kids; have := T.weight_eq; omega
    clear hI hNw hN hbx hq1 hR hb0 hok
    unfold ndV
    generalize step s n T = r at *
    obtain ⟨s1, bb⟩ := r
    cases bb with
    | false =>
      have HE2 := Lib.hid (show walkF step s n T = (s1, false) from HE.out)
      clear HE
      go_enter Tryz.func28, Tryz.ntmps28
      go_wp2_with (with_reducible refine HI.out.mono ?_; rintro e w3 ⟨rfl, hr3, hk3⟩)
      go_ret
      exact ⟨by rw [HE2.out]; rfl, by rw [HE2.out]; exact hCb.lessN _ _ _ _ hr3, (KeepsQ.below hb1).trans hk3⟩
    | true =>
      have HE2 := Lib.hid (show walkF step s n T = walkL step s1 (n + 1) T.kids from HE.out)
      clear HE
      go_enter Tryz.func28, Tryz.ntmps28
      go_wp2_with (with_reducible refine HI.out.mono ?_; rintro e w3 ⟨rfl, hr3, hk3⟩; have p5 := cellQ hk3 (fun x => absurd (HQ.out _ x) (by omega)) c5; have p4 := cellQ hk3 (fun x => absurd (HQ.out _ x) (by omega)) c4; have hlw3 := World.block_lt_of_cell? _ _ p5)
      have HK3 := Lib.hid ((KeepsQ.below hb1).trans hk3)
      clear hk3
      have HOL := Lib.hid (HOK.out trivial)
      clear HOK
      go_loopw [17] (fun iv wr => ∃ (i : Nat) (s' : σ), iv = .int .i64 i ∧ i ≤ T.kids.length ∧ Hid (okL P step s' (n + 1) (T.kids.drop i)) ∧ Hid (walkL step s1 (n + 1) T.kids = walkL step s' (n + 1) (T.kids.drop i)) ∧ Hid (Rep (k + counts (T.kids.drop i)) s' wr) ∧ Hid (KeepsQ Q w3 wr)) (fun iv _ => T.kids.length - (intOf iv).toNat)
      case atStart => exact ⟨0, s1, rfl, Nat.zero_le _, Lib.hid (by have := HOL.out; simpa using this), Lib.hid (by simp), Lib.hid (by simpa using hr3), Lib.hid (KeepsQ.below (Below.refl _ _))⟩
      case round =>
        obtain ⟨i, s', rfl, hi, hOl, hWl, hRr, hKr⟩ := hrel
        have d5 := cellQ hKr.out (fun x => absurd (HQ.out _ x) (by omega)) p5
        have hlw := World.block_lt_of_cell? _ _ d5
        have HKw := Lib.hid (HK3.out.trans hKr.out)
        by_cases hil : i < T.kids.length
        · have o1 : decide ((i : Int) < (T.kids.length : Int)) = true := decide_eq_true (by omega)
          have o2 : decide (i < T.kids.length) = true := decide_eq_true hil
          obtain ⟨t, ht⟩ : ∃ t, T.kids[i]? = some t := ⟨_, List.getElem?_eq_getElem hil⟩
          obtain ⟨b, off, A', c', K', d', hKe, hC, hNt⟩ := HK.out i t ht
          obtain ⟨b', off', A2, c2', K2, d2, hKe2, hC2, hNt0⟩ := HK0.out i t ht
          subst hKe
          have hbl : Below w0.heap.size w0 wr := HB0.out.trans ((HKw.out.low HB0.out.size hCb.q0))
          injection hKe2 with e1
          injection e1 with e1 e2
          subst e1 e2
          have hCw := hC2.later hbl
          obtain ⟨n0, n1, n2, n3, n4, n5⟩ := hCw
          have htm := List.mem_of_getElem? ht
          have htd := T.depth_kid htm
          have htw := T.weight_kid htm
          have hbt := (Below.refl wr.heap.size wr).alloc (Nat.le_refl _) (.cells #[.int .i64 t.kind, .int .i64 t.pos, .string t.text, .bool t.neg, .slice A2 t.mag.length c2', .slice K2 t.kids.length d2] 27)
          have hR2 := hRr.out
          rw [counts_drop ht, show k + (t.count + counts (T.kids.drop (i + 1))) = (k + counts (T.kids.drop (i + 1))) + t.count by omega] at hR2
          have hok2 := okL_drop ht hOl.out
          have hI := ih t htm A2 c2' K2 d2 (n + 1) (k + counts (T.kids.drop (i + 1))) s' (wr.alloc (.cells #[.int .i64 t.kind, .int .i64 t.pos, .string t.text, .bool t.neg, .slice A2 t.mag.length c2', .slice K2 t.kids.length d2] 27)) hok2.1 hNt0 (hbl.trans (hbt.mono hbl.size)) (hCb.later _ _ _ _ hR2 hbt) (by omega) (by omega)
          unfold ndV at hI
          rw [show ((n + 1 : Nat) : Int) = (n : Int) + 1 by omega] at hI
          have HI2 := Lib.hid hI
          have HO2 := Lib.hid hok2.2
          have HWD := Lib.hid (walkL_drop step ht s' (n + 1))
          clear hI hR2 hC hNt hC2 hNt0 ht htm hbl hok2
          generalize walkF step s' (n + 1) t = r at *
          obtain ⟨s2, bb⟩ := r
          cases bb with
          | true =>
            go_wp2_with (go_at_call 28; refine HI2.out.mono ?_; rintro e w5 ⟨rfl, hr5, hk5⟩)
            go_roundw
            case rel => exact ⟨i + 1, s2, by go_num, by omega, Lib.hid (HO2.out trivial), Lib.hid (hWl.out.trans HWD.out), Lib.hid hr5, Lib.hid (hKr.out.trans ((KeepsQ.below hbt).trans hk5))⟩
            case measure => simp [intOf]; omega
          | false =>
            go_wp2_with (go_at_call 28; refine HI2.out.mono ?_; rintro e w5 ⟨rfl, hr5, hk5⟩)
            go_ret
            have hEE : walkF step s n T = (s2, false) := HE2.out.trans (hWl.out.trans HWD.out)
            exact ⟨by rw [hEE]; rfl, by rw [hEE]; exact hCb.lessN _ _ _ _ hr5, HKw.out.trans ((KeepsQ.below hbt).trans hk5)⟩
        · have o1 : decide ((i : Int) < (T.kids.length : Int)) = false := decide_eq_false (by omega)
          have o2 : decide (i < T.kids.length) = false := decide_eq_false hil
          have hW2 := hWl.out
          have hRz := hRr.out
          rw [List.drop_eq_nil_of_le (by omega)] at hW2 hRz
          rw [walkL] at hW2
          have HWZ := Lib.hid (show walkF step s n T = (s', true) from HE2.out.trans hW2)
          have HRZ := Lib.hid (show Rep k s' wr from hRz)
          clear hW2 hRz
          go_wp2_with fail
          go_ret
          exact ⟨by rw [HWZ.out]; rfl, by rw [HWZ.out]; exact HRZ.out, HKw.out⟩
end
section
set_option linter.unusedVariables false
set_option linter.unusedSimpArgs false
set_option maxRecDepth 1000000
mutual
/-- the nodes of a tree, a node ahead of its kids, each with how many it stands within. -/
def flF (n : Nat) : Nd → List (Nat × Nd)
  | .mk k a t b m ks => (n, .mk k a t b m ks) :: flL (n + 1) ks
def flL (n : Nat) : List Nd → List (Nat × Nd)
  | [] => []
  | t :: r => flF n t ++ flL n r
end
theorem flF_eq (n : Nat) (T : Nd) : flF n T = (n, T) :: flL (n + 1) T.kids := by cases T; rw [flF]; rfl
theorem flL_len : ∀ (l : List Nd), (∀ t ∈ l, ∀ n, (flF n t).length = t.count) → ∀ n, (flL n l).length = counts l
  | [], _, n => by rw [flL, counts]; rfl
  | t :: r, h, n => by
    rw [flL, counts, List.length_append, h t (List.mem_cons_self ..), flL_len r (fun t ht => h t (List.mem_cons_of_mem _ ht))]
theorem flF_len (T : Nd) : ∀ n, (flF n T).length = T.count := by
  induction T using Nd.ind with
  | h T ih =>
    intro n
    rw [flF_eq, List.length_cons, flL_len T.kids ih, T.count_eq]
theorem flL_snoc (n : Nat) : ∀ (l : List Nd) (k : Nat) (t : Nd), l[k]? = some t → flL n (l.take (k + 1)) = flL n (l.take k) ++ flF n t
  | [], k, t, h => by simp at h
  | a :: r, 0, t, h => by simp at h; subst h; simp [flL]
  | a :: r, k + 1, t, h => by
    rw [List.take_succ_cons, List.take_succ_cons, flL, flL, flL_snoc n r k t (by simpa using h), List.append_assoc]
/-- one more; on, if it is not told to stop. -/
def stepA (stop : Int) (s : Nat) (_ : Nat) (_ : Nd) : Nat × Bool := (s + 1, !((s : Int) + 1 == stop))
/-- what is expected. -/
def PA (F : List (Nat × Nd)) (stop : Int) (s n : Nat) (T : Nd) : Prop := F[s]? = some (n, T) ∧ ¬ (0 < s ∧ (s : Int) = stop)
theorem drop_head {α : Type} {F : List α} {s : Nat} {x : α} {r : List α} (h : F.drop s = x :: r) : F[s]? = some x ∧ F.drop (s + 1) = r := by
  have h0 : (F.drop s)[0]? = some x := by rw [h]; rfl
  rw [List.getElem?_drop, Nat.add_zero] at h0
  refine ⟨h0, ?_⟩
  have := congrArg List.tail h
  rwa [List.tail_drop, List.tail_cons] at this
theorem drop_more {α : Type} {F : List α} {s : Nat} {l r : List α} (h : F.drop s = l ++ r) : F.drop (s + l.length) = r := by
  rw [← List.drop_drop, h, List.drop_left]
theorem okL_fl (F : List (Nat × Nd)) (stop : Int) : ∀ (l : List Nd), (∀ t ∈ l, ∀ s n rest, F.drop s = flF n t ++ rest → ¬ (0 < s ∧ (s : Int) = stop) → okF (PA F stop) (stepA stop) s n t ∧ ((walkF (stepA stop) s n t).2 = true → (walkF (stepA stop) s n t).1 = s + t.count ∧ ¬ (0 < s + t.count ∧ ((s + t.count : Nat) : Int) = stop))) →
    ∀ s n rest, F.drop s = flL n l ++ rest → ¬ (0 < s ∧ (s : Int) = stop) → okL (PA F stop) (stepA stop) s n l ∧ ((walkL (stepA stop) s n l).2 = true → (walkL (stepA stop) s n l).1 = s + counts l ∧ ¬ (0 < s + counts l ∧ ((s + counts l : Nat) : Int) = stop))
  | [], _, s, n, rest, _, hs => ⟨by rw [okL]; trivial, fun _ => ⟨by rw [walkL, counts]; rfl, by rw [counts]; exact hs⟩⟩
  | t :: r, h, s, n, rest, hF, hs => by
    rw [flL, List.append_assoc] at hF
    obtain ⟨h1, h2⟩ := h t (List.mem_cons_self ..) s n _ hF hs
    have hd := drop_more hF
    rw [flF_len] at hd
    rw [okL, walkL, counts]
    by_cases hc : (walkF (stepA stop) s n t).2 = true
    · obtain ⟨h3, h4⟩ := h2 hc
      obtain ⟨h5, h6⟩ := okL_fl F stop r (fun t ht => h t (List.mem_cons_of_mem _ ht)) (s + t.count) n rest hd h4
      rw [if_pos hc, h3]
      exact ⟨⟨h1, fun _ => h5⟩, fun hx => by
        have := h6 hx
        rw [Nat.add_assoc] at this
        exact this⟩
    · rw [if_neg hc]
      exact ⟨⟨h1, fun hx => absurd hx hc⟩, fun hx => Bool.noConfusion hx⟩
theorem okF_fl (F : List (Nat × Nd)) (stop : Int) (T : Nd) : ∀ s n rest, F.drop s = flF n T ++ rest → ¬ (0 < s ∧ (s : Int) = stop) → okF (PA F stop) (stepA stop) s n T ∧ ((walkF (stepA stop) s n T).2 = true → (walkF (stepA stop) s n T).1 = s + T.count ∧ ¬ (0 < s + T.count ∧ ((s + T.count : Nat) : Int) = stop)) := by
  induction T using Nd.ind with
  | h T ih =>
    intro s n rest hF hs
    rw [flF_eq, List.cons_append] at hF
    obtain ⟨h1, h2⟩ := drop_head hF
    rw [walkF_eq, T.count_eq]
    by_cases hc : (stepA stop s n T).2 = true
    · have hc2 : ¬ (0 < s + 1 ∧ ((s + 1 : Nat) : Int) = stop) := by
        intro ⟨_, e⟩
        have : ((s : Int) + 1 == stop) = true := by simp; omega
        simp [stepA, this] at hc
      obtain ⟨h3, h4⟩ := okL_fl F stop T.kids ih (s + 1) (n + 1) rest h2 hc2
      rw [if_pos hc]
      exact ⟨okF.of ⟨h1, hs⟩ fun _ => h3, fun hx => by
        have := h4 hx
        rw [show s + 1 + counts T.kids = s + (counts T.kids + 1) by omega] at this
        exact this⟩
    · rw [if_neg hc]
      exact ⟨okF.of ⟨h1, hs⟩ fun hx => absurd hx hc, fun hx => Bool.noConfusion hx⟩
theorem endL (stop : Int) : ∀ (l : List Nd), (∀ t ∈ l, ∀ s n, (walkF (stepA stop) s n t).2 = false → 0 < (walkF (stepA stop) s n t).1 ∧ ((walkF (stepA stop) s n t).1 : Int) = stop) → ∀ s n, (walkL (stepA stop) s n l).2 = false → 0 < (walkL (stepA stop) s n l).1 ∧ ((walkL (stepA stop) s n l).1 : Int) = stop
  | [], _, s, n, h => by rw [walkL] at h; exact Bool.noConfusion h
  | t :: r, hl, s, n, h => by
    rw [walkL] at h ⊢
    by_cases hc : (walkF (stepA stop) s n t).2 = true
    · rw [if_pos hc] at h ⊢
      exact endL stop r (fun t ht => hl t (List.mem_cons_of_mem _ ht)) _ _ h
    · rw [if_neg hc]
      exact hl t (List.mem_cons_self ..) s n (by simpa using hc)
/-- a walk that was stopped stopped where it was told to. -/
theorem endF (stop : Int) (T : Nd) : ∀ s n, (walkF (stepA stop) s n T).2 = false → 0 < (walkF (stepA stop) s n T).1 ∧ ((walkF (stepA stop) s n T).1 : Int) = stop := by
  induction T using Nd.ind with
  | h T ih =>
    intro s n h
    rw [walkF_eq] at h ⊢
    by_cases hc : (stepA stop s n T).2 = true
    · rw [if_pos hc] at h ⊢
      exact endL stop T.kids ih _ _ h
    · rw [if_neg hc]
      have : ((s : Int) + 1 == stop) = true := by simpa [stepA] using hc
      have e : (s : Int) + 1 = stop := by simpa using this
      exact ⟨Nat.succ_pos _, by show ((s + 1 : Nat) : Int) = stop; omega⟩
end
section
set_option linter.unusedVariables false
set_option linter.unusedSimpArgs false
open Go.RowKit
set_option maxRecDepth 1000000
/-- the six variables that the body captures: blocks of one cell each. -/
structure GA (b s : Nat) (over : Bool) (lv av : Value) (stop : Int) (w : World) : Prop where
  l : w.heap[b]? = some (.cells #[lv] 25 (0, 0))
  a : w.heap[b + 1]? = some (.cells #[av] 42 (0, 0))
  p : w.heap[b + 2]? = some (.cells #[.int .i64 stop] 3 (0, 0))
  n : w.heap[b + 3]? = some (.cells #[.int .i64 s] 3 (0, 0))
  o : w.heap[b + 4]? = some (.cells #[.bool true] 4 (0, 0))
  v : w.heap[b + 5]? = some (.cells #[.bool over] 4 (0, 0))
theorem GA.later {b s : Nat} {over : Bool} {lv av : Value} {stop : Int} {w w' : World} (h : GA b s over lv av stop w) (hb : Below w.heap.size w w') : GA b s over lv av stop w' :=
  have lt : ∀ {k : Nat} {o : Obj}, w.heap[k]? = some o → k < w.heap.size := fun h => (Array.getElem?_eq_some_iff.1 h).1
  ⟨(hb.5 _ (lt h.l)).trans h.l, (hb.5 _ (lt h.a)).trans h.a, (hb.5 _ (lt h.p)).trans h.p, (hb.5 _ (lt h.n)).trans h.n, (hb.5 _ (lt h.o)).trans h.o, (hb.5 _ (lt h.v)).trans h.v⟩
theorem set_otherA {w : World} {a k : Nat} (u : Value) (h : k ≠ a) : (w.setCell ⟨a, 0, none⟩ u).heap[k]? = w.heap[k]? := Below.heap_setCell _ _ _ _ (fun e => h e)
theorem keepsQ_setA {b X : Nat} {w w' : World} (h : KeepsQ (fun k => b + 3 ≤ k ∧ k ≤ b + 5) w w') (h1 : b + 3 ≤ X) (h2 : X ≤ b + 5) (u : Value) : KeepsQ (fun k => b + 3 ≤ k ∧ k ≤ b + 5) w (w'.setCell ⟨X, 0, none⟩ u) := keepsQ_set h ⟨h1, h2⟩ u
theorem GA.put {b s : Nat} {over ov2 : Bool} {lv av : Value} {stop : Int} {w w1 : World} (h : GA b s over lv av stop w) (hk : ∀ j, b ≤ j → j ≤ b + 5 → w1.heap[j]? = w.heap[j]?) : GA b (s + 1) ov2 lv av stop (((w1.setCell ⟨b + 4, 0, none⟩ (.bool true)).setCell ⟨b + 3, 0, none⟩ (.int .i64 ((s : Int) + 1))).setCell ⟨b + 5, 0, none⟩ (.bool ov2)) := by
  have l0 := (hk b (by omega) (by omega)).trans h.l
  have l1 := (hk (b + 1) (by omega) (by omega)).trans h.a
  have l2 := (hk (b + 2) (by omega) (by omega)).trans h.p
  have l3 := (hk (b + 3) (by omega) (by omega)).trans h.n
  have l4 := (hk (b + 4) (by omega) (by omega)).trans h.o
  have l5 := (hk (b + 5) (by omega) (by omega)).trans h.v
  refine ⟨?_, ?_, ?_, ?_, ?_, ?_⟩
  · exact (set_otherA _ (by omega)).trans ((set_otherA _ (by omega)).trans ((set_otherA _ (by omega)).trans l0))
  · exact (set_otherA _ (by omega)).trans ((set_otherA _ (by omega)).trans ((set_otherA _ (by omega)).trans l1))
  · exact (set_otherA _ (by omega)).trans ((set_otherA _ (by omega)).trans ((set_otherA _ (by omega)).trans l2))
  · have := one_setCell (u := Value.int .i64 ((s : Int) + 1)) ((set_otherA (w := w1) (a := b + 4) (.bool true) (by omega)).trans l3)
    exact (set_otherA _ (by omega)).trans this
  · exact (set_otherA _ (by omega)).trans ((set_otherA _ (by omega)).trans (one_setCell l4))
  · exact one_setCell ((set_otherA _ (by omega)).trans ((set_otherA _ (by omega)).trans l5))
set_option maxHeartbeats 8000000 in
theorem goesA_ok (b g gA N cA cB s n : Nat) (stop : Int) (T : Nd) (A : Option Addr) (c : Nat) (K : Option Addr) (d : Nat) (A' : Option Addr) (c' : Nat) (K' : Option Addr) (d' : Nat) (w : World) (hG : GA b s false (.slice (some ⟨g, 0, none⟩) N cA) (.slice (some ⟨gA, 0, none⟩) N cB) stop w) (hs : s < N) (hN1 : N ≤ 1000000) (hcA : N ≤ cA) (hcA2 : cA ≤ maxLen) (hcB : N ≤ cB) (hcB2 : cB ≤ maxLen) (hst : -9223372036854775808 ≤ stop ∧ stop ≤ 9223372036854775807) (hn : n ≤ 1048576)
    (hC : CellsN w g (s * 6) T A' c' K' d') (ha : w.cell? ⟨gA, s, none⟩ = some (.int .i64 n)) (hNr : NodeAt w T A' c' K' d') (hN : NodeAt w T A c K d) (hg1 : g < b) (hg2 : gA < b) :
    Calls Tryz.prog 42 #[.int .i64 ((n : Nat) : Int), ndV T A c K d, .pointer (some ⟨b + 4, 0, none⟩), .pointer (some ⟨b + 5, 0, none⟩), .pointer (some ⟨b + 3, 0, none⟩), .pointer (some ⟨b, 0, none⟩), .pointer (some ⟨b + 1, 0, none⟩), .pointer (some ⟨b + 2, 0, none⟩)] w fun e w' =>
      e = .returned (.bool (!((s : Int) + 1 == stop))) ∧ GA b (s + 1) ((s : Int) + 1 == stop) (.slice (some ⟨g, 0, none⟩) N cA) (.slice (some ⟨gA, 0, none⟩) N cB) stop w' ∧ KeepsQ (fun k => b + 3 ≤ k ∧ k ≤ b + 5) w w' := by
  have hb1 := (Below.refl w.heap.size w).alloc (Nat.le_refl _) (.cells #[.int .i64 T.kind, .int .i64 T.pos, .string T.text, .bool T.neg, .slice A T.mag.length c, .slice K T.kids.length d] 27)
  have hG1 := hG.later hb1
  have c0 := cell_of_one hG1.l
  have c1 := cell_of_one hG1.a
  have c2 := cell_of_one hG1.p
  have c3 := cell_of_one hG1.n
  have c4 := cell_of_one hG1.o
  have c5 := cell_of_one hG1.v
  have f3 := free_of_one hG1.n
  have f4 := free_of_one hG1.o
  have f5 := free_of_one hG1.v
  have lb5 : b + 5 < w.heap.size := (Array.getElem?_eq_some_iff.1 hG.v).1
  obtain ⟨x0, x1, x2, x3, x4, x5⟩ := (cellsN_new w T A c K d 27).box
  obtain ⟨n0, n1, n2, n3, n4, n5⟩ := hC.later hb1
  have ca := cell_later hb1 ha
  have hs1 : (w.alloc (.cells #[.int .i64 T.kind, .int .i64 T.pos, .string T.text, .bool T.neg, .slice A T.mag.length c, .slice K T.kids.length d] 27)).heap.size = w.heap.size + 1 := by simp
  have lg := World.block_lt_of_cell? _ _ hC.1
  have lgA := World.block_lt_of_cell? _ _ ha
  have hm := hN.parts
  obtain ⟨hm1, hm2, _, _, hk1, hk2, _, _, hts, _⟩ := hm
  have hSm := fun (W : World) (hb : Below (w.alloc (.cells #[.int .i64 T.kind, .int .i64 T.pos, .string T.text, .bool T.neg, .slice A T.mag.length c, .slice K T.kids.length d] 27)).heap.size (w.alloc (.cells #[.int .i64 T.kind, .int .i64 T.pos, .string T.text, .bool T.neg, .slice A T.mag.length c, .slice K T.kids.length d] 27)) W) => same_ok true T.depth T T (Alike.refl _ _) (Nat.le_refl _) A c K d A' c' K' d' W (hN.later (hb1.trans (hb.mono hb1.size))) (hNr.later (hb1.trans (hb.mono hb1.size)))
  unfold ndV at hSm
  have HS := Lib.hid hSm
  have HG := Lib.hid hG1
  have HB1 := Lib.hid hb1
  unfold maxLen at hm2 hk2 hts hcA2 hcB2
  clear hSm hG hG1 hC ha hNr hN hb1
  unfold ndV
  go_enter Tryz.func42, Tryz.ntmps42
  go_wp2_with fail
  generalize w.alloc (.cells #[.int .i64 T.kind, .int .i64 T.pos, .string T.text, .bool T.neg, .slice A T.mag.length c, .slice K T.kids.length d] 27) = w1 at *
  have HPK : ∀ W : World, Below w1.heap.size w1 W → (W.cell? ⟨b + 4, 0, none⟩ = some (.bool true) ∧ W.frozen? ⟨b + 4, 0, none⟩ = false ∧ W.cell? ⟨b + 5, 0, none⟩ = some (.bool false) ∧ W.cell? ⟨b + 3, 0, none⟩ = some (.int .i64 s) ∧ W.cell? ⟨b, 0, none⟩ = some (.slice (some ⟨g, 0, none⟩) N cA) ∧ W.cell? ⟨b + 1, 0, none⟩ = some (.slice (some ⟨gA, 0, none⟩) N cB) ∧ W.cell? ⟨gA, s, none⟩ = some (.int .i64 n) ∧ W.cell? ⟨w.heap.size, 0, none⟩ = some (.int .i64 T.kind) ∧ W.cell? ⟨w.heap.size, 1, none⟩ = some (.int .i64 T.pos) ∧ W.cell? ⟨w.heap.size, 2, none⟩ = some (.string T.text) ∧ W.cell? ⟨w.heap.size, 3, none⟩ = some (.bool T.neg) ∧ W.cell? ⟨w.heap.size, 4, none⟩ = some (.slice A T.mag.length c) ∧ W.cell? ⟨w.heap.size, 5, none⟩ = some (.slice K T.kids.length d) ∧ W.cell? ⟨g, s * 6, none⟩ = some (.int .i64 T.kind) ∧ W.cell? ⟨g, s * 6 + 1, none⟩ = some (.int .i64 T.pos) ∧ W.cell? ⟨g, s * 6 + 2, none⟩ = some (.string T.text) ∧ W.cell? ⟨g, s * 6 + 3, none⟩ = some (.bool T.neg) ∧ W.cell? ⟨g, s * 6 + 4, none⟩ = some (.slice A' T.mag.length c') ∧ W.cell? ⟨g, s * 6 + 5, none⟩ = some (.slice K' T.kids.length d') ∧ b + 5 < W.heap.size ∧ w.heap.size < W.heap.size ∧ g < W.heap.size ∧ gA < W.heap.size) := fun W h => ⟨cell_later h c4, (h.frozen (p := ⟨b + 4, 0, none⟩) (by show b + 4 < _; omega)).trans f4, cell_later h c5, cell_later h c3, cell_later h c0, cell_later h c1, cell_later h ca, cell_later h x0, cell_later h x1, cell_later h x2, cell_later h x3, cell_later h x4, cell_later h x5, cell_later h n0, cell_later h n1, cell_later h n2, cell_later h n3, cell_later h n4, cell_later h n5, by have := h.size; omega, by have := h.size; omega, by have := h.size; omega, by have := h.size; omega⟩
  have HPS : ∀ W : World, (W.cell? ⟨b + 4, 0, none⟩ = some (.bool true) ∧ W.frozen? ⟨b + 4, 0, none⟩ = false ∧ W.cell? ⟨b + 5, 0, none⟩ = some (.bool false) ∧ W.cell? ⟨b + 3, 0, none⟩ = some (.int .i64 s) ∧ W.cell? ⟨b, 0, none⟩ = some (.slice (some ⟨g, 0, none⟩) N cA) ∧ W.cell? ⟨b + 1, 0, none⟩ = some (.slice (some ⟨gA, 0, none⟩) N cB) ∧ W.cell? ⟨gA, s, none⟩ = some (.int .i64 n) ∧ W.cell? ⟨w.heap.size, 0, none⟩ = some (.int .i64 T.kind) ∧ W.cell? ⟨w.heap.size, 1, none⟩ = some (.int .i64 T.pos) ∧ W.cell? ⟨w.heap.size, 2, none⟩ = some (.string T.text) ∧ W.cell? ⟨w.heap.size, 3, none⟩ = some (.bool T.neg) ∧ W.cell? ⟨w.heap.size, 4, none⟩ = some (.slice A T.mag.length c) ∧ W.cell? ⟨w.heap.size, 5, none⟩ = some (.slice K T.kids.length d) ∧ W.cell? ⟨g, s * 6, none⟩ = some (.int .i64 T.kind) ∧ W.cell? ⟨g, s * 6 + 1, none⟩ = some (.int .i64 T.pos) ∧ W.cell? ⟨g, s * 6 + 2, none⟩ = some (.string T.text) ∧ W.cell? ⟨g, s * 6 + 3, none⟩ = some (.bool T.neg) ∧ W.cell? ⟨g, s * 6 + 4, none⟩ = some (.slice A' T.mag.length c') ∧ W.cell? ⟨g, s * 6 + 5, none⟩ = some (.slice K' T.kids.length d') ∧ b + 5 < W.heap.size ∧ w.heap.size < W.heap.size ∧ g < W.heap.size ∧ gA < W.heap.size) → ((W.setCell ⟨b + 4, 0, none⟩ (.bool true)).cell? ⟨b + 4, 0, none⟩ = some (.bool true) ∧ (W.setCell ⟨b + 4, 0, none⟩ (.bool true)).frozen? ⟨b + 4, 0, none⟩ = false ∧ (W.setCell ⟨b + 4, 0, none⟩ (.bool true)).cell? ⟨b + 5, 0, none⟩ = some (.bool false) ∧ (W.setCell ⟨b + 4, 0, none⟩ (.bool true)).cell? ⟨b + 3, 0, none⟩ = some (.int .i64 s) ∧ (W.setCell ⟨b + 4, 0, none⟩ (.bool true)).cell? ⟨b, 0, none⟩ = some (.slice (some ⟨g, 0, none⟩) N cA) ∧ (W.setCell ⟨b + 4, 0, none⟩ (.bool true)).cell? ⟨b + 1, 0, none⟩ = some (.slice (some ⟨gA, 0, none⟩) N cB) ∧ (W.setCell ⟨b + 4, 0, none⟩ (.bool true)).cell? ⟨gA, s, none⟩ = some (.int .i64 n) ∧ (W.setCell ⟨b + 4, 0, none⟩ (.bool true)).cell? ⟨w.heap.size, 0, none⟩ = some (.int .i64 T.kind) ∧ (W.setCell ⟨b + 4, 0, none⟩ (.bool true)).cell? ⟨w.heap.size, 1, none⟩ = some (.int .i64 T.pos) ∧ (W.setCell ⟨b + 4, 0, none⟩ (.bool true)).cell? ⟨w.heap.size, 2, none⟩ = some (.string T.text) ∧ (W.setCell ⟨b + 4, 0, none⟩ (.bool true)).cell? ⟨w.heap.size, 3, none⟩ = some (.bool T.neg) ∧ (W.setCell ⟨b + 4, 0, none⟩ (.bool true)).cell? ⟨w.heap.size, 4, none⟩ = some (.slice A T.mag.length c) ∧ (W.setCell ⟨b + 4, 0, none⟩ (.bool true)).cell? ⟨w.heap.size, 5, none⟩ = some (.slice K T.kids.length d) ∧ (W.setCell ⟨b + 4, 0, none⟩ (.bool true)).cell? ⟨g, s * 6, none⟩ = some (.int .i64 T.kind) ∧ (W.setCell ⟨b + 4, 0, none⟩ (.bool true)).cell? ⟨g, s * 6 + 1, none⟩ = some (.int .i64 T.pos) ∧ (W.setCell ⟨b + 4, 0, none⟩ (.bool true)).cell? ⟨g, s * 6 + 2, none⟩ = some (.string T.text) ∧ (W.setCell ⟨b + 4, 0, none⟩ (.bool true)).cell? ⟨g, s * 6 + 3, none⟩ = some (.bool T.neg) ∧ (W.setCell ⟨b + 4, 0, none⟩ (.bool true)).cell? ⟨g, s * 6 + 4, none⟩ = some (.slice A' T.mag.length c') ∧ (W.setCell ⟨b + 4, 0, none⟩ (.bool true)).cell? ⟨g, s * 6 + 5, none⟩ = some (.slice K' T.kids.length d') ∧ b + 5 < (W.setCell ⟨b + 4, 0, none⟩ (.bool true)).heap.size ∧ w.heap.size < (W.setCell ⟨b + 4, 0, none⟩ (.bool true)).heap.size ∧ g < (W.setCell ⟨b + 4, 0, none⟩ (.bool true)).heap.size ∧ gA < (W.setCell ⟨b + 4, 0, none⟩ (.bool true)).heap.size) := fun W ⟨k0, k1, k2, k3, k4, k5, k6, k7, k8, k9, k10, k11, k12, k13, k14, k15, k16, k17, k18, k19, k20, k21, k22⟩ => ⟨World.cell?_setCell_same' _ _ _ (by rw [k0]; rfl), by rw [World.frozen?_setCell]; exact k1, (World.cell?_setCell_other _ _ _ _ (fun e => by injection e; omega)).trans k2, (World.cell?_setCell_other _ _ _ _ (fun e => by injection e; omega)).trans k3, (World.cell?_setCell_other _ _ _ _ (fun e => by injection e; omega)).trans k4, (World.cell?_setCell_other _ _ _ _ (fun e => by injection e; omega)).trans k5, (World.cell?_setCell_other _ _ _ _ (fun e => by injection e; omega)).trans k6, (World.cell?_setCell_other _ _ _ _ (fun e => by injection e; omega)).trans k7, (World.cell?_setCell_other _ _ _ _ (fun e => by injection e; omega)).trans k8, (World.cell?_setCell_other _ _ _ _ (fun e => by injection e; omega)).trans k9, (World.cell?_setCell_other _ _ _ _ (fun e => by injection e; omega)).trans k10, (World.cell?_setCell_other _ _ _ _ (fun e => by injection e; omega)).trans k11, (World.cell?_setCell_other _ _ _ _ (fun e => by injection e; omega)).trans k12, (World.cell?_setCell_other _ _ _ _ (fun e => by injection e; omega)).trans k13, (World.cell?_setCell_other _ _ _ _ (fun e => by injection e; omega)).trans k14, (World.cell?_setCell_other _ _ _ _ (fun e => by injection e; omega)).trans k15, (World.cell?_setCell_other _ _ _ _ (fun e => by injection e; omega)).trans k16, (World.cell?_setCell_other _ _ _ _ (fun e => by injection e; omega)).trans k17, (World.cell?_setCell_other _ _ _ _ (fun e => by injection e; omega)).trans k18, by rw [World.size_setCell]; exact k19, by rw [World.size_setCell]; exact k20, by rw [World.size_setCell]; exact k21, by rw [World.size_setCell]; exact k22⟩
  have q1 : decide ((s : Int) < (N : Int)) = true := decide_eq_true (by omega)
  have q2 : decide (s < N) = true := decide_eq_true hs
  have q3 : (0 : Int) ≤ (s : Int) := by omega
  have q4 : (s : Int) < (N : Int) := by omega
  have q5 : ((n : Int) == (n : Int)) = true := by simp
  have hun : undef = Value.tuple #[] := rfl
  clear c0 c1 c2 c3 c4 c5 f3 f4 f5 x0 x1 x2 x3 x4 x5 n0 n1 n2 n3 n4 n5 ca
  go_region_held3 (fun W => W.cell? ⟨b + 4, 0, none⟩ = some (.bool true) ∧ W.frozen? ⟨b + 4, 0, none⟩ = false ∧ W.cell? ⟨b + 5, 0, none⟩ = some (.bool false) ∧ W.cell? ⟨b + 3, 0, none⟩ = some (.int .i64 s) ∧ W.cell? ⟨b, 0, none⟩ = some (.slice (some ⟨g, 0, none⟩) N cA) ∧ W.cell? ⟨b + 1, 0, none⟩ = some (.slice (some ⟨gA, 0, none⟩) N cB) ∧ W.cell? ⟨gA, s, none⟩ = some (.int .i64 n) ∧ W.cell? ⟨w.heap.size, 0, none⟩ = some (.int .i64 T.kind) ∧ W.cell? ⟨w.heap.size, 1, none⟩ = some (.int .i64 T.pos) ∧ W.cell? ⟨w.heap.size, 2, none⟩ = some (.string T.text) ∧ W.cell? ⟨w.heap.size, 3, none⟩ = some (.bool T.neg) ∧ W.cell? ⟨w.heap.size, 4, none⟩ = some (.slice A T.mag.length c) ∧ W.cell? ⟨w.heap.size, 5, none⟩ = some (.slice K T.kids.length d) ∧ W.cell? ⟨g, s * 6, none⟩ = some (.int .i64 T.kind) ∧ W.cell? ⟨g, s * 6 + 1, none⟩ = some (.int .i64 T.pos) ∧ W.cell? ⟨g, s * 6 + 2, none⟩ = some (.string T.text) ∧ W.cell? ⟨g, s * 6 + 3, none⟩ = some (.bool T.neg) ∧ W.cell? ⟨g, s * 6 + 4, none⟩ = some (.slice A' T.mag.length c') ∧ W.cell? ⟨g, s * 6 + 5, none⟩ = some (.slice K' T.kids.length d') ∧ b + 5 < W.heap.size ∧ w.heap.size < W.heap.size ∧ g < W.heap.size ∧ gA < W.heap.size) (first | (refine HPK _ ?_; (repeat' (first | with_reducible exact H0 | with_reducible exact Below.refl _ _ | (with_reducible refine below_drew ?_))); done) | (refine HPS _ (HPK _ ?_); (repeat' (first | with_reducible exact H0 | with_reducible exact Below.refl _ _ | (with_reducible refine below_drew ?_))))) (first | (go_at_call 18; (with_reducible refine (HS.out _ ?hbel).mono ?_); (case hbel => (repeat' (first  | with_reducible exact Below.refl _ _ | (with_reducible refine below_drew ?_)))); rintro e w_0 ⟨rfl, hq_0⟩; have H0 := below_then (w1 := w1) hq_0 (by (repeat' (first  | with_reducible exact Below.refl _ _ | (with_reducible refine below_drew ?_))))))
  all_goals
    have hG0 := HG.out.later H0
    have c2 := cell_of_one hG0.p
    have c3 := cell_of_one hG0.n
    have c4 := cell_of_one hG0.o
    have c5 := cell_of_one hG0.v
    have f3 := free_of_one hG0.n
    have f4 := free_of_one hG0.o
    have f5 := free_of_one hG0.v
    have l5 : b + 5 < w_0.heap.size := (Array.getElem?_eq_some_iff.1 hG0.v).1
    have HG0 := Lib.hid hG0
    have hkq : KeepsQ (fun k => b + 3 ≤ k ∧ k ≤ b + 5) w w_0 := KeepsQ.below (HB1.out.trans (H0.mono HB1.out.size))
    have hs6 : s ≤ 1000000 := by omega
    clear hG0 HPK HPS
    cases hbq : ((s : Int) + 1 == stop) with
    | true =>
      go_wp2_with fail
      go_ret
      exact ⟨by rw [hbq]; rfl, by rw [hbq]; exact HG0.out.put (fun _ _ _ => rfl), keepsQ_setA (keepsQ_setA (keepsQ_setA hkq (by omega) (by omega) _) (by omega) (by omega) _) (by omega) (by omega) _⟩
    | false =>
      go_wp2_with fail
      go_ret
      exact ⟨by rw [hbq]; rfl, by rw [hbq]; exact HG0.out.put (fun _ _ _ => rfl), keepsQ_setA (keepsQ_setA (keepsQ_setA hkq (by omega) (by omega) _) (by omega) (by omega) _) (by omega) (by omega) _⟩
end
section
set_option linter.unusedVariables false
set_option linter.unusedSimpArgs false
open Go.RowKit
set_option maxRecDepth 1000000
set_option maxHeartbeats 8000000 in
theorem allB_ok (b g gA N cA cB s n yb : Nat) (stop : Int) (T : Nd) (A : Option Addr) (c : Nat) (K : Option Addr) (d : Nat) (A' : Option Addr) (c' : Nat) (K' : Option Addr) (d' : Nat) (w : World) (hG : GA b s false (.slice (some ⟨g, 0, none⟩) N cA) (.slice (some ⟨gA, 0, none⟩) N cB) stop w) (hs : s < N) (hN1 : N ≤ 1000000) (hcA : N ≤ cA) (hcA2 : cA ≤ maxLen) (hcB : N ≤ cB) (hcB2 : cB ≤ maxLen) (hst : -9223372036854775808 ≤ stop ∧ stop ≤ 9223372036854775807) (hn : n ≤ 1048576)
    (hC : CellsN w g (s * 6) T A' c' K' d') (ha : w.cell? ⟨gA, s, none⟩ = some (.int .i64 n)) (hNr : NodeAt w T A' c' K' d') (hN : NodeAt w T A c K d) (hg1 : g < b) (hg2 : gA < b) (hW : T.weight ≤ 1048576) (hy : w.cell? ⟨yb, 0, none⟩ = some (.func (.func 42) #[] #[.pointer (some ⟨b + 4, 0, none⟩), .pointer (some ⟨b + 5, 0, none⟩), .pointer (some ⟨b + 3, 0, none⟩), .pointer (some ⟨b, 0, none⟩), .pointer (some ⟨b + 1, 0, none⟩), .pointer (some ⟨b + 2, 0, none⟩)])) :
    Calls Tryz.prog 40 #[.int .i64 ((n : Nat) : Int), ndV T A c K d, .pointer (some ⟨yb, 0, none⟩)] w fun e w' =>
      e = .returned (.bool (!((s : Int) + 1 == stop))) ∧ GA b (s + 1) ((s : Int) + 1 == stop) (.slice (some ⟨g, 0, none⟩) N cA) (.slice (some ⟨gA, 0, none⟩) N cB) stop w' ∧ KeepsQ (fun k => b + 3 ≤ k ∧ k ≤ b + 5) w w' := by
  have hb1 := (Below.refl w.heap.size w).alloc (Nat.le_refl _) (.cells #[.int .i64 T.kind, .int .i64 T.pos, .string T.text, .bool T.neg, .slice A T.mag.length c, .slice K T.kids.length d] 27)
  obtain ⟨x0, x1, x2, x3, x4, x5⟩ := (cellsN_new w T A c K d 27).box
  have hy1 := cell_later hb1 hy
  have ly := World.block_lt_of_cell? _ _ hy1
  have lx := World.block_lt_of_cell? _ _ x0
  have hrn := run_call 42 _ Tryz.func42 (by kernel_rfl) (by kernel_rfl)
  have hCp := fun (W : World) (hb : Below (w.alloc (.cells #[.int .i64 T.kind, .int .i64 T.pos, .string T.text, .bool T.neg, .slice A T.mag.length c, .slice K T.kids.length d] 27)).heap.size (w.alloc (.cells #[.int .i64 T.kind, .int .i64 T.pos, .string T.text, .bool T.neg, .slice A T.mag.length c, .slice K T.kids.length d] 27)) W) => (tcopied_ok T.depth T (Nat.le_refl _) A c K d W (hN.later (hb1.trans (hb.mono hb1.size))) hW).mono (fun e w' (h : ∃ A3 c3 K3 d3, e = .returned (ndV T A3 c3 K3 d3) ∧ NodeFr T.depth w' T W.heap.size w'.heap.size A3 c3 K3 d3 ∧ Below W.heap.size W w') => (show ∃ A3 c3 K3 d3, e = .returned (.agg #[.int .i64 T.kind, .int .i64 T.pos, .string T.text, .bool T.neg, .slice A3 T.mag.length c3, .slice K3 T.kids.length d3]) ∧ NodeAt w' T A3 c3 K3 d3 ∧ Below (w.alloc (.cells #[.int .i64 T.kind, .int .i64 T.pos, .string T.text, .bool T.neg, .slice A T.mag.length c, .slice K T.kids.length d] 27)).heap.size (w.alloc (.cells #[.int .i64 T.kind, .int .i64 T.pos, .string T.text, .bool T.neg, .slice A T.mag.length c, .slice K T.kids.length d] 27)) w' from by
    obtain ⟨A3, c3, K3, d3, q1, q2, q3⟩ := h
    exact ⟨A3, c3, K3, d3, q1, q2.at, hb.trans (q3.mono hb.size)⟩))
  have hGs := fun (W : World) (hb : Below (w.alloc (.cells #[.int .i64 T.kind, .int .i64 T.pos, .string T.text, .bool T.neg, .slice A T.mag.length c, .slice K T.kids.length d] 27)).heap.size (w.alloc (.cells #[.int .i64 T.kind, .int .i64 T.pos, .string T.text, .bool T.neg, .slice A T.mag.length c, .slice K T.kids.length d] 27)) W) (A3 : Option Addr) (c3 : Nat) (K3 : Option Addr) (d3 : Nat) (hN3 : NodeAt W T A3 c3 K3 d3) => (goesA_ok b g gA N cA cB s n stop T A3 c3 K3 d3 A' c' K' d' W (hG.later (hb1.trans (hb.mono hb1.size))) hs hN1 hcA hcA2 hcB hcB2 hst hn (hC.later (hb1.trans (hb.mono hb1.size))) (cell_later (hb1.trans (hb.mono hb1.size)) ha) (hNr.later (hb1.trans (hb.mono hb1.size))) hN3 hg1 hg2).mono (fun e w' h => (show e = .returned (.bool (!((s : Int) + 1 == stop))) ∧ GA b (s + 1) ((s : Int) + 1 == stop) (.slice (some ⟨g, 0, none⟩) N cA) (.slice (some ⟨gA, 0, none⟩) N cB) stop w' ∧ KeepsQ (fun k => b + 3 ≤ k ∧ k ≤ b + 5) w w' from ⟨h.1, h.2.1, (KeepsQ.below (hb1.trans (hb.mono hb1.size))).trans h.2.2⟩))
  unfold ndV at hCp hGs
  have HC := Lib.hid hCp
  have HG := Lib.hid hGs
  obtain ⟨r, hr⟩ : ∃ r, (!((s : Int) + 1 == stop)) = r := ⟨_, rfl⟩
  rw [hr] at HG
  rw [hr]
  clear hCp hGs hG hC ha hNr hN hy hr
  unfold ndV
  go_enter Tryz.func40, Tryz.ntmps40
  go_wp2_with fail
  generalize w.alloc (.cells #[.int .i64 T.kind, .int .i64 T.pos, .string T.text, .bool T.neg, .slice A T.mag.length c, .slice K T.kids.length d] 27) = w1 at *
  go_region_with (first
    | (go_at_call 41; (with_reducible refine (HC.out _ ?hbel).mono ?_); (case hbel => (repeat' (first  | with_reducible exact Below.refl _ _ | (with_reducible refine below_drew ?_)))); rintro e w_0 ⟨A3, c3, K3, d3, rfl, hN3, H0⟩; have hy1 := cell_later H0 hy1; have ly := World.block_lt_of_cell? _ _ hy1)
    | ((with_reducible refine (HG.out _ ?hbel A3 c3 K3 d3 ?hn3).mono ?_); (case hbel => (repeat' (first | with_reducible exact H0 | with_reducible exact Below.refl _ _ | (with_reducible refine below_drew ?_)))); (case hn3 => first | exact hN3 | exact hN3.later (below_drew (Below.refl _ _))); rintro e w_1 ⟨rfl, hG1, hK1⟩))
  all_goals
    go_wp2_with fail
    go_ret
    exact ⟨rfl, hG1, hK1⟩
end
section
set_option linter.unusedVariables false
set_option linter.unusedSimpArgs false
open Go.RowKit
set_option maxRecDepth 1000000
theorem nd_infoF : (Tryz.prog.info? 27).map (fun i => (i.zero, i.size, i.bytes)) = some (some (.agg #[.int .i64 0, .int .i64 0, .string ⟨#[]⟩, .bool false, .slice none 0 0, .slice none 0 0]), 6, 88) := by kernel_rfl
theorem int_infoF : (Tryz.prog.info? 3).map (fun i => (i.zero, i.size, i.bytes)) = some (some (.int .i64 0), 1, 8) := by kernel_rfl
theorem own_neF {w : World} {b1 b2 s1 s2 n1 n2 : Nat} {e1 e2 : TypeId} {v1 v2 : Value} {xs ys : List Value} (h1 : w.ownsRow b1 e1 s1 v1 n1 xs) (h2 : w.ownsRow b2 e2 s2 v2 n2 ys) (he : e1 ≠ e2) : v2.ownBlock = none ∨ v2.ownBlock ≠ v1.ownBlock := by
  rcases h2.2 with ⟨rfl, _⟩ | ⟨g2, c2, u2, rfl, _, hg2, _⟩
  · exact .inl rfl
  · right
    rcases h1.2 with ⟨rfl, _⟩ | ⟨g1, c1, u1, rfl, _, hg1, _⟩
    · simp [Value.ownBlock]
    · intro e
      simp only [Value.ownBlock, Option.some.injEq] at e
      subst e
      rw [hg1] at hg2
      injection hg2 with hg2
      injection hg2 with _ hg2 _
      exact he hg2
/-- nodes of w0 as a row of cells. -/
def RowO (w0 : World) (F : List (Nat × Nd)) (xs : List Value) : Prop :=
  xs.length = F.length * 6 ∧ ∀ i n t, F[i]? = some (n, t) → ∃ A c K d, (∀ j, j < 6 → xs[i * 6 + j]? = (ndC t A c K d)[j]?) ∧ NodeAt w0 t A c K d
theorem RowO.snoc {w0 : World} {F : List (Nat × Nd)} {xs : List Value} {n : Nat} {t : Nd} {A : Option Addr} {c : Nat} {K : Option Addr} {d : Nat} (h : RowO w0 F xs) (ht : NodeAt w0 t A c K d) : RowO w0 (F ++ [(n, t)]) (xs ++ ndC t A c K d) := by
  refine ⟨by rw [List.length_append, List.length_append, h.1]; simp [ndC]; omega, fun i m s hi => ?_⟩
  by_cases hl : i < F.length
  · rw [List.getElem?_append_left hl] at hi
    obtain ⟨A', c', K', d', h1, h2⟩ := h.2 i m s hi
    refine ⟨A', c', K', d', fun j hj => ?_, h2⟩
    rw [List.getElem?_append_left (by rw [h.1]; omega)]
    exact h1 j hj
  · have hi2 : i = F.length := by
      have := (List.getElem?_eq_some_iff.1 hi).1
      rw [List.length_append] at this
      simp at this
      omega
    subst hi2
    rw [List.getElem?_concat_length] at hi
    injection hi with hi
    injection hi with hi1 hi2
    subst hi2
    refine ⟨A, c, K, d, fun j hj => ?_, ht⟩
    rw [List.getElem?_append_right (by rw [h.1]; omega), h.1, show F.length * 6 + j - F.length * 6 = j by omega]
/-- the law's two rows: the nodes, and how many each stands within. -/
structure FlS (w0 : World) (base : Nat) (F : List (Nat × Nd)) (lv av : Value) (w : World) : Prop where
  l : ∃ xs, w.ownsRow base 27 6 lv F.length xs ∧ RowO w0 F xs
  a : w.ownsRow base 3 1 av F.length (F.map fun p => Value.int .i64 ((p.1 : Nat) : Int))
/-- nothing is turned but the two rows. -/
structure KeepL (lv av lv' av' : Value) (w w' : World) : Prop where
  os : w'.os = w.os
  tape : w'.tape = w.tape
  output : w'.output = w.output
  size : w.heap.size ≤ w'.heap.size
  block : ∀ k, k < w.heap.size → some k ≠ lv.ownBlock → some k ≠ av.ownBlock → w'.heap[k]? = w.heap[k]? ∧ some k ≠ lv'.ownBlock ∧ some k ≠ av'.ownBlock
theorem KeepL.trans {lv av lv1 av1 lv2 av2 : Value} {w w1 w2 : World} (h : KeepL lv av lv1 av1 w w1) (h2 : KeepL lv1 av1 lv2 av2 w1 w2) : KeepL lv av lv2 av2 w w2 :=
  ⟨h2.os.trans h.os, h2.tape.trans h.tape, h2.output.trans h.output, Nat.le_trans h.size h2.size, fun k k1 k2 k3 => by
    obtain ⟨e1, e2, e3⟩ := h.block k k1 k2 k3
    obtain ⟨f1, f2, f3⟩ := h2.block k (Nat.lt_of_lt_of_le k1 h.size) e2 e3
    exact ⟨f1.trans e1, f2, f3⟩⟩
theorem KeepL.of_below {lv av : Value} {w w1 : World} (h : Below w.heap.size w w1) : KeepL lv av lv av w w1 := ⟨h.os, h.tape, h.output, h.size, fun k k1 k2 k3 => ⟨h.5 k k1, k2, k3⟩⟩
theorem KeepL.low {lv av lv' av' : Value} {w w1 : World} {B : Nat} (h : KeepL lv av lv' av' w w1) (hB : B ≤ w.heap.size) (h1 : ∀ j, lv.ownBlock = some j → B ≤ j) (h2 : ∀ j, av.ownBlock = some j → B ≤ j) : Below B w w1 :=
  ⟨h.os, h.tape, h.output, h.size, fun k hk => (h.block k (by omega) (fun e => by have := h1 k e.symm; omega) (fun e => by have := h2 k e.symm; omega)).1⟩
theorem KeepL.growL {lv av lv' : Value} {w w1 w2 : World} (hb : Below w.heap.size w w1) (hg : w1.grownBy w2 lv.ownBlock) (hat : lv'.ownBlock = lv.ownBlock ∨ lv'.ownBlock = some w1.heap.size) : KeepL lv av lv' av w w2 :=
  ⟨hg.os.trans hb.os, hg.tape.trans hb.tape, hg.output.trans hb.output, Nat.le_trans hb.size hg.size, fun k k1 k2 k3 => ⟨(hg.block k (Nat.lt_of_lt_of_le k1 hb.size) k2).trans (hb.5 k k1), by
    rcases hat with e | e
    · rw [e]; exact k2
    · rw [e]; intro e; injection e with e; have := hb.size; omega, k3⟩⟩
theorem KeepL.growA {lv av av' : Value} {w w1 w2 : World} (hb : Below w.heap.size w w1) (hg : w1.grownBy w2 av.ownBlock) (hat : av'.ownBlock = av.ownBlock ∨ av'.ownBlock = some w1.heap.size) : KeepL lv av lv av' w w2 :=
  ⟨hg.os.trans hb.os, hg.tape.trans hb.tape, hg.output.trans hb.output, Nat.le_trans hb.size hg.size, fun k k1 k2 k3 => ⟨(hg.block k (Nat.lt_of_lt_of_le k1 hb.size) k3).trans (hb.5 k k1), k2, by
    rcases hat with e | e
    · rw [e]; exact k3
    · rw [e]; intro e; injection e with e; have := hb.size; omega⟩⟩
set_option maxHeartbeats 8000000 in
theorem flat_ok (w0 : World) (base : Nat) (hb00 : w0.heap.size ≤ base) (T : Nd) : ∀ (A : Option Addr) (c : Nat) (K : Option Addr) (d : Nat) (n : Nat) (F : List (Nat × Nd)) (lv av : Value) (w : World), NodeAt w0 T A c K d → Below w0.heap.size w0 w → base ≤ w.heap.size → FlS w0 base F lv av w → F.length + T.count ≤ 1000000 → n + T.depth ≤ 1000000 →
    Calls Tryz.prog 21 #[ndV T A c K d, .int .i64 ((n : Nat) : Int), lv, av] w fun e w' => ∃ lv' av', e = .returned (.tuple #[lv', av']) ∧ FlS w0 base (F ++ flF n T) lv' av' w' ∧ KeepL lv av lv' av' w w' := by
  induction T using Nd.ind with
  | h T ih =>
    intro A c K d n F lv av w hN hB hbw hFl hC hD
    obtain ⟨i0, hi0, hz0, hz1, hz2⟩ := info_parts nd_infoF
    obtain ⟨j0, hj0, jz0, jz1, jz2⟩ := info_parts int_infoF
    obtain ⟨xs, hl, hx⟩ := hFl.l
    have ha := hFl.a
    have hTd := T.depth_eq
    have hTc := T.count_eq
    have hb1 := (Below.refl w.heap.size w).alloc (Nat.le_refl _) (.cells #[.int .i64 T.kind, .int .i64 T.pos, .string T.text, .bool T.neg, .slice A T.mag.length c, .slice K T.kids.length d] 27)
    have x0 := heap_alloc_new w (.cells #[.int .i64 T.kind, .int .i64 T.pos, .string T.text, .bool T.neg, .slice A T.mag.length c, .slice K T.kids.length d] 27)
    have hs1 : (w.alloc (.cells #[.int .i64 T.kind, .int .i64 T.pos, .string T.text, .bool T.neg, .slice A T.mag.length c, .slice K T.kids.length d] 27)).heap.size = w.heap.size + 1 := by simp
    have hkp := hN.parts
    obtain ⟨hm1, hm2, _, _, hk1, hk2, _, _, hts, _⟩ := hkp
    unfold maxLen at hm2 hk2 hts
    have hlb : ∀ j, lv.ownBlock = some j → base ≤ j ∧ j < w.heap.size := fun j hj => hl.lt j hj
    have hab : ∀ j, av.ownBlock = some j → base ≤ j ∧ j < w.heap.size := fun j hj => ha.lt j hj
    have hlen : F.length ≤ 1000000 := by omega
    have hFe : (F.map fun p => Value.int .i64 ((p.1 : Nat) : Int)).length = F.length := by simp
    have HS := Lib.hid (show _ ∧ _ ∧ _ ∧ _ ∧ _ ∧ _ from ⟨hl, ha, hx, hN, hB, hb1⟩)
    clear hFl hl ha hx hN hB
    unfold ndV
    go_enter Tryz.func21, Tryz.ntmps21
    go_wp2_with (first
      | (at_builtin; have hb2 := (HS.out.2.2.2.2.2).alloc (HS.out.2.2.2.2.2).size (.cells #[.int .i64 T.kind, .int .i64 T.pos, .string T.text, .bool T.neg, .slice A T.mag.length c, .slice K T.kids.length d] 27); refine wpList_append_lies _ rfl _ _ 25 rfl base 27 i0 _ 6 88 Tryz.underlying25 hi0 hz0 hz1 hz2 rfl (by decide) lv F.length xs rfl (own_laterT HS.out.1 hb2) ⟨w.heap.size + 1, 0, none⟩ 1 1 [.int .i64 T.kind, .int .i64 T.pos, .string T.text, .bool T.neg, .slice A T.mag.length c, .slice K T.kids.length d] rfl rfl (by have := World.news_of_block (cs := #[.int .i64 T.kind, .int .i64 T.pos, .string T.text, .bool T.neg, .slice A T.mag.length c, .slice K T.kids.length d]) (t := 27) (fr := (0, 0)) (heap_alloc_new (w.alloc (.cells #[.int .i64 T.kind, .int .i64 T.pos, .string T.text, .bool T.neg, .slice A T.mag.length c, .slice K T.kids.length d] 27)) (.cells #[.int .i64 T.kind, .int .i64 T.pos, .string T.text, .bool T.neg, .slice A T.mag.length c, .slice K T.kids.length d] 27)); rw [hs1] at this; exact this) (by simp [Value.oneCell']) (by decide) (by unfold maxLen; omega) (by omega) (by simp; omega) (w.heap.size + 2) (by simp) ?_; intro g2 cap2 w2 hown2 hgr2 hat2 hlt2; have hk2' : KeepL lv av (.slice (some ⟨g2, 0, none⟩) (F.length + 1) cap2) av (w.alloc (.cells #[.int .i64 T.kind, .int .i64 T.pos, .string T.text, .bool T.neg, .slice A T.mag.length c, .slice K T.kids.length d] 27)) w2 := KeepL.growL ((Below.refl _ _).alloc (Nat.le_refl _) (.cells #[.int .i64 T.kind, .int .i64 T.pos, .string T.text, .bool T.neg, .slice A T.mag.length c, .slice K T.kids.length d] 27)) hgr2 (by have := at_ofN (n := F.length + 1) (c := cap2) hat2; simpa using this); have hne2 := own_neF (own_laterT HS.out.1 hb2) (own_laterT HS.out.2.1 hb2) (by decide); have hav2 := (own_laterT HS.out.2.1 hb2).kept hgr2 hne2; have hba2 : base ≤ w2.heap.size := Nat.le_trans (by simp; omega) hgr2.size; have hb3 := (Below.refl w2.heap.size w2).alloc (Nat.le_refl _) (.cells #[.int .i64 ((n : Nat) : Int)] 3))
      | (at_builtin; refine wpList_append_lies _ rfl _ _ 42 rfl base 3 j0 _ 1 8 Tryz.underlying42 hj0 jz0 jz1 jz2 rfl (by decide) av F.length (F.map fun p => Value.int .i64 ((p.1 : Nat) : Int)) rfl (own_laterT hav2 hb3) ⟨w2.heap.size, 0, none⟩ 1 1 [.int .i64 ((n : Nat) : Int)] rfl rfl (World.news_of_block (cs := #[.int .i64 ((n : Nat) : Int)]) (t := 3) (fr := (0, 0)) (heap_alloc_new w2 _)) (by simp [Value.oneCell']) (by decide) (by unfold maxLen; omega) (by omega) (Nat.le_trans hba2 (by simp)) (w2.heap.size + 1) (by simp) ?_; intro g3 cap3 w3 hown3 hgr3 hat3 hlt3; have hk3 : KeepL (.slice (some ⟨g2, 0, none⟩) (F.length + 1) cap2) av (.slice (some ⟨g2, 0, none⟩) (F.length + 1) cap2) (.slice (some ⟨g3, 0, none⟩) (F.length + 1) cap3) w2 w3 := KeepL.growA hb3 hgr3 (by have := at_ofN (n := F.length + 1) (c := cap3) hat3; simpa using this); have hlv3 := (own_laterT hown2 hb3).kept hgr3 (own_neF (own_laterT hav2 hb3) (own_laterT hown2 hb3) (by decide))))
    have hk4 := hk2'.trans hk3
    have hF3 : FlS w0 base (F ++ [(n, T)]) (.slice (some ⟨g2, 0, none⟩) (F.length + 1) cap2) (.slice (some ⟨g3, 0, none⟩) (F.length + 1) cap3) w3 := ⟨⟨xs ++ ndC T A c K d, by rw [List.length_append]; exact hlv3, HS.out.2.2.1.snoc HS.out.2.2.2.1⟩, by rw [List.length_append, List.map_append]; exact hown3⟩
    clear hown2 hown3 hgr2 hgr3 hat2 hat3 hk2' hk3 hlv3 hav2 hne2 hb3 hba2 hlt2 hlt3
    generalize Value.slice (some ⟨g2, 0, none⟩) (F.length + 1) cap2 = lv1 at *
    generalize Value.slice (some ⟨g3, 0, none⟩) (F.length + 1) cap3 = av1 at *
    generalize w.alloc (.cells #[.int .i64 T.kind, .int .i64 T.pos, .string T.text, .bool T.neg, .slice A T.mag.length c, .slice K T.kids.length d] 27) = w1 at *
    go_loopw [2, 3, 10] (fun lx ax iv wr => ∃ (k : Nat), iv = .int .i64 k ∧ k ≤ T.kids.length ∧ Hid (FlS w0 base (F ++ (n, T) :: flL (n + 1) (T.kids.take k)) lx ax wr) ∧ Hid (KeepL lv av lx ax w1 wr)) (fun _ _ iv _ => T.kids.length - (intOf iv).toNat)
    case atStart => exact ⟨0, rfl, Nat.zero_le _, Lib.hid (by rw [List.take_zero, flL]; exact hF3), Lib.hid hk4⟩
    case round =>
      obtain ⟨k, rfl, hk, hFr, hKr⟩ := hrel
      have hbx := ((hKr.out.block w.heap.size (by omega) (fun e => by have := (hlb _ e.symm).2; omega) (fun e => by have := (hab _ e.symm).2; omega)).1).trans x0
      have c5 := cell_of_row wr _ 5 _ _ _ hbx
      have hwl : w.heap.size < wr.heap.size := World.block_lt_of_cell? _ _ c5
      have hbw0 : Below w0.heap.size w0 w1 := HS.out.2.2.2.2.1.trans (HS.out.2.2.2.2.2.mono HS.out.2.2.2.2.1.size)
      have hbl : Below w0.heap.size w0 wr := hbw0.trans (hKr.out.low hbw0.size (fun j hj => Nat.le_trans hb00 (hlb j hj).1) (fun j hj => Nat.le_trans hb00 (hab j hj).1))
      by_cases hkl : k < T.kids.length
      · have o1 : decide ((k : Int) < (T.kids.length : Int)) = true := decide_eq_true (by omega)
        have o2 : decide (k < T.kids.length) = true := decide_eq_true hkl
        obtain ⟨t, ht⟩ : ∃ t, T.kids[k]? = some t := ⟨_, List.getElem?_eq_getElem hkl⟩
        obtain ⟨b, off, A', c', K', d', hK, hCk, hNt⟩ := HS.out.2.2.2.1.kid ht
        subst hK
        obtain ⟨n0, n1, n2, n3, n4, n5⟩ := hCk.later hbl
        have htm := List.mem_of_getElem? ht
        have htd := T.depth_kid htm
        have hbr : b < wr.heap.size := World.block_lt_of_cell? _ _ n0
        have hle1 := counts_take T.kids k t ht
        have hle2 := counts_take_le T.kids (k + 1)
        have hLn : (F ++ (n, T) :: flL (n + 1) (T.kids.take k)).length = F.length + (counts (T.kids.take k) + 1) := by
          rw [List.length_append, List.length_cons, flL_len _ (fun t _ => flF_len t)]
        have hI := ih t htm A' c' K' d' (n + 1) (F ++ (n, T) :: flL (n + 1) (T.kids.take k)) u2 u3 wr hNt hbl (by omega) hFr.out (by rw [hLn]; omega) (by omega)
        rw [List.append_assoc, List.cons_append, ← flL_snoc (n + 1) T.kids k t ht, show ((n + 1 : Nat) : Int) = (n : Int) + 1 by omega] at hI
        unfold ndV at hI
        have HI := Lib.hid hI
        have hn2 : n ≤ 1000000 := by omega
        clear hI hCk hNt ht htm hle1 hle2 hLn hbx
        go_wp2_with (go_at_call 21; refine HI.out.mono ?_; rintro e w5 ⟨lv5, av5, rfl, hF5, hk5⟩)
        go_roundw
        case rel => exact ⟨k + 1, by go_num, by omega, Lib.hid hF5, Lib.hid (hKr.out.trans hk5)⟩
        case measure => simp [intOf]; omega
      · have o1 : decide ((k : Int) < (T.kids.length : Int)) = false := decide_eq_false (by omega)
        have o2 : decide (k < T.kids.length) = false := decide_eq_false hkl
        have hFz := hFr.out
        rw [List.take_of_length_le (by omega), ← flF_eq] at hFz
        have HFz := Lib.hid hFz
        clear hFz hbx
        go_wp2_with fail
        go_ret2
        exact ⟨u2, u3, rfl, HFz.out, (KeepL.of_below HS.out.2.2.2.2.2).trans hKr.out⟩
end
end Go.Proofs.YtjefhdlncikhmaaGreatDoor
