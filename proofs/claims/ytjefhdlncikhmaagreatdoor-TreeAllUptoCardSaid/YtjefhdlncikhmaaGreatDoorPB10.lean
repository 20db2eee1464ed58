/- Joined by a program: Num, Q3, Q4p, Q5, Wr3a, Wr3b, Wr3c, Wr3d, Wr4p. -/
import Derived.WalkKit
import Derived.Deep.RegionHeld3
import Derived.BigQuiet
import Derived.Deep.QuietTactic
import Derived.Deep.RegionWith
import Derived.Test.YtjefhdlncikhmaaGreatDoorShelf
import Derived.Test.YtjefhdlncikhmaaGreatDoorPB03
import Derived.Test.YtjefhdlncikhmaaGreatDoorPB04
import Derived.Test.YtjefhdlncikhmaaGreatDoorPB06
import Derived.Test.YtjefhdlncikhmaaGreatDoorPB07
import Derived.Test.YtjefhdlncikhmaaGreatDoorPB08
import Derived.Test.YtjefhdlncikhmaaGreatDoorPB09
namespace Go.Proofs.YtjefhdlncikhmaaGreatDoor
section
set_option linter.unusedVariables false
set_option linter.unusedSimpArgs false
open Go.RowKit
set_option maxRecDepth 1000000
def numL (neg : Bool) (zs : List Int) : Bool := !neg && decide (zs.length ≤ 256) && !(zs.getLast? == some 0)
theorem tNumber_ok (neg : Bool) (A : Option Addr) (c : Nat) (zs : List Int) (w : World) (hr : RdI w .u32 A zs) (hl : zs.length ≤ c) (hc : c ≤ maxLen) :
    Calls Tryz.prog 45 #[.agg #[.bool neg, .slice A zs.length c]] w fun e w' => e = .returned (.bool (numL neg zs)) ∧ Below w.heap.size w w' := by
  unfold maxLen at hc
  have hb1 : ∀ o, Below w.heap.size w (w.alloc o) := fun o => (Below.refl w.heap.size w).alloc (Nat.le_refl _) o
  cases neg with
  | true =>
    clear hr
    go_enter Tryz.func45, Tryz.ntmps45
    go_wp2_with fail
    go_ret
    exact ⟨rfl, hb1 _⟩
  | false =>
    by_cases h256 : zs.length ≤ 256
    · have e1 : decide ((zs.length : Int) ≤ 256) = true := decide_eq_true (by omega)
      have e2 : decide (zs.length ≤ 256) = true := decide_eq_true h256
      cases hz : zs with
      | nil =>
        clear hr
        go_enter Tryz.func45, Tryz.ntmps45
        go_wp2_with fail
        go_ret
        exact ⟨rfl, hb1 _⟩
      | cons a r =>
        obtain ⟨m, hm⟩ : ∃ m, zs.length = m + 1 := ⟨r.length, by rw [hz]; rfl⟩
        obtain ⟨b, off, z, hA, hzm, hcm⟩ := hr m (by omega)
        have hlast : zs.getLast? = some z := by rw [List.getLast?_eq_getElem?, hm]; exact hzm
        rw [← hz]
        have HLast := Lib.hid hlast
        have HE2 := Lib.hid e2
        rw [hm] at hl e1
        rw [hm]
        subst hA
        have hblt := World.block_lt_of_cell? _ _ hcm
        have hcm2 := fun o => cell_later (hb1 o) hcm
        have hcm3 := hcm2 (.cells #[.bool false, .slice (some ⟨b, off, none⟩) (m + 1) c] 24)
        have o1 : ((m + 1 : Nat) : Int) - 1 = (m : Int) := by omega
        have o2 : (m : Int) + 1 - 1 = (m : Int) := by omega
        have o3 : (((m + 1 : Nat) : Int) == 0) = false := beq0F (by omega)
        have o4 : (0 : Int) ≤ (m : Int) := by omega
        have o5 : (m : Int) < ((m + 1 : Nat) : Int) := by omega
        have o6 : ((m : Int) + 1 == 0) = false := by simp; omega
        have o7 : decide ((m : Int) + 1 ≤ 256) = true := decide_eq_true (by omega)
        have o8 : decide (m + 1 ≤ 256) = true := decide_eq_true (by omega)
        clear hz hlast hr hcm hcm2 hzm e2 hm h256
        by_cases hz0 : z = 0
        · have z1 : (z == 0) = true := by simpa using hz0
          have z2 : (z != 0) = false := by simp [hz0]
          clear hz0
          go_enter Tryz.func45, Tryz.ntmps45
          go_wp2_with fail
          go_ret
          exact ⟨by show Ending.returned (.bool _) = _; simp [numL, HLast.out, HE2.out, z1], hb1 _⟩
        · have z1 : (z == 0) = false := by simpa using hz0
          have z2 : (z != 0) = true := by simp [hz0]
          clear hz0
          go_enter Tryz.func45, Tryz.ntmps45
          go_wp2_with fail
          go_ret
          exact ⟨by show Ending.returned (.bool _) = _; simp [numL, HLast.out, HE2.out, z1], hb1 _⟩
    · have e1 : decide ((zs.length : Int) ≤ 256) = false := decide_eq_false (by omega)
      have e2 : decide (zs.length ≤ 256) = false := decide_eq_false h256
      clear hr
      go_enter Tryz.func45, Tryz.ntmps45
      go_wp2_with fail
      go_ret
      exact ⟨by show Ending.returned (.bool _) = _; simp [numL, e2], hb1 _⟩
end
section
set_option linter.unusedVariables false
set_option linter.unusedSimpArgs false
open Go.RowKit
set_option maxRecDepth 1000000
/-- what stands behind a comprehension's first kid. -/
def compL (l : List Nd) : Bool := decide (3 ≤ l.length) && (((l.drop 1).take 1).all (Sh.targets.ev Nd.right) && (l.drop 2).all (Sh.expr.ev Nd.right))
theorem cmp_eq (s : Sh) (T : Nd) : (Fm.cmp s).ev Nd.right T = (decide (1 ≤ T.kids.length) && ((T.kids.take 1).all (s.ev Nd.right) && compL T.kids)) := by
  simp only [Fm.ev, compL]
  generalize T.kids = l
  match l with
  | [] => simp
  | [a] => simp
  | [a, b] => simp
  | a :: b :: c :: r => simp [rowB, Bool.and_assoc]
end
section
set_option linter.unusedVariables false
set_option linter.unusedSimpArgs false
open Go.RowKit
set_option maxRecDepth 1000000
theorem take_one {l : List Nd} {t : Nd} (h : l[0]? = some t) : l.take 1 = [t] := by
  match l, h with
  | a :: r, h => simp at h; simp [h]
end
section
set_option linter.unusedVariables false
set_option linter.unusedSimpArgs false
open Go.RowKit
set_option maxRecDepth 1000000
theorem ev_block (T : Nd) : Sh.block.ev Nd.right T = (decide (0 < T.kids.length) && (Sh.of 2).ev Nd.right T) := by
  simp only [Sh.ev]
  cases (T.kind == 2) <;> simp
/-- parameters, and a block. -/
def defL (l : List Nd) : Bool := decide (1 ≤ l.length) && paramsB Nd.right false l.dropLast && (l.drop (l.length - 1)).all (Sh.block.ev Nd.right)
theorem def_at {l : List Nd} {m : Nat} {t : Nd} (hm : l.length = m + 1) (ht : l[m]? = some t) : defL l = (Sh.block.ev Nd.right t && paramsB Nd.right false (l.take m)) := by
  have hdl : l.dropLast = l.take m := by rw [List.dropLast_eq_take, hm]; rfl
  have hdr : l.drop (l.length - 1) = [t] := by
    obtain ⟨q1, q2⟩ := List.getElem?_eq_some_iff.1 ht
    rw [hm, Nat.add_sub_cancel, List.drop_eq_getElem_cons q1, q2, List.drop_eq_nil_of_le (by omega)]
  rw [defL, hdl, hdr, decide_eq_true (by omega)]
  simp [Bool.and_comm]
theorem param_eq {t : Nd} (hk : t.kind = 19) : t.right = (nameB t.text.data.toList && noNumB t && ((t.kids.length == 0) || rowB t.kids [(Sh.or2 .none .expr).ev Nd.right])) := by
  rw [right_at hk (tx := .name) (fm := .prm) rfl (by decide)]
  rfl
theorem kind_none {q : Nd} (h : Sh.none.ev Nd.right q = true) : q.kind = 0 := by
  simp only [Sh.ev, Bool.and_eq_true, beq_iff_eq] at h
  exact h.1.1.1
end
section
set_option linter.unusedVariables false
set_option linter.unusedSimpArgs false
open Go.RowKit
set_option maxRecDepth 1000000
/-- what expr writes, of trees that are not too deep. -/
def EOk (D : Nat) (w0 : World) (X dep : Nat) : Prop := ∀ t, Ex t → t.depth ≤ D → t.weight ≤ 1000000 → FSays 81 w0 X dep Nd.txt t
theorem run_expr (args : Array Value) (W : World) : (callFunc 81 args).run Tryz.prog W = .ok (.enter 81 args) W := run_call _ _ Tryz.func81 (by kernel_rfl) (by kernel_rfl) args W
set_option maxHeartbeats 4000000 in
theorem wBetween_ok (op sh : ByteArray) (l : List Nd) (n : Nat) (K : Option Addr) (d : Nat) (w0 : World) (X dep : Nat) (l0 : List UInt8) (w : World) (hn : l.length = n) (hl : KidsAt w0 l K 0) (hf : ∀ t ∈ l, FSays 81 w0 X dep Nd.txt t) (hnd : n ≤ d) (hd : d ≤ maxLen) (hBs : Below w0.heap.size w0 w) (hW : WrT w0.heap.size X dep l0 w) (hlen : l0.length + (op.data.toList ++ sepL com (l.map Nd.txt) ++ sh.data.toList).length ≤ 1000000000000) :
    Calls Tryz.prog 143 #[.pointer (some ⟨X, 0, none⟩), .string op, .slice K n d, .string sh] w (fun e w' => e = .returned (.tuple #[]) ∧ WrT w0.heap.size X dep (l0 ++ (op.data.toList ++ sepL com (l.map Nd.txt) ++ sh.data.toList)) w' ∧ WK w0.heap.size X w w') := by
  have HLN := Lib.hid hlen
  have HL := Lib.hid hl
  have HN := Lib.hid hn
  have HF := Lib.hid hf
  clear hl hn hf hlen
  have hB0 : w0.heap.size ≤ w.heap.size := hBs.size
  have hK0 : WK w0.heap.size X w w := WK.refl _ _ _
  have hlX := WrT.lt hW
  go_enter Tryz.func143, Tryz.ntmps143
  go_wp2_with fail
  have hWa := hW.alloc (.cells #[.string op] 9)
  have hKa := hK0.alloc (Nat.le_trans hB0 hK0.b.size) (.cells #[.string op] 9)
  have hbxa : True := trivial
  go_at_call 84
  refine (wSayT_ok w0.heap.size X dep _ (op.data.toList) [op] 1 _ _ hWa rfl (WrT.lt hW) (heap_alloc_new _ _) (by simp) (by decide) (by have h := HLN.out; simp only [List.length_append, List.length_cons, List.length_nil, List.length_singleton] at h ⊢; omega) (Nat.le_trans hB0 hKa.b.size)).mono ?_
  rintro e w_1 ⟨rfl, hW_1, hk_1⟩
  have hK_1 := hKa.trans hk_1
  have hB_1 : Below w0.heap.size w0 w_1 := hBs.trans hK_1.b
  have hlX := WrT.lt hW_1
  go_wp2_with fail
  have hI := wList_ok 81 run_expr w0 X dep Nd.txt _ l n K d w_1 HN.out HL.out HF.out hnd hd hB_1 hW_1 (by have h := HLN.out; simp only [List.length_append, List.length_cons, List.length_nil, List.length_singleton] at h ⊢; omega)
  go_at_call 85
  refine hI.mono ?_
  rintro e w_2 ⟨rfl, hW_2, hk_2⟩
  have hK_2 := hK_1.trans hk_2
  clear hI
  have hB_2 : Below w0.heap.size w0 w_2 := hBs.trans hK_2.b
  have hlX := WrT.lt hW_2
  go_wp2_with fail
  have hWa := hW_2.alloc (.cells #[.string sh] 9)
  have hKa := hK_2.alloc (Nat.le_trans hB0 hK_2.b.size) (.cells #[.string sh] 9)
  have hbxa : True := trivial
  go_at_call 84
  refine (wSayT_ok w0.heap.size X dep _ (sh.data.toList) [sh] 1 _ _ hWa rfl (WrT.lt hW_2) (heap_alloc_new _ _) (by simp) (by decide) (by have h := HLN.out; simp only [List.length_append, List.length_cons, List.length_nil, List.length_singleton] at h ⊢; omega) (Nat.le_trans hB0 hKa.b.size)).mono ?_
  rintro e w_3 ⟨rfl, hW_3, hk_3⟩
  have hK_3 := hKa.trans hk_3
  have hB_3 : Below w0.heap.size w0 w_3 := hBs.trans hK_3.b
  have hlX := WrT.lt hW_3
  go_wp2_with fail
  go_end0
  exact ⟨rfl, hW_3.eq (by simp only [List.append_assoc]), hK_3⟩
end
section
set_option linter.unusedVariables false
set_option linter.unusedSimpArgs false
open Go.RowKit
set_option maxRecDepth 1000000
theorem kids2' {l : List Nd} (h : l.length = 2) : ∃ a b, l = [a, b] := by
  match l, h with
  | [a, b], _ => exact ⟨a, b, rfl⟩
set_option maxHeartbeats 4000000 in
theorem wTwo_ok (bt : ByteArray) (l : List Nd) (n : Nat) (K : Option Addr) (d : Nat) (w0 : World) (X dep : Nat) (l0 : List UInt8) (w : World) (hn : l.length = n) (h2 : n = 2) (hl : KidsAt w0 l K 0) (hf : ∀ t ∈ l, FSays 81 w0 X dep Nd.txt t) (hnd : n ≤ d) (hd : d ≤ maxLen) (hBs : Below w0.heap.size w0 w) (hW : WrT w0.heap.size X dep l0 w) (p : List UInt8) (hp : p = [40] ++ gl (l.map Nd.txt) 0 ++ [32] ++ bt.data.toList ++ [32] ++ gl (l.map Nd.txt) 1 ++ [41]) (hlen : l0.length + p.length ≤ 1000000000000) :
    Calls Tryz.prog 145 #[.pointer (some ⟨X, 0, none⟩), .slice K n d, .string bt] w (fun e w' => e = .returned (.tuple #[]) ∧ WrT w0.heap.size X dep (l0 ++ (p)) w' ∧ WK w0.heap.size X w w') := by
  unfold maxLen at hd
  obtain ⟨t0, t1, hks⟩ := kids2' (l := l) (by omega)
  have hg0 : l[0]? = some t0 := by rw [hks]; rfl
  have hg1 : l[1]? = some t1 := by rw [hks]; rfl
  obtain ⟨b0, off0, A0, c0', K0, d0, hKe0, hC0, hN0⟩ := hl.kid hg0
  obtain ⟨b1, off1, A1, c1', K1, d1, hKe1, hC1, hN1⟩ := hl.kid hg1
  rw [Nat.zero_add, Nat.zero_mul, Nat.add_zero] at hC0
  rw [Nat.zero_add, Nat.one_mul] at hC1
  subst hKe0
  injection hKe1 with e1
  injection e1 with e1 e2
  subst e1 e2
  have HF0 := Lib.hid (hf t0 (by rw [hks]; simp))
  have HF1 := Lib.hid (hf t1 (by rw [hks]; simp))
  rw [hks] at hp
  have HTX := Lib.hid (show p = [40] ++ t0.txt ++ [32] ++ bt.data.toList ++ [32] ++ t1.txt ++ [41] from hp)
  have HLN := Lib.hid (show l0.length + ([40] ++ t0.txt ++ [32] ++ bt.data.toList ++ [32] ++ t1.txt ++ [41]).length ≤ 1000000000000 by rw [← HTX.out]; exact hlen)
  have HN0 := Lib.hid hN0
  have HN1 := Lib.hid hN1
  have i0 : (0 : Int) < (n : Int) := by omega
  have i0' : 0 < n := by omega
  have i1 : (1 : Int) < (n : Int) := by omega
  have i1' : 1 < n := by omega
  clear hl hf hp hlen hg0 hg1 hks hN0 hN1 hn h2
  have hB0 : w0.heap.size ≤ w.heap.size := hBs.size
  have hK0 : WK w0.heap.size X w w := WK.refl _ _ _
  have hlX := WrT.lt hW
  obtain ⟨n0_0, n0_1, n0_2, n0_3, n0_4, n0_5⟩ := hC0.later hBs
  have hlk0 := World.block_lt_of_cell? _ _ n0_0
  obtain ⟨n1_0, n1_1, n1_2, n1_3, n1_4, n1_5⟩ := hC1.later hBs
  have hlk1 := World.block_lt_of_cell? _ _ n1_0
  have hlX := WrT.lt hW
  go_enter Tryz.func145, Tryz.ntmps145
  go_wp2_with fail
  have hWa := hW.alloc (.cells #[.string { data := #[40] }] 9)
  have hKa := hK0.alloc (Nat.le_trans hB0 hK0.b.size) (.cells #[.string { data := #[40] }] 9)
  have hbxa : True := trivial
  go_at_call 84
  refine (wSayT_ok w0.heap.size X dep _ ([40]) [⟨#[40]⟩] 1 _ _ hWa rfl (WrT.lt hW) (heap_alloc_new _ _) rfl (by decide) (by have h := HLN.out; simp only [List.length_append, List.length_cons, List.length_nil, List.length_singleton] at h ⊢; omega) (Nat.le_trans hB0 hKa.b.size)).mono ?_
  rintro e w_1 ⟨rfl, hW_1, hk_1⟩
  have hK_1 := hKa.trans hk_1
  have hB_1 : Below w0.heap.size w0 w_1 := hBs.trans hK_1.b
  obtain ⟨n0_0, n0_1, n0_2, n0_3, n0_4, n0_5⟩ := hC0.later hB_1
  have hlk0 := World.block_lt_of_cell? _ _ n0_0
  obtain ⟨n1_0, n1_1, n1_2, n1_3, n1_4, n1_5⟩ := hC1.later hB_1
  have hlk1 := World.block_lt_of_cell? _ _ n1_0
  have hlX := WrT.lt hW_1
  go_wp2_with fail
  have hI := HF0.out A0 c0' K0 d0 _ w_1 HN0.out hB_1 hW_1 (by have h := HLN.out; simp only [List.length_append, List.length_cons, List.length_nil, List.length_singleton] at h ⊢; omega)
  unfold ndV at hI
  go_at_call 81
  refine hI.mono ?_
  rintro e w_2 ⟨rfl, hW_2, hk_2⟩
  have hK_2 := hK_1.trans hk_2
  clear hI
  have hB_2 : Below w0.heap.size w0 w_2 := hBs.trans hK_2.b
  obtain ⟨n0_0, n0_1, n0_2, n0_3, n0_4, n0_5⟩ := hC0.later hB_2
  have hlk0 := World.block_lt_of_cell? _ _ n0_0
  obtain ⟨n1_0, n1_1, n1_2, n1_3, n1_4, n1_5⟩ := hC1.later hB_2
  have hlk1 := World.block_lt_of_cell? _ _ n1_0
  have hlX := WrT.lt hW_2
  go_wp2_with fail
  have hWa := hW_2.alloc (.cells #[.string { data := #[32] }, .string bt, .string { data := #[32] }] 9)
  have hKa := hK_2.alloc (Nat.le_trans hB0 hK_2.b.size) (.cells #[.string { data := #[32] }, .string bt, .string { data := #[32] }] 9)
  have hbxa : True := trivial
  go_at_call 84
  refine (wSayT_ok w0.heap.size X dep _ ([32] ++ bt.data.toList ++ [32]) [⟨#[32]⟩, bt, ⟨#[32]⟩] 3 _ _ hWa rfl (WrT.lt hW_2) (heap_alloc_new _ _) (by simp []) (by decide) (by have h := HLN.out; simp only [List.length_append, List.length_cons, List.length_nil, List.length_singleton] at h ⊢; omega) (Nat.le_trans hB0 hKa.b.size)).mono ?_
  rintro e w_3 ⟨rfl, hW_3, hk_3⟩
  have hK_3 := hKa.trans hk_3
  have hB_3 : Below w0.heap.size w0 w_3 := hBs.trans hK_3.b
  obtain ⟨n0_0, n0_1, n0_2, n0_3, n0_4, n0_5⟩ := hC0.later hB_3
  have hlk0 := World.block_lt_of_cell? _ _ n0_0
  obtain ⟨n1_0, n1_1, n1_2, n1_3, n1_4, n1_5⟩ := hC1.later hB_3
  have hlk1 := World.block_lt_of_cell? _ _ n1_0
  have hlX := WrT.lt hW_3
  go_wp2_with fail
  have hI := HF1.out A1 c1' K1 d1 _ w_3 HN1.out hB_3 hW_3 (by have h := HLN.out; simp only [List.length_append, List.length_cons, List.length_nil, List.length_singleton] at h ⊢; omega)
  unfold ndV at hI
  go_at_call 81
  refine hI.mono ?_
  rintro e w_4 ⟨rfl, hW_4, hk_4⟩
  have hK_4 := hK_3.trans hk_4
  clear hI
  have hB_4 : Below w0.heap.size w0 w_4 := hBs.trans hK_4.b
  obtain ⟨n0_0, n0_1, n0_2, n0_3, n0_4, n0_5⟩ := hC0.later hB_4
  have hlk0 := World.block_lt_of_cell? _ _ n0_0
  obtain ⟨n1_0, n1_1, n1_2, n1_3, n1_4, n1_5⟩ := hC1.later hB_4
  have hlk1 := World.block_lt_of_cell? _ _ n1_0
  have hlX := WrT.lt hW_4
  go_wp2_with fail
  have hWa := hW_4.alloc (.cells #[.string { data := #[41] }] 9)
  have hKa := hK_4.alloc (Nat.le_trans hB0 hK_4.b.size) (.cells #[.string { data := #[41] }] 9)
  have hbxa : True := trivial
  go_at_call 84
  refine (wSayT_ok w0.heap.size X dep _ ([41]) [⟨#[41]⟩] 1 _ _ hWa rfl (WrT.lt hW_4) (heap_alloc_new _ _) rfl (by decide) (by have h := HLN.out; simp only [List.length_append, List.length_cons, List.length_nil, List.length_singleton] at h ⊢; omega) (Nat.le_trans hB0 hKa.b.size)).mono ?_
  rintro e w_5 ⟨rfl, hW_5, hk_5⟩
  have hK_5 := hKa.trans hk_5
  have hB_5 : Below w0.heap.size w0 w_5 := hBs.trans hK_5.b
  obtain ⟨n0_0, n0_1, n0_2, n0_3, n0_4, n0_5⟩ := hC0.later hB_5
  have hlk0 := World.block_lt_of_cell? _ _ n0_0
  obtain ⟨n1_0, n1_1, n1_2, n1_3, n1_4, n1_5⟩ := hC1.later hB_5
  have hlk1 := World.block_lt_of_cell? _ _ n1_0
  have hlX := WrT.lt hW_5
  go_wp2_with fail
  go_end0
  exact ⟨rfl, hW_5.eq (by rw [HTX.out]; simp only [List.append_assoc]), hK_5⟩
end
section
set_option linter.unusedVariables false
set_option linter.unusedSimpArgs false
open Go.RowKit
set_option maxRecDepth 1000000
/-- what targets writes. -/
def TOk (D : Nat) (w0 : World) (X dep : Nat) : Prop := ∀ t, Te t → t.depth ≤ D → t.weight ≤ 1000000 → FSays 83 w0 X dep Nd.txt t
theorem txt_23 {T : Nd} (h : T.kind = 23) : T.txt = sepL com (T.kids.map Nd.txt) := by
  rw [txt_eq, txtOf, h]
  simp
theorem tgt_kids {T : Nd} (h : Te T) (hk : T.kind = 23) : ∀ t ∈ T.kids, Ex t := by
  have hr := h.1
  rw [right_at hk (tx := .non) (fm := .some 2 .target) rfl (by decide)] at hr
  simp only [Fm.ev, Bool.and_eq_true] at hr
  intro t ht
  exact ev_tgt (List.all_eq_true.1 hr.2.2 t ht)
set_option maxHeartbeats 4000000 in
theorem wTargets_ok (D : Nat) (w0 : World) (X dep : Nat) (hE : EOk D w0 X dep) : TOk D w0 X dep := by
  intro T hT hD hWt A c K d l0 w hN hBs hW hlen
  have hNw := hN.later hBs
  have hB0 : w0.heap.size ≤ w.heap.size := hBs.size
  have hXw := WrT.lt hW
  have hK0 : WK w0.heap.size X w (w.alloc (.cells #[.int .i64 T.kind, .int .i64 T.pos, .string T.text, .bool T.neg, .slice A T.mag.length c, .slice K T.kids.length d] 27)) := (WK.refl _ _ _).alloc hB0 _
  have hWb := hW.alloc (.cells #[.int .i64 T.kind, .int .i64 T.pos, .string T.text, .bool T.neg, .slice A T.mag.length c, .slice K T.kids.length d] 27)
  have hBb : Below w0.heap.size w0 (w.alloc (.cells #[.int .i64 T.kind, .int .i64 T.pos, .string T.text, .bool T.neg, .slice A T.mag.length c, .slice K T.kids.length d] 27)) := hBs.trans hK0.b
  by_cases hk : T.kind = 23
  · have e1 : (T.kind != 23) = false := by simp [hk]
    have HTX := Lib.hid (txt_23 hk)
    have hts := txt_23 hk
    rw [hts] at hlen
    have HLS := Lib.hid (wList_ok 81 run_expr w0 X dep Nd.txt l0 T.kids T.kids.length K d _ rfl hN.parts.2.2.2.2.2.2.2.2.2 (fun t ht => hE t (tgt_kids hT hk t ht) (by have := Nd.depth_kid ht; omega) (by have := Nd.weight_kid ht; omega)) hN.parts.2.2.2.2.1 hN.parts.2.2.2.2.2.1 hBb hWb hlen)
    have HK0 := Lib.hid hK0
    clear hE hT hD hts hk hNw hlen hK0 hWb hBb hW
    obtain ⟨hm1, hm2, hrm, hw32, hk1, hk2, hk64, ha64, hts, hKs⟩ := hN.parts
    unfold maxLen at hm2 hk2 hts
    obtain ⟨hk64a, hk64b⟩ := hk64
    obtain ⟨ha64a, ha64b⟩ := ha64
    have HK := Lib.hid (fun (i : Nat) (t : Nd) (hi : T.kids[i]? = some t) => hN.kid hi)
    have hb1 := (Below.refl w.heap.size w).alloc (Nat.le_refl _) (.cells #[.int .i64 T.kind, .int .i64 T.pos, .string T.text, .bool T.neg, .slice A T.mag.length c, .slice K T.kids.length d] 27)
    obtain ⟨c0, c1, c2, c3, c4, c5⟩ := (cellsN_new w T A c K d 27).box
    unfold ndV
    clear hKs hN
    go_enter Tryz.func83, Tryz.ntmps83
    go_wp2_with (go_at_call 85; refine HLS.out.mono ?_; rintro e w3 ⟨rfl, hw3, hk3⟩)
    go_end0
    exact ⟨rfl, hw3.eq (by rw [HTX.out]), HK0.out.trans hk3⟩
  · have e1 : (T.kind != 23) = true := by simp [hk]
    have hEx : Ex T := ⟨hT.1, hT.2.resolve_right hk⟩
    have hI := hE T hEx hD hWt A c K d l0 _ hN hBb hWb hlen
    unfold ndV at hI
    have HI := Lib.hid hI
    have HK0 := Lib.hid hK0
    clear hE hT hD hk hEx hI hNw hlen hK0 hWb hBb hW
    obtain ⟨hm1, hm2, hrm, hw32, hk1, hk2, hk64, ha64, hts, hKs⟩ := hN.parts
    unfold maxLen at hm2 hk2 hts
    obtain ⟨hk64a, hk64b⟩ := hk64
    obtain ⟨ha64a, ha64b⟩ := ha64
    have HK := Lib.hid (fun (i : Nat) (t : Nd) (hi : T.kids[i]? = some t) => hN.kid hi)
    have hb1 := (Below.refl w.heap.size w).alloc (Nat.le_refl _) (.cells #[.int .i64 T.kind, .int .i64 T.pos, .string T.text, .bool T.neg, .slice A T.mag.length c, .slice K T.kids.length d] 27)
    obtain ⟨c0, c1, c2, c3, c4, c5⟩ := (cellsN_new w T A c K d 27).box
    unfold ndV
    clear hKs hN
    go_enter Tryz.func83, Tryz.ntmps83
    go_wp2_with (go_at_call 81; refine HI.out.mono ?_; rintro e w3 ⟨rfl, hw3, hk3⟩)
    ((try simp only [Exit.inBlock, Exit.then]); first | refine bodyPost_end (results_none rfl _ _ _) rfl ?_ | refine bodyPost_ret (results_none rfl _ _ _) rfl ?_)
    exact ⟨rfl, hw3, HK0.out.trans hk3⟩
end
section
set_option linter.unusedVariables false
set_option linter.unusedSimpArgs false
open Go.RowKit
set_option maxRecDepth 1000000
theorem kids3' {l : List Nd} (h : 3 ≤ l.length) : ∃ a b c, l[0]? = some a ∧ l[1]? = some b ∧ l[2]? = some c := by
  match l, h with
  | a :: b :: c :: r, _ => exact ⟨a, b, c, rfl, rfl, rfl⟩
theorem flat_if_take {L : List (List UInt8)} {k : Nat} {x : List UInt8} (h : L[k]? = some x) : (L.take (k + 1)).flatMap (fun x => [32, 105, 102, 32] ++ x) = (L.take k).flatMap (fun x => [32, 105, 102, 32] ++ x) ++ ([32, 105, 102, 32] ++ x) := by
  obtain ⟨hk, rfl⟩ := List.getElem?_eq_some_iff.1 h
  rw [List.take_succ_eq_append_getElem hk, List.flatMap_append]
  simp
theorem flat_if_le (L : List (List UInt8)) (k : Nat) : ((L.take k).flatMap (fun x => [32, 105, 102, 32] ++ x)).length ≤ (L.flatMap (fun x => [32, 105, 102, 32] ++ x)).length := by
  have h2 : (L.flatMap fun x => [32, 105, 102, 32] ++ x).length = ((L.take k).flatMap fun x => [32, 105, 102, 32] ++ x).length + ((L.drop k).flatMap fun x => [32, 105, 102, 32] ++ x).length := by
    rw [← List.length_append, ← List.flatMap_append, List.take_append_drop]
  omega
theorem gl_map {l : List Nd} {i : Nat} {t : Nd} (h : l[i]? = some t) : gl (l.map Nd.txt) i = t.txt := by
  simp [gl, List.getD, h]
set_option maxHeartbeats 16000000 in
theorem wComp_ok (D : Nat) (op sh : ByteArray) (l : List Nd) (n : Nat) (K : Option Addr) (d : Nat) (w0 : World) (X dep : Nat) (l0 : List UInt8) (w : World) (hn : l.length = n) (h3 : 3 ≤ n) (hl : KidsAt w0 l K 0) (hTg : TOk D w0 X dep) (hE : EOk D w0 X dep) (hte : ∀ t ∈ l, Te t) (hex : ∀ t ∈ l.take 1 ++ l.drop 2, Ex t) (hWi : WithinM D l) (hnd : n ≤ d) (hd : d ≤ maxLen) (hBs : Below w0.heap.size w0 w) (hW : WrT w0.heap.size X dep l0 w) (p : List UInt8) (hp : p = op.data.toList ++ gl (l.map Nd.txt) 0 ++ behindL (l.map Nd.txt) ++ sh.data.toList) (hlen : l0.length + p.length ≤ 1000000000000) :
    Calls Tryz.prog 144 #[.pointer (some ⟨X, 0, none⟩), .string op, .slice K n d, .string sh] w (fun e w' => e = .returned (.tuple #[]) ∧ WrT w0.heap.size X dep (l0 ++ (p)) w' ∧ WK w0.heap.size X w w') := by
  unfold maxLen at hd
  obtain ⟨t0, t1, t2, hg0, hg1, hg2⟩ := kids3' (l := l) (by omega)
  obtain ⟨b0, off0, A0, c0', K0, d0, hKe0, hC0, hN0⟩ := hl.kid hg0
  obtain ⟨b1, off1, A1, c1', K1, d1, hKe1, hC1, hN1⟩ := hl.kid hg1
  obtain ⟨b2, off2, A2, c2', K2, d2, hKe2, hC2, hN2⟩ := hl.kid hg2
  rw [Nat.zero_add, Nat.zero_mul, Nat.add_zero] at hC0
  rw [Nat.zero_add, Nat.one_mul] at hC1
  rw [Nat.zero_add, show 2 * 6 = 12 from rfl] at hC2
  subst hKe0
  injection hKe1 with e1
  injection e1 with e1 e2
  subst e1 e2
  injection hKe2 with e1
  injection e1 with e1 e2
  subst e1 e2
  have m0 := List.mem_of_getElem? hg0
  have m1 := List.mem_of_getElem? hg1
  have m2 := List.mem_of_getElem? hg2
  have x0 : t0 ∈ l.take 1 ++ l.drop 2 := List.mem_append_left _ (by rw [List.mem_iff_getElem?]; exact ⟨0, by rw [List.getElem?_take_of_lt (by omega)]; exact hg0⟩)
  have x2 : t2 ∈ l.take 1 ++ l.drop 2 := List.mem_append_right _ (by rw [List.mem_iff_getElem?]; exact ⟨0, by rw [List.getElem?_drop]; exact hg2⟩)
  have HF0 := Lib.hid (hE t0 (hex t0 x0) (hWi t0 m0).1 (hWi t0 m0).2)
  have HF1 := Lib.hid (hTg t1 (hte t1 m1) (hWi t1 m1).1 (hWi t1 m1).2)
  have HF2 := Lib.hid (hE t2 (hex t2 x2) (hWi t2 m2).1 (hWi t2 m2).2)
  have hgl0 := gl_map hg0
  have hgl1 := gl_map hg1
  have hgl2 := gl_map hg2
  have hp2 : p = op.data.toList ++ t0.txt ++ [32, 102, 111, 114, 32] ++ t1.txt ++ [32, 105, 110, 32] ++ t2.txt ++ ((l.map Nd.txt).drop 3).flatMap (fun x => [32, 105, 102, 32] ++ x) ++ sh.data.toList := by
    rw [hp, behindL, hgl0, hgl1, hgl2]
    simp only [List.append_assoc]
  have HTX := Lib.hid hp2
  have HLN := Lib.hid (show l0.length + (op.data.toList ++ t0.txt ++ [32, 102, 111, 114, 32] ++ t1.txt ++ [32, 105, 110, 32] ++ t2.txt ++ ((l.map Nd.txt).drop 3).flatMap (fun x => [32, 105, 102, 32] ++ x) ++ sh.data.toList).length ≤ 1000000000000 by rw [← hp2]; exact hlen)
  have HN0 := Lib.hid hN0
  have HN1 := Lib.hid hN1
  have HN2 := Lib.hid hN2
  have HL := Lib.hid hl
  have HNn := Lib.hid hn
  have HE := Lib.hid (fun (k : Nat) (t : Nd) (ht : l[k + 3]? = some t) => hE t (hex t (List.mem_append_right _ (by rw [List.mem_iff_getElem?]; exact ⟨k + 1, by rw [List.getElem?_drop, show 2 + (k + 1) = k + 3 by omega]; exact ht⟩))) (hWi t (List.mem_of_getElem? ht)).1 (hWi t (List.mem_of_getElem? ht)).2)
  have i0 : (0 : Int) < (n : Int) := by omega
  have i0' : 0 < n := by omega
  have i1 : (1 : Int) < (n : Int) := by omega
  have i1' : 1 < n := by omega
  have i2 : (2 : Int) < (n : Int) := by omega
  have i2' : 2 < n := by omega
  have i3 : (3 : Int) ≤ (n : Int) := by omega
  have i4 : (3 : Int) ≤ (d : Int) := by omega
  have i5 : (n : Int) ≤ (d : Int) := by omega
  clear hl hp hp2 hlen hg0 hg1 hg2 hN0 hN1 hN2 hn hE hTg hte hex hWi m0 m1 m2 x0 x2 hgl0 hgl1 hgl2 h3
  have hB0 : w0.heap.size ≤ w.heap.size := hBs.size
  have hK0 : WK w0.heap.size X w w := WK.refl _ _ _
  have hlX := WrT.lt hW
  by_cases hd3 : d = 3
  · subst hd3
    obtain ⟨n0_0, n0_1, n0_2, n0_3, n0_4, n0_5⟩ := hC0.later hBs
    have hlk0 := World.block_lt_of_cell? _ _ n0_0
    obtain ⟨n1_0, n1_1, n1_2, n1_3, n1_4, n1_5⟩ := hC1.later hBs
    have hlk1 := World.block_lt_of_cell? _ _ n1_0
    obtain ⟨n2_0, n2_1, n2_2, n2_3, n2_4, n2_5⟩ := hC2.later hBs
    have hlk2 := World.block_lt_of_cell? _ _ n2_0
    have hlX := WrT.lt hW
    go_enter Tryz.func144, Tryz.ntmps144
    go_wp2_with fail
    have hWa := hW.alloc (.cells #[.string op] 9)
    have hKa := hK0.alloc (Nat.le_trans hB0 hK0.b.size) (.cells #[.string op] 9)
    have hbxa : True := trivial
    go_at_call 84
    refine (wSayT_ok w0.heap.size X dep _ (op.data.toList) [op] 1 _ _ hWa rfl (WrT.lt hW) (heap_alloc_new _ _) (by simp) (by decide) (by have h := HLN.out; simp only [List.length_append, List.length_cons, List.length_nil, List.length_singleton] at h ⊢; omega) (Nat.le_trans hB0 hKa.b.size)).mono ?_
    rintro e w_1 ⟨rfl, hW_1, hk_1⟩
    have hK_1 := hKa.trans hk_1
    have hB_1 : Below w0.heap.size w0 w_1 := hBs.trans hK_1.b
    obtain ⟨n0_0, n0_1, n0_2, n0_3, n0_4, n0_5⟩ := hC0.later hB_1
    have hlk0 := World.block_lt_of_cell? _ _ n0_0
    obtain ⟨n1_0, n1_1, n1_2, n1_3, n1_4, n1_5⟩ := hC1.later hB_1
    have hlk1 := World.block_lt_of_cell? _ _ n1_0
    obtain ⟨n2_0, n2_1, n2_2, n2_3, n2_4, n2_5⟩ := hC2.later hB_1
    have hlk2 := World.block_lt_of_cell? _ _ n2_0
    have hlX := WrT.lt hW_1
    go_wp2_with fail
    have hI := HF0.out A0 c0' K0 d0 _ w_1 HN0.out hB_1 hW_1 (by have h := HLN.out; simp only [List.length_append, List.length_cons, List.length_nil, List.length_singleton] at h ⊢; omega)
    unfold ndV at hI
    go_at_call 81
    refine hI.mono ?_
    rintro e w_2 ⟨rfl, hW_2, hk_2⟩
    have hK_2 := hK_1.trans hk_2
    clear hI
    have hB_2 : Below w0.heap.size w0 w_2 := hBs.trans hK_2.b
    obtain ⟨n0_0, n0_1, n0_2, n0_3, n0_4, n0_5⟩ := hC0.later hB_2
    have hlk0 := World.block_lt_of_cell? _ _ n0_0
    obtain ⟨n1_0, n1_1, n1_2, n1_3, n1_4, n1_5⟩ := hC1.later hB_2
    have hlk1 := World.block_lt_of_cell? _ _ n1_0
    obtain ⟨n2_0, n2_1, n2_2, n2_3, n2_4, n2_5⟩ := hC2.later hB_2
    have hlk2 := World.block_lt_of_cell? _ _ n2_0
    have hlX := WrT.lt hW_2
    go_wp2_with fail
    have hWa := hW_2.alloc (.cells #[.string { data := #[32, 102, 111, 114, 32] }] 9)
    have hKa := hK_2.alloc (Nat.le_trans hB0 hK_2.b.size) (.cells #[.string { data := #[32, 102, 111, 114, 32] }] 9)
    have hbxa : True := trivial
    go_at_call 84
    refine (wSayT_ok w0.heap.size X dep _ ([32, 102, 111, 114, 32]) [⟨#[32, 102, 111, 114, 32]⟩] 1 _ _ hWa rfl (WrT.lt hW_2) (heap_alloc_new _ _) rfl (by decide) (by have h := HLN.out; simp only [List.length_append, List.length_cons, List.length_nil, List.length_singleton] at h ⊢; omega) (Nat.le_trans hB0 hKa.b.size)).mono ?_
    rintro e w_3 ⟨rfl, hW_3, hk_3⟩
    have hK_3 := hKa.trans hk_3
    have hB_3 : Below w0.heap.size w0 w_3 := hBs.trans hK_3.b
    obtain ⟨n0_0, n0_1, n0_2, n0_3, n0_4, n0_5⟩ := hC0.later hB_3
    have hlk0 := World.block_lt_of_cell? _ _ n0_0
    obtain ⟨n1_0, n1_1, n1_2, n1_3, n1_4, n1_5⟩ := hC1.later hB_3
    have hlk1 := World.block_lt_of_cell? _ _ n1_0
    obtain ⟨n2_0, n2_1, n2_2, n2_3, n2_4, n2_5⟩ := hC2.later hB_3
    have hlk2 := World.block_lt_of_cell? _ _ n2_0
    have hlX := WrT.lt hW_3
    go_wp2_with fail
    have hI := HF1.out A1 c1' K1 d1 _ w_3 HN1.out hB_3 hW_3 (by have h := HLN.out; simp only [List.length_append, List.length_cons, List.length_nil, List.length_singleton] at h ⊢; omega)
    unfold ndV at hI
    go_at_call 83
    refine hI.mono ?_
    rintro e w_4 ⟨rfl, hW_4, hk_4⟩
    have hK_4 := hK_3.trans hk_4
    clear hI
    have hB_4 : Below w0.heap.size w0 w_4 := hBs.trans hK_4.b
    obtain ⟨n0_0, n0_1, n0_2, n0_3, n0_4, n0_5⟩ := hC0.later hB_4
    have hlk0 := World.block_lt_of_cell? _ _ n0_0
    obtain ⟨n1_0, n1_1, n1_2, n1_3, n1_4, n1_5⟩ := hC1.later hB_4
    have hlk1 := World.block_lt_of_cell? _ _ n1_0
    obtain ⟨n2_0, n2_1, n2_2, n2_3, n2_4, n2_5⟩ := hC2.later hB_4
    have hlk2 := World.block_lt_of_cell? _ _ n2_0
    have hlX := WrT.lt hW_4
    go_wp2_with fail
    have hWa := hW_4.alloc (.cells #[.string { data := #[32, 105, 110, 32] }] 9)
    have hKa := hK_4.alloc (Nat.le_trans hB0 hK_4.b.size) (.cells #[.string { data := #[32, 105, 110, 32] }] 9)
    have hbxa : True := trivial
    go_at_call 84
    refine (wSayT_ok w0.heap.size X dep _ ([32, 105, 110, 32]) [⟨#[32, 105, 110, 32]⟩] 1 _ _ hWa rfl (WrT.lt hW_4) (heap_alloc_new _ _) rfl (by decide) (by have h := HLN.out; simp only [List.length_append, List.length_cons, List.length_nil, List.length_singleton] at h ⊢; omega) (Nat.le_trans hB0 hKa.b.size)).mono ?_
    rintro e w_5 ⟨rfl, hW_5, hk_5⟩
    have hK_5 := hKa.trans hk_5
    have hB_5 : Below w0.heap.size w0 w_5 := hBs.trans hK_5.b
    obtain ⟨n0_0, n0_1, n0_2, n0_3, n0_4, n0_5⟩ := hC0.later hB_5
    have hlk0 := World.block_lt_of_cell? _ _ n0_0
    obtain ⟨n1_0, n1_1, n1_2, n1_3, n1_4, n1_5⟩ := hC1.later hB_5
    have hlk1 := World.block_lt_of_cell? _ _ n1_0
    obtain ⟨n2_0, n2_1, n2_2, n2_3, n2_4, n2_5⟩ := hC2.later hB_5
    have hlk2 := World.block_lt_of_cell? _ _ n2_0
    have hlX := WrT.lt hW_5
    go_wp2_with fail
    have hI := HF2.out A2 c2' K2 d2 _ w_5 HN2.out hB_5 hW_5 (by have h := HLN.out; simp only [List.length_append, List.length_cons, List.length_nil, List.length_singleton] at h ⊢; omega)
    unfold ndV at hI
    go_at_call 81
    refine hI.mono ?_
    rintro e w_6 ⟨rfl, hW_6, hk_6⟩
    have hK_6 := hK_5.trans hk_6
    clear hI
    have hB_6 : Below w0.heap.size w0 w_6 := hBs.trans hK_6.b
    obtain ⟨n0_0, n0_1, n0_2, n0_3, n0_4, n0_5⟩ := hC0.later hB_6
    have hlk0 := World.block_lt_of_cell? _ _ n0_0
    obtain ⟨n1_0, n1_1, n1_2, n1_3, n1_4, n1_5⟩ := hC1.later hB_6
    have hlk1 := World.block_lt_of_cell? _ _ n1_0
    obtain ⟨n2_0, n2_1, n2_2, n2_3, n2_4, n2_5⟩ := hC2.later hB_6
    have hlk2 := World.block_lt_of_cell? _ _ n2_0
    have hlX := WrT.lt hW_6
    have HB7 := Lib.hid hB_6
    have HW7 := Lib.hid hW_6
    have HK7 := Lib.hid hK_6
    go_wp2_with fail
    go_loopw [38] (fun iv wr => ∃ k : Nat, iv = .int .i64 k ∧ k ≤ n - 3 ∧ Hid (WrT w0.heap.size X dep (l0 ++ op.data.toList ++ t0.txt ++ [32, 102, 111, 114, 32] ++ t1.txt ++ [32, 105, 110, 32] ++ t2.txt ++ (((l.map Nd.txt).drop 3).take k).flatMap (fun x => [32, 105, 102, 32] ++ x)) wr) ∧ Hid (WK w0.heap.size X w wr)) (fun iv _ => n - 3 - (intOf iv).toNat)
    case atStart => exact ⟨0, rfl, Nat.zero_le _, Lib.hid (HW7.out.eq (by simp)), HK7⟩
    case round =>
      obtain ⟨k, rfl, hk, hR, hbr⟩ := hrel
      by_cases hkl : k < n - 3
      · exfalso; omega
      · have o1 : decide ((k : Int) < (n : Int) - 3) = false := decide_eq_false (by omega)
        have o1' : decide ((k : Int) < ((n - 3 : Nat) : Int)) = false := decide_eq_false (by omega)
        have o2 : decide (k < n - 3) = false := decide_eq_false hkl
        have hR2 := hR.out
        rw [List.take_of_length_le (by rw [List.length_drop, List.length_map]; have := HNn.out; omega)] at hR2
        have hbw : Below w0.heap.size w0 wr := hBs.trans hbr.out.b
        have hXw : X < wr.heap.size := hR2.lt
        have hWa := hR2.alloc (.cells #[.string sh] 9)
        have hKa := (WK.refl w0.heap.size X wr).alloc hbw.size (.cells #[.string sh] 9)
        have HS := Lib.hid (wSayT_ok w0.heap.size X dep _ sh.data.toList [sh] 1 _ _ hWa rfl hXw (heap_alloc_new _ _) (by simp) (by decide) (by have h := HLN.out; simp only [List.length_append, List.length_cons, List.length_nil] at h ⊢; omega) (Nat.le_trans hbw.size hKa.b.size))
        have HKA := Lib.hid hKa
        clear hR2 hWa hKa
        go_wp2_with fail
        go_at_call 84
        refine HS.out.mono ?_
        rintro e w2 ⟨rfl, hw2, hk2⟩
        go_wp2_with fail
        go_end0
        exact ⟨rfl, hw2.eq (by rw [HTX.out]; simp only [List.append_assoc]), hbr.out.trans (HKA.out.trans hk2)⟩
  · have i6 : ¬ d = 3 := hd3
    obtain ⟨n0_0, n0_1, n0_2, n0_3, n0_4, n0_5⟩ := hC0.later hBs
    have hlk0 := World.block_lt_of_cell? _ _ n0_0
    obtain ⟨n1_0, n1_1, n1_2, n1_3, n1_4, n1_5⟩ := hC1.later hBs
    have hlk1 := World.block_lt_of_cell? _ _ n1_0
    obtain ⟨n2_0, n2_1, n2_2, n2_3, n2_4, n2_5⟩ := hC2.later hBs
    have hlk2 := World.block_lt_of_cell? _ _ n2_0
    have hlX := WrT.lt hW
    go_enter Tryz.func144, Tryz.ntmps144
    go_wp2_with fail
    have hWa := hW.alloc (.cells #[.string op] 9)
    have hKa := hK0.alloc (Nat.le_trans hB0 hK0.b.size) (.cells #[.string op] 9)
    have hbxa : True := trivial
    go_at_call 84
    refine (wSayT_ok w0.heap.size X dep _ (op.data.toList) [op] 1 _ _ hWa rfl (WrT.lt hW) (heap_alloc_new _ _) (by simp) (by decide) (by have h := HLN.out; simp only [List.length_append, List.length_cons, List.length_nil, List.length_singleton] at h ⊢; omega) (Nat.le_trans hB0 hKa.b.size)).mono ?_
    rintro e w_1 ⟨rfl, hW_1, hk_1⟩
    have hK_1 := hKa.trans hk_1
    have hB_1 : Below w0.heap.size w0 w_1 := hBs.trans hK_1.b
    obtain ⟨n0_0, n0_1, n0_2, n0_3, n0_4, n0_5⟩ := hC0.later hB_1
    have hlk0 := World.block_lt_of_cell? _ _ n0_0
    obtain ⟨n1_0, n1_1, n1_2, n1_3, n1_4, n1_5⟩ := hC1.later hB_1
    have hlk1 := World.block_lt_of_cell? _ _ n1_0
    obtain ⟨n2_0, n2_1, n2_2, n2_3, n2_4, n2_5⟩ := hC2.later hB_1
    have hlk2 := World.block_lt_of_cell? _ _ n2_0
    have hlX := WrT.lt hW_1
    go_wp2_with fail
    have hI := HF0.out A0 c0' K0 d0 _ w_1 HN0.out hB_1 hW_1 (by have h := HLN.out; simp only [List.length_append, List.length_cons, List.length_nil, List.length_singleton] at h ⊢; omega)
    unfold ndV at hI
    go_at_call 81
    refine hI.mono ?_
    rintro e w_2 ⟨rfl, hW_2, hk_2⟩
    have hK_2 := hK_1.trans hk_2
    clear hI
    have hB_2 : Below w0.heap.size w0 w_2 := hBs.trans hK_2.b
    obtain ⟨n0_0, n0_1, n0_2, n0_3, n0_4, n0_5⟩ := hC0.later hB_2
    have hlk0 := World.block_lt_of_cell? _ _ n0_0
    obtain ⟨n1_0, n1_1, n1_2, n1_3, n1_4, n1_5⟩ := hC1.later hB_2
    have hlk1 := World.block_lt_of_cell? _ _ n1_0
    obtain ⟨n2_0, n2_1, n2_2, n2_3, n2_4, n2_5⟩ := hC2.later hB_2
    have hlk2 := World.block_lt_of_cell? _ _ n2_0
    have hlX := WrT.lt hW_2
    go_wp2_with fail
    have hWa := hW_2.alloc (.cells #[.string { data := #[32, 102, 111, 114, 32] }] 9)
    have hKa := hK_2.alloc (Nat.le_trans hB0 hK_2.b.size) (.cells #[.string { data := #[32, 102, 111, 114, 32] }] 9)
    have hbxa : True := trivial
    go_at_call 84
    refine (wSayT_ok w0.heap.size X dep _ ([32, 102, 111, 114, 32]) [⟨#[32, 102, 111, 114, 32]⟩] 1 _ _ hWa rfl (WrT.lt hW_2) (heap_alloc_new _ _) rfl (by decide) (by have h := HLN.out; simp only [List.length_append, List.length_cons, List.length_nil, List.length_singleton] at h ⊢; omega) (Nat.le_trans hB0 hKa.b.size)).mono ?_
    rintro e w_3 ⟨rfl, hW_3, hk_3⟩
    have hK_3 := hKa.trans hk_3
    have hB_3 : Below w0.heap.size w0 w_3 := hBs.trans hK_3.b
    obtain ⟨n0_0, n0_1, n0_2, n0_3, n0_4, n0_5⟩ := hC0.later hB_3
    have hlk0 := World.block_lt_of_cell? _ _ n0_0
    obtain ⟨n1_0, n1_1, n1_2, n1_3, n1_4, n1_5⟩ := hC1.later hB_3
    have hlk1 := World.block_lt_of_cell? _ _ n1_0
    obtain ⟨n2_0, n2_1, n2_2, n2_3, n2_4, n2_5⟩ := hC2.later hB_3
    have hlk2 := World.block_lt_of_cell? _ _ n2_0
    have hlX := WrT.lt hW_3
    go_wp2_with fail
    have hI := HF1.out A1 c1' K1 d1 _ w_3 HN1.out hB_3 hW_3 (by have h := HLN.out; simp only [List.length_append, List.length_cons, List.length_nil, List.length_singleton] at h ⊢; omega)
    unfold ndV at hI
    go_at_call 83
    refine hI.mono ?_
    rintro e w_4 ⟨rfl, hW_4, hk_4⟩
    have hK_4 := hK_3.trans hk_4
    clear hI
    have hB_4 : Below w0.heap.size w0 w_4 := hBs.trans hK_4.b
    obtain ⟨n0_0, n0_1, n0_2, n0_3, n0_4, n0_5⟩ := hC0.later hB_4
    have hlk0 := World.block_lt_of_cell? _ _ n0_0
    obtain ⟨n1_0, n1_1, n1_2, n1_3, n1_4, n1_5⟩ := hC1.later hB_4
    have hlk1 := World.block_lt_of_cell? _ _ n1_0
    obtain ⟨n2_0, n2_1, n2_2, n2_3, n2_4, n2_5⟩ := hC2.later hB_4
    have hlk2 := World.block_lt_of_cell? _ _ n2_0
    have hlX := WrT.lt hW_4
    go_wp2_with fail
    have hWa := hW_4.alloc (.cells #[.string { data := #[32, 105, 110, 32] }] 9)
    have hKa := hK_4.alloc (Nat.le_trans hB0 hK_4.b.size) (.cells #[.string { data := #[32, 105, 110, 32] }] 9)
    have hbxa : True := trivial
    go_at_call 84
    refine (wSayT_ok w0.heap.size X dep _ ([32, 105, 110, 32]) [⟨#[32, 105, 110, 32]⟩] 1 _ _ hWa rfl (WrT.lt hW_4) (heap_alloc_new _ _) rfl (by decide) (by have h := HLN.out; simp only [List.length_append, List.length_cons, List.length_nil, List.length_singleton] at h ⊢; omega) (Nat.le_trans hB0 hKa.b.size)).mono ?_
    rintro e w_5 ⟨rfl, hW_5, hk_5⟩
    have hK_5 := hKa.trans hk_5
    have hB_5 : Below w0.heap.size w0 w_5 := hBs.trans hK_5.b
    obtain ⟨n0_0, n0_1, n0_2, n0_3, n0_4, n0_5⟩ := hC0.later hB_5
    have hlk0 := World.block_lt_of_cell? _ _ n0_0
    obtain ⟨n1_0, n1_1, n1_2, n1_3, n1_4, n1_5⟩ := hC1.later hB_5
    have hlk1 := World.block_lt_of_cell? _ _ n1_0
    obtain ⟨n2_0, n2_1, n2_2, n2_3, n2_4, n2_5⟩ := hC2.later hB_5
    have hlk2 := World.block_lt_of_cell? _ _ n2_0
    have hlX := WrT.lt hW_5
    go_wp2_with fail
    have hI := HF2.out A2 c2' K2 d2 _ w_5 HN2.out hB_5 hW_5 (by have h := HLN.out; simp only [List.length_append, List.length_cons, List.length_nil, List.length_singleton] at h ⊢; omega)
    unfold ndV at hI
    go_at_call 81
    refine hI.mono ?_
    rintro e w_6 ⟨rfl, hW_6, hk_6⟩
    have hK_6 := hK_5.trans hk_6
    clear hI
    have hB_6 : Below w0.heap.size w0 w_6 := hBs.trans hK_6.b
    obtain ⟨n0_0, n0_1, n0_2, n0_3, n0_4, n0_5⟩ := hC0.later hB_6
    have hlk0 := World.block_lt_of_cell? _ _ n0_0
    obtain ⟨n1_0, n1_1, n1_2, n1_3, n1_4, n1_5⟩ := hC1.later hB_6
    have hlk1 := World.block_lt_of_cell? _ _ n1_0
    obtain ⟨n2_0, n2_1, n2_2, n2_3, n2_4, n2_5⟩ := hC2.later hB_6
    have hlk2 := World.block_lt_of_cell? _ _ n2_0
    have hlX := WrT.lt hW_6
    have HB7 := Lib.hid hB_6
    have HW7 := Lib.hid hW_6
    have HK7 := Lib.hid hK_6
    go_wp2_with fail
    go_loopw [38] (fun iv wr => ∃ k : Nat, iv = .int .i64 k ∧ k ≤ n - 3 ∧ Hid (WrT w0.heap.size X dep (l0 ++ op.data.toList ++ t0.txt ++ [32, 102, 111, 114, 32] ++ t1.txt ++ [32, 105, 110, 32] ++ t2.txt ++ (((l.map Nd.txt).drop 3).take k).flatMap (fun x => [32, 105, 102, 32] ++ x)) wr) ∧ Hid (WK w0.heap.size X w wr)) (fun iv _ => n - 3 - (intOf iv).toNat)
    case atStart => exact ⟨0, rfl, Nat.zero_le _, Lib.hid (HW7.out.eq (by simp)), HK7⟩
    case round =>
      obtain ⟨k, rfl, hk, hR, hbr⟩ := hrel
      by_cases hkl : k < n - 3
      · have o1 : decide ((k : Int) < (n : Int) - 3) = true := decide_eq_true (by omega)
        have o1' : decide ((k : Int) < ((n - 3 : Nat) : Int)) = true := decide_eq_true (by omega)
        have o2 : decide (k < n - 3) = true := decide_eq_true hkl
        obtain ⟨t, ht⟩ : ∃ t, l[k + 3]? = some t := ⟨_, List.getElem?_eq_getElem (by rw [HNn.out]; omega)⟩
        obtain ⟨b, off, A', c', K', d', hKe, hC, hNt⟩ := HL.out.kid ht
        rw [Nat.zero_add, show off + (k + 3) * 6 = off + 18 + k * 6 by omega] at hC
        injection hKe with hKe
        injection hKe with q1 q2
        subst q1 q2
        have hbw : Below w0.heap.size w0 wr := hBs.trans hbr.out.b
        obtain ⟨m0, m1, m2, m3, m4, m5⟩ := hC.later hbw
        have hbn := World.block_lt_of_cell? _ _ m0
        have hXw : X < wr.heap.size := hR.out.lt
        have hmt : ((l.map Nd.txt).drop 3)[k]? = some t.txt := by rw [List.getElem?_drop, show 3 + k = k + 3 by omega, List.getElem?_map, ht]; rfl
        have hst := flat_if_take hmt
        have hle := flat_if_le ((l.map Nd.txt).drop 3) (k + 1)
        have hlt2 : (l0 ++ op.data.toList ++ t0.txt ++ [32, 102, 111, 114, 32] ++ t1.txt ++ [32, 105, 110, 32] ++ t2.txt ++ (((l.map Nd.txt).drop 3).take k).flatMap (fun x => [32, 105, 102, 32] ++ x)).length + 4 + t.txt.length ≤ 1000000000000 := by
          have h := HLN.out
          rw [hst, List.length_append, List.length_append] at hle
          simp only [List.length_append, List.length_cons, List.length_nil] at h hle ⊢
          omega
        have hbt := (Below.refl wr.heap.size wr).alloc (Nat.le_refl _) (.cells #[.int .i64 t.kind, .int .i64 t.pos, .string t.text, .bool t.neg, .slice A' t.mag.length c', .slice K' t.kids.length d'] 27)
        have hkt : WK w0.heap.size X wr (wr.alloc (.cells #[.int .i64 t.kind, .int .i64 t.pos, .string t.text, .bool t.neg, .slice A' t.mag.length c', .slice K' t.kids.length d'] 27)) := (WK.refl _ _ _).alloc hbw.size _
        have hRt := hR.out.alloc (.cells #[.int .i64 t.kind, .int .i64 t.pos, .string t.text, .bool t.neg, .slice A' t.mag.length c', .slice K' t.kids.length d'] 27)
        have hbox := heap_alloc_new wr (.cells #[.int .i64 t.kind, .int .i64 t.pos, .string t.text, .bool t.neg, .slice A' t.mag.length c', .slice K' t.kids.length d'] 27)
        obtain ⟨z0, z1, z2, z3, z4, z5⟩ := (cells_box hbox).box
        have hFt := HE.out k t ht
        have hRt2 := hRt.alloc (.cells #[.string { data := #[32, 105, 102, 32] }] 9)
        have hkt2 := hkt.alloc (Nat.le_trans hbw.size hkt.b.size) (.cells #[.string { data := #[32, 105, 102, 32] }] 9)
        have hsg : (wr.alloc (.cells #[.int .i64 t.kind, .int .i64 t.pos, .string t.text, .bool t.neg, .slice A' t.mag.length c', .slice K' t.kids.length d'] 27)).heap.size = wr.heap.size + 1 := by simp
        have hS := wSayT_ok w0.heap.size X dep _ [32, 105, 102, 32] [⟨#[32, 105, 102, 32]⟩] 1 (wr.heap.size + 1) _ hRt2 rfl (by omega) (by rw [← hsg]; exact heap_alloc_new _ _) rfl (by decide) (by have : ([32, 105, 102, 32] : List UInt8).length = 4 := rfl; omega) (Nat.le_trans hbw.size hkt2.b.size)
        have HS := Lib.hid hS
        have hbox2 : ((wr.alloc (.cells #[.int .i64 t.kind, .int .i64 t.pos, .string t.text, .bool t.neg, .slice A' t.mag.length c', .slice K' t.kids.length d'] 27)).alloc (.cells #[.string { data := #[32, 105, 102, 32] }] 9)).heap[wr.heap.size]? = some (.cells #[.int .i64 t.kind, .int .i64 t.pos, .string t.text, .bool t.neg, .slice A' t.mag.length c', .slice K' t.kids.length d'] 27 (0, 0)) := (Lib.alloc_old _ _ _ (by simp)).trans hbox
        have HBX := Lib.hid hbox2
        have HFt := Lib.hid hFt
        have HNt := Lib.hid hNt
        have HBW := Lib.hid hbw
        have HKT := Lib.hid hkt2
        have HST := Lib.hid hst
        have HLT := Lib.hid hlt2
        clear hS hC hNt ht hmt hst hle hbt hkt hRt hbox hFt hbw hRt2 hkt2 hbox2 hlt2 hsg
        go_wp2_with fail
        go_at_call 84
        refine HS.out.mono ?_
        rintro e w2 ⟨rfl, hw2, hk2⟩
        have hbx := box_keep hk2 HBX.out hXw
        obtain ⟨y0, y1, y2, y3, y4, y5⟩ := (cells_box hbx).box
        have hyl := World.block_lt_of_cell? _ _ y0
        have hI := HFt.out A' c' K' d' _ w2 HNt.out (HBW.out.trans (HKT.out.trans hk2).b) hw2 (by have := HLT.out; have h4 : ([32, 105, 102, 32] : List UInt8).length = 4 := rfl; rw [List.length_append]; omega)
        unfold ndV at hI
        have HI := Lib.hid hI
        clear hI
        go_wp2_with fail
        go_at_call 81
        refine HI.out.mono ?_
        rintro e w3 ⟨rfl, hw3, hk3⟩
        go_wp2_with fail
        go_roundw
        case rel => exact ⟨k + 1, by go_num, by omega, Lib.hid (hw3.eq (by rw [HST.out]; simp only [List.append_assoc])), Lib.hid (hbr.out.trans ((HKT.out.trans hk2).trans hk3))⟩
        case measure => simp [intOf]; omega
      · have o1 : decide ((k : Int) < (n : Int) - 3) = false := decide_eq_false (by omega)
        have o1' : decide ((k : Int) < ((n - 3 : Nat) : Int)) = false := decide_eq_false (by omega)
        have o2 : decide (k < n - 3) = false := decide_eq_false hkl
        have hR2 := hR.out
        rw [List.take_of_length_le (by rw [List.length_drop, List.length_map]; have := HNn.out; omega)] at hR2
        have hbw : Below w0.heap.size w0 wr := hBs.trans hbr.out.b
        have hXw : X < wr.heap.size := hR2.lt
        have hWa := hR2.alloc (.cells #[.string sh] 9)
        have hKa := (WK.refl w0.heap.size X wr).alloc hbw.size (.cells #[.string sh] 9)
        have HS := Lib.hid (wSayT_ok w0.heap.size X dep _ sh.data.toList [sh] 1 _ _ hWa rfl hXw (heap_alloc_new _ _) (by simp) (by decide) (by have h := HLN.out; simp only [List.length_append, List.length_cons, List.length_nil] at h ⊢; omega) (Nat.le_trans hbw.size hKa.b.size))
        have HKA := Lib.hid hKa
        clear hR2 hWa hKa
        go_wp2_with fail
        go_at_call 84
        refine HS.out.mono ?_
        rintro e w2 ⟨rfl, hw2, hk2⟩
        go_wp2_with fail
        go_end0
        exact ⟨rfl, hw2.eq (by rw [HTX.out]; simp only [List.append_assoc]), hbr.out.trans (HKA.out.trans hk2)⟩
end
section
set_option linter.unusedVariables false
set_option linter.unusedSimpArgs false
open Go.RowKit
set_option maxRecDepth 1000000
theorem ex_kids {T : Nd} (h : Ex T) (h41 : ¬ T.kind = 41) (h42 : ¬ T.kind = 42) (h43 : ¬ T.kind = 43) : ∀ t ∈ T.kids, Ex t := by
  obtain ⟨x, fm, hf, hev, -⟩ := te_form h.te
  have hm := form_at hf
  have hk := h.2
  have all1 : ∀ (s : Sh) (l : List Nd), (∀ t, s.ev Nd.right t = true → Ex t) → l.all (s.ev Nd.right) = true → ∀ t ∈ l, Ex t := fun s l hs hl t ht => hs t (List.all_eq_true.1 hl t ht)
  have E : ∀ t, Sh.expr.ev Nd.right t = true → Ex t := fun t h => ev_ex h
  have G : ∀ t, Sh.target.ev Nd.right t = true → Ex t := fun t h => ev_tgt h
  have O : ∀ k, 31 ≤ k → ∀ t, (Sh.of k).ev Nd.right t = true → Ex t := fun k hk t h => ev_of' h hk
  have hrow : ∀ n, rowB T.kids (List.replicate n (Sh.expr.ev Nd.right)) = true → ∀ t ∈ T.kids, Ex t := fun n hr => rowB_mem hr (fun p hp t ht => E t (by rw [List.eq_of_mem_replicate hp] at ht; exact ht))
  have hcll : Fm.cll.ev Nd.right T = true → ∀ t ∈ T.kids, Ex t := by
    intro hc
    simp only [Fm.ev, Bool.and_eq_true] at hc
    intro t ht
    rcases mem_take_drop 1 ht with ht | ht
    · exact all1 .expr _ E hc.1.2 t ht
    · rcases mem_dropW (p := Sh.expr.ev Nd.right) ht with h | ht
      · exact E t h
      · rcases mem_dropW (p := (Sh.of 52).ev Nd.right) ht with h | ht
        · exact O 52 (by decide) t h
        · rcases Bool.or_eq_true _ _ ▸ hc.2 with h | h
          · rw [List.isEmpty_iff] at h; rw [h] at ht; simp at ht
          · refine rowB_mem (P := Ex) h ?_ t ht
            intro p hp t ht
            simp only [List.mem_singleton] at hp
            subst hp
            exact O 40 (by decide) t ht
  generalize T.kind = k at *
  simp only [forms, List.mem_cons, List.not_mem_nil, or_false, Prod.mk.injEq] at hm
  rcases hm with ⟨h1, h2, h3⟩ | ⟨h1, h2, h3⟩ | ⟨h1, h2, h3⟩ | ⟨h1, h2, h3⟩ | ⟨h1, h2, h3⟩ | ⟨h1, h2, h3⟩ | ⟨h1, h2, h3⟩ | ⟨h1, h2, h3⟩ | ⟨h1, h2, h3⟩ | ⟨h1, h2, h3⟩ | ⟨h1, h2, h3⟩ | ⟨h1, h2, h3⟩ | ⟨h1, h2, h3⟩ | ⟨h1, h2, h3⟩ | ⟨h1, h2, h3⟩ | ⟨h1, h2, h3⟩ | ⟨h1, h2, h3⟩ | ⟨h1, h2, h3⟩ | ⟨h1, h2, h3⟩ | ⟨h1, h2, h3⟩ | ⟨h1, h2, h3⟩ | ⟨h1, h2, h3⟩ | ⟨h1, h2, h3⟩ | ⟨h1, h2, h3⟩ | ⟨h1, h2, h3⟩ | ⟨h1, h2, h3⟩ | ⟨h1, h2, h3⟩ | ⟨h1, h2, h3⟩ | ⟨h1, h2, h3⟩ | ⟨h1, h2, h3⟩ | ⟨h1, h2, h3⟩ | ⟨h1, h2, h3⟩ | ⟨h1, h2, h3⟩ | ⟨h1, h2, h3⟩ | ⟨h1, h2, h3⟩ | ⟨h1, h2, h3⟩ | ⟨h1, h2, h3⟩ | ⟨h1, h2, h3⟩ | ⟨h1, h2, h3⟩ | ⟨h1, h2, h3⟩ | ⟨h1, h2, h3⟩ | ⟨h1, h2, h3⟩ | ⟨h1, h2, h3⟩ | ⟨h1, h2, h3⟩ | ⟨h1, h2, h3⟩ | ⟨h1, h2, h3⟩ | ⟨h1, h2, h3⟩
  all_goals subst h1 h2 h3
  all_goals first
    | (exfalso; omega)
    | exact hrow 0 hev
    | exact hrow 1 hev
    | exact hrow 2 hev
    | exact hrow 3 hev
    | (simp only [Fm.ev, Bool.and_eq_true] at hev; exact all1 .expr _ E hev.2)
    | (simp only [Fm.ev, Bool.and_eq_true] at hev; exact all1 .target _ G hev.2)
    | (simp only [Fm.ev, Bool.and_eq_true] at hev
       refine all1 (.or2 (.of 39) (.of 40)) _ (fun t ht => ?_) hev.2
       rcases Bool.or_eq_true _ _ ▸ (show ((Sh.of 39).ev Nd.right t || (Sh.of 40).ev Nd.right t) = true from ht) with h | h
       · exact O 39 (by decide) t h
       · exact O 40 (by decide) t h)
    | exact hcll hev
theorem cmp_ex {T : Nd} (h : Ex T) (hk : T.kind = 41 ∨ T.kind = 42 ∨ T.kind = 43) : 3 ≤ T.kids.length ∧ ∀ t ∈ T.kids.take 1 ++ T.kids.drop 2, Ex t := by
  obtain ⟨x, fm, hf, hev, -⟩ := te_form h.te
  have main : ∀ s : Sh, (∀ t, s.ev Nd.right t = true → Ex t) → (Fm.cmp s).ev Nd.right T = true → 3 ≤ T.kids.length ∧ ∀ t ∈ T.kids.take 1 ++ T.kids.drop 2, Ex t := by
    intro s hs hc
    rw [cmp_eq] at hc
    simp only [compL, Bool.and_eq_true, decide_eq_true_eq] at hc
    refine ⟨hc.2.2.1, fun t ht => ?_⟩
    rcases List.mem_append.1 ht with ht | ht
    · exact hs t (List.all_eq_true.1 hc.2.1 t ht)
    · exact ev_ex (List.all_eq_true.1 hc.2.2.2.2 t ht)
  rcases hk with hk | hk | hk <;> rw [hk] at hf
  · have hq : fm = .cmp .expr := by
      have : formOf 41 = some (.non, .cmp .expr) := rfl
      rw [this] at hf; injection hf with hf; injection hf with _ hf; exact hf.symm
    subst hq; exact main _ (fun t ht => ev_ex ht) hev
  · have hq : fm = .cmp .expr := by
      have : formOf 42 = some (.non, .cmp .expr) := rfl
      rw [this] at hf; injection hf with hf; injection hf with _ hf; exact hf.symm
    subst hq; exact main _ (fun t ht => ev_ex ht) hev
  · have hq : fm = .cmp (.of 39) := by
      have : formOf 43 = some (.non, .cmp (.of 39)) := rfl
      rw [this] at hf; injection hf with hf; injection hf with _ hf; exact hf.symm
    subst hq; exact main _ (fun t ht => ev_of' ht (by decide)) hev
theorem len_row {T : Nd} {k : Int} (hk : T.kind = k) (h : T.right = true) {tx : Tx} {L : List Sh} (hf : formOf k = some (tx, .row L)) (h32 : k ≠ 32) : T.kids.length = L.length := by
  rw [right_at hk hf h32] at h
  simp only [Bool.and_eq_true] at h
  rcases Nat.decEq T.kids.length L.length with e | e
  · have := rowB_len (l := T.kids) (L := L.map (Sh.ev Nd.right)) (by simpa using e)
    have h2 : rowB T.kids (L.map (Sh.ev Nd.right)) = true := h.2
    rw [this] at h2; cases h2
  · exact e
theorem len_call {T : Nd} (hk : T.kind = 51) (h : T.right = true) : 1 ≤ T.kids.length := by
  rw [right_at hk (tx := .non) (fm := .cll) rfl (by decide)] at h
  simp only [Fm.ev, Bool.and_eq_true, decide_eq_true_eq] at h
  exact h.2.1.1
end
end Go.Proofs.YtjefhdlncikhmaaGreatDoor
