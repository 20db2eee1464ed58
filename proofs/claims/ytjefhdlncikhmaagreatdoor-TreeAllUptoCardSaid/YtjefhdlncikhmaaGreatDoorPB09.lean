/- Joined by a program: Try, Call, Fq, Q2. -/
import Derived.WalkKit
import Derived.Deep.RegionHeld3
import Derived.Deep.RegionWith
import Derived.Laws.BytesArg
import Derived.Test.YtjefhdlncikhmaaGreatDoorShelf
import Derived.Test.YtjefhdlncikhmaaGreatDoorPB04
import Derived.Test.YtjefhdlncikhmaaGreatDoorPB05
import Derived.Test.YtjefhdlncikhmaaGreatDoorPB08
namespace Go.Proofs.YtjefhdlncikhmaaGreatDoor
section
set_option linter.unusedVariables false
set_option linter.unusedSimpArgs false
open Go.RowKit
set_option maxRecDepth 1000000
theorem catch_drop {l : List Nd} {k : Nat} {x : Nd} (h : l[k]? = some x) : catchB Nd.right (l.drop k) = (x.kind == 22 && x.right && !((match x.kids with | [] => false | q :: _ => q.kind == 0) && !(l.drop (k + 1)).isEmpty) && catchB Nd.right (l.drop (k + 1))) := by
  obtain ⟨h1, rfl⟩ := List.getElem?_eq_some_iff.1 h
  rw [List.drop_eq_getElem_cons h1]
  simp only [catchB]
  rfl
/-- an except that is right has kids. -/
theorem except_kids {x : Nd} (hk : x.kind = 22) (hr : x.right = true) : x.kids.length = 2 := by
  rw [right_eq, hk] at hr
  have hf : formOf 22 = some (.exc, .exc) := rfl
  rw [hf] at hr
  simp only [Fm.ev, Bool.and_eq_true] at hr
  rcases Nat.decEq x.kids.length 2 with h | h
  · have := rowB_len (l := x.kids) (L := [(Sh.or2 .none .expr).ev Nd.right, Sh.block.ev Nd.right]) (by simpa using h)
    rw [this] at hr
    simp at hr
  · exact h
theorem isEmpty_drop (l : List Nd) (k : Nat) : (l.drop k).isEmpty = decide (l.length ≤ k) := by
  by_cases h : l.length ≤ k
  · rw [List.drop_eq_nil_of_le h, decide_eq_true h]; rfl
  · rw [decide_eq_false h, List.drop_eq_getElem_cons (by omega)]; rfl
set_option maxHeartbeats 16000000 in
theorem tTry_ok (D : Nat) (hRi : RightOk D) (T : Nd) (A : Option Addr) (c : Nat) (K : Option Addr) (d : Nat) (w : World) (hD : T.depth ≤ D + 1) (hW : T.weight ≤ 1048576) (hN : NodeAt w T A c K d) (hT : Lib.Utf8Tabs 0 1 w) :
    Calls Tryz.prog 76 #[ndV T A c K d] w fun e w' => e = .returned (.bool (Fm.tri.ev Nd.right T)) ∧ Below w.heap.size w w' := by
  have hWi := within_kids hD hW
  have hkp := hN.parts
  by_cases h0 : T.kids.length < 2
  · have e1 : decide ((T.kids.length : Int) < 2) = true := decide_eq_true (by omega)
    have e1' : decide (T.kids.length < 2) = true := decide_eq_true (by omega)
    have e2 : decide (2 ≤ T.kids.length) = false := decide_eq_false (by omega)
    have HE2 := Lib.hid e2
    clear hWi hkp e2 h0
    obtain ⟨hm1, hm2, hrm, hw32, hk1, hk2, hk64, ha64, hts, hKs⟩ := hN.parts
    unfold maxLen at hm2 hk2 hts
    obtain ⟨hk64a, hk64b⟩ := hk64
    obtain ⟨ha64a, ha64b⟩ := ha64
    have HK := Lib.hid (fun (i : Nat) (t : Nd) (hi : T.kids[i]? = some t) => hN.kid hi)
    have hb1 := (Below.refl w.heap.size w).alloc (Nat.le_refl _) (.cells #[.int .i64 T.kind, .int .i64 T.pos, .string T.text, .bool T.neg, .slice A T.mag.length c, .slice K T.kids.length d] 27)
    obtain ⟨c0, c1, c2, c3, c4, c5⟩ := (cellsN_new w T A c K d 27).box
    unfold ndV
    clear hKs hN
    go_enter Tryz.func76, Tryz.ntmps76
    go_wp2_with fail
    go_ret
    exact ⟨by show Ending.returned (.bool _) = _; simp [Fm.ev, HE2.out], hb1⟩
  · obtain ⟨m, hm⟩ : ∃ m, T.kids.length = m + 2 := ⟨T.kids.length - 2, by omega⟩
    obtain ⟨t0, ht0⟩ : ∃ t0, T.kids[0]? = some t0 := ⟨_, List.getElem?_eq_getElem (by omega)⟩
    obtain ⟨b, off, A0, c0', K0, d0', hKe, hC0, hN0⟩ := hN.kid ht0
    rw [Nat.zero_mul, Nat.add_zero] at hC0
    subst hKe
    have htk : T.kids.take 1 = [t0] := by
      obtain ⟨q1, q2⟩ := List.getElem?_eq_some_iff.1 ht0
      cases hks : T.kids with
      | nil => rw [hks] at q1; simp at q1
      | cons a r => simp [hks] at q2; simp [q2]
    have hEv : Fm.tri.ev Nd.right T = (Sh.block.ev Nd.right t0 && catchB Nd.right (T.kids.drop 1)) := by
      simp only [Fm.ev, htk]
      rw [decide_eq_true (by omega)]
      simp
    rw [hEv]
    have hbx := (Below.refl w.heap.size w).alloc (Nat.le_refl _) (.cells #[.int .i64 T.kind, .int .i64 T.pos, .string T.text, .bool T.neg, .slice A T.mag.length c, .slice (some ⟨b, off, none⟩) T.kids.length d] 27)
    have hds := hWi t0 (List.mem_of_getElem? ht0)
    have HBl := Lib.hid (fun W (hb : Below w.heap.size w W) => by
      have := tBlock_ok D hRi t0 A0 c0' K0 d0' W hds.1 hds.2 (hN0.later hb) (Utf8Tabs_below hT hb)
      unfold ndV at this
      exact this)
    have o1 : decide ((T.kids.length : Int) < 2) = false := decide_eq_false (by omega)
    have o2 : decide (T.kids.length < 2) = false := decide_eq_false (by omega)
    have o3 : (0 : Int) < (T.kids.length : Int) := by omega
    have o4 : 0 < T.kids.length := by omega
    have s0 : T.kids.length ≤ d := hkp.2.2.2.2.1
    have s1 : (1 : Int) ≤ (d : Int) := by omega
    have s2 : (1 : Int) ≤ (T.kids.length : Int) := by omega
    have s3 : (T.kids.length : Int) ≤ (d : Int) := by omega
    have s4 : ¬ d = 1 := by omega
    obtain ⟨n0, n1, n2, n3, n4, n5⟩ := hC0.later hbx
    have HT := Lib.hid hT
    have HRi := Lib.hid hRi
    have HWi := Lib.hid hWi
    have HM := Lib.hid hm
    generalize hbr : Sh.block.ev Nd.right t0 = br at *
    clear hbr hEv htk h0 ht0 hC0 hN0 hds hkp hWi hbx hRi hT hm
    cases br
    · obtain ⟨hm1, hm2, hrm, hw32, hk1, hk2, hk64, ha64, hts, hKs⟩ := hN.parts
      unfold maxLen at hm2 hk2 hts
      obtain ⟨hk64a, hk64b⟩ := hk64
      obtain ⟨ha64a, ha64b⟩ := ha64
      have HK := Lib.hid (fun (i : Nat) (t : Nd) (hi : T.kids[i]? = some t) => hN.kid hi)
      have hb1 := (Below.refl w.heap.size w).alloc (Nat.le_refl _) (.cells #[.int .i64 T.kind, .int .i64 T.pos, .string T.text, .bool T.neg, .slice A T.mag.length c, .slice (some ⟨b, off, none⟩) T.kids.length d] 27)
      obtain ⟨c0, c1, c2, c3, c4, c5⟩ := (cellsN_new w T A c (some ⟨b, off, none⟩) d 27).box
      unfold ndV
      clear hKs hN
      go_enter Tryz.func76, Tryz.ntmps76
      go_wp2_with (go_at_call 71; refine (HBl.out _ hb1).mono ?_; rintro e w3 ⟨rfl, hb3⟩; have hw3 := hb1.trans (hb3.mono hb1.size); have p5 := cell_later hb3 c5; have hlw := World.block_lt_of_cell? _ _ p5)
      go_ret
      exact ⟨rfl, hw3⟩
    · obtain ⟨hm1, hm2, hrm, hw32, hk1, hk2, hk64, ha64, hts, hKs⟩ := hN.parts
      unfold maxLen at hm2 hk2 hts
      obtain ⟨hk64a, hk64b⟩ := hk64
      obtain ⟨ha64a, ha64b⟩ := ha64
      have HK := Lib.hid (fun (i : Nat) (t : Nd) (hi : T.kids[i]? = some t) => hN.kid hi)
      have hb1 := (Below.refl w.heap.size w).alloc (Nat.le_refl _) (.cells #[.int .i64 T.kind, .int .i64 T.pos, .string T.text, .bool T.neg, .slice A T.mag.length c, .slice (some ⟨b, off, none⟩) T.kids.length d] 27)
      obtain ⟨c0, c1, c2, c3, c4, c5⟩ := (cellsN_new w T A c (some ⟨b, off, none⟩) d 27).box
      unfold ndV
      clear hKs hN
      go_enter Tryz.func76, Tryz.ntmps76
      go_wp2_with (go_at_call 71; refine (HBl.out _ hb1).mono ?_; rintro e w3 ⟨rfl, hb3⟩; have hw3 := hb1.trans (hb3.mono hb1.size); have p5 := cell_later hb3 c5; have hlw := World.block_lt_of_cell? _ _ p5)
      have HB3 := Lib.hid hw3
      go_loopw [21] (fun iv wr => ∃ k : Nat, iv = .int .i64 k ∧ k ≤ T.kids.length - 1 ∧ Hid (catchB Nd.right (T.kids.drop 1) = catchB Nd.right (T.kids.drop (k + 1))) ∧ Below w3.heap.size w3 wr) (fun iv _ => T.kids.length - 1 - (intOf iv).toNat)
      case atStart => exact ⟨0, rfl, Nat.zero_le _, Lib.hid rfl, Below.refl _ _⟩
      case round =>
        obtain ⟨k, rfl, hk, hR, hbr⟩ := hrel
        have hbw := hw3.trans (hbr.mono hw3.size)
        have d5 := cell_later hbr p5
        have hlw2 := World.block_lt_of_cell? _ _ d5
        by_cases hkl : k < T.kids.length - 1
        · have u1 : decide ((k : Int) < ((T.kids.length - 1 : Nat) : Int)) = true := decide_eq_true (by omega)
          have u2 : decide (k < T.kids.length - 1) = true := decide_eq_true hkl
          have u3 : decide ((k : Int) < (T.kids.length : Int) - 1) = true := decide_eq_true (by omega)
          obtain ⟨t, ht⟩ : ∃ t, T.kids[k + 1]? = some t := ⟨_, List.getElem?_eq_getElem (by omega)⟩
          obtain ⟨b2, off2, A', c', K', d', hKe, hC, hNt⟩ := HK.out (k + 1) t ht
          injection hKe with hKe
          injection hKe with e1 e2
          subst e1 e2
          rw [show off + (k + 1) * 6 = off + 6 + k * 6 by omega] at hC
          obtain ⟨m0, m1, m2, m3, m4, m5⟩ := hC.later hbw
          obtain ⟨hd1, hw1⟩ := HWi.out t (List.mem_of_getElem? ht)
          have hbt := (Below.refl wr.heap.size wr).alloc (Nat.le_refl _) (.cells #[.int .i64 t.kind, .int .i64 t.pos, .string t.text, .bool t.neg, .slice A' t.mag.length c', .slice K' t.kids.length d'] 27)
          have hbq := hbw.trans (hbt.mono hbw.size)
          obtain ⟨z0, z1, z2, z3, z4, z5⟩ := (cellsN_new wr t A' c' K' d' 27).box
          have hI := HRi.out t A' c' K' d' _ hd1 hw1 ((hNt.later hbw).later hbt) (Utf8Tabs_below (Utf8Tabs_below HT.out hbw) hbt)
          unfold ndV at hI
          have HI := Lib.hid hI
          have hPD := catch_drop ht
          have HKT := Lib.hid (fun (q : Nd) (hq : t.kids[0]? = some q) => hNt.kid hq)
          clear hI hC hNt ht hd1 hw1
          by_cases h22 : t.kind = 22
          · have e1 : (t.kind == 22) = true := by simpa using h22
            have e1' : (t.kind != 22) = false := by simp [h22]
            have HK22 := Lib.hid h22
            rw [e1] at hPD
            clear h22
            cases htr : t.right with
            | false =>
              rw [htr] at hPD HI
              have HPD := Lib.hid hPD
              clear hPD htr
              go_wp2_with (go_at_call 27; refine HI.out.mono ?_; rintro e w4 ⟨rfl, hb4⟩)
              go_ret
              exact ⟨by rw [hR.out, HPD.out]; rfl, hbq.trans (hb4.mono hbq.size)⟩
            | true =>
              have hx2 := except_kids HK22.out htr
              rw [htr] at hPD HI
              obtain ⟨q, hq⟩ : ∃ q, t.kids[0]? = some q := ⟨_, List.getElem?_eq_getElem (by omega)⟩
              obtain ⟨b2, off2, A2, c2, K2, d2, hK2, hC2, _⟩ := HKT.out q hq
              rw [Nat.zero_mul, Nat.add_zero] at hC2
              subst hK2
              have i0 : (0 : Int) < (t.kids.length : Int) := by omega
              have i1 : 0 < t.kids.length := by omega
              have kc2 := cell_later hbt (cell_later hbw hC2.1)
              have hmq : (match t.kids with | [] => false | q :: _ => q.kind == 0) = (q.kind == 0) := by
                cases hks : t.kids with
                | nil => rw [hks] at hq; simp at hq
                | cons a r => rw [hks] at hq; simp at hq; rw [hq]
              rw [hmq, isEmpty_drop] at hPD
              clear hx2 htr hq hC2 hmq
              by_cases hq0 : q.kind = 0
              · have z1 : (q.kind == 0) = true := by simpa using hq0
                rw [z1] at hPD
                clear hq0
                by_cases hkn : k < T.kids.length - 2
                · have q1 : decide ((k : Int) < (T.kids.length : Int) - 2) = true := decide_eq_true (by omega)
                  have q2 : decide (k < T.kids.length - 2) = true := decide_eq_true hkn
                  have HPD := Lib.hid (show catchB Nd.right (T.kids.drop (k + 1)) = false by rw [hPD, decide_eq_false (by omega)]; simp)
                  clear hPD hkn
                  go_wp2_with (go_at_call 27; refine HI.out.mono ?_; rintro e w4 ⟨rfl, hb4⟩; have y5 := cell_later hb4 z5; have yk := cell_later hb4 kc2; have hlb3 : b2 < w4.heap.size := World.block_lt_of_cell? _ _ yk; have x5 := cell_later hb4 (cell_later hbt d5))
                  go_ret
                  exact ⟨by rw [hR.out, HPD.out]; rfl, hbq.trans (hb4.mono hbq.size)⟩
                · have q1 : decide ((k : Int) < (T.kids.length : Int) - 2) = false := decide_eq_false (by omega)
                  have q2 : decide (k < T.kids.length - 2) = false := decide_eq_false hkn
                  have HPD := Lib.hid (show catchB Nd.right (T.kids.drop (k + 1)) = catchB Nd.right (T.kids.drop (k + 1 + 1)) by rw [hPD, decide_eq_true (by omega)]; simp)
                  clear hPD hkn
                  go_wp2_with (go_at_call 27; refine HI.out.mono ?_; rintro e w4 ⟨rfl, hb4⟩; have y5 := cell_later hb4 z5; have yk := cell_later hb4 kc2; have hlb3 : b2 < w4.heap.size := World.block_lt_of_cell? _ _ yk; have x5 := cell_later hb4 (cell_later hbt d5))
                  go_roundw
                  case rel => exact ⟨k + 1, by go_num, by omega, Lib.hid (hR.out.trans HPD.out), hbr.trans ((hbt.mono hbr.size).trans (hb4.mono (Nat.le_trans hbr.size hbt.size)))⟩
                  case measure => simp [intOf]; omega
              · have z1 : (q.kind == 0) = false := by simpa using hq0
                rw [z1] at hPD
                have HPD := Lib.hid (show catchB Nd.right (T.kids.drop (k + 1)) = catchB Nd.right (T.kids.drop (k + 1 + 1)) by rw [hPD]; simp)
                clear hPD hq0
                go_wp2_with (go_at_call 27; refine HI.out.mono ?_; rintro e w4 ⟨rfl, hb4⟩; have y5 := cell_later hb4 z5; have yk := cell_later hb4 kc2; have hlb3 : b2 < w4.heap.size := World.block_lt_of_cell? _ _ yk; have x5 := cell_later hb4 (cell_later hbt d5))
                go_roundw
                case rel => exact ⟨k + 1, by go_num, by omega, Lib.hid (hR.out.trans HPD.out), hbr.trans ((hbt.mono hbr.size).trans (hb4.mono (Nat.le_trans hbr.size hbt.size)))⟩
                case measure => simp [intOf]; omega
          · have e1 : (t.kind == 22) = false := by simpa using h22
            have e1' : (t.kind != 22) = true := by simp [h22]
            rw [e1] at hPD
            have HPD := Lib.hid hPD
            clear h22 hPD
            go_wp2_with fail
            go_ret
            exact ⟨by rw [← List.drop_one, hR.out, HPD.out]; rfl, hbq⟩
        · have u1 : decide ((k : Int) < ((T.kids.length - 1 : Nat) : Int)) = false := decide_eq_false (by omega)
          have u2 : decide (k < T.kids.length - 1) = false := decide_eq_false hkl
          have u3 : decide ((k : Int) < (T.kids.length : Int) - 1) = false := decide_eq_false (by omega)
          have hR2 := hR.out
          rw [List.drop_eq_nil_of_le (by omega : T.kids.length ≤ k + 1), catchB] at hR2
          have HR2 := Lib.hid hR2
          clear hR2
          go_wp2_with fail
          go_ret
          exact ⟨by rw [← List.drop_one, HR2.out]; rfl, hbw⟩
end
section
set_option linter.unusedVariables false
set_option linter.unusedSimpArgs false
open Go.RowKit
set_option maxRecDepth 1000000
def callG : Nat → List Nd → List Nd
  | 0, l => (l.dropWhile (Sh.expr.ev Nd.right)).dropWhile ((Sh.of 52).ev Nd.right)
  | 1, l => l.dropWhile ((Sh.of 52).ev Nd.right)
  | _, l => l
def callP : Nat → Nd → Bool
  | 0 => Sh.expr.ev Nd.right
  | _ => (Sh.of 52).ev Nd.right
theorem callG_step {i : Nat} (hi : i < 2) (l : List Nd) : callG i l = callG (i + 1) (l.dropWhile (callP i)) := by
  match i, hi with
  | 0, _ => rfl
  | 1, _ => rfl
theorem callP_at {i : Nat} (hi : i < 2) : [Sh.expr.ev Nd.right, (Sh.of 52).ev Nd.right][i]? = some (callP i) := by
  match i, hi with
  | 0, _ => rfl
  | 1, _ => rfl
def lenS : Value → Nat | .slice _ n _ => n | _ => 0
def SliceAt (w : World) (D : Nat) (K : Option Addr) (l : List Nd) (n d : Nat) : Prop := l.length = n ∧ n ≤ d ∧ d ≤ maxLen ∧ KidsAt w l K 0 ∧ Within D l
set_option maxHeartbeats 16000000 in
theorem tCall_ok (D : Nat) (hRi : RightOk D) (T : Nd) (A : Option Addr) (c : Nat) (K : Option Addr) (d : Nat) (w : World) (hD : T.depth ≤ D + 1) (hW : T.weight ≤ 1048576) (hN : NodeAt w T A c K d) (hT : Lib.Utf8Tabs 0 1 w) :
    Calls Tryz.prog 139 #[ndV T A c K d] w fun e w' => e = .returned (.bool (Fm.cll.ev Nd.right T)) ∧ Below w.heap.size w w' := by
  have hWi := within_kids hD hW
  have hkp := hN.parts
  by_cases h0 : T.kids.length = 0
  · have e1 : ((T.kids.length : Int) == 0) = true := by rw [h0]; rfl
    have e1' : (T.kids.length == 0) = true := by rw [h0]; rfl
    have e2 : decide (1 ≤ T.kids.length) = false := decide_eq_false (by omega)
    have HE2 := Lib.hid e2
    clear hWi hkp e2 h0
    obtain ⟨hm1, hm2, hrm, hw32, hk1, hk2, hk64, ha64, hts, hKs⟩ := hN.parts
    unfold maxLen at hm2 hk2 hts
    obtain ⟨hk64a, hk64b⟩ := hk64
    obtain ⟨ha64a, ha64b⟩ := ha64
    have HK := Lib.hid (fun (i : Nat) (t : Nd) (hi : T.kids[i]? = some t) => hN.kid hi)
    have hb1 := (Below.refl w.heap.size w).alloc (Nat.le_refl _) (.cells #[.int .i64 T.kind, .int .i64 T.pos, .string T.text, .bool T.neg, .slice A T.mag.length c, .slice K T.kids.length d] 27)
    obtain ⟨c0, c1, c2, c3, c4, c5⟩ := (cellsN_new w T A c K d 27).box
    unfold ndV
    clear hKs hN
    go_enter Tryz.func139, Tryz.ntmps139
    go_wp2_with fail
    go_ret
    exact ⟨by show Ending.returned (.bool _) = _; simp [Fm.ev, HE2.out], hb1⟩
  · obtain ⟨m, hm⟩ : ∃ m, T.kids.length = m + 1 := ⟨T.kids.length - 1, by omega⟩
    obtain ⟨t0, ht0⟩ : ∃ t0, T.kids[0]? = some t0 := ⟨_, List.getElem?_eq_getElem (by omega)⟩
    obtain ⟨b, off, A0, c0', K0, d0', hKe, hC0, hN0⟩ := hN.kid ht0
    rw [Nat.zero_mul, Nat.add_zero] at hC0
    subst hKe
    have htk : T.kids.take 1 = [t0] := by
      obtain ⟨q1, q2⟩ := List.getElem?_eq_some_iff.1 ht0
      cases hks : T.kids with
      | nil => rw [hks] at q1; simp at q1
      | cons a r => simp [hks] at q2; simp [q2]
    have hEv : Fm.cll.ev Nd.right T = (Sh.expr.ev Nd.right t0 && ((callG 0 (T.kids.drop 1)).isEmpty || rowB (callG 0 (T.kids.drop 1)) [(Sh.of 40).ev Nd.right])) := by
      simp only [Fm.ev, htk, callG]
      rw [decide_eq_true (by omega)]
      simp
    rw [hEv]
    have hbx := (Below.refl w.heap.size w).alloc (Nat.le_refl _) (.cells #[.int .i64 T.kind, .int .i64 T.pos, .string T.text, .bool T.neg, .slice A T.mag.length c, .slice (some ⟨b, off, none⟩) T.kids.length d] 27)
    have hds := hWi t0 (List.mem_of_getElem? ht0)
    have HEx := Lib.hid (fun W (hb : Below w.heap.size w W) => by
      have := tExpr_ok D hRi t0 A0 c0' K0 d0' W hds.1 hds.2 (hN0.later hb) (Utf8Tabs_below hT hb)
      unfold ndV at this
      exact this)
    have o1 : ((T.kids.length : Int) == 0) = false := beq0F h0
    have o2 : (T.kids.length == 0) = false := by simpa using h0
    have o3 : (0 : Int) < (T.kids.length : Int) := by omega
    have o4 : 0 < T.kids.length := by omega
    have s0 : T.kids.length ≤ d := hkp.2.2.2.2.1
    have s1 : (1 : Int) ≤ (d : Int) := by omega
    have s2 : (1 : Int) ≤ (T.kids.length : Int) := by omega
    have s3 : (T.kids.length : Int) ≤ (d : Int) := by omega
    obtain ⟨n0, n1, n2, n3, n4, n5⟩ := hC0.later hbx
    have HT := Lib.hid hT
    have HRi := Lib.hid hRi
    have HS0 : Hid (∀ K1, K1 = (if d = 1 then some ⟨b, off, none⟩ else some ⟨b, off + 6, none⟩) → SliceAt w D K1 (T.kids.drop 1) (T.kids.length - 1) (d - 1)) := Lib.hid (fun K1 e => ⟨by rw [List.length_drop], by omega, by have := hkp.2.2.2.2.2.1; omega, e ▸ hkp.2.2.2.2.2.2.2.2.2.cut 1 d hkp.2.2.2.2.1, fun t ht => hWi t (List.mem_of_mem_drop ht)⟩)
    generalize hbr : Sh.expr.ev Nd.right t0 = br at *
    clear hbr hEv htk h0 ht0 hC0 hN0 hds hkp hWi hbx hRi hT hm
    cases br
    · obtain ⟨hm1, hm2, hrm, hw32, hk1, hk2, hk64, ha64, hts, hKs⟩ := hN.parts
      unfold maxLen at hm2 hk2 hts
      obtain ⟨hk64a, hk64b⟩ := hk64
      obtain ⟨ha64a, ha64b⟩ := ha64
      have HK := Lib.hid (fun (i : Nat) (t : Nd) (hi : T.kids[i]? = some t) => hN.kid hi)
      have hb1 := (Below.refl w.heap.size w).alloc (Nat.le_refl _) (.cells #[.int .i64 T.kind, .int .i64 T.pos, .string T.text, .bool T.neg, .slice A T.mag.length c, .slice (some ⟨b, off, none⟩) T.kids.length d] 27)
      obtain ⟨c0, c1, c2, c3, c4, c5⟩ := (cellsN_new w T A c (some ⟨b, off, none⟩) d 27).box
      unfold ndV
      clear hKs hN
      go_enter Tryz.func139, Tryz.ntmps139
      go_wp2_with (go_at_call 67; refine (HEx.out _ hb1).mono ?_; rintro e w3 ⟨rfl, hb3⟩; have hw3 := hb1.trans (hb3.mono hb1.size); have p5 := cell_later hb3 c5; have hlw := World.block_lt_of_cell? _ _ p5)
      go_ret
      exact ⟨rfl, hw3⟩
    · rw [Bool.true_and]
      by_cases hd1 : d = 1
      · subst hd1
        obtain ⟨hm1, hm2, hrm, hw32, hk1, hk2, hk64, ha64, hts, hKs⟩ := hN.parts
        unfold maxLen at hm2 hk2 hts
        obtain ⟨hk64a, hk64b⟩ := hk64
        obtain ⟨ha64a, ha64b⟩ := ha64
        have HK := Lib.hid (fun (i : Nat) (t : Nd) (hi : T.kids[i]? = some t) => hN.kid hi)
        have hb1 := (Below.refl w.heap.size w).alloc (Nat.le_refl _) (.cells #[.int .i64 T.kind, .int .i64 T.pos, .string T.text, .bool T.neg, .slice A T.mag.length c, .slice (some ⟨b, off, none⟩) T.kids.length 1] 27)
        obtain ⟨c0, c1, c2, c3, c4, c5⟩ := (cellsN_new w T A c (some ⟨b, off, none⟩) 1 27).box
        unfold ndV
        clear hKs hN
        go_enter Tryz.func139, Tryz.ntmps139
        go_wp2_with (first | (go_at_call 67; refine (HEx.out _ hb1).mono ?_; rintro e w3 ⟨rfl, hb3⟩; have hw3 := hb1.trans (hb3.mono hb1.size); have p5 := cell_later hb3 c5; have hlw := World.block_lt_of_cell? _ _ p5) | (go_at_call 64; refine (of_ok HRi.out (Utf8Tabs_below HT.out hw3) 52).mono ?_; rintro e w4 ⟨⟨v, rfl, hv⟩, hb4⟩; have hw4 := hw3.trans (hb4.mono hw3.size); have HSH := Lib.hid (shapes_two (shExpr HRi.out (Utf8Tabs_below HT.out hw4)) hv 69 w4.heap.size rfl); obtain ⟨f1, cp1, hv1, _⟩ := hv; subst hv1))
        have hb5 := (Below.refl w4.heap.size w4).alloc (Nat.le_refl _) (.cells #[.func (.func 67) #[] #[], .func (.func f1) #[] cp1] 69)
        generalize w4.alloc (.cells #[.func (.func 67) #[] #[], .func (.func f1) #[] cp1] 69) = w5 at *
        have hw5 := hw4.trans (hb5.mono hw4.size)
        go_loopw [3, 24] (fun lv iv wr => ∃ (i n' d' : Nat) (K' : Option Addr) (l' : List Nd), iv = .int .i64 i ∧ lv = .slice K' n' d' ∧ i ≤ 2 ∧ SliceAt w D K' l' n' d' ∧ Hid (callG 0 (T.kids.drop 1) = callG i l') ∧ Below w5.heap.size w5 wr) (fun _ iv _ => 2 - (intOf iv).toNat)
        case atStart => exact ⟨0, _, _, (some ⟨b, off, none⟩), _, rfl, rfl, by omega, (by have h := HS0.out (some ⟨b, off, none⟩) (by simp); have e : T.kids.length - 1 = 0 := (by omega); rw [e] at h; exact h), Lib.hid rfl, Below.refl _ _⟩
        case round =>
          obtain ⟨i, n', d', K', l', rfl, rfl, hi, hS, hG, hbr⟩ := hrel
          by_cases hil : i < 2
          · have u1 : decide ((i : Int) < 2) = true := decide_eq_true (by omega)
            have u2 : decide (i < 2) = true := decide_eq_true hil
            obtain ⟨bq, oq, vq, hbq, hcq, hSq⟩ := HSH.out i _ (callP_at hil)
            injection hbq with hbq
            injection hbq with e1 e2
            subst e1 e2
            rw [Nat.zero_add] at hcq
            have hcr := cell_later hbr hcq
            obtain ⟨fq, cq, hvq, hrn, hfq⟩ := hSq
            subst hvq
            have HFQ := Lib.hid hfq
            have HGS := Lib.hid (callG_step hil l')
            have HBR := Lib.hid hbr
            clear hfq
            go_wp2_with fail
            go_loopw [3] (fun lv wq => ∃ (n2 d2 : Nat) (K2 : Option Addr) (l2 : List Nd), lv = .slice K2 n2 d2 ∧ SliceAt w D K2 l2 n2 d2 ∧ Hid (l'.dropWhile (callP i) = l2.dropWhile (callP i)) ∧ Below wr.heap.size wr wq) (fun lv _ => lenS lv)
            case atStart => exact ⟨_, _, _, _, rfl, hS, Lib.hid rfl, Below.refl _ _⟩
            case round =>
              obtain ⟨n2, d2, K2, l2, rfl, hS2, hG2, hbq⟩ := hrel
              obtain ⟨hl2, hnd2, hdm2, hk2', hWi2⟩ := hS2
              have hbw := hw5.trans (HBR.out.mono hw5.size)
              have hbw2 := hbw.trans (hbq.mono hbw.size)
              cases l2 with
              | nil =>
                have hn2 : n2 = 0 := hl2.symm
                subst hn2
                have HG2 := hG2
                rw [List.dropWhile_nil] at hG2
                go_wp2_with fail
                go_roundw
                case rel => exact ⟨i + 1, _, _, _, [], by go_num, rfl, by omega, ⟨hl2, hnd2, hdm2, hk2', hWi2⟩, Lib.hid (by rw [hG.out, HGS.out, hG2.out]), HBR.out.trans (hbq.mono HBR.out.size)⟩
                case measure => simp [intOf]; omega
              | cons t r =>
                obtain ⟨m2, hm2'⟩ : ∃ m2, r.length = m2 := ⟨_, rfl⟩
                have hn2 : n2 = m2 + 1 := by rw [← hl2, ← hm2']; rfl
                subst hn2
                obtain ⟨b2, off2, A', c', K', d', hKe2, hC, hNt⟩ := hk2'.kid (i := 0) (t := t) rfl
                rw [Nat.zero_add, Nat.zero_mul, Nat.add_zero] at hC
                subst hKe2
                obtain ⟨y0, y1, y2, y3, y4, y5⟩ := hC.later hbw2
                obtain ⟨hdt, hwt⟩ := hWi2 t (List.mem_cons_self ..)
                have hI := HFQ.out wr (HBR.out.trans (hbq.mono HBR.out.size)) t A' c' K' d' hdt hwt (hNt.later hbw2)
                unfold ndV at hI
                have HI := Lib.hid hI
                have HR2 := Lib.hid (show ∀ K3, K3 = (if d2 = 1 then some ⟨b2, off2, none⟩ else some ⟨b2, off2 + 6, none⟩) → SliceAt w D K3 r m2 (d2 - 1) from fun K3 e => ⟨hm2', by omega, by omega, e ▸ hk2'.cut 1 d2 (by rw [List.length_cons, hm2']; exact hnd2), fun t ht => hWi2 t (List.mem_cons_of_mem _ ht)⟩)
                have HN2 := Lib.hid (show SliceAt w D (some ⟨b2, off2, none⟩) (t :: r) (m2 + 1) d2 from ⟨hl2, hnd2, hdm2, hk2', hWi2⟩)
                have v1 : decide ((0 : Int) < (m2 : Int) + 1) = true := decide_eq_true (by omega)
                have v2 : (1 : Int) ≤ (d2 : Int) := by omega
                have hDW := hG2.out
                rw [List.dropWhile_cons] at hDW
                clear hI hC hNt hk2' hWi2 hdt hwt hl2 hm2'
                unfold maxLen at hdm2
                cases hpt : callP i t with
                | true =>
                  rw [hpt] at HI hDW
                  rw [if_pos rfl] at hDW
                  have HDW := Lib.hid hDW
                  clear hDW hpt hG2
                  by_cases hd2 : d2 = 1
                  · go_wp2_with (with_reducible refine HI.out.mono ?_; rintro e w6 ⟨rfl, hb6⟩)
                    go_roundw
                    case rel => exact ⟨_, _, _, r, rfl, by have := HR2.out _ rfl; simpa [hd2] using this, HDW, hbq.trans (hb6.mono hbq.size)⟩
                    case measure => simp [lenS]
                  · go_wp2_with (with_reducible refine HI.out.mono ?_; rintro e w6 ⟨rfl, hb6⟩)
                    go_roundw
                    case rel => exact ⟨_, _, _, r, rfl, by have := HR2.out _ rfl; simpa [hd2] using this, HDW, hbq.trans (hb6.mono hbq.size)⟩
                    case measure => simp [lenS]
                | false =>
                  rw [hpt] at HI hDW
                  have HDW := Lib.hid (hDW.trans (if_neg (by decide)))
                  clear hDW hpt hG2
                  go_wp2_with (with_reducible refine HI.out.mono ?_; rintro e w6 ⟨rfl, hb6⟩)
                  go_roundw
                  case rel => exact ⟨i + 1, _, _, _, t :: r, by go_num, rfl, by omega, HN2.out, Lib.hid (by rw [hG.out, HGS.out, HDW.out]), HBR.out.trans ((hbq.trans (hb6.mono hbq.size)).mono HBR.out.size)⟩
                  case measure => simp [intOf]; omega
          · have u1 : decide ((i : Int) < 2) = false := decide_eq_false (by omega)
            have u2 : decide (i < 2) = false := decide_eq_false hil
            obtain ⟨hl2, hnd2, hdm2, hk2', hWi2⟩ := hS
            have hi2 : i = 2 := by omega
            subst hi2
            have hbw := hw5.trans (hbr.mono hw5.size)
            have HGE := Lib.hid (show callG 0 (T.kids.drop 1) = l' from hG.out)
            clear hG
            cases l' with
            | nil =>
              have hn2 : n' = 0 := hl2.symm
              subst hn2
              go_wp2_with fail
              go_ret
              exact ⟨by rw [HGE.out]; rfl, hbw⟩
            | cons t r =>
              obtain ⟨m2, hm2'⟩ : ∃ m2, r.length = m2 := ⟨_, rfl⟩
              have hn2 : n' = m2 + 1 := by rw [← hl2, ← hm2']; rfl
              subst hn2
              have v1 : ((m2 : Int) + 1 == 0) = false := beq_eq_false_iff_ne.2 (by omega)
              have HRW := Lib.hid (fun W (hb : Below w.heap.size w W) A hL => row_ok D (t :: r) (m2 + 1) K' d' [(Sh.of 40).ev Nd.right] 1 A 1 W hl2 (hk2'.later hb) hWi2 rfl hL hnd2 hdm2 (Nat.le_refl _) (by unfold maxLen; omega))
              clear hk2' hWi2 hl2 hm2'
              unfold maxLen at hdm2
              go_wp2_with (first | (go_at_call 64; refine (of_ok HRi.out (Utf8Tabs_below HT.out hbw) 40).mono ?_; rintro e w7 ⟨⟨v7, rfl, hv7⟩, hb7⟩; have hw7 := hbw.trans (hb7.mono hbw.size); have HS7 := Lib.hid (shapes_one hv7 69 w7.heap.size rfl); obtain ⟨f7, cp7, hv7e, _⟩ := hv7; subst hv7e) | (go_at_call 127; refine (HRW.out _ (hw7.alloc hw7.size _) _ HS7.out).mono ?_; rintro e w8 ⟨rfl, hb8⟩))
              go_ret
              exact ⟨by rw [HGE.out]; rfl, (hw7.alloc hw7.size _).trans (hb8.mono (hw7.alloc hw7.size _).size)⟩
      · obtain ⟨hm1, hm2, hrm, hw32, hk1, hk2, hk64, ha64, hts, hKs⟩ := hN.parts
        unfold maxLen at hm2 hk2 hts
        obtain ⟨hk64a, hk64b⟩ := hk64
        obtain ⟨ha64a, ha64b⟩ := ha64
        have HK := Lib.hid (fun (i : Nat) (t : Nd) (hi : T.kids[i]? = some t) => hN.kid hi)
        have hb1 := (Below.refl w.heap.size w).alloc (Nat.le_refl _) (.cells #[.int .i64 T.kind, .int .i64 T.pos, .string T.text, .bool T.neg, .slice A T.mag.length c, .slice (some ⟨b, off, none⟩) T.kids.length d] 27)
        obtain ⟨c0, c1, c2, c3, c4, c5⟩ := (cellsN_new w T A c (some ⟨b, off, none⟩) d 27).box
        unfold ndV
        clear hKs hN
        go_enter Tryz.func139, Tryz.ntmps139
        go_wp2_with (first | (go_at_call 67; refine (HEx.out _ hb1).mono ?_; rintro e w3 ⟨rfl, hb3⟩; have hw3 := hb1.trans (hb3.mono hb1.size); have p5 := cell_later hb3 c5; have hlw := World.block_lt_of_cell? _ _ p5) | (go_at_call 64; refine (of_ok HRi.out (Utf8Tabs_below HT.out hw3) 52).mono ?_; rintro e w4 ⟨⟨v, rfl, hv⟩, hb4⟩; have hw4 := hw3.trans (hb4.mono hw3.size); have HSH := Lib.hid (shapes_two (shExpr HRi.out (Utf8Tabs_below HT.out hw4)) hv 69 w4.heap.size rfl); obtain ⟨f1, cp1, hv1, _⟩ := hv; subst hv1))
        have hb5 := (Below.refl w4.heap.size w4).alloc (Nat.le_refl _) (.cells #[.func (.func 67) #[] #[], .func (.func f1) #[] cp1] 69)
        generalize w4.alloc (.cells #[.func (.func 67) #[] #[], .func (.func f1) #[] cp1] 69) = w5 at *
        have hw5 := hw4.trans (hb5.mono hw4.size)
        go_loopw [3, 24] (fun lv iv wr => ∃ (i n' d' : Nat) (K' : Option Addr) (l' : List Nd), iv = .int .i64 i ∧ lv = .slice K' n' d' ∧ i ≤ 2 ∧ SliceAt w D K' l' n' d' ∧ Hid (callG 0 (T.kids.drop 1) = callG i l') ∧ Below w5.heap.size w5 wr) (fun _ iv _ => 2 - (intOf iv).toNat)
        case atStart => exact ⟨0, _, _, (some ⟨b, off + 6, none⟩), _, rfl, rfl, by omega, HS0.out (some ⟨b, off + 6, none⟩) (by simp [hd1]), Lib.hid rfl, Below.refl _ _⟩
        case round =>
          obtain ⟨i, n', d', K', l', rfl, rfl, hi, hS, hG, hbr⟩ := hrel
          by_cases hil : i < 2
          · have u1 : decide ((i : Int) < 2) = true := decide_eq_true (by omega)
            have u2 : decide (i < 2) = true := decide_eq_true hil
            obtain ⟨bq, oq, vq, hbq, hcq, hSq⟩ := HSH.out i _ (callP_at hil)
            injection hbq with hbq
            injection hbq with e1 e2
            subst e1 e2
            rw [Nat.zero_add] at hcq
            have hcr := cell_later hbr hcq
            obtain ⟨fq, cq, hvq, hrn, hfq⟩ := hSq
            subst hvq
            have HFQ := Lib.hid hfq
            have HGS := Lib.hid (callG_step hil l')
            have HBR := Lib.hid hbr
            clear hfq
            go_wp2_with fail
            go_loopw [3] (fun lv wq => ∃ (n2 d2 : Nat) (K2 : Option Addr) (l2 : List Nd), lv = .slice K2 n2 d2 ∧ SliceAt w D K2 l2 n2 d2 ∧ Hid (l'.dropWhile (callP i) = l2.dropWhile (callP i)) ∧ Below wr.heap.size wr wq) (fun lv _ => lenS lv)
            case atStart => exact ⟨_, _, _, _, rfl, hS, Lib.hid rfl, Below.refl _ _⟩
            case round =>
              obtain ⟨n2, d2, K2, l2, rfl, hS2, hG2, hbq⟩ := hrel
              obtain ⟨hl2, hnd2, hdm2, hk2', hWi2⟩ := hS2
              have hbw := hw5.trans (HBR.out.mono hw5.size)
              have hbw2 := hbw.trans (hbq.mono hbw.size)
              cases l2 with
              | nil =>
                have hn2 : n2 = 0 := hl2.symm
                subst hn2
                have HG2 := hG2
                rw [List.dropWhile_nil] at hG2
                go_wp2_with fail
                go_roundw
                case rel => exact ⟨i + 1, _, _, _, [], by go_num, rfl, by omega, ⟨hl2, hnd2, hdm2, hk2', hWi2⟩, Lib.hid (by rw [hG.out, HGS.out, hG2.out]), HBR.out.trans (hbq.mono HBR.out.size)⟩
                case measure => simp [intOf]; omega
              | cons t r =>
                obtain ⟨m2, hm2'⟩ : ∃ m2, r.length = m2 := ⟨_, rfl⟩
                have hn2 : n2 = m2 + 1 := by rw [← hl2, ← hm2']; rfl
                subst hn2
                obtain ⟨b2, off2, A', c', K', d', hKe2, hC, hNt⟩ := hk2'.kid (i := 0) (t := t) rfl
                rw [Nat.zero_add, Nat.zero_mul, Nat.add_zero] at hC
                subst hKe2
                obtain ⟨y0, y1, y2, y3, y4, y5⟩ := hC.later hbw2
                obtain ⟨hdt, hwt⟩ := hWi2 t (List.mem_cons_self ..)
                have hI := HFQ.out wr (HBR.out.trans (hbq.mono HBR.out.size)) t A' c' K' d' hdt hwt (hNt.later hbw2)
                unfold ndV at hI
                have HI := Lib.hid hI
                have HR2 := Lib.hid (show ∀ K3, K3 = (if d2 = 1 then some ⟨b2, off2, none⟩ else some ⟨b2, off2 + 6, none⟩) → SliceAt w D K3 r m2 (d2 - 1) from fun K3 e => ⟨hm2', by omega, by omega, e ▸ hk2'.cut 1 d2 (by rw [List.length_cons, hm2']; exact hnd2), fun t ht => hWi2 t (List.mem_cons_of_mem _ ht)⟩)
                have HN2 := Lib.hid (show SliceAt w D (some ⟨b2, off2, none⟩) (t :: r) (m2 + 1) d2 from ⟨hl2, hnd2, hdm2, hk2', hWi2⟩)
                have v1 : decide ((0 : Int) < (m2 : Int) + 1) = true := decide_eq_true (by omega)
                have v2 : (1 : Int) ≤ (d2 : Int) := by omega
                have hDW := hG2.out
                rw [List.dropWhile_cons] at hDW
                clear hI hC hNt hk2' hWi2 hdt hwt hl2 hm2'
                unfold maxLen at hdm2
                cases hpt : callP i t with
                | true =>
                  rw [hpt] at HI hDW
                  rw [if_pos rfl] at hDW
                  have HDW := Lib.hid hDW
                  clear hDW hpt hG2
                  by_cases hd2 : d2 = 1
                  · go_wp2_with (with_reducible refine HI.out.mono ?_; rintro e w6 ⟨rfl, hb6⟩)
                    go_roundw
                    case rel => exact ⟨_, _, _, r, rfl, by have := HR2.out _ rfl; simpa [hd2] using this, HDW, hbq.trans (hb6.mono hbq.size)⟩
                    case measure => simp [lenS]
                  · go_wp2_with (with_reducible refine HI.out.mono ?_; rintro e w6 ⟨rfl, hb6⟩)
                    go_roundw
                    case rel => exact ⟨_, _, _, r, rfl, by have := HR2.out _ rfl; simpa [hd2] using this, HDW, hbq.trans (hb6.mono hbq.size)⟩
                    case measure => simp [lenS]
                | false =>
                  rw [hpt] at HI hDW
                  have HDW := Lib.hid (hDW.trans (if_neg (by decide)))
                  clear hDW hpt hG2
                  go_wp2_with (with_reducible refine HI.out.mono ?_; rintro e w6 ⟨rfl, hb6⟩)
                  go_roundw
                  case rel => exact ⟨i + 1, _, _, _, t :: r, by go_num, rfl, by omega, HN2.out, Lib.hid (by rw [hG.out, HGS.out, HDW.out]), HBR.out.trans ((hbq.trans (hb6.mono hbq.size)).mono HBR.out.size)⟩
                  case measure => simp [intOf]; omega
          · have u1 : decide ((i : Int) < 2) = false := decide_eq_false (by omega)
            have u2 : decide (i < 2) = false := decide_eq_false hil
            obtain ⟨hl2, hnd2, hdm2, hk2', hWi2⟩ := hS
            have hi2 : i = 2 := by omega
            subst hi2
            have hbw := hw5.trans (hbr.mono hw5.size)
            have HGE := Lib.hid (show callG 0 (T.kids.drop 1) = l' from hG.out)
            clear hG
            cases l' with
            | nil =>
              have hn2 : n' = 0 := hl2.symm
              subst hn2
              go_wp2_with fail
              go_ret
              exact ⟨by rw [HGE.out]; rfl, hbw⟩
            | cons t r =>
              obtain ⟨m2, hm2'⟩ : ∃ m2, r.length = m2 := ⟨_, rfl⟩
              have hn2 : n' = m2 + 1 := by rw [← hl2, ← hm2']; rfl
              subst hn2
              have v1 : ((m2 : Int) + 1 == 0) = false := beq_eq_false_iff_ne.2 (by omega)
              have HRW := Lib.hid (fun W (hb : Below w.heap.size w W) A hL => row_ok D (t :: r) (m2 + 1) K' d' [(Sh.of 40).ev Nd.right] 1 A 1 W hl2 (hk2'.later hb) hWi2 rfl hL hnd2 hdm2 (Nat.le_refl _) (by unfold maxLen; omega))
              clear hk2' hWi2 hl2 hm2'
              unfold maxLen at hdm2
              go_wp2_with (first | (go_at_call 64; refine (of_ok HRi.out (Utf8Tabs_below HT.out hbw) 40).mono ?_; rintro e w7 ⟨⟨v7, rfl, hv7⟩, hb7⟩; have hw7 := hbw.trans (hb7.mono hbw.size); have HS7 := Lib.hid (shapes_one hv7 69 w7.heap.size rfl); obtain ⟨f7, cp7, hv7e, _⟩ := hv7; subst hv7e) | (go_at_call 127; refine (HRW.out _ (hw7.alloc hw7.size _) _ HS7.out).mono ?_; rintro e w8 ⟨rfl, hb8⟩))
              go_ret
              exact ⟨by rw [HGE.out]; rfl, (hw7.alloc hw7.size _).trans (hb8.mono (hw7.alloc hw7.size _).size)⟩
end
section
set_option linter.unusedVariables false
set_option linter.unusedSimpArgs false
open Go.RowKit
set_option maxRecDepth 1000000
/-- behind a run that turned no block that was there, but those of Q. -/
structure KeepsQ (Q : Nat → Prop) (w w' : World) : Prop where
  os : w'.os = w.os
  tape : w'.tape = w.tape
  output : w'.output = w.output
  size : w.heap.size ≤ w'.heap.size
  block : ∀ k, k < w.heap.size → ¬ Q k → w'.heap[k]? = w.heap[k]?
section
variable {Q : Nat → Prop} {w w' w'' : World}
theorem KeepsQ.below (h : Below w.heap.size w w') : KeepsQ Q w w' := ⟨h.os, h.tape, h.output, h.size, fun k hk _ => h.block k hk⟩
theorem KeepsQ.trans (h : KeepsQ Q w w') (h' : KeepsQ Q w' w'') : KeepsQ Q w w'' := ⟨h'.os.trans h.os, h'.tape.trans h.tape, h'.output.trans h.output, Nat.le_trans h.size h'.size, fun k hk hq => (h'.block k (Nat.lt_of_lt_of_le hk h.size) hq).trans (h.block k hk hq)⟩
theorem KeepsQ.nil (h : KeepsQ (fun _ => False) w w') : KeepsQ Q w w' := ⟨h.os, h.tape, h.output, h.size, fun k hk _ => h.block k hk (fun x => x)⟩
theorem KeepsQ.low (h : KeepsQ Q w w') {B : Nat} (hB : B ≤ w.heap.size) (hQ : ∀ k, Q k → B ≤ k) : Below B w w' := ⟨h.os, h.tape, h.output, h.size, fun k hk => h.block k (Nat.lt_of_lt_of_le hk hB) (fun x => absurd (hQ k x) (by omega))⟩
theorem KeepsQ.set {R i : Nat} (hR : Q R) (u : Value) (h : KeepsQ Q (w.setCell ⟨R, i, none⟩ u) w') : KeepsQ Q w w' := by
  have hb := (Below.refl R w).setCell (p := ⟨R, i, none⟩) (Nat.le_refl _) u
  refine ⟨h.os.trans hb.os, h.tape.trans hb.tape, h.output.trans hb.output, by simpa using h.size, fun k hk hq => ?_⟩
  rw [h.block k (by simpa using hk) hq]
  exact Below.heap_setCell _ _ _ _ (fun e => hq (by subst e; exact hR))
theorem cellQ {v : Value} {X i : Nat} (h : KeepsQ Q w w') (hX : ¬ Q X) (hc : w.cell? ⟨X, i, Option.none⟩ = some v) : w'.cell? ⟨X, i, Option.none⟩ = some v := by
  have hl := World.block_lt_of_cell? _ _ hc
  have hb := h.block X hl hX
  unfold World.cell? at hc ⊢
  rw [hb]
  exact hc
end
def TabsQ (Q : Nat → Prop) (w : World) : Prop := ∀ W, KeepsQ Q w W → Lib.Utf8Tabs 0 1 W
def ShapeOkQ (Q : Nat → Prop) (D : Nat) (w : World) (v : Value) (p : Nd → Bool) : Prop :=
  ∃ f caps, v = .func (.func f) #[] caps ∧ (∀ args W, (callFunc f args).run Tryz.prog W = .ok (.enter f args) W) ∧ ∀ W, KeepsQ Q w W → ∀ (T : Nd) (A : Option Addr) (c : Nat) (K : Option Addr) (d : Nat), T.depth ≤ D → T.weight ≤ 1048576 → NodeAt W T A c K d →
    Calls Tryz.prog f (#[ndV T A c K d] ++ caps) W fun e w' => e = .returned (.bool (p T)) ∧ Below W.heap.size W w'
def TextOkQ (Q : Nat → Prop) (w : World) (v : Value) (q : ByteArray → Bool) : Prop :=
  ∃ f caps, v = .func (.func f) #[] caps ∧ (∀ args W, (callFunc f args).run Tryz.prog W = .ok (.enter f args) W) ∧ ∀ W, KeepsQ Q w W → ∀ s : ByteArray, s.size ≤ 1048576 →
    Calls Tryz.prog f (#[.string s] ++ caps) W fun e w' => e = .returned (.bool (q s)) ∧ Below W.heap.size W w'
def ShapesAtQ (Q : Nat → Prop) (D : Nat) (w : World) (A : Option Addr) (L : List (Nd → Bool)) : Prop := ∀ i p, L[i]? = some p → ∃ b off v, A = some ⟨b, off, none⟩ ∧ ¬ Q b ∧ w.cell? ⟨b, off + i, none⟩ = some v ∧ ShapeOkQ Q D w v p
section
variable {Q : Nat → Prop} {D : Nat} {w w' : World} {v : Value} {p : Nd → Bool} {q : ByteArray → Bool} {A : Option Addr} {L : List (Nd → Bool)}
theorem TabsQ.lat (h : TabsQ Q w) (hb : KeepsQ Q w w') : TabsQ Q w' := fun W hW => h W (hb.trans hW)
theorem TabsQ.now (h : TabsQ Q w) : Lib.Utf8Tabs 0 1 w := h w (KeepsQ.below (Below.refl _ _))
theorem tabsQ_of {w0 : World} (hT : Lib.Utf8Tabs 0 1 w0) (hb : Below w0.heap.size w0 w) (hQ : ∀ k, Q k → w0.heap.size ≤ k) : TabsQ Q w := fun W hW => Utf8Tabs_below hT (hb.trans (hW.low hb.size hQ))
theorem ShapeOkQ.lat (h : ShapeOkQ Q D w v p) (hb : KeepsQ Q w w') : ShapeOkQ Q D w' v p := by
  obtain ⟨f, caps, hv, hrn, hf⟩ := h
  exact ⟨f, caps, hv, hrn, fun W hW => hf W (hb.trans hW)⟩
theorem ShapeOkQ.later (h : ShapeOkQ Q D w v p) (hb : Below w.heap.size w w') : ShapeOkQ Q D w' v p := h.lat (KeepsQ.below hb)
theorem ShapeOkQ.set (h : ShapeOkQ Q D w v p) {R i : Nat} (hR : Q R) (u : Value) : ShapeOkQ Q D (w.setCell ⟨R, i, none⟩ u) v p := by
  obtain ⟨f, caps, hv, hrn, hf⟩ := h
  exact ⟨f, caps, hv, hrn, fun W hW => hf W (KeepsQ.set hR u hW)⟩
theorem ShapeOkQ.plain (h : ShapeOkQ Q D w v p) : ShapeOk D w v p := by
  obtain ⟨f, caps, hv, hrn, hf⟩ := h
  exact ⟨f, caps, hv, hrn, fun W hW => hf W (KeepsQ.below hW)⟩
theorem ShapeOkQ.eq {p' : Nd → Bool} (h : ShapeOkQ Q D w v p) (hpq : ∀ T, p T = p' T) : ShapeOkQ Q D w v p' := by
  have : p = p' := funext hpq
  exact this ▸ h
theorem ShapeOkQ.less {D' : Nat} (h : ShapeOkQ Q D w v p) (hd : D' ≤ D) : ShapeOkQ Q D' w v p := by
  obtain ⟨f, caps, hv, hrn, hf⟩ := h
  exact ⟨f, caps, hv, hrn, fun W hW T A c K d hD => hf W hW T A c K d (by omega)⟩
theorem TextOkQ.lat (h : TextOkQ Q w v q) (hb : KeepsQ Q w w') : TextOkQ Q w' v q := by
  obtain ⟨f, caps, hv, hrn, hf⟩ := h
  exact ⟨f, caps, hv, hrn, fun W hW => hf W (hb.trans hW)⟩
theorem TextOkQ.later (h : TextOkQ Q w v q) (hb : Below w.heap.size w w') : TextOkQ Q w' v q := h.lat (KeepsQ.below hb)
theorem TextOkQ.set (h : TextOkQ Q w v q) {R i : Nat} (hR : Q R) (u : Value) : TextOkQ Q (w.setCell ⟨R, i, none⟩ u) v q := by
  obtain ⟨f, caps, hv, hrn, hf⟩ := h
  exact ⟨f, caps, hv, hrn, fun W hW => hf W (KeepsQ.set hR u hW)⟩
theorem ShapesAtQ.lat (h : ShapesAtQ Q D w A L) (hb : KeepsQ Q w w') : ShapesAtQ Q D w' A L := fun i p hi => by
  obtain ⟨b, off, v, hA, hq, hc, hs⟩ := h i p hi
  exact ⟨b, off, v, hA, hq, cellQ hb hq hc, hs.lat hb⟩
theorem ShapesAtQ.later (h : ShapesAtQ Q D w A L) (hb : Below w.heap.size w w') : ShapesAtQ Q D w' A L := h.lat (KeepsQ.below hb)
theorem ShapesAtQ.plain (h : ShapesAtQ Q D w A L) : ShapesAt D w A L := fun i p hi => by
  obtain ⟨b, off, v, hA, hq, hc, hs⟩ := h i p hi
  exact ⟨b, off, v, hA, hc, hs.plain⟩
end
/-- a row of function values in a new block. -/
theorem shapesQ_new {Q : Nat → Prop} (D : Nat) (w : World) (t : TypeId) (vs : List Value) (L : List (Nd → Bool)) (hQ : ∀ k, Q k → k < w.heap.size) (hlen : vs.length = L.length) (h : ∀ (i : Nat) (v : Value) (p : Nd → Bool), vs[i]? = some v → L[i]? = some p → ShapeOkQ Q D w v p) : ShapesAtQ Q D (w.alloc (.cells vs.toArray t)) (some ⟨w.heap.size, 0, none⟩) L := fun i p hi => by
  have hil : i < vs.length := by rw [hlen]; exact (List.getElem?_eq_some_iff.1 hi).1
  refine ⟨w.heap.size, 0, vs[i], rfl, fun x => absurd (hQ _ x) (by omega), ?_, (h i _ p (List.getElem?_eq_getElem hil) hi).later ((Below.refl _ _).alloc (Nat.le_refl _) _)⟩
  rw [Nat.zero_add, cell_of_row _ _ i _ t (0, 0) (heap_alloc_new w _)]
  simp [hil]
theorem shapesQ_nil {Q : Nat → Prop} (D : Nat) (w : World) (A : Option Addr) : ShapesAtQ Q D w A [] := fun i p hi => by simp at hi
theorem shapesQ_one {Q : Nat → Prop} {D : Nat} {w : World} {v : Value} {p : Nd → Bool} (hQ : ∀ k, Q k → k < w.heap.size) (h : ShapeOkQ Q D w v p) (t : TypeId) : ShapesAtQ Q D (w.alloc (.cells #[v] t)) (some ⟨w.heap.size, 0, none⟩) [p] :=
  shapesQ_new D w t [v] [p] hQ rfl (fun (i : Nat) (v' : Value) (p' : Nd → Bool) h1 h2 => by
    cases i with
    | zero => simp at h1 h2; subst h1 h2; exact h
    | succ i => simp at h1)
theorem shapesQ_two {Q : Nat → Prop} {D : Nat} {w : World} {v v2 : Value} {p p2 : Nd → Bool} (hQ : ∀ k, Q k → k < w.heap.size) (h : ShapeOkQ Q D w v p) (h2 : ShapeOkQ Q D w v2 p2) (t : TypeId) : ShapesAtQ Q D (w.alloc (.cells #[v, v2] t)) (some ⟨w.heap.size, 0, none⟩) [p, p2] :=
  shapesQ_new D w t [v, v2] [p, p2] hQ rfl (fun (i : Nat) (v' : Value) (p' : Nd → Bool) h1 h3 => by
    rcases i with _ | _ | i
    · simp at h1 h3; subst h1 h3; exact h
    · simp at h1 h3; subst h1 h3; exact h2
    · simp at h1)
theorem shapesQ_three {Q : Nat → Prop} {D : Nat} {w : World} {v v2 v3 : Value} {p p2 p3 : Nd → Bool} (hQ : ∀ k, Q k → k < w.heap.size) (h : ShapeOkQ Q D w v p) (h2 : ShapeOkQ Q D w v2 p2) (h3 : ShapeOkQ Q D w v3 p3) (t : TypeId) : ShapesAtQ Q D (w.alloc (.cells #[v, v2, v3] t)) (some ⟨w.heap.size, 0, none⟩) [p, p2, p3] :=
  shapesQ_new D w t [v, v2, v3] [p, p2, p3] hQ rfl (fun (i : Nat) (v' : Value) (p' : Nd → Bool) h1 h4 => by
    rcases i with _ | _ | _ | i
    · simp at h1 h4; subst h1 h4; exact h
    · simp at h1 h4; subst h1 h4; exact h2
    · simp at h1 h4; subst h1 h4; exact h3
    · simp at h1)
section
variable {Q : Nat → Prop} {D : Nat} {w : World}
theorem kidsQ_ok (hQ : ∀ k, Q k → k < w.heap.size) (L : List (Nd → Bool)) (m : Nat) (A : Option Addr) (hm : L.length = m) (hL : ShapesAtQ Q D w A L) (hc : m ≤ maxLen) :
    Calls Tryz.prog 63 #[.slice A m m] w fun e w' => (∃ v, e = .returned v ∧ ShapeOkQ Q (D + 1) w' v fun T => rowB T.kids L) ∧ Below w.heap.size w w' := by
  have hb1 := (Below.refl w.heap.size w).alloc (Nat.le_refl _) (.cells #[.slice A m m] 113)
  have HS : ShapeOkQ Q (D + 1) (w.alloc (.cells #[.slice A m m] 113)) (.func (.func 126) #[] #[.pointer (some ⟨w.heap.size, 0, none⟩)]) fun T => rowB T.kids L :=
    ⟨_, _, rfl, run_call _ _ Tryz.func126 (by kernel_rfl) (by kernel_rfl), fun W hW T A2 c2 K d hD hWt hN => kids1_ok D L m m w.heap.size A W hm ((hL.later hb1).lat hW).plain (Nat.le_refl _) hc (cellQ hW (fun x => absurd (hQ _ x) (by omega)) (box_one w _ _)) T A2 c2 K d hD hWt hN⟩
  clear hL
  go_enter Tryz.func63, Tryz.ntmps63
  go_wp2
  go_ret
  exact ⟨⟨_, rfl, HS⟩, hb1⟩
theorem orQ_ok (hQ : ∀ k, Q k → k < w.heap.size) (L : List (Nd → Bool)) (m : Nat) (A : Option Addr) (hm : L.length = m) (hL : ShapesAtQ Q D w A L) (hc : m ≤ maxLen) :
    Calls Tryz.prog 69 #[.slice A m m] w fun e w' => (∃ v, e = .returned v ∧ ShapeOkQ Q D w' v fun T => anyB T L) ∧ Below w.heap.size w w' := by
  have hb1 := (Below.refl w.heap.size w).alloc (Nat.le_refl _) (.cells #[.slice A m m] 113)
  have HS : ShapeOkQ Q D (w.alloc (.cells #[.slice A m m] 113)) (.func (.func 132) #[] #[.pointer (some ⟨w.heap.size, 0, none⟩)]) fun T => anyB T L :=
    ⟨_, _, rfl, run_call _ _ Tryz.func132 (by kernel_rfl) (by kernel_rfl), fun W hW T A2 c2 K d hD hWt hN => or1_ok D L m m w.heap.size A W hm ((hL.later hb1).lat hW).plain (Nat.le_refl _) hc (cellQ hW (fun x => absurd (hQ _ x) (by omega)) (box_one w _ _)) T A2 c2 K d hD hWt hN⟩
  clear hL
  go_enter Tryz.func69, Tryz.ntmps69
  go_wp2
  go_ret
  exact ⟨⟨_, rfl, HS⟩, hb1⟩
theorem or2Q_ok (hQ : ∀ k, Q k → k < w.heap.size) (a b : Sh) (A : Option Addr) (hL : ShapesAtQ Q D w A [a.ev Nd.right, b.ev Nd.right]) :
    Calls Tryz.prog 69 #[.slice A 2 2] w fun e w' => (∃ v, e = .returned v ∧ ShapeOkQ Q D w' v ((Sh.or2 a b).ev Nd.right)) ∧ Below w.heap.size w w' := by
  refine (orQ_ok hQ _ 2 A rfl hL (by unfold maxLen; omega)).mono ?_
  rintro e w' ⟨⟨v, rfl, hv⟩, hb⟩
  exact ⟨⟨v, rfl, hv.eq fun T => any2 T a b⟩, hb⟩
theorem someQ_ok (hQ : ∀ k, Q k → k < w.heap.size) (v : Value) (p : Nd → Bool) (m : Nat) (hS : ShapeOkQ Q D w v p) (hm : m ≤ 10) :
    Calls Tryz.prog 65 #[.int .i64 m, v] w fun e w' => (∃ v', e = .returned v' ∧ ShapeOkQ Q (D + 1) w' v' fun T => decide (m ≤ T.kids.length) && T.kids.all p) ∧ Below w.heap.size w w' := by
  have hb1 := (Below.refl w.heap.size w).alloc (Nat.le_refl _) (.cells #[.int .i64 m] 3)
  have hb2 := hb1.alloc hb1.size (.cells #[v] 69)
  have hx := cell_later ((Below.refl _ _).alloc (Nat.le_refl _) (.cells #[v] 69)) (box_one w (.int .i64 m) 3)
  have hy := box_one (w.alloc (.cells #[.int .i64 m] 3)) v 69
  rw [show (w.alloc (.cells #[.int .i64 m] 3)).heap.size = w.heap.size + 1 by simp] at hy
  have HS : ShapeOkQ Q (D + 1) ((w.alloc (.cells #[.int .i64 m] 3)).alloc (.cells #[v] 69)) (.func (.func 129) #[] #[.pointer (some ⟨w.heap.size, 0, none⟩), .pointer (some ⟨w.heap.size + 1, 0, none⟩)]) fun T => decide (m ≤ T.kids.length) && T.kids.all p :=
    ⟨_, _, rfl, run_call _ _ Tryz.func129 (by kernel_rfl) (by kernel_rfl), fun W hW T A2 c2 K d hD hWt hN => some1_ok D v p m w.heap.size (w.heap.size + 1) W ((hS.later hb2).lat hW).plain hm (cellQ hW (fun x => absurd (hQ _ x) (by omega)) hx) (cellQ hW (fun x => absurd (hQ _ x) (by omega)) hy) T A2 c2 K d hD hWt hN⟩
  obtain ⟨f, caps, hv, _⟩ := hS
  subst hv
  clear hx hy
  go_enter Tryz.func65, Tryz.ntmps65
  go_wp2
  go_ret
  exact ⟨⟨_, rfl, HS⟩, hb2⟩
theorem compQ_ok (hRi : RightOk D) (hQ : ∀ k, Q k → k < w.heap.size) (v0 : Value) (s : Sh) (hT : TabsQ Q w) (hS : ShapeOkQ Q D w v0 (s.ev Nd.right)) :
    Calls Tryz.prog 138 #[v0] w fun e w' => (∃ v, e = .returned v ∧ ShapeOkQ Q (D + 1) w' v ((Fm.cmp s).ev Nd.right)) ∧ Below w.heap.size w w' := by
  have hb1 := (Below.refl w.heap.size w).alloc (Nat.le_refl _) (.cells #[v0] 69)
  have HS : ShapeOkQ Q (D + 1) (w.alloc (.cells #[v0] 69)) (.func (.func 180) #[] #[.pointer (some ⟨w.heap.size, 0, none⟩)]) ((Fm.cmp s).ev Nd.right) :=
    ⟨_, _, rfl, run_call _ _ Tryz.func180 (by kernel_rfl) (by kernel_rfl), fun W hW T A c K d hD hWt hN => tComp1_ok v0 (s.ev Nd.right) w.heap.size D hRi T A c K d W hD hWt hN (hT W ((KeepsQ.below hb1).trans hW)) ((hS.later hb1).lat hW).plain (cellQ hW (fun x => absurd (hQ _ x) (by omega)) (box_one w _ _))⟩
  obtain ⟨f, caps, hv, _⟩ := hS
  subst hv
  clear hT hRi
  go_enter Tryz.func138, Tryz.ntmps138
  go_wp2
  go_ret
  exact ⟨⟨_, rfl, HS⟩, hb1⟩
theorem ofQ_ok (hRi : RightOk D) (hQ : ∀ k, Q k → k < w.heap.size) (hT : TabsQ Q w) (k : Int) : Calls Tryz.prog 64 #[.int .i64 k] w fun e w' => (∃ v, e = .returned v ∧ ShapeOkQ Q D w' v ((Sh.of k).ev Nd.right)) ∧ Below w.heap.size w w' := by
  have hb1 := (Below.refl w.heap.size w).alloc (Nat.le_refl _) (.cells #[.int .i64 k] 3)
  have HS : ShapeOkQ Q D (w.alloc (.cells #[.int .i64 k] 3)) (.func (.func 128) #[] #[.pointer (some ⟨w.heap.size, 0, none⟩)]) ((Sh.of k).ev Nd.right) :=
    ⟨_, _, rfl, run_call _ _ Tryz.func128 (by kernel_rfl) (by kernel_rfl), fun W hW T A c K d hD hWt hN => tOf1_ok k w.heap.size D hRi T A c K d W hD hWt hN (hT W ((KeepsQ.below hb1).trans hW)) (cellQ hW (fun x => absurd (hQ _ x) (by omega)) (box_one w _ _))⟩
  clear hT hRi
  go_enter Tryz.func64, Tryz.ntmps64
  go_wp2
  go_ret
  exact ⟨⟨_, rfl, HS⟩, hb1⟩
theorem textQ_ok (hQ : ∀ k, Q k → k < w.heap.size + 1) (L : List (List UInt8)) (m : Nat) (cs : Array Value) (t : TypeId) (hm : L.length = m) (h0 : 0 < m) (hm2 : m ≤ 1000) (hc : cs = (L.map fun l => Value.string ⟨l.toArray⟩).toArray) :
    Calls Tryz.prog 61 #[.slice (some ⟨w.heap.size + 1, 0, none⟩) m m] ((w.alloc (.cells #[.nilFunc, .nilFunc] 71)).alloc (.cells cs t)) fun e w' => (∃ v, e = .returned v ∧ TextOkQ Q w' v (Tx.words L).ev) ∧ Below ((w.alloc (.cells #[.nilFunc, .nilFunc] 71)).alloc (.cells cs t)).heap.size ((w.alloc (.cells #[.nilFunc, .nilFunc] 71)).alloc (.cells cs t)) w' := by
  have hL : StrsAt ((w.alloc (.cells #[.nilFunc, .nilFunc] 71)).alloc (.cells cs t)) (some ⟨w.heap.size + 1, 0, none⟩) (L.map fun l => ⟨l.toArray⟩) := by
    have := strsAt_new (w.alloc (.cells #[.nilFunc, .nilFunc] 71)) (L.map fun l => ⟨l.toArray⟩) t cs (by rw [hc, List.map_map]; rfl)
    simpa using this
  have hz : ((w.alloc (.cells #[.nilFunc, .nilFunc] 71)).alloc (.cells cs t)).heap.size = w.heap.size + 2 := by simp
  generalize (w.alloc (.cells #[.nilFunc, .nilFunc] 71)).alloc (.cells cs t) = w2 at *
  have hb1 := (Below.refl w2.heap.size w2).alloc (Nat.le_refl _) (.cells #[.slice (some ⟨w.heap.size + 1, 0, none⟩) m m] 111)
  have HS : TextOkQ Q (w2.alloc (.cells #[.slice (some ⟨w.heap.size + 1, 0, none⟩) m m] 111)) (.func (.func 124) #[] #[.pointer (some ⟨w2.heap.size, 0, none⟩)]) (Tx.words L).ev :=
    ⟨_, _, rfl, run_call _ _ Tryz.func124 (by kernel_rfl) (by kernel_rfl), fun W hW s _ => by
      have hst : StrsAt W (some ⟨w.heap.size + 1, 0, none⟩) (L.map fun l => ⟨l.toArray⟩) := fun i s hi => by
        obtain ⟨b, off, hA, hc⟩ := (hL.later hb1) i s hi
        refine ⟨b, off, hA, ?_⟩
        injection hA with hA
        injection hA with e1 e2
        subst e1 e2
        exact cellQ hW (fun x => absurd (hQ _ x) (by omega)) hc
      have := text1_ok (L.map fun l => ⟨l.toArray⟩) m m w2.heap.size _ s W (by simpa using hm) h0 hst hm2 (cellQ hW (fun x => absurd (hQ _ x) (by omega)) (box_one w2 _ _))
      rw [containsS_eq] at this
      exact this⟩
  rw [hz] at HS
  clear hL
  go_enter Tryz.func61, Tryz.ntmps61
  go_wp2
  go_ret
  exact ⟨⟨_, rfl, HS⟩, hb1⟩
theorem textQ_non : TextOkQ Q w (.func (.func 62) #[] #[]) Tx.non.ev :=
  ⟨_, _, rfl, run_call _ _ Tryz.func62 (by kernel_rfl) (by kernel_rfl), fun W _ s _ => noText_ok s W⟩
theorem textQ_name : TextOkQ Q w (.func (.func 73) #[] #[]) Tx.name.ev :=
  ⟨_, _, rfl, run_call _ _ Tryz.func73 (by kernel_rfl) (by kernel_rfl), fun W _ s hs => isName_ok s W (by omega)⟩
theorem textQ_exc : TextOkQ Q w (.func (.func 77) #[] #[]) Tx.exc.ev :=
  ⟨_, _, rfl, run_call _ _ Tryz.func77 (by kernel_rfl) (by kernel_rfl), fun W _ s hs => excText_ok s W hs⟩
theorem textQ_good (hT : TabsQ Q w) : TextOkQ Q w (.func (.func 137) #[] #[]) Tx.good.ev :=
  ⟨_, _, rfl, run_call _ _ Tryz.func137 (by kernel_rfl) (by kernel_rfl), fun W hW s hs => good_ok s W (by omega) (hT W hW)⟩
theorem qNone : ShapeOkQ Q D w (.func (.func 70) #[] #[]) (Sh.none.ev Nd.right) := ⟨_, _, rfl, run_call _ _ Tryz.func70 (by kernel_rfl) (by kernel_rfl), fun W hW T A c K d hD hWt hN => tNone_ok T A c K d W hN⟩
variable (hRi : RightOk D) (hT : TabsQ Q w)
include hRi hT
theorem qExpr : ShapeOkQ Q D w (.func (.func 67) #[] #[]) (Sh.expr.ev Nd.right) := ⟨_, _, rfl, run_call _ _ Tryz.func67 (by kernel_rfl) (by kernel_rfl), fun W hW T A c K d hD hWt hN => tExpr_ok D hRi T A c K d W hD hWt hN (hT W hW)⟩
theorem qStmt : ShapeOkQ Q D w (.func (.func 66) #[] #[]) (Sh.stmt.ev Nd.right) := ⟨_, _, rfl, run_call _ _ Tryz.func66 (by kernel_rfl) (by kernel_rfl), fun W hW T A c K d hD hWt hN => tStmt_ok D hRi T A c K d W hD hWt hN (hT W hW)⟩
theorem qTarget : ShapeOkQ Q D w (.func (.func 68) #[] #[]) (Sh.target.ev Nd.right) := ⟨_, _, rfl, run_call _ _ Tryz.func68 (by kernel_rfl) (by kernel_rfl), fun W hW T A c K d hD hWt hN => tTarget_ok D hRi T A c K d W hD hWt hN (hT W hW)⟩
theorem qTargets : ShapeOkQ Q D w (.func (.func 72) #[] #[]) (Sh.targets.ev Nd.right) := ⟨_, _, rfl, run_call _ _ Tryz.func72 (by kernel_rfl) (by kernel_rfl), fun W hW T A c K d hD hWt hN => tTargets_ok D hRi T A c K d W hD hWt hN (hT W hW)⟩
theorem qBlock : ShapeOkQ Q D w (.func (.func 71) #[] #[]) (Sh.block.ev Nd.right) := ⟨_, _, rfl, run_call _ _ Tryz.func71 (by kernel_rfl) (by kernel_rfl), fun W hW T A c K d hD hWt hN => tBlock_ok D hRi T A c K d W hD hWt hN (hT W hW)⟩
theorem qDef : ShapeOkQ Q (D + 1) w (.func (.func 74) #[] #[]) (Fm.dfn.ev Nd.right) := ⟨_, _, rfl, run_call _ _ Tryz.func74 (by kernel_rfl) (by kernel_rfl), fun W hW T A c K d hD hWt hN => tDef_ok D hRi T A c K d W hD hWt hN (hT W hW)⟩
theorem qParam : ShapeOkQ Q (D + 1) w (.func (.func 75) #[] #[]) (Fm.prm.ev Nd.right) := ⟨_, _, rfl, run_call _ _ Tryz.func75 (by kernel_rfl) (by kernel_rfl), fun W hW T A c K d hD hWt hN => tParam_ok D hRi T A c K d W hD hWt hN (hT W hW)⟩
theorem qTry : ShapeOkQ Q (D + 1) w (.func (.func 76) #[] #[]) (Fm.tri.ev Nd.right) := ⟨_, _, rfl, run_call _ _ Tryz.func76 (by kernel_rfl) (by kernel_rfl), fun W hW T A c K d hD hWt hN => tTry_ok D hRi T A c K d W hD hWt hN (hT W hW)⟩
theorem qExcept : ShapeOkQ Q (D + 1) w (.func (.func 78) #[] #[]) (Fm.exc.ev Nd.right) := ⟨_, _, rfl, run_call _ _ Tryz.func78 (by kernel_rfl) (by kernel_rfl), fun W hW T A c K d hD hWt hN => tExcept_ok D hRi T A c K d W hD hWt hN (hT W hW)⟩
theorem qCall : ShapeOkQ Q (D + 1) w (.func (.func 139) #[] #[]) (Fm.cll.ev Nd.right) := ⟨_, _, rfl, run_call _ _ Tryz.func139 (by kernel_rfl) (by kernel_rfl), fun W hW T A c K d hD hWt hN => tCall_ok D hRi T A c K d W hD hWt hN (hT W hW)⟩
end
end
section
set_option linter.unusedVariables false
set_option linter.unusedSimpArgs false
open Go.RowKit
set_option maxRecDepth 1000000
/-- kids within the reference's bounds. -/
def WithinM (D : Nat) (l : List Nd) : Prop := ∀ t ∈ l, t.depth ≤ D ∧ t.weight ≤ 1000000
theorem within_kidsM {D : Nat} {T : Nd} (hD : T.depth ≤ D + 1) (hW : T.weight ≤ 1000000) : WithinM D T.kids := fun t ht => by
  have h1 := Nd.depth_kid ht
  have h2 := Nd.weight_kid ht
  omega
/-- a node's kind, laid out. -/
theorem right_at {T : Nd} {k : Int} (hk : T.kind = k) {tx : Tx} {fm : Fm} (hf : formOf k = some (tx, fm)) (h32 : k ≠ 32) : T.right = (tx.ev T.text && noNumB T && fm.ev Nd.right T) := by
  rw [right_eq, hk, hf]
  simp only [if_neg h32]
theorem ev_of {T : Nd} {k : Int} (hk : T.kind = k) {tx : Tx} {fm : Fm} (hf : formOf k = some (tx, fm)) (h32 : k ≠ 32) : (Sh.of k).ev Nd.right T = (tx.ev T.text && noNumB T && fm.ev Nd.right T) := by
  rw [← right_at hk hf h32]
  simp [Sh.ev, hk]
end
end Go.Proofs.YtjefhdlncikhmaaGreatDoor
