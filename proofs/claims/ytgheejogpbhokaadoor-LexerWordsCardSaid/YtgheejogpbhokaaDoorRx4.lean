/- The reference's Word and Sign. -/
import Derived.Test.YtgheejogpbhokaaDoorRx1
namespace Go.Proofs.YtgheejogpbhokaaDoor
set_option linter.unusedVariables false
set_option linter.unusedSimpArgs false
open Go.RowKit
set_option maxRecDepth 1000000

/-- texts in cells. -/
def strV (l : List (List UInt8)) : List Value := l.map fun x => Value.string ⟨x.toArray⟩
theorem strs_at (w : World) (l : List (List UInt8)) (t : TypeId) (k : Nat) (hk : k < l.length) : (w.alloc (.cells (strV l).toArray t)).cell? ⟨w.heap.size, k, none⟩ = some (.string ⟨(l.getD k []).toArray⟩) := by
  simp only [World.cell?, heap_alloc_new]
  simp [strV, List.getD_eq_getElem?_getD, List.getElem?_eq_getElem hk]
theorem text_eq {x : List UInt8} {s : ByteArray} : (⟨x.toArray⟩ : ByteArray) = s ↔ x = s.data.toList := by
  constructor
  · intro h; rw [← h]
  · intro h; rw [h]
theorem txt_ne {a b : ByteArray} (h : ¬ a = b) : (a.toList == b.toList) = false := by
  rw [ByteArray.toList_eq, ByteArray.toList_eq, beq_eq_false_iff_ne]
  intro e
  exact h (by rw [← text_eq.2 e])
theorem not_in {l : List (List UInt8)} {x : List UInt8} (h : ∀ j, j < l.length → l.getD j [] ≠ x) : l.contains x = false := by
  rw [Bool.eq_false_iff]
  intro hc
  rw [List.contains_iff_mem] at hc
  obtain ⟨j, hj, e⟩ := List.getElem_of_mem hc
  exact h j hj (by rw [List.getD_eq_getElem?_getD, List.getElem?_eq_getElem hj]; exact e)
theorem is_in {l : List (List UInt8)} {x : List UInt8} {k : Nat} (hk : k < l.length) (h : l.getD k [] = x) : l.contains x = true := by
  rw [List.contains_iff_mem, ← h, List.getD_eq_getElem?_getD, List.getElem?_eq_getElem hk]
  exact List.getElem_mem hk

set_option maxHeartbeats 1000000 in
theorem refWord_ok (s : ByteArray) (w : World) : Calls Tryd.prog 15 #[.string s] w fun e w' => e = .returned (.bool (wordB s.data.toList)) ∧ Below w.heap.size w w' := by
  obtain ⟨R, hR⟩ : ∃ R : Bool → Ending → World → Prop, (fun b e w' => e = .returned (.bool b) ∧ Below w.heap.size w w') = R := ⟨_, rfl⟩
  have hRe := Lib.hid (fun b e w' (h : e = Ending.returned (.bool b)) (hb : Below w.heap.size w w') => show R b e w' by rw [← hR]; exact ⟨h, hb⟩)
  show Calls Tryd.prog 15 #[.string s] w ((fun b e w' => e = .returned (.bool b) ∧ Below w.heap.size w w') (wordB s.data.toList))
  rw [hR]
  clear hR
  have hc := fun k => strs_at w wordsL 9 k
  have hb := (Below.refl w.heap.size w).alloc (Nat.le_refl _) (.cells (strV wordsL).toArray 9)
  go_enter Tryd.func15, Tryd.ntmps15
  go_wp2_with fail
  generalize hW1 : w.alloc _ = W1
  replace hc : ∀ k, k < 26 → W1.cell? ⟨w.heap.size, k, none⟩ = some (.string ⟨(wordsL.getD k []).toArray⟩) := fun k hk => by rw [← hW1]; exact hc k hk
  replace hb : Below w.heap.size w W1 := by rw [← hW1]; exact hb
  clear hW1
  have HB := Lib.hid hb
  have HC := Lib.hid hc
  clear hb hc
  go_loop [4] (fun v => ∃ k : Nat, v = .int .i64 k ∧ k ≤ 26 ∧ Hid (∀ j, j < k → wordsL.getD j [] ≠ s.data.toList)) (fun v => 26 - (intOf v).toNat)
  case atStart => exact ⟨0, rfl, by omega, Lib.hid (fun j h => absurd h (Nat.not_lt_zero j))⟩
  case round =>
    obtain ⟨k, rfl, hk, hn⟩ := hrel
    by_cases hlt : k < 26
    · have hck := HC.out k hlt
      by_cases he : (⟨(wordsL.getD k []).toArray⟩ : ByteArray) = s
      · have hw := Lib.hid (show wordB s.data.toList = true from is_in (l := wordsL) hlt (text_eq.1 he))
        rw [he] at hck
        clear he
        go_wp2
        exact hRe.out _ _ _ (by rw [hw.out]) HB.out
      · have hn2 := Lib.hid (show ∀ j, j < k + 1 → wordsL.getD j [] ≠ s.data.toList from fun j hj => if e : j = k then by subst e; exact fun e2 => he (text_eq.2 e2) else hn.out j (by omega))
        generalize (⟨(wordsL.getD k []).toArray⟩ : ByteArray) = T at *
        have e1 : (T.toList == s.toList) = false := txt_ne he
        go_wp2
        go_round
        case rel => exact ⟨k + 1, by go_num, by omega, hn2⟩
        case measure => simp [intOf]; omega
    · have hke : k = 26 := by omega
      subst hke
      have hw := Lib.hid (show wordB s.data.toList = false from not_in (l := wordsL) hn.out)
      go_wp2
      exact hRe.out _ _ _ (by rw [hw.out]) HB.out

/-- the signs in the reference's order. -/
def refSigns : List (List UInt8) := [[61, 61], [33, 61], [60, 61], [62, 61], [43, 61], [45, 61], [42, 61], [42, 42], [47, 47, 61], [47, 47], [37, 61], [38, 61], [124, 61], [94, 61], [40], [41], [91], [93], [123], [125], [44], [58], [46], [61], [60], [62], [43], [45], [42], [37], [38], [124], [94]]
def hasS (l x : List UInt8) : Prop := l.take x.length = x
theorem sgn_in {l : List UInt8} {n k : Nat} (S : List (List UInt8)) (hS : ∀ x ∈ S, x.length = n ∧ x ∈ refSigns.take k) (h : ∀ j, j < k → ¬ hasS l (refSigns.getD j [])) : S.contains (l.take n) = false := by
  rw [Bool.eq_false_iff]
  intro hc
  rw [List.contains_iff_mem] at hc
  obtain ⟨h1, h2⟩ := hS _ hc
  obtain ⟨j, hj, e⟩ := List.getElem_of_mem h2
  rw [List.length_take] at hj
  refine h j (by omega) ?_
  rw [List.getElem_take] at e
  have e2 : refSigns.getD j [] = l.take n := by rw [List.getD_eq_getElem?_getD, List.getElem?_eq_getElem (by omega)]; exact e
  rw [e2, hasS, h1]
theorem sign_none {l : List UInt8} (h : ∀ j, j < 33 → ¬ hasS l (refSigns.getD j [])) : signL l = [] := by
  unfold signL
  rw [sgn_in (n := 3) (k := 33) signs3 (by decide) h, sgn_in (n := 2) (k := 33) signs2 (by decide) h, sgn_in (n := 1) (k := 33) signs1 (by decide) h]
  rfl
theorem sign_first {l : List UInt8} {k : Nat} (hk : k < 33) (h : ∀ j, j < k → ¬ hasS l (refSigns.getD j [])) (hf : hasS l (refSigns.getD k [])) : signL l = refSigns.getD k [] := by
  by_cases h14 : 14 ≤ k
  · have h1 : ∀ k, k < 33 → 14 ≤ k → (refSigns.getD k []).length = 1 ∧ signs1.contains (refSigns.getD k []) = true := by decide
    obtain ⟨a1, a2⟩ := h1 k hk h14
    rw [hasS, a1] at hf
    unfold signL
    rw [sgn_in (n := 3) (k := 14) signs3 (by decide) (fun j hj => h j (by omega)), sgn_in (n := 2) (k := 14) signs2 (by decide) (fun j hj => h j (by omega)), hf, a2]
    rfl
  · by_cases h8 : k = 8
    · subst h8
      have hf3 : l.take 3 = [47, 47, 61] := hf
      unfold signL
      rw [hf3]
      rfl
    · have h1 : ∀ k, k < 14 → k ≠ 8 → (refSigns.getD k []).length = 2 ∧ signs2.contains (refSigns.getD k []) = true ∧ (k < 8 → refSigns.getD k [] ≠ [47, 47]) := by decide
      obtain ⟨a1, a2, a3⟩ := h1 k (by omega) h8
      rw [hasS, a1] at hf
      have h3 : signs3.contains (l.take 3) = false := by
        rw [Bool.eq_false_iff]
        intro hc
        have hc3 : l.take 3 = [47, 47, 61] := by simpa [signs3] using hc
        by_cases hk8 : k < 8
        · refine a3 hk8 ?_
          rw [← hf, show l.take 2 = (l.take 3).take 2 by rw [List.take_take]; rfl, hc3]
          rfl
        · exact h 8 (by omega) hc3
      unfold signL
      rw [h3, hf, a2]
      rfl

set_option maxHeartbeats 1000000 in
theorem refSign_ok {b off sc : Nat} {s : ByteArray} (p : Nat) (w : World) (h : BsAt w (some ⟨b, off, none⟩) s) (hs : s.size ≤ 1099511) (hsc : s.size ≤ sc) (hc : sc ≤ 9223372036854775807) (hp : p < s.size) :
    Calls Tryd.prog 34 #[.slice (some ⟨b, off, none⟩) s.size sc, .int .i64 p] w fun e w' => e = .returned (.string ⟨(signL (s.data.toList.drop p)).toArray⟩) ∧ Below w.heap.size w w' := by
  obtain ⟨R, hR⟩ : ∃ R : List UInt8 → Ending → World → Prop, (fun b e w' => e = .returned (.string ⟨b.toArray⟩) ∧ Below w.heap.size w w') = R := ⟨_, rfl⟩
  have hRe := Lib.hid (fun b e w' (h : e = Ending.returned (.string ⟨b.toArray⟩)) (hb : Below w.heap.size w w') => show R b e w' by rw [← hR]; exact ⟨h, hb⟩)
  show Calls Tryd.prog 34 _ w ((fun b e w' => e = .returned (.string ⟨b.toArray⟩) ∧ Below w.heap.size w w') (signL (s.data.toList.drop p)))
  rw [hR]
  clear hR
  have hc := fun k => strs_at w refSigns 9 k
  have hb := (Below.refl w.heap.size w).alloc (Nat.le_refl _) (.cells (strV refSigns).toArray 9)
  have hB := h.later hb
  go_enter Tryd.func34, Tryd.ntmps34
  go_wp2_with fail
  generalize hW1 : w.alloc _ = W1
  replace hc : ∀ k, k < 33 → W1.cell? ⟨w.heap.size, k, none⟩ = some (.string ⟨(refSigns.getD k []).toArray⟩) := fun k hk => by rw [← hW1]; exact hc k hk
  replace hb : Below w.heap.size w W1 := by rw [← hW1]; exact hb
  replace hB : BsAt W1 (some ⟨b, off, none⟩) s := by rw [← hW1]; exact hB
  clear hW1 h
  have HC := Lib.hid hc
  clear hc
  go_loopw [6] (fun v wr => ∃ k : Nat, v = .int .i64 k ∧ k ≤ 33 ∧ Hid (∀ j, j < k → ¬ hasS (s.data.toList.drop p) (refSigns.getD j [])) ∧ Below w.heap.size w wr ∧ Hid (BsAt wr (some ⟨b, off, none⟩) s) ∧ Hid (∀ k, k < 33 → wr.cell? ⟨w.heap.size, k, none⟩ = some (.string ⟨(refSigns.getD k []).toArray⟩))) (fun v _ => 33 - (intOf v).toNat)
  case atStart => exact ⟨0, rfl, by omega, Lib.hid (fun j h => absurd h (Nat.not_lt_zero j)), hb, Lib.hid hB, HC⟩
  case round =>
    obtain ⟨k, rfl, hk, hn, hbr, HS, HCr⟩ := hrel
    clear HC hB hb
    by_cases hlt : k < 33
    · have hck := HCr.out k hlt
      have hTl : (⟨(refSigns.getD k []).toArray⟩ : ByteArray).data.toList = refSigns.getD k [] := rfl
      have hTs : (⟨(refSigns.getD k []).toArray⟩ : ByteArray).size = (refSigns.getD k []).length := rfl
      have hpos : 1 ≤ (refSigns.getD k []).length := (by decide : ∀ k, k < 33 → 1 ≤ (refSigns.getD k []).length) k hlt
      have hle3 : (refSigns.getD k []).length ≤ 3 := (by decide : ∀ k, k < 33 → (refSigns.getD k []).length ≤ 3) k hlt
      have hext : ∀ n, (s.extract p (p + n)).data.toList = (s.data.toList.drop p).take n := fun n => by rw [ext_list, Nat.add_sub_cancel_left]
      have hlen : (s.data.toList.drop p).length = s.size - p := by rw [List.length_drop]; simp
      have hSk := Lib.hid (show ∀ T : ByteArray, T.data.toList = refSigns.getD k [] → T.size = (refSigns.getD k []).length → (hasS (s.data.toList.drop p) (refSigns.getD k []) ↔ (p + T.size ≤ s.size ∧ s.extract p (p + T.size) = T)) from fun T h1 h2 => by
        constructor
        · intro h
          have h3 := congrArg List.length h
          rw [List.length_take, hlen] at h3
          refine ⟨by omega, ?_⟩
          have h4 := hext T.size
          rw [h2, h, ← h1] at h4
          have h5 := text_eq.2 h4.symm
          have h6 := (text_eq (x := T.data.toList) (s := T)).2 rfl
          exact h5.symm.trans h6
        · rintro ⟨h3, h4⟩
          have h5 := hext T.size
          rw [h4, h1, h2] at h5
          exact h5.symm)
      have hSx := Lib.hid (hSk.out _ hTl hTs)
      clear hSk hext hlen
      rw [← hTs] at hpos hle3
      have hSg := Lib.hid (sign_first hlt hn.out)
      have hTl := Lib.hid hTl
      generalize (⟨(refSigns.getD k []).toArray⟩ : ByteArray) = T at *
      clear hTs
      have iw : IntKind.i64.wrap ((p : Int) + (T.size : Int)) = (p : Int) + (T.size : Int) := by rw [IntKind.wrap_i64]; omega
      have i0 : (0 : Int) ≤ (p : Int) := by omega
      have i1 : (p : Int) ≤ (p : Int) + (T.size : Int) := by omega
      by_cases hfit : p + T.size ≤ s.size
      · have hcv := fun n => conv_sub (h := HS.out.later (below_dN (Below.refl _ _) n)) p (p + T.size) T.size (sc - p) hfit (by omega)
        have i2 : (p : Int) + (T.size : Int) ≤ (s.size : Int) := by omega
        have i3 : (p : Int) + (T.size : Int) ≤ (sc : Int) := by omega
        have i4 : p + T.size ≤ sc := by omega
        by_cases he : s.extract p (p + T.size) = T
        · have hSg2 := Lib.hid (hSg.out (hSx.out.2 ⟨hfit, he⟩))
          rw [he] at hcv
          clear he hSg hSx
          go_wp2_with fail
          go_quiet (fail)
          obtain ⟨v2, hv, hbv⟩ : ∃ v, v = wr.drewN nq ∧ Below wr.heap.size wr v := ⟨_, rfl, below_dN (Below.refl _ _) _⟩
          rw [← hv]
          clear hv
          have hck2 := cell_later hbv hck
          replace hbr := hbr.trans (hbv.mono hbr.size)
          go_wp2
          exact hRe.out _ _ _ (by rw [hSg2.out, ← hTl.out]; rfl) hbr
        · have e1 : ((s.extract p (p + T.size)).toList == T.toList) = false := txt_ne he
          have hn2 := Lib.hid (show ∀ j, j < k + 1 → ¬ hasS (s.data.toList.drop p) (refSigns.getD j []) from fun j hj => if e : j = k then by subst e; exact fun h => (fun (x : p + T.size ≤ s.size ∧ s.extract p (p + T.size) = T) => he x.2) (hSx.out.1 h) else hn.out j (by omega))
          generalize s.extract p (p + T.size) = E at *
          clear he hSg hSx
          go_wp2_with fail
          go_quiet (fail)
          obtain ⟨v2, hv, hbv⟩ : ∃ v, v = wr.drewN nq ∧ Below wr.heap.size wr v := ⟨_, rfl, below_dN (Below.refl _ _) _⟩
          rw [← hv]
          clear hv
          have HS2 := Lib.hid (HS.out.later hbv)
          have HC2 := Lib.hid (show ∀ k, k < 33 → v2.cell? ⟨w.heap.size, k, none⟩ = some (.string ⟨(refSigns.getD k []).toArray⟩) from fun k hk => cell_later hbv (HCr.out k hk))
          replace hbr := hbr.trans (hbv.mono hbr.size)
          clear hbv HCr HS
          go_wp2
          go_roundw
          case rel => exact ⟨k + 1, by go_num, by omega, hn2, hbr, HS2, HC2⟩
          case measure => simp [intOf]; omega
      · have i2 : decide ((p : Int) + (T.size : Int) ≤ (s.size : Int)) = false := decide_eq_false (by omega)
        have hn2 := Lib.hid (show ∀ j, j < k + 1 → ¬ hasS (s.data.toList.drop p) (refSigns.getD j []) from fun j hj => if e : j = k then by subst e; exact fun h => (fun (x : p + T.size ≤ s.size ∧ s.extract p (p + T.size) = T) => hfit x.1) (hSx.out.1 h) else hn.out j (by omega))
        go_wp2_with fail
        go_quiet (fail)
        obtain ⟨v2, hv, hbv⟩ : ∃ v, v = wr.drewN nq ∧ Below wr.heap.size wr v := ⟨_, rfl, below_dN (Below.refl _ _) _⟩
        rw [← hv]
        clear hv
        have HS2 := Lib.hid (HS.out.later hbv)
        have HC2 := Lib.hid (show ∀ k, k < 33 → v2.cell? ⟨w.heap.size, k, none⟩ = some (.string ⟨(refSigns.getD k []).toArray⟩) from fun k hk => cell_later hbv (HCr.out k hk))
        replace hbr := hbr.trans (hbv.mono hbr.size)
        clear hbv HCr HS
        go_wp2
        go_roundw
        case rel => exact ⟨k + 1, by go_num, by omega, hn2, hbr, HS2, HC2⟩
        case measure => simp [intOf]; omega
    · have hke : k = 33 := by omega
      subst hke
      have hSg := Lib.hid (sign_none hn.out)
      go_wp2
      exact hRe.out _ _ _ (by rw [hSg.out]; rfl) hbr
end Go.Proofs.YtgheejogpbhokaaDoor
