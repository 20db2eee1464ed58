/- letters.Len, letters.At, letters.Has and the reference's: what they give. -/
import Derived.Test.YtooamagefbhgdaaDoorLawQuote
import Derived.Lib.IndexLaws
namespace Go.Proofs.YtooamagefbhgdaaDoor
open Go.RowKit Go.Shelf
set_option maxRecDepth 1000000

set_option maxHeartbeats 1000000 in
theorem len_ok (s : ByteArray) (w : World) (hs : s.size ≤ 1099511627776) :
    Calls Tryd.prog 21 #[.string s] w fun e w' => e = .returned (.int .i64 (pieces s.data.toList).length) ∧ Below w.heap.size w w' := by
  obtain ⟨N, hN⟩ : ∃ N, (pieces s.data.toList).length = N := ⟨_, rfl⟩
  rw [hN]
  have h0 : 0 + (pieces (s.data.toList.drop 0)).length = N := by rw [List.drop_zero, Nat.zero_add, hN]
  clear hN
  go_enter Tryd.func21, Tryd.ntmps21
  go_wp2
  go_loopw [3] (fun v wr => ∃ (pos k : Nat), v = .int .i64 k ∧ wr.heap[w.heap.size]? = some (.stringIter s pos) ∧ Below w.heap.size w wr ∧ k ≤ pos ∧ pos ≤ s.size ∧ Hid (k + (pieces (s.data.toList.drop pos)).length = N)) (fun _ wr => s.size - wr.iterPos w.heap.size)
  case atStart => exact ⟨0, 0, rfl, World.iter_heap w s 0, (Below.refl _ w).alloc (Nat.le_refl _) _, Nat.le_refl _, Nat.zero_le _, h0⟩
  case round =>
    obtain ⟨pos, k, rfl, hit, hbw, hkp, hps, hT⟩ := hrel
    by_cases hp : pos < s.size
    · have hnx : ∀ ty, (Instr.next (.pointer (some ⟨w.heap.size, 0, none⟩)) true ty).run Tryd.prog wr = _ := fun ty => Lib.run_next_any_at wr w.heap.size s pos ty hit hp
      have hla := bytes_at s pos hp
      have hne : s.data.toList.drop pos ≠ [] := by rw [hla]; simp
      have hwd := Lib.decodeL_width (s.data.toList.drop pos)
      have hle := Lib.decodeL_le (s.data.toList.drop pos) hne
      have hst := pieces_step _ hne
      rw [List.length_drop, show s.data.toList.length = s.size by simp] at hle
      rw [Lib.decodeL_drop] at hwd hst hle
      rw [List.drop_drop] at hst
      have hit2 := Lib.iterAt_heap wr w.heap.size s pos (pos + (Utf8.decode s pos).2) hit
      have hbw2 := Lib.below_iterAt hbw (k := w.heap.size) (Nat.le_refl _) s (pos + (Utf8.decode s pos).2)
      rw [hst, List.length_cons] at hT
      have HL := Lib.hid (And.intro hkp (And.intro hwd (And.intro hps hle)))
      have hk9 : k ≤ 1099511627776 := by omega
      clear hla hne hst hwd hle hps hkp
      generalize (Utf8.decode s pos).1 = r at *
      generalize (Utf8.decode s pos).2 = n at *
      generalize hW2 : wr.iterAt w.heap.size s (pos + n) = W2 at *
      go_wp2
      go_roundw
      case rel =>
        have := HL.out
        refine ⟨pos + n, k + 1, by go_num, hit2, hbw2, by omega, by omega, ?_⟩
        have h := hT.out
        exact Lib.hid (by omega)
      case measure =>
        have := HL.out
        simp only [World.iterPos, hit2, hit]
        omega
    · have hnx : ∀ ty, (Instr.next (.pointer (some ⟨w.heap.size, 0, none⟩)) true ty).run Tryd.prog wr = _ := fun ty => Lib.run_next_end_at wr w.heap.size s pos ty hit hp
      have hT1 : k = N := by
        have := hT.out
        rw [List.drop_eq_nil_of_le (by simp; omega), pieces_nil, List.length_nil] at this
        omega
      subst hT1
      clear hT h0
      go_wp2
      go_ret
      exact ⟨rfl, hbw⟩

theorem refLen_ok (s : ByteArray) (w : World) (hs : s.size ≤ 1099511627776) :
    Calls Tryd.prog 22 #[.string s] w fun e w' => e = .returned (.int .i64 (pieces s.data.toList).length) ∧ Below w.heap.size w w' := by
  have hpc := fun wx => pieces_ok s wx hs
  generalize pieces s.data.toList = rs at *
  go_enter Tryd.func22, Tryd.ntmps22
  go_wp2_with (go_at_call 33; refine (hpc w).mono ?_; rintro e w1 ⟨A, c, rfl, l1, l2, fr, hb1⟩)
  go_ret
  exact ⟨rfl, hb1⟩

/-- what At hands back. -/
def atR (o : Option Nat) : Value := match o with | some r => .tuple #[.string (Utf8.encode (r : Int)), .int .i64 0] | none => .tuple #[.string ⟨#[]⟩, .int .i64 5]
/-- the rune of a number. -/
def atO (l : List Nat) (i : Int) : Option Nat := if i < 0 then none else l[i.toNat]?

set_option maxHeartbeats 1000000 in
theorem at_ok (s : ByteArray) (i : Int) (w : World) (hs : s.size ≤ 1099511627776) (hi : -9223372036854775808 ≤ i ∧ i ≤ 9223372036854775807) :
    Calls Tryd.prog 19 #[.string s, .int .i64 i] w fun e w' => e = .returned (atR (atO (pieces s.data.toList) i)) ∧ Below w.heap.size w w' := by
  by_cases hneg : i < 0
  · rw [atO, if_pos hneg, atR]
    go_enter Tryd.func19, Tryd.ntmps19
    go_wp2
    go_ret2
    exact ⟨rfl, Below.refl _ _⟩
  · rw [atO, if_neg hneg]
    obtain ⟨m, rfl⟩ : ∃ m : Nat, i = m := ⟨i.toNat, by omega⟩
    rw [Int.toNat_natCast]
    obtain ⟨O, hO⟩ : ∃ O, (pieces s.data.toList)[m]? = O := ⟨_, rfl⟩
    rw [hO]
    have h0 : (pieces (s.data.toList.drop 0))[m]? = O := by rw [List.drop_zero, hO]
    clear hO
    go_enter Tryd.func19, Tryd.ntmps19
    go_wp2
    go_loopw [1] (fun v wr => ∃ (pos j : Nat), v = .int .i64 j ∧ j ≤ m ∧ wr.heap[w.heap.size]? = some (.stringIter s pos) ∧ Below w.heap.size w wr ∧ pos ≤ s.size ∧ Hid ((pieces (s.data.toList.drop pos))[j]? = O)) (fun _ wr => s.size - wr.iterPos w.heap.size)
    case atStart => exact ⟨0, m, rfl, Nat.le_refl _, World.iter_heap w s 0, (Below.refl _ w).alloc (Nat.le_refl _) _, Nat.zero_le _, h0⟩
    case round =>
      obtain ⟨pos, j, rfl, hjm, hit, hbw, hps, hT⟩ := hrel
      by_cases hp : pos < s.size
      · have hnx : ∀ ty, (Instr.next (.pointer (some ⟨w.heap.size, 0, none⟩)) true ty).run Tryd.prog wr = _ := fun ty => Lib.run_next_any_at wr w.heap.size s pos ty hit hp
        have hla := bytes_at s pos hp
        have hne : s.data.toList.drop pos ≠ [] := by rw [hla]; simp
        have hwd := Lib.decodeL_width (s.data.toList.drop pos)
        have hle := Lib.decodeL_le (s.data.toList.drop pos) hne
        have hst := pieces_step _ hne
        rw [List.length_drop, show s.data.toList.length = s.size by simp] at hle
        rw [Lib.decodeL_drop] at hwd hst hle
        rw [List.drop_drop] at hst
        have hit2 := Lib.iterAt_heap wr w.heap.size s pos (pos + (Utf8.decode s pos).2) hit
        have hbw2 := Lib.below_iterAt hbw (k := w.heap.size) (Nat.le_refl _) s (pos + (Utf8.decode s pos).2)
        rw [hst] at hT
        have HL := Lib.hid (And.intro hwd (And.intro hps hle))
        clear hla hne hst hwd hle hps h0
        generalize (Utf8.decode s pos).1 = r at *
        generalize (Utf8.decode s pos).2 = n at *
        generalize hW2 : wr.iterAt w.heap.size s (pos + n) = W2 at *
        by_cases hj : j = 0
        · subst hj
          have hO : O = some r := hT.out.symm
          subst hO
          clear hT
          go_wp2
          go_ret2
          exact ⟨rfl, hbw2⟩
        · obtain ⟨j, rfl⟩ : ∃ q, j = q + 1 := ⟨j - 1, by omega⟩
          have hT2 : Hid ((pieces (List.drop (pos + n) s.data.toList))[j]? = O) := Lib.hid (by have := hT.out; rwa [List.getElem?_cons_succ] at this)
          have x1 : (((j + 1 : Nat) : Int) == 0) = false := beqI (b := 0) (by omega)
          clear hT hj
          go_wp2
          go_roundw
          case rel =>
            have := HL.out
            exact ⟨pos + n, j, by go_num, by omega, hit2, hbw2, by omega, hT2⟩
          case measure =>
            have := HL.out
            simp only [World.iterPos, hit2, hit]
            omega
      · have hnx : ∀ ty, (Instr.next (.pointer (some ⟨w.heap.size, 0, none⟩)) true ty).run Tryd.prog wr = _ := fun ty => Lib.run_next_end_at wr w.heap.size s pos ty hit hp
        have hO : O = none := by
          have := hT.out
          rw [List.drop_eq_nil_of_le (by simp; omega), pieces_nil] at this
          exact this.symm
        subst hO
        clear hT h0
        go_wp2
        go_ret2
        exact ⟨rfl, hbw⟩

set_option maxHeartbeats 1000000 in
theorem refAt_ok (s : ByteArray) (i : Int) (w : World) (hs : s.size ≤ 1099511627776) (hi : -9223372036854775808 ≤ i ∧ i ≤ 9223372036854775807) :
    Calls Tryd.prog 20 #[.string s, .int .i64 i] w fun e w' => e = .returned (atR (atO (pieces s.data.toList) i)) ∧ Below w.heap.size w w' := by
  have hpc := fun wx => pieces_ok s wx hs
  have hpl := pieces_len s.data.toList
  rw [show s.data.toList.length = s.size by simp] at hpl
  generalize pieces s.data.toList = rs at *
  by_cases hneg : i < 0
  · rw [atO, if_pos hneg, atR]
    go_enter Tryd.func20, Tryd.ntmps20
    go_wp2_with (go_at_call 33; refine (hpc w).mono ?_; rintro e w1 ⟨A, c, rfl, l1, l2, fr, hb1⟩)
    go_ret2
    exact ⟨rfl, hb1⟩
  · rw [atO, if_neg hneg]
    obtain ⟨m, rfl⟩ : ∃ m : Nat, i = m := ⟨i.toNat, by omega⟩
    rw [Int.toNat_natCast]
    by_cases hm : m < rs.length
    · obtain ⟨r, hr⟩ : ∃ r, rs[m]? = some r := ⟨_, List.getElem?_eq_getElem hm⟩
      rw [hr, atR]
      have HR := Lib.hid hr
      clear hr
      go_enter Tryd.func20, Tryd.ntmps20
      go_wp2_with fail
      go_at_call 33
      refine (hpc w).mono ?_
      rintro e w1 ⟨A, c, rfl, l1, l2, fr, hb1⟩
      obtain ⟨b, off, t, hA, ht, hct⟩ := fr.rd m (by rw [nums_length]; exact hm)
      have htr : t = (r : Int) := by
        simp only [nums, List.getElem?_map, HR.out, Option.map_some, Option.some.injEq] at ht
        exact ht.symm
      subst htr
      have hbl : b < w1.heap.size := World.block_lt_of_cell? w1 _ hct
      clear ht fr
      subst hA
      go_wp2
      go_ret2
      exact ⟨rfl, hb1⟩
    · rw [List.getElem?_eq_none (by omega), atR]
      go_enter Tryd.func20, Tryd.ntmps20
      go_wp2_with (go_at_call 33; refine (hpc w).mono ?_; rintro e w1 ⟨A, c, rfl, l1, l2, fr, hb1⟩)
      go_ret2
      exact ⟨rfl, hb1⟩

theorem occ_eq (s part : ByteArray) (i : Nat) : ((s.extract i (i + part.size)).toList == part.toList) = Lib.occAt s.data.toList part.data.toList i := by
  rw [Lib.toList_data, Lib.toList_data, ext_take, Bool.eq_iff_iff, Lib.occAt, List.isPrefixOf_iff_prefix, List.prefix_iff_eq_take, beq_iff_eq]
  rw [show part.data.toList.length = part.size by simp]
  exact eq_comm

set_option maxHeartbeats 1000000 in
theorem refHas_ok (s part : ByteArray) (w : World) (hs : s.size ≤ 1099511627776) (hp : part.size ≤ 1099511627776) :
    Calls Tryd.prog 24 #[.string s, .string part] w fun e w' => e = .returned (.bool (Lib.contains s.data.toList part.data.toList)) ∧ Below w.heap.size w w' := by
  obtain ⟨R, hR⟩ : ∃ R, Lib.contains s.data.toList part.data.toList = R := ⟨_, rfl⟩
  rw [hR]
  have HR := Lib.hid hR
  clear hR
  go_enter Tryd.func24, Tryd.ntmps24
  go_wp2
  go_loopw [5] (fun v wr => ∃ i : Nat, v = .int .i64 i ∧ i ≤ s.size + 1 ∧ Below w.heap.size w wr ∧ Hid (Lib.NoOcc s.data.toList part.data.toList i)) (fun v _ => s.size + 2 - (intOf v).toNat)
  case atStart => exact ⟨0, rfl, Nat.zero_le _, Below.refl _ _, Lib.NoOcc.zero _ _⟩
  case round =>
    obtain ⟨i, rfl, hi, hbw, hT⟩ := hrel
    by_cases hc : i + part.size ≤ s.size
    · have hoe := occ_eq s part i
      cases ho : Lib.occAt s.data.toList part.data.toList i with
      | true =>
        rw [ho] at hoe
        have hRt : R = true := by
          rw [← HR.out, Lib.contains, Lib.index_hit hT.out (by simp; omega) ho]
          simp
        subst hRt
        clear hT HR ho
        go_wp2
        go_ret
        exact ⟨rfl, hbw⟩
      | false =>
        rw [ho] at hoe
        have hT2 := Lib.hid (hT.out.succ ho)
        clear hT HR ho
        go_wp2
        go_roundw
        case rel => exact ⟨i + 1, by go_num, by omega, hbw, hT2⟩
        case measure => simp [intOf]; omega
    · have hRf : R = false := by
        have hne : part.data.toList ≠ [] := by
          intro e
          have h0 : part.size = 0 := by rw [show part.size = part.data.toList.length by simp, e]; rfl
          have := hT.out 0 (by omega)
          rw [e] at this
          simp [Lib.occAt] at this
        rw [← HR.out, Lib.contains, Lib.index_past hne hT.out (by simp; omega)]
        simp
      subst hRf
      clear hT HR
      go_wp2
      go_ret
      exact ⟨rfl, hbw⟩

theorem has_ok (s part : ByteArray) (m : Int) (w : World) (hs : s.size ≤ 3000) (hm : w.cell? ⟨2, 0, none⟩ = some (.int .i64 m)) :
    Calls Tryd.prog 23 #[.string s, .string part] w fun e w' => e = .returned (.bool (Lib.contains s.data.toList part.data.toList)) ∧ w' = w := by
  have hc := Tryd.strings_Contains s part m w (by omega) hm
  generalize Lib.contains s.data.toList part.data.toList = R at *
  go_enter Tryd.func23, Tryd.ntmps23
  go_wp2_with (go_at_call 41; refine hc.mono ?_; rintro e w1 ⟨rfl, rfl⟩)
  go_ret
  exact ⟨rfl, rfl⟩
end Go.Proofs.YtooamagefbhgdaaDoor
