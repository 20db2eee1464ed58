/- letters.All's iterator with the law's own loop body: the closures by contracts of their own. -/
import Derived.Test.YtooamagefbhgdaaDoorLawQuote
import Derived.OneCell
namespace Go.Proofs.YtooamagefbhgdaaDoor
open Go.RowKit Go.Shelf
set_option maxRecDepth 1000000

/-- the five variables that the body captures: blocks of one cell each. -/
structure GoesSt (b : Nat) (over : Bool) (n : Nat) (lv : Value) (stop : Int) (w : World) : Prop where
  l : w.heap[b]? = some (.cells #[lv] 34 (0, 0))
  s : w.heap[b + 1]? = some (.cells #[.int .i64 stop] 3 (0, 0))
  n : w.heap[b + 2]? = some (.cells #[.int .i64 n] 3 (0, 0))
  o : w.heap[b + 3]? = some (.cells #[.bool true] 4 (0, 0))
  v : w.heap[b + 4]? = some (.cells #[.bool over] 4 (0, 0))

theorem set_other {w : World} {a k : Nat} (u : Value) (h : k ≠ a) : (w.setCell ⟨a, 0, none⟩ u).heap[k]? = w.heap[k]? := Below.heap_setCell _ _ _ _ h

set_option maxHeartbeats 2000000 in
theorem goes1_ok (b g N cA k : Nat) (stop : Int) (x : ByteArray) (w : World) (h : GoesSt b false k (.slice (some ⟨g, 0, none⟩) N cA) stop w) (hk : k < N) (hN : N ≤ 1099511627776) (hg : g < b) (hx : w.cell? ⟨g, k, none⟩ = some (.string x)) (hstop : -9223372036854775808 ≤ stop ∧ stop ≤ 9223372036854775807) :
    Calls Tryd.prog 38 #[.int .i64 k, .string x, .pointer (some ⟨b + 3, 0, none⟩), .pointer (some ⟨b + 4, 0, none⟩), .pointer (some ⟨b + 2, 0, none⟩), .pointer (some ⟨b, 0, none⟩), .pointer (some ⟨b + 1, 0, none⟩)] w fun e w' =>
      e = .returned (.bool (!((k : Int) + 1 == stop))) ∧ GoesSt b ((k : Int) + 1 == stop) (k + 1) (.slice (some ⟨g, 0, none⟩) N cA) stop w' ∧ Below b w w' ∧ (∀ j, b + 4 < j → w'.heap[j]? = w.heap[j]?) := by
  have c0 := cell_of_one h.l
  have c1 := cell_of_one h.s
  have c2 := cell_of_one h.n
  have c3 := cell_of_one h.o
  have c4 := cell_of_one h.v
  have f2 := free_of_one h.n
  have f3 := free_of_one h.o
  have f4 := free_of_one h.v
  have l4 := lt_of_block h.v
  have H := Lib.hid h
  have x1 : (x.toList == x.toList) = true := by simp
  have x2 : ((k : Int) == (k : Int)) = true := by simp
  clear h
  go_enter Tryd.func38, Tryd.ntmps38
  go_wp2
  go_ret
  have h := H.out
  refine ⟨rfl, ⟨?_, ?_, ?_, ?_, ?_⟩, ?_, ?_⟩
  · exact (set_other _ (by omega)).trans ((set_other _ (by omega)).trans ((set_other _ (by omega)).trans h.l))
  · exact (set_other _ (by omega)).trans ((set_other _ (by omega)).trans ((set_other _ (by omega)).trans h.s))
  · have := one_setCell (u := Value.int .i64 ((k : Int) + 1)) ((set_other (w := w) (a := b + 3) (.bool true) (by omega)).trans h.n)
    exact (set_other _ (by omega)).trans this
  · exact (set_other _ (by omega)).trans ((set_other _ (by omega)).trans (one_setCell h.o))
  · exact one_setCell ((set_other _ (by omega)).trans ((set_other _ (by omega)).trans h.v))
  · exact (((Below.refl b w).setCell (p := ⟨b + 3, 0, none⟩) (by show b ≤ b + 3; omega) _).setCell (p := ⟨b + 2, 0, none⟩) (by show b ≤ b + 2; omega) _).setCell (p := ⟨b + 4, 0, none⟩) (by show b ≤ b + 4; omega) _
  · intro j hj
    exact (set_other _ (by omega)).trans ((set_other _ (by omega)).trans (set_other _ (by omega)))

theorem goesSt_of {b n : Nat} {over : Bool} {lv : Value} {stop : Int} {w w' : World} (h : GoesSt b over n lv stop w) (hk : ∀ j, b ≤ j → j ≤ b + 4 → w'.heap[j]? = w.heap[j]?) : GoesSt b over n lv stop w' :=
  ⟨(hk _ (by omega) (by omega)).trans h.l, (hk _ (by omega) (by omega)).trans h.s, (hk _ (by omega) (by omega)).trans h.n, (hk _ (by omega) (by omega)).trans h.o, (hk _ (by omega) (by omega)).trans h.v⟩

/-- what the row of texts holds. -/
def RowOf (g : Nat) (rs : List Nat) (w : World) : Prop := ∀ (k r : Nat), rs[k]? = some r → w.cell? ⟨g, k, none⟩ = some (.string (Utf8.encode (r : Int)))

set_option maxHeartbeats 4000000 in
theorem all1_ok (s : ByteArray) (hs : s.size ≤ 1099511627776) (b cA sb : Nat) (A : Option Addr) (stop : Int) (w : World) (hstop : -9223372036854775808 ≤ stop ∧ stop ≤ 9223372036854775807) (hsb : sb < b) (hcs : w.cell? ⟨sb, 0, none⟩ = some (.string s))
    (h : GoesSt b false 0 (.slice A (pieces s.data.toList).length cA) stop w) (hrow : 0 < (pieces s.data.toList).length → ∃ g, A = some ⟨g, 0, none⟩ ∧ g < b ∧ RowOf g (pieces s.data.toList) w) (hb5 : b + 5 ≤ w.heap.size) :
    Calls Tryd.prog 37 #[.func (.func 38) #[] #[.pointer (some ⟨b + 3, 0, none⟩), .pointer (some ⟨b + 4, 0, none⟩), .pointer (some ⟨b + 2, 0, none⟩), .pointer (some ⟨b, 0, none⟩), .pointer (some ⟨b + 1, 0, none⟩)], .pointer (some ⟨sb, 0, none⟩)] w fun e w' =>
      e = .returned (.tuple #[]) ∧ Below b w w' ∧ ∃ m ov, GoesSt b ov m (.slice A (pieces s.data.toList).length cA) stop w' ∧ (((m : Int) = stop ∧ 0 < stop) ∨ m = (pieces s.data.toList).length) := by
  have hpl := pieces_len s.data.toList
  rw [show s.data.toList.length = s.size by simp] at hpl
  obtain ⟨RS, hRS⟩ : ∃ RS, pieces s.data.toList = RS := ⟨_, rfl⟩
  rw [hRS] at h hrow hpl ⊢
  have h0 : RS.drop 0 = pieces (s.data.toList.drop 0) := by rw [List.drop_zero, List.drop_zero, hRS]
  clear hRS
  have HROW := Lib.hid hrow
  have hsbl := World.block_lt_of_cell? w _ hcs
  clear hrow
  go_enter Tryd.func37, Tryd.ntmps37
  go_wp2
  obtain ⟨ib, hib⟩ : ∃ ib, w.heap.size = ib := ⟨_, rfl⟩
  have hit0 : (w.iter s 0).heap[ib]? = some (.stringIter s 0) := by rw [← hib]; exact World.iter_heap w s 0
  have hst0 : GoesSt b false 0 (.slice A RS.length cA) stop (w.iter s 0) := goesSt_of h (fun j h1 h2 => heap_alloc_old w _ (by omega))
  have hbw0 : Below b w (w.iter s 0) := (Below.refl b w).alloc (by omega) _
  rw [hib] at hb5
  rw [hib]
  clear h hcs
  go_loopw [3] (fun v wr => ∃ (pos k : Nat), v = .int .i64 k ∧ wr.heap[ib]? = some (.stringIter s pos) ∧ GoesSt b false k (.slice A RS.length cA) stop wr ∧ Below b w wr ∧ k ≤ RS.length ∧ pos ≤ s.size ∧ Hid (RS.drop k = pieces (s.data.toList.drop pos))) (fun _ wr => s.size - wr.iterPos ib)
  case atStart => exact ⟨0, 0, rfl, hit0, hst0, hbw0, Nat.zero_le _, Nat.zero_le _, h0⟩
  case round =>
    obtain ⟨pos, k, rfl, hit, hst, hbw, hKL, hps, hT⟩ := hrel
    by_cases hp : pos < s.size
    · have hnx : ∀ ty, (Instr.next (.pointer (some ⟨ib, 0, none⟩)) true ty).run Tryd.prog wr = _ := fun ty => Lib.run_next_any_at wr ib s pos ty hit hp
      have hla := bytes_at s pos hp
      have hne : s.data.toList.drop pos ≠ [] := by rw [hla]; simp
      have hwd := Lib.decodeL_width (s.data.toList.drop pos)
      have hle := Lib.decodeL_le (s.data.toList.drop pos) hne
      have hstp := pieces_step _ hne
      rw [List.length_drop, show s.data.toList.length = s.size by simp] at hle
      rw [Lib.decodeL_drop] at hwd hstp hle
      rw [List.drop_drop] at hstp
      have hit2 := Lib.iterAt_heap wr ib s pos (pos + (Utf8.decode s pos).2) hit
      have hbw2 := Lib.below_iterAt hbw (k := ib) (by omega) s (pos + (Utf8.decode s pos).2)
      have hst2 : GoesSt b false k (.slice A RS.length cA) stop (wr.iterAt ib s (pos + (Utf8.decode s pos).2)) := goesSt_of hst (fun j h1 h2 => Lib.iterAt_other wr ib j s _ (by omega))
      rw [hstp] at hT
      have hkl : k < RS.length := by
        have := congrArg List.length hT.out
        rw [List.length_drop, List.length_cons] at this
        omega
      have hr : RS[k]? = some (Utf8.decode s pos).1 := by
        have := congrArg (fun l => l[0]?) hT.out
        simpa [List.getElem?_drop] using this
      have hT2 : Hid (RS.drop (k + 1) = pieces (s.data.toList.drop (pos + (Utf8.decode s pos).2))) := Lib.hid (by
        have := congrArg List.tail hT.out
        simpa [List.tail_drop] using this)
      obtain ⟨g, hAg, hg, hrw⟩ := HROW.out (by omega)
      have hx2 : (wr.iterAt ib s (pos + (Utf8.decode s pos).2)).cell? ⟨g, k, none⟩ = some (.string (Utf8.encode ((Utf8.decode s pos).1 : Int))) := (hbw2.cell (p := ⟨g, k, none⟩) hg).trans (hrw k _ hr)
      have HL := Lib.hid (And.intro hwd (And.intro hps hle))
      clear hla hne hstp hwd hle hps hT hr hrw
      generalize (Utf8.decode s pos).1 = r at *
      generalize (Utf8.decode s pos).2 = n at *
      generalize hW2 : wr.iterAt ib s (pos + n) = W2 at *
      subst hAg
      have hcl := goes1_ok b g RS.length cA k stop (Utf8.encode (r : Int)) W2 hst2 hkl (by omega) hg hx2 hstop
      have hk9 : k ≤ 1099511627776 := by omega
      have HST := Lib.hid hst2
      clear hst hst2 hx2
      cases hb : ((k : Int) + 1 == stop) with
      | true =>
        rw [hb] at hcl
        have hbe : ((k : Int) + 1) = stop := by simpa using hb
        clear hb
        go_wp2_with (go_at_call 38; refine hcl.mono ?_; rintro e W3 ⟨rfl, h3, b3, o3⟩)
        refine bodyPost_ret (results_none rfl _ _ _) rfl ?_
        exact ⟨rfl, hbw2.trans b3, k + 1, true, h3, Or.inl ⟨by rw [← hbe]; simp, by omega⟩⟩
      | false =>
        rw [hb] at hcl
        clear hb
        go_wp2_with (go_at_call 38; refine hcl.mono ?_; rintro e W3 ⟨rfl, h3, b3, o3⟩)
        have hit4 : W3.heap[ib]? = some (.stringIter s (pos + n)) := (o3 ib (by omega)).trans hit2
        go_roundw
        case rel =>
          have := HL.out
          exact ⟨pos + n, k + 1, by go_num, hit4, h3, hbw2.trans b3, by omega, by omega, hT2⟩
        case measure =>
          have := HL.out
          simp only [World.iterPos, hit4, hit]
          omega
    · have hnx : ∀ ty, (Instr.next (.pointer (some ⟨ib, 0, none⟩)) true ty).run Tryd.prog wr = _ := fun ty => Lib.run_next_end_at wr ib s pos ty hit hp
      have hk : k = RS.length ∨ RS.length < k := by
        have hd : s.data.toList.drop pos = [] := List.drop_eq_nil_of_le (by simp; omega)
        have := congrArg List.length hT.out
        rw [hd, pieces_nil, List.length_drop, List.length_nil] at this
        omega
      have hkN : k ≤ RS.length := hKL
      have hk2 : k = RS.length := by omega
      subst hk2
      have HST := Lib.hid hst
      clear hT hst
      go_wp2
      go_end0
      exact ⟨rfl, hbw, _, Or.inl HST.out, Or.inr rfl⟩

theorem at_new (W : World) (o : Obj) (n : Nat) (h : n = W.heap.size) : (W.alloc o).heap[n]? = some o := h ▸ heap_alloc_new W o
/-- the five variables as goes lays them. -/
theorem goes_boxes (w : World) (lv : Value) (stop : Int) :
    GoesSt w.heap.size false 0 lv stop (((((w.alloc (.cells #[lv] 34)).alloc (.cells #[.int .i64 stop] 3)).alloc (.cells #[.int .i64 0] 3)).alloc (.cells #[.bool true] 4)).alloc (.cells #[.bool false] 4)) ∧
    Below w.heap.size w (((((w.alloc (.cells #[lv] 34)).alloc (.cells #[.int .i64 stop] 3)).alloc (.cells #[.int .i64 0] 3)).alloc (.cells #[.bool true] 4)).alloc (.cells #[.bool false] 4)) ∧
    w.heap.size + 5 ≤ (((((w.alloc (.cells #[lv] 34)).alloc (.cells #[.int .i64 stop] 3)).alloc (.cells #[.int .i64 0] 3)).alloc (.cells #[.bool true] 4)).alloc (.cells #[.bool false] 4)).heap.size := by
  refine ⟨⟨?_, ?_, ?_, ?_, ?_⟩, ?_, ?_⟩
  · exact (heap_alloc_old _ _ (by simp <;> omega)).trans ((heap_alloc_old _ _ (by simp <;> omega)).trans ((heap_alloc_old _ _ (by simp <;> omega)).trans ((heap_alloc_old _ _ (by simp <;> omega)).trans (at_new _ _ _ (by simp)))))
  · exact (heap_alloc_old _ _ (by simp <;> omega)).trans ((heap_alloc_old _ _ (by simp <;> omega)).trans ((heap_alloc_old _ _ (by simp <;> omega)).trans (at_new _ _ _ (by simp))))
  · exact (heap_alloc_old _ _ (by simp <;> omega)).trans ((heap_alloc_old _ _ (by simp <;> omega)).trans (at_new _ _ _ (by simp)))
  · exact (heap_alloc_old _ _ (by simp <;> omega)).trans (at_new _ _ _ (by simp))
  · exact at_new _ _ _ (by simp)
  · refine Below.alloc (Below.alloc (Below.alloc (Below.alloc (Below.alloc (Below.refl _ w) ?_ _) ?_ _) ?_ _) ?_ _) ?_ _ <;> simp <;> omega
  · simp

set_option maxHeartbeats 4000000 in
theorem goes_ok (s : ByteArray) (hs : s.size ≤ 1099511627776) (cA sb : Nat) (A : Option Addr) (stop : Int) (w : World) (hstop : -9223372036854775808 ≤ stop ∧ stop ≤ 9223372036854775807) (hsb : sb < w.heap.size) (hcs : w.cell? ⟨sb, 0, none⟩ = some (.string s)) (hrow : 0 < (pieces s.data.toList).length → ∃ g, A = some ⟨g, 0, none⟩ ∧ g < w.heap.size ∧ RowOf g (pieces s.data.toList) w) :
    Calls Tryd.prog 16 #[.func (.func 37) #[] #[.pointer (some ⟨sb, 0, none⟩)], .slice A (pieces s.data.toList).length cA, .int .i64 stop] w fun e w' => e = .returned (.bool true) ∧ Below w.heap.size w w' := by
  go_enter Tryd.func16, Tryd.ntmps16
  go_wp2_with fail
  go_at_call 37
  have hb := goes_boxes w (.slice A (pieces s.data.toList).length cA) stop
  obtain ⟨hG, hB5, hS5⟩ := hb
  refine (all1_ok s hs w.heap.size cA sb A stop _ hstop hsb ((hB5.cell (p := ⟨sb, 0, none⟩) hsb).trans hcs) hG (fun hN => let ⟨g, h1, hg, h2⟩ := hrow hN; ⟨g, h1, hg, fun k r h => (hB5.cell (p := ⟨g, k, none⟩) hg).trans (h2 k r h)⟩) hS5).mono ?_
  rintro e w6 ⟨rfl, b6, m, ov, h6, hm⟩
  have hB6 := hB5.trans b6
  have c0 := cell_of_one h6.l
  have c1 := cell_of_one h6.s
  have c2 := cell_of_one h6.n
  have c3 := cell_of_one h6.o
  clear hG hB5 hS5 h6 hrow
  generalize (pieces s.data.toList).length = N at *
  have hcase : (((m : Int) == stop) = true ∧ 0 < stop) ∨ (m = N ∧ ((m : Int) == stop) = false) ∨ (m = N ∧ ((m : Int) == stop) = true ∧ stop ≤ 0) := by
    rcases hm with ⟨h1, h2⟩ | h1
    · exact Or.inl ⟨by simpa using h1, h2⟩
    · by_cases h2 : (m : Int) = stop
      · by_cases h3 : 0 < stop
        · exact Or.inl ⟨by simpa using h2, h3⟩
        · exact Or.inr (Or.inr ⟨h1, by simpa using h2, by omega⟩)
      · exact Or.inr (Or.inl ⟨h1, by simpa using h2⟩)
  have x2 : ((N : Int) == (N : Int)) = true := by simp
  clear hm
  rcases hcase with ⟨h1, h2⟩ | ⟨rfl, h1⟩ | ⟨rfl, h1, h2⟩
  all_goals
    go_wp2
    go_ret
    exact ⟨rfl, hB6⟩
end Go.Proofs.YtooamagefbhgdaaDoor
