/- letters.Quote: a text in quotes. -/
import Derived.Test.YtooamagefbhgdaaDoorQuoted
namespace Go.Proofs.YtooamagefbhgdaaDoor
open Go.RowKit Go.Shelf
set_option maxRecDepth 1000000

theorem strCells_bytes (s : ByteArray) : Lib.strCells s = Lib.byteCells s.data.toList := rfl

set_option maxHeartbeats 2000000 in
theorem quote_ok (s : ByteArray) (w : World) (hs : s.size ≤ 1099511627776) :
    Calls Tryd.prog 13 #[.string s] w fun e w' => e = .returned (.string ⟨(quoteL (pieces s.data.toList)).toArray⟩) ∧ Below w.heap.size w w' := by
  obtain ⟨Q, hQ⟩ : ∃ Q, quoteL (pieces s.data.toList) = Q := ⟨_, rfl⟩
  rw [hQ]
  have HQ := Lib.hid hQ
  clear hQ
  go_enter Tryd.func13, Tryd.ntmps13
  go_wp2_with (go_at_call 34; refine (Tryd.bWriteByte w.heap.size w.heap.size [] 39 _ (Lib.IsBuilderF.of (Lib.fresh_isBuilder 48 5 w)) (by simp) (by simp)).mono ?_; rintro e w1 ⟨rfl, h1, b1, k1⟩)
  simp only [List.nil_append] at h1
  have bw0 : Below w.heap.size w w1 := ((Below.refl _ w).alloc (Nat.le_refl _) _).trans b1
  have hib : w.heap.size < w1.heap.size := Nat.lt_of_lt_of_le (by simp) b1.size
  obtain ⟨ib, hibe⟩ : ∃ ib, w1.heap.size = ib := ⟨_, rfl⟩
  have hI0 : Lib.BuilderAtF 48 5 w.heap.size w.heap.size (.pointer (some ⟨w.heap.size, 0, none⟩)) [.int .u8 39] (w1.iter s 0) := bAt_later h1 ((Below.refl _ w1).alloc (Nat.le_refl _) _)
  have hit0 : (w1.iter s 0).heap[ib]? = some (.stringIter s 0) := by rw [← hibe]; exact World.iter_heap w1 s 0
  have hbw0 : Below w.heap.size w (w1.iter s 0) := bw0.alloc (Nat.le_of_lt hib) _
  rw [hibe] at hib
  rw [hibe]
  go_loopw [] (fun wr => ∃ (pos : Nat) (rs : List Nat), Lib.BuilderAtF 48 5 w.heap.size w.heap.size (.pointer (some ⟨w.heap.size, 0, none⟩)) (Lib.byteCells (39 :: rs.flatMap quotedL)) wr ∧ wr.heap[ib]? = some (.stringIter s pos) ∧ Below w.heap.size w wr ∧ rs.length ≤ pos ∧ pos ≤ s.size ∧ Hid (rs ++ pieces (s.data.toList.drop pos) = pieces s.data.toList)) (fun wr => s.size - wr.iterPos ib)
  case atStart => exact ⟨0, [], hI0, hit0, hbw0, Nat.le_refl _, Nat.zero_le _, rfl⟩
  case round =>
    obtain ⟨pos, rs, hI, hit, hbw, hrl, hps, hT⟩ := hrel
    have hsz : ib < wr.heap.size := (Array.getElem?_eq_some_iff.1 hit).1
    have hl6 := quoteds_len rs
    have hcl : (Lib.byteCells (39 :: rs.flatMap quotedL)).length = 1 + (rs.flatMap quotedL).length := by rw [Lib.byteCells_length, List.length_cons]; omega
    by_cases hp : pos < s.size
    · have hnx : ∀ ty, (Instr.next (.pointer (some ⟨ib, 0, none⟩)) true ty).run Tryd.prog wr = _ := fun ty => Lib.run_next_any_at wr ib s pos ty hit hp
      have hla := bytes_at s pos hp
      have hne : s.data.toList.drop pos ≠ [] := by rw [hla]; simp
      have hwd := Lib.decodeL_width (s.data.toList.drop pos)
      have hle := Lib.decodeL_le (s.data.toList.drop pos) hne
      have hsc := dec_sc (s.data.toList.drop pos)
      have hst := pieces_step _ hne
      rw [List.length_drop, show s.data.toList.length = s.size by simp] at hle
      rw [Lib.decodeL_drop] at hwd hst hle hsc
      rw [List.drop_drop] at hst
      have hI2 := hI.iterAt hit (pos + (Utf8.decode s pos).2)
      have hit2 := Lib.iterAt_heap wr ib s pos (pos + (Utf8.decode s pos).2) hit
      have hbw2 := Lib.below_iterAt hbw (k := ib) (Nat.le_of_lt hib) s (pos + (Utf8.decode s pos).2)
      rw [hst] at hT
      have hqd := fun wx => quoted_ok (Utf8.decode s pos).1 hsc wx
      have HL := Lib.hid (And.intro hrl (And.intro hwd (And.intro hps hle)))
      clear hla hne hst hrl hsz hwd hle hps hsc
      generalize (Utf8.decode s pos).1 = r at *
      generalize (Utf8.decode s pos).2 = n at *
      generalize hW2 : wr.iterAt ib s (pos + n) = W2 at *
      have hq6 := quotedL_len r
      obtain ⟨Y, hY⟩ : ∃ Y, (⟨(quotedL r).toArray⟩ : ByteArray) = Y := ⟨_, rfl⟩
      have hYl : Y.data.toList = quotedL r := by rw [← hY, str_of]
      have hYs : Y.size = (quotedL r).length := by rw [← hYl]; rfl
      simp only [hY] at hqd
      have HS := Lib.hid (show (Lib.byteCells (39 :: rs.flatMap quotedL)).length + Y.size ≤ 140737488355328 by rw [hcl, hYs]; have := HL.out; omega)
      have HY := Lib.hid hYl
      clear hq6 hYl hYs hY hcl hl6
      go_wp2_with (first
        | (go_at_call 36; refine (hqd _).mono ?_; rintro e W3 ⟨rfl, hb3⟩)
        | (go_at_call 35; refine (Tryd.bWriteString w.heap.size w.heap.size _ Y _ (.inr (bAt_later hI2 hb3)) HS.out ((hbw2.trans (hb3.mono hbw2.size)).size)).mono ?_; rintro e W4 ⟨rfl, h4, b4, k4⟩))
      have hbw3 := hbw2.trans (hb3.mono hbw2.size)
      have hit4 : W4.heap[ib]? = some (.stringIter s (pos + n)) := k4 _ _ (heap_later hb3 hit2) (by intro e1; injection e1 with e1; omega) (by intro c fz e1; cases e1)
      go_roundw
      case rel =>
        refine ⟨pos + n, rs ++ [r], ?_, hit4, hbw3.trans b4, ?_, ?_, ?_⟩
        · rw [strCells_bytes, HY.out, ← Lib.byteCells_append] at h4
          rw [List.flatMap_append, List.flatMap_cons, List.flatMap_nil, List.append_nil, ← List.cons_append]
          exact h4
        · have := HL.out; simp; omega
        · have := HL.out; omega
        · rw [List.append_assoc]; exact hT
      case measure =>
        have := HL.out
        simp only [World.iterPos, hit4, hit]
        omega
    · have hnx : ∀ ty, (Instr.next (.pointer (some ⟨ib, 0, none⟩)) true ty).run Tryd.prog wr = _ := fun ty => Lib.run_next_end_at wr ib s pos ty hit hp
      have hT1 : rs = pieces s.data.toList := by
        have := hT.out
        rw [List.drop_eq_nil_of_le (by simp; omega), pieces_nil, List.append_nil] at this
        exact this
      have HC := Lib.hid (show (Lib.byteCells (39 :: rs.flatMap quotedL)).length + 1 ≤ 140737488355328 by rw [hcl]; omega)
      have HE : Lib.byteCells (39 :: rs.flatMap quotedL) ++ [Value.int .u8 39] = Lib.byteCells Q := by
        rw [← HQ.out, ← hT1, quoteL, ← List.cons_append, Lib.byteCells_append]; rfl
      have HE := Lib.hid HE
      clear hT hT1 hcl hl6 hrl
      go_wp2_with (first
        | (go_at_call 34; refine (Tryd.bWriteByte w.heap.size w.heap.size _ 39 _ (.inr hI) HC.out hbw.size).mono ?_; rintro e W5 ⟨rfl, h5, b5, k5⟩; rw [HE.out] at h5)
        | (go_at_call 28; refine (Tryd.Builder_String_any_k w.heap.size w.heap.size Q _ (.inr h5) (Nat.le_trans hbw.size b5.size)).mono ?_; rintro e W6 ⟨rfl, _, b6, _⟩))
      go_ret
      exact ⟨rfl, hbw.trans (b5.trans b6)⟩
end Go.Proofs.YtooamagefbhgdaaDoor
