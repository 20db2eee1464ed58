/- The reference's Pieces, width, digits, escape, Unquote. -/
import Derived.Test.YtgheejogpbhokaaDoorLet2
import Derived.Test.YtgheejogpbhokaaDoorAppend
namespace Go.Proofs.YtgheejogpbhokaaDoor
set_option linter.unusedVariables false
set_option linter.unusedSimpArgs false
open Go.RowKit Go.Shelf

/-- numbers as a slice reads them. -/
def nums (rs : List Nat) : List Int := rs.map Int.ofNat
theorem nums_length (rs : List Nat) : (nums rs).length = rs.length := by simp [nums]

theorem ownsRow_iterAt {base : Nat} {e : TypeId} {size : Nat} {v : Value} {n : Nat} {xs : List Value} {w : World} (h : w.ownsRow base e size v n xs) {k : Nat} {s : ByteArray} {pos : Nat} (hk : w.heap[k]? = some (.stringIter s pos)) (pos' : Nat) :
    (w.iterAt k s pos').ownsRow base e size v n xs := by
  refine ⟨h.1, ?_⟩
  rcases h.2 with hn | ⟨g, cap, cur, hv, hbg, hg, rest⟩
  · exact .inl hn
  · have hkg : g ≠ k := by
      intro e1
      rw [e1, hk] at hg
      cases hg
    exact .inr ⟨g, cap, cur, hv, hbg, (Lib.iterAt_other w k g s pos' hkg).trans hg, rest⟩
theorem ownsRow_later {base : Nat} {e : TypeId} {size : Nat} {v : Value} {n : Nat} {xs : List Value} {w w' : World} (h : w.ownsRow base e size v n xs) (hb : Below w.heap.size w w') : w'.ownsRow base e size v n xs := by
  refine ⟨h.1, ?_⟩
  rcases h.2 with hn | ⟨g, cap, cur, hv, hbg, hg, rest⟩
  · exact .inl hn
  · exact .inr ⟨g, cap, cur, hv, hbg, heap_later hb hg, rest⟩
/-- a row's own block is no iterator's. -/
theorem own_ne_iter {base : Nat} {e : TypeId} {size : Nat} {v : Value} {n : Nat} {xs : List Value} {w : World} (h : w.ownsRow base e size v n xs) {k : Nat} {s : ByteArray} {pos : Nat} (hk : w.heap[k]? = some (.stringIter s pos)) : some k ≠ v.ownBlock := by
  rcases h.2 with ⟨rfl, _⟩ | ⟨g, cap, cur, rfl, _, hg, _⟩
  · simp [Value.ownBlock]
  · simp only [Value.ownBlock]
    intro e1
    injection e1 with e1
    rw [← e1, hk] at hg
    cases hg

/-- a row's own block is not below its base. -/
theorem own_base {base : Nat} {e : TypeId} {size : Nat} {v : Value} {n : Nat} {xs : List Value} {w : World} (h : w.ownsRow base e size v n xs) : ∀ k, v.ownBlock = some k → base ≤ k := by
  intro k hk
  rcases h.2 with ⟨rfl, _⟩ | ⟨g, cap, cur, rfl, hg, _⟩
  · simp [Value.ownBlock] at hk
  · simp only [Value.ownBlock] at hk; injection hk with hk; omega

theorem i32_info : (Tryd.prog.info? 21).map (fun i => (i.zero, i.size, i.bytes)) = some (some (.int .i32 0), 1, 4) := by kernel_rfl

/-- runes in new memory are handed back. -/
def RetRunes (w : World) (rs : List Nat) (e : Ending) (w' : World) : Prop :=
  ∃ A c, e = .returned (.slice A rs.length c) ∧ rs.length ≤ c ∧ c ≤ 9223372036854775807 ∧ FrI w' w.heap.size .i32 A (nums rs) ∧ Below w.heap.size w w'

set_option maxRecDepth 100000 in
set_option maxHeartbeats 1000000 in
theorem pieces_ok (s : ByteArray) (w : World) (hs : s.size ≤ 1099511627776) :
    Calls Tryd.prog 35 #[.string s] w (RetRunes w (pieces s.data.toList)) := by
  obtain ⟨i0, hi0, hz0, hz1, hz2⟩ := info_parts i32_info
  go_enter Tryd.func35, Tryd.ntmps35
  go_wp2
  go_loopw [3] (fun v wr => ∃ (pos : Nat) (rs : List Nat), wr.ownsRow w.heap.size 21 1 v rs.length ((nums rs).map (Value.int .i32)) ∧ wr.heap[w.heap.size]? = some (.stringIter s pos) ∧ Below w.heap.size w wr ∧ rs.length ≤ pos ∧ Hid (rs ++ pieces (s.data.toList.drop pos) = pieces s.data.toList)) (fun _ wr => s.size - wr.iterPos w.heap.size)
  case atStart =>
    exact ⟨0, [], (World.ownsRow_nil w w.heap.size 21 1).alloc _, World.iter_heap w s 0, (Below.refl _ w).alloc (Nat.le_refl _) _, Nat.le_refl _, rfl⟩
  case round =>
    obtain ⟨pos, rs, hown, hit, hbw, hrl, hT⟩ := hrel
    have hsz : w.heap.size < wr.heap.size := (Array.getElem?_eq_some_iff.1 hit).1
    obtain ⟨A, c, rfl, hlc, hcm, _⟩ := own_form hown
    by_cases hp : pos < s.size
    · have hnx : ∀ ty, (Instr.next (.pointer (some ⟨w.heap.size, 0, none⟩)) true ty).run Tryd.prog wr = _ := fun ty => Lib.run_next_any_at wr w.heap.size s pos ty hit hp
      have hla := bytes_at s pos hp
      have hne : s.data.toList.drop pos ≠ [] := by rw [hla]; simp
      have hwd := Lib.decodeL_width (s.data.toList.drop pos)
      have hst := pieces_step _ hne
      rw [Lib.decodeL_drop] at hwd hst
      rw [List.drop_drop] at hst
      have hown2 := ownsRow_iterAt hown hit (pos + (Utf8.decode s pos).2)
      have hne2 := own_ne_iter hown hit
      have hit2 := Lib.iterAt_heap wr w.heap.size s pos (pos + (Utf8.decode s pos).2) hit
      have hbw2 := Lib.below_iterAt hbw (k := w.heap.size) (Nat.le_refl _) s (pos + (Utf8.decode s pos).2)
      have hsz2 : w.heap.size < (wr.iterAt w.heap.size s (pos + (Utf8.decode s pos).2)).heap.size := by rw [Lib.iterAt_size]; exact hsz
      rw [hst] at hT
      have HL := Lib.hid (And.intro hrl (And.intro hwd hsz))
      clear hla hne hst hrl hsz
      generalize (Utf8.decode s pos).1 = r at *
      generalize (Utf8.decode s pos).2 = n at *
      generalize hW2 : wr.iterAt w.heap.size s (pos + n) = W2 at *
      go_wp2_with (at_builtin; refine wpList_append_ints _ rfl (.tmp 11) (.tmp 13) _ rfl w.heap.size 21 i0 _ 4 .i32 Tryd.underlying65 hi0 hz0 hz1 hz2 rfl _ rs.length (nums rs) rfl (hown2.alloc _) _ _ _ [(r : Int)] rfl rfl (rdI_one _ _ _ _) (by unfold maxLen; have := HL.out; omega) (by have := HL.out; omega) (by simp; omega) ?_; intro v1 w1 hown1 hg1 _)
      go_roundw
      case rel =>
        have hg2 : (W2.alloc (.cells #[.int .i32 (r : Int)] 21)).grownBy w1 (Value.slice A rs.length c).ownBlock := hg1
        refine ⟨pos + n, rs ++ [r], by simpa [nums] using hown1, ?_, (hbw2.alloc (Nat.le_of_lt hsz2) _).grown hg2 (by simp; omega) (own_base hown2), ?_, ?_⟩
        · rw [hg2.block _ (by simp; omega) hne2, heap_alloc_old _ _ hsz2]; exact hit2
        · have := HL.out; simp; omega
        · rw [List.append_assoc]; exact hT
      case measure =>
        have hg2 : (W2.alloc (.cells #[.int .i32 (r : Int)] 21)).grownBy w1 (Value.slice A rs.length c).ownBlock := hg1
        have hi3 : w1.heap[w.heap.size]? = some (Obj.stringIter s (pos + n)) := by rw [hg2.block _ (by simp; omega) hne2, heap_alloc_old _ _ hsz2]; exact hit2
        simp only [World.iterPos, hi3, hit]
        omega
    · have hnx : ∀ ty, (Instr.next (.pointer (some ⟨w.heap.size, 0, none⟩)) true ty).run Tryd.prog wr = _ := fun ty => Lib.run_next_end_at wr w.heap.size s pos ty hit hp
      have hT1 : rs = pieces s.data.toList := by
        have := hT.out
        rw [List.drop_eq_nil_of_le (by simp; omega), pieces_nil, List.append_nil] at this
        exact this
      clear hT
      go_wp2
      go_ret
      rw [← hT1]
      exact ⟨A, c, rfl, hlc, hcm, FrI.of_own hown, hbw⟩
end Go.Proofs.YtgheejogpbhokaaDoor
