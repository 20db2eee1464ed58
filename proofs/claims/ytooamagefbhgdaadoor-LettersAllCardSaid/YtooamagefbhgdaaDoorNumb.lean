/- letters.numbered: so many digits of a rune. -/
import Derived.Test.YtooamagefbhgdaaDoorQPlain
import Derived.Test.YtooamagefbhgdaaDoorLet7
namespace Go.Proofs.YtooamagefbhgdaaDoor
open Go.RowKit Go.Shelf
set_option maxRecDepth 1000000

/-- the array behind i digits of d. -/
def numCell (r d i j : Nat) : Value := if j < d ∧ d - 1 - j < i then .int .u8 (hexc (r / 16 ^ (d - 1 - j) % 16)).toNat else .int .u8 0
def numCells (r d i : Nat) : Array Value := #[numCell r d i 0, numCell r d i 1, numCell r d i 2, numCell r d i 3]

theorem nat_and15 (q : Nat) : q &&& 15 = q % 16 := by
  have := Nat.and_two_pow_sub_one_eq_mod q 4
  simpa using this
theorem and15 (q : Nat) (hq : q ≤ 1114111) : bits BinOp.and IntKind.i32 (q : Int) 15 = ((q % 16 : Nat) : Int) := by
  show IntKind.i32.wrap ((BitVec.ofInt 32 (q : Int) &&& BitVec.ofInt 32 ((15 : Nat) : Int)).toNat : Int) = _
  rw [BitVec.toNat_and, ofInt_u32 q (by omega), ofInt_u32 15 (by omega), nat_and15]
  exact wrap_i32_small _ (by omega) (by omega)
theorem hexAt (m : Nat) (h : m < 16) : (⟨#[48, 49, 50, 51, 52, 53, 54, 55, 56, 57, 97, 98, 99, 100, 101, 102]⟩ : ByteArray)[m]'(h) = hexc m := by
  have : ∀ m : Fin 16, (⟨#[48, 49, 50, 51, 52, 53, 54, 55, 56, 57, 97, 98, 99, 100, 101, 102]⟩ : ByteArray)[m.1]'(m.2) = hexc m.1 := by decide
  exact this ⟨m, h⟩

theorem conv_arr (w : World) (l : List UInt8) (cs : Array Value) (t : TypeId) (c : Nat) (hc : ∀ j (hj : j < l.length), cs[j]? = some (.int .u8 (l[j].toNat : Int))) :
    (convert 46 9 (.slice (some ⟨w.heap.size, 0, none⟩) l.length c)).run Tryd.prog (w.alloc (.cells cs t)) = .ok (.string ⟨l.toArray⟩) (w.alloc (.cells cs t)) := by
  refine run_convert_bytes_back _ _ _ 5 _ _ l Tryd.underlying46 Tryd.underlying5 Tryd.underlying9 ?_
  intro j hj
  have := hc j hj
  rw [Addr.add_lit, World.cell?_alloc_at _ _ _ _ (by rfl)]
  simpa using this

set_option maxHeartbeats 1000000 in
theorem numbered_ok (r d : Nat) (hd : d = 2 ∨ d = 4) (hr : r ≤ 1114111) (w : World) :
    Calls Tryd.prog 49 #[.int .i32 r, .int .i64 d] w fun e w' => e = .returned (.string ⟨(numb r d).toArray⟩) ∧ Below w.heap.size w w' := by
  have hcv : ∀ c, (convert 46 9 (.slice (some ⟨w.heap.size, 0, none⟩) d c)).run Tryd.prog (w.alloc (.cells (numCells r d d) 87)) = .ok (.string ⟨(numb r d).toArray⟩) (w.alloc (.cells (numCells r d d) 87)) := by
    intro c
    have h := conv_arr w (numb r d) (numCells r d d) 87 c ?_
    · rw [numb_len] at h; exact h
    · intro j hj
      rw [numb_len] at hj
      rcases hd with rfl | rfl
      · have : j = 0 ∨ j = 1 := by omega
        rcases this with rfl | rfl <;> simp [numCells, numCell, numb2]
      · have : j = 0 ∨ j = 1 ∨ j = 2 ∨ j = 3 := by omega
        rcases this with rfl | rfl | rfl | rfl <;> simp [numCells, numCell, numb4, Nat.div_div_eq_div_mul]
  obtain ⟨X, hX⟩ : ∃ X, (⟨(numb r d).toArray⟩ : ByteArray) = X := ⟨_, rfl⟩
  rw [hX]
  rw [hX] at hcv
  clear hX
  rcases hd with rfl | rfl
  · rw [show ((2 : Nat) : Int) = 2 from rfl]
    go_enter Tryd.func49, Tryd.ntmps49
    go_wp2
    go_loopw [0, 6, 8] (fun v0 v6 v8 wr => ∃ i : Nat, v0 = .int .i32 (r / 16 ^ i : Nat) ∧ v8 = .int .i64 i ∧ i ≤ 2 ∧ wr = w.alloc (.cells (numCells r 2 i) 87)) (fun _ _ v8 _ => 2 - (intOf v8).toNat)
    case atStart => exact ⟨0, by simp, rfl, by omega, rfl⟩
    case round =>
      obtain ⟨i, rfl, rfl, hi, rfl⟩ := hrel
      have hcase : i = 0 ∨ i = 1 ∨ i = 2 := by omega
      obtain ⟨q, hq⟩ : ∃ q, r / 16 ^ i = q := ⟨_, rfl⟩
      have hql : q ≤ 1114111 := by rw [← hq]; exact Nat.le_trans (Nat.div_le_self _ _) hr
      have ha := and15 q hql
      obtain ⟨m, hm⟩ : ∃ m, q % 16 = m := ⟨_, rfl⟩
      have hml : m < 16 := by rw [← hm]; exact Nat.mod_lt _ (by decide)
      have hn : r / 16 ^ (i + 1) = q / 16 := by rw [← hq, Nat.pow_succ, Nat.div_div_eq_div_mul]
      rw [hm] at ha
      rw [hq]
      have HQ := Lib.hid hq
      have HM := Lib.hid hm
      have HN := Lib.hid hn
      clear hq hm hi hn
      rcases hcase with rfl | rfl | rfl
      · simp only [numCells]
        clear hcv
        go_wp2
        go_roundw
        case rel => exact ⟨1, by rw [HN.out]; simp, rfl, by omega, by rw [hexAt m hml, ← HM.out, ← HQ.out]; simp [numCells, numCell]⟩
        case measure => simp [intOf]
      · simp only [numCells]
        clear hcv
        go_wp2
        go_roundw
        case rel => exact ⟨2, by rw [HN.out]; simp, rfl, by omega, by rw [hexAt m hml, ← HM.out, ← HQ.out]; simp [numCells, numCell]⟩
        case measure => simp [intOf]
      · go_wp2
        go_ret
        exact ⟨rfl, Below.alloc (Below.refl _ _) (Nat.le_refl _) _⟩
  · rw [show ((4 : Nat) : Int) = 4 from rfl]
    go_enter Tryd.func49, Tryd.ntmps49
    go_wp2
    go_loopw [0, 6, 8] (fun v0 v6 v8 wr => ∃ i : Nat, v0 = .int .i32 (r / 16 ^ i : Nat) ∧ v8 = .int .i64 i ∧ i ≤ 4 ∧ wr = w.alloc (.cells (numCells r 4 i) 87)) (fun _ _ v8 _ => 4 - (intOf v8).toNat)
    case atStart => exact ⟨0, by simp, rfl, by omega, rfl⟩
    case round =>
      obtain ⟨i, rfl, rfl, hi, rfl⟩ := hrel
      have hcase : i = 0 ∨ i = 1 ∨ i = 2 ∨ i = 3 ∨ i = 4 := by omega
      obtain ⟨q, hq⟩ : ∃ q, r / 16 ^ i = q := ⟨_, rfl⟩
      have hql : q ≤ 1114111 := by rw [← hq]; exact Nat.le_trans (Nat.div_le_self _ _) hr
      have ha := and15 q hql
      obtain ⟨m, hm⟩ : ∃ m, q % 16 = m := ⟨_, rfl⟩
      have hml : m < 16 := by rw [← hm]; exact Nat.mod_lt _ (by decide)
      have hn : r / 16 ^ (i + 1) = q / 16 := by rw [← hq, Nat.pow_succ, Nat.div_div_eq_div_mul]
      rw [hm] at ha
      rw [hq]
      have HQ := Lib.hid hq
      have HM := Lib.hid hm
      have HN := Lib.hid hn
      clear hq hm hi hn
      rcases hcase with rfl | rfl | rfl | rfl | rfl
      · simp only [numCells]
        clear hcv
        go_wp2
        go_roundw
        case rel => exact ⟨1, by rw [HN.out]; simp, rfl, by omega, by rw [hexAt m hml, ← HM.out, ← HQ.out]; simp [numCells, numCell]⟩
        case measure => simp [intOf]
      · simp only [numCells]
        clear hcv
        go_wp2
        go_roundw
        case rel => exact ⟨2, by rw [HN.out]; simp, rfl, by omega, by rw [hexAt m hml, ← HM.out, ← HQ.out]; simp [numCells, numCell]⟩
        case measure => simp [intOf]
      · simp only [numCells]
        clear hcv
        go_wp2
        go_roundw
        case rel => exact ⟨3, by rw [HN.out]; simp, rfl, by omega, by rw [hexAt m hml, ← HM.out, ← HQ.out]; simp [numCells, numCell]⟩
        case measure => simp [intOf]
      · simp only [numCells]
        clear hcv
        go_wp2
        go_roundw
        case rel => exact ⟨4, by rw [HN.out]; simp, rfl, by omega, by rw [hexAt m hml, ← HM.out, ← HQ.out]; simp [numCells, numCell]⟩
        case measure => simp [intOf]
      · go_wp2
        go_ret
        exact ⟨rfl, Below.alloc (Below.refl _ _) (Nat.le_refl _) _⟩
end Go.Proofs.YtooamagefbhgdaaDoor
