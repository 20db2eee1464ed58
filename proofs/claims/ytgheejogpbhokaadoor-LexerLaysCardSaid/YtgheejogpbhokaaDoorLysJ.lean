/- LexerLays: the reference's Quote, the plain law of lines of pieces, which piece is meant, the call's rows, the law. -/
import Derived.Test.YtgheejogpbhokaaDoorLetPlain
import Derived.Test.YtgheejogpbhokaaDoorLet7
import Derived.Deep.OwnRows
import Derived.Test.YtgheejogpbhokaaDoorBlocks
import Derived.Test.YtgheejogpbhokaaDoorLawBlocks
import Derived.Test.YtgheejogpbhokaaDoorLiftB
import Derived.Deep.Slices
namespace Go.Proofs.YtgheejogpbhokaaDoor
set_option linter.unusedVariables false
set_option linter.unusedSimpArgs false
open Go.RowKit
set_option maxRecDepth 1000000

section
open Go.Shelf

/-- a digit's sign. -/
def hexc (d : Nat) : UInt8 := UInt8.ofNat (if d < 10 then 48 + d else 87 + d)
theorem hexd_hexc (d : Nat) (h : d < 16) : hexd (hexc d) = some d := by
  have : ∀ d, d < 16 → hexd (hexc d) = some d := by decide
  exact this d h
/-- so many digits of a number. -/
def numb : Nat → Nat → List UInt8
  | _, 0 => []
  | r, n + 1 => numb (r / 16) n ++ [hexc (r % 16)]
theorem numb2 (r : Nat) : numb r 2 = [hexc (r / 16 % 16), hexc (r % 16)] := rfl
theorem numb4 (r : Nat) : numb r 4 = [hexc (r / 16 / 16 / 16 % 16), hexc (r / 16 / 16 % 16), hexc (r / 16 % 16), hexc (r % 16)] := rfl
theorem numb_len : ∀ (n r : Nat), (numb r n).length = n
  | 0, _ => rfl
  | n + 1, r => by simp [numb, numb_len n]
theorem hexN2 (r : Nat) (z : List UInt8) (h : r < 256) : hexN 2 0 (numb r 2 ++ z) = some r := by
  rw [numb2]
  simp only [List.cons_append, List.nil_append, hexN, hexd_hexc _ (Nat.mod_lt _ (by decide : 0 < 16))]
  congr 1; omega
theorem hexN4 (r : Nat) (z : List UInt8) (h : r < 65536) : hexN 4 0 (numb r 4 ++ z) = some r := by
  rw [numb4]
  simp only [List.cons_append, List.nil_append, hexN, hexd_hexc _ (Nat.mod_lt _ (by decide : 0 < 16))]
  congr 1; omega

/-- the runes that stand as \u and four digits. -/
def Wide (r : Nat) : Prop := (128 ≤ r ∧ r ≤ 159) ∨ r = 8232 ∨ r = 8233 ∨ r = 65279
instance (r : Nat) : Decidable (Wide r) := by unfold Wide; infer_instance
/-- how a rune stands in quotes. -/
def quotedL (r : Nat) : List UInt8 :=
  if r = 39 ∨ r = 92 then 92 :: enc r
  else if r = 10 then [92, 110]
  else if r = 9 then [92, 116]
  else if r < 32 ∨ r = 127 then 92 :: 120 :: numb r 2
  else if Wide r then 92 :: 117 :: numb r 4
  else enc r
/-- runes in quotes. -/
def quoteL (rs : List Nat) : List UInt8 := 39 :: (rs.flatMap quotedL ++ [39])

theorem quotedL_len (r : Nat) : 1 ≤ (quotedL r).length ∧ (quotedL r).length ≤ 6 := by
  have h := enc_len r
  unfold quotedL
  split
  · simp; omega
  split
  · simp
  split
  · simp
  split
  · simp [numb_len]
  split
  · simp [numb_len]
  · omega
theorem quoteds_len : ∀ rs : List Nat, rs.length ≤ (rs.flatMap quotedL).length ∧ (rs.flatMap quotedL).length ≤ 6 * rs.length
  | [] => by simp
  | r :: rs => by
    have h := quotedL_len r
    have h2 := quoteds_len rs
    simp only [List.flatMap_cons, List.length_append, List.length_cons]
    omega
theorem quoteL_len (rs : List Nat) : (quoteL rs).length = (rs.flatMap quotedL).length + 2 := by simp [quoteL]

theorem unq_escape (f : Nat) (t : List UInt8) (r n : Nat) (h : esc t = some (r, n)) : unq (f + 1) 39 (92 :: t) = (unq f 39 (t.drop n)).map fun x => (enc r ++ x.1, 1 + n + x.2) := by
  rw [unq, if_neg (by decide), if_pos rfl, h]
theorem unq_quoted (f r : Nat) (z : List UInt8) (hr : Sc r) : unq (f + 1) 39 (quotedL r ++ z) = (unq f 39 z).map fun x => (enc r ++ x.1, (quotedL r).length + x.2) := by
  unfold quotedL
  by_cases h1 : r = 39 ∨ r = 92
  · rw [if_pos h1]
    have he : enc r = [UInt8.ofNat r] := enc1 r (by omega)
    rcases h1 with rfl | rfl
    all_goals
      rw [he, List.cons_append, List.cons_append, List.nil_append, unq_escape f _ _ 1 rfl]
      rw [show ([92, UInt8.ofNat _] : List UInt8).length = 1 + 1 from rfl]
      rfl
  rw [if_neg h1]
  by_cases h2 : r = 10
  · subst h2
    rw [if_pos rfl, List.cons_append, List.cons_append, List.nil_append, unq_escape f _ 10 1 rfl]; rfl
  rw [if_neg h2]
  by_cases h3 : r = 9
  · subst h3
    rw [if_pos rfl, List.cons_append, List.cons_append, List.nil_append, unq_escape f _ 9 1 rfl]; rfl
  rw [if_neg h3]
  by_cases h4 : r < 32 ∨ r = 127
  · rw [if_pos h4, List.cons_append, List.cons_append]
    have he : esc (120 :: (numb r 2 ++ z)) = some (r, 3) := by
      rw [esc_cons, if_neg (by decide), if_neg (by decide), if_pos rfl, hexN2 r z (by omega)]
      simp only
      rw [if_pos (by omega)]
    rw [unq_escape f _ _ _ he]
    have hd : (120 :: (numb r 2 ++ z)).drop 3 = z := by rw [List.drop_succ_cons, List.drop_append_of_le_length (by rw [numb_len]; exact Nat.le_refl _), List.drop_of_length_le (by rw [numb_len]; exact Nat.le_refl _)]; rfl
    rw [hd]
    simp [numb_len]
  rw [if_neg h4]
  by_cases h5 : Wide r
  · rw [if_pos h5, List.cons_append, List.cons_append]
    have hb : r < 65536 := by unfold Wide at h5; omega
    have he : esc (117 :: (numb r 4 ++ z)) = some (r, 5) := by
      rw [esc_cons, if_neg (by decide), if_neg (by decide), if_neg (by decide), if_pos rfl, hexN4 r z hb]
      simp only
      rw [if_pos hr]
    rw [unq_escape f _ _ _ he]
    have hd : (117 :: (numb r 4 ++ z)).drop 5 = z := by rw [List.drop_succ_cons, List.drop_append_of_le_length (by rw [numb_len]; exact Nat.le_refl _), List.drop_of_length_le (by rw [numb_len]; exact Nat.le_refl _)]; rfl
    rw [hd]
    simp [numb_len]
  rw [if_neg h5]
  have hdec := dec_enc r z hr
  obtain ⟨c, t, hct⟩ : ∃ c t, enc r = c :: t := List.exists_cons_of_ne_nil (enc_ne r)
  have hh := dec_head c (t ++ z)
  rw [hct, List.cons_append] at hdec
  rw [hdec] at hh
  have hc : c ≠ 39 ∧ c ≠ 92 := by
    constructor
    · rintro rfl
      rcases hh with ⟨_, h⟩ | ⟨h, _⟩
      · injection h with h _; exact h1 (Or.inl h)
      · revert h; decide
    · rintro rfl
      rcases hh with ⟨_, h⟩ | ⟨h, _⟩
      · injection h with h _; exact h1 (Or.inr h)
      · revert h; decide
  rw [hct, List.cons_append]
  rw [unq, if_neg hc.1, if_neg hc.2, hdec, if_neg]
  · simp only
    rw [show (c :: (t ++ z)).drop (c :: t).length = z by rw [← List.cons_append, List.drop_left]]
    rw [← hct]
  · rintro (hb | hb | hb)
    · unfold Bad at hb
      rw [hdec] at hb
      obtain ⟨e1, e2⟩ := hb
      simp only at e1 e2
      subst e1
      rw [← hct, enc_fffd] at e2
      simp at e2
    · simp only at hb; omega
    · simp only at hb; omega

theorem unq_quotes : ∀ (rs : List Nat) (f : Nat) (z : List UInt8), (∀ r ∈ rs, Sc r) → rs.length < f → unq f 39 (rs.flatMap quotedL ++ 39 :: z) = some (encs rs, (rs.flatMap quotedL).length + 1)
  | [], f, z, _, h => by
    obtain ⟨f, rfl⟩ : ∃ g, f = g + 1 := ⟨f - 1, by simp at h; omega⟩
    simp [unq, encs]
  | r :: rs, f, z, hs, h => by
    obtain ⟨f, rfl⟩ : ∃ g, f = g + 1 := ⟨f - 1, by simp at h; omega⟩
    rw [List.flatMap_cons, List.append_assoc, unq_quoted f r _ (hs r (by simp)), unq_quotes rs f z (fun x hx => hs x (by simp [hx])) (by simp at h; omega)]
    simp [encs_cons]; omega

theorem unquote_quote_app (rs : List Nat) (z : List UInt8) (hs : ∀ r ∈ rs, Sc r) : unquote (quoteL rs ++ z) = some (encs rs, (quoteL rs).length) := by
  have hl := quoteds_len rs
  rw [quoteL_len]
  unfold quoteL unquote
  rw [List.cons_append]
  simp only
  rw [if_pos (Or.inl trivial), List.append_assoc, List.singleton_append, unq_quotes rs _ z hs (by simp only [List.length_cons, List.length_append]; omega)]
  simp only [Option.map_some]
  congr 2
  omega
theorem unquote_quoteL (rs : List Nat) (hs : ∀ r ∈ rs, Sc r) : unquote (quoteL rs) = some (encs rs, (quoteL rs).length) := by
  have := unquote_quote_app rs [] hs
  rwa [List.append_nil] at this
/-- unlike texts have unlike quotes. -/
theorem quoteL_inj (a b : List Nat) (ha : ∀ r ∈ a, Sc r) (hb : ∀ r ∈ b, Sc r) (h : quoteL a = quoteL b) : encs a = encs b := by
  have h1 := unquote_quoteL a ha
  have h2 := unquote_quoteL b hb
  rw [h, h2] at h1
  injection h1 with h1
  injection h1 with h1 _
  exact h1.symm
theorem quote_cut (rs : List Nat) (hs : ∀ r ∈ rs, Sc r) (n : Nat) (hn : n < (quoteL rs).length) : unquote ((quoteL rs).take n) = none :=
  unquote_cut _ _ n (unquote_quoteL rs hs) hn

/-- the array behind i digits of d. -/
def numCell (r d i j : Nat) : Value := if j < d ∧ d - 1 - j < i then .int .u8 (hexc (r / 16 ^ (d - 1 - j) % 16)).toNat else .int .u8 0
def numCells (r d i : Nat) : Array Value := #[numCell r d i 0, numCell r d i 1, numCell r d i 2, numCell r d i 3]

theorem nat_and15 (q : Nat) : q &&& 15 = q % 16 := by
  have := Nat.and_two_pow_sub_one_eq_mod q 4
  simpa using this
theorem and15 (q : Nat) (hq : q ≤ 1114111) : bits BinOp.and IntKind.i32 (q : Int) 15 = ((q % 16 : Nat) : Int) := by
  show IntKind.i32.wrap ((BitVec.ofInt 32 (q : Int) &&& BitVec.ofInt 32 ((15 : Nat) : Int)).toNat : Int) = _
  rw [BitVec.toNat_and, ofInt_u32 q (by omega), ofInt_u32 15 (by omega), nat_and15]
  exact wrap_i32_small _ (by omega) (by omega)
theorem hexAt (m : Nat) (h : m < 16) : (⟨#[48, 49, 50, 51, 52, 53, 54, 55, 56, 57, 97, 98, 99, 100, 101, 102]⟩ : ByteArray)[m]'(h) = hexc m := by
  have : ∀ m : Fin 16, (⟨#[48, 49, 50, 51, 52, 53, 54, 55, 56, 57, 97, 98, 99, 100, 101, 102]⟩ : ByteArray)[m.1]'(m.2) = hexc m.1 := by decide
  exact this ⟨m, h⟩

theorem conv_arr (w : World) (l : List UInt8) (cs : Array Value) (t : TypeId) (c : Nat) (hc : ∀ j (hj : j < l.length), cs[j]? = some (.int .u8 (l[j].toNat : Int))) :
    (convert 22 9 (.slice (some ⟨w.heap.size, 0, none⟩) l.length c)).run Tryd.prog (w.alloc (.cells cs t)) = .ok (.string ⟨l.toArray⟩) (w.alloc (.cells cs t)) := by
  refine run_convert_bytes_back _ _ _ 5 _ _ l Tryd.underlying22 Tryd.underlying5 Tryd.underlying9 ?_
  intro j hj
  have := hc j hj
  rw [Addr.add_lit, World.cell?_alloc_at _ _ _ _ (by rfl)]
  simpa using this

theorem str_eq {a b : ByteArray} (h : a.data.toList = b.data.toList) : a = b := ByteArray.ext (Array.ext' h)
theorem str_of (l : List UInt8) : (⟨l.toArray⟩ : ByteArray).data.toList = l := by simp
theorem str_app (a b : ByteArray) : (a ++ b).data.toList = a.data.toList ++ b.data.toList := by simp [ByteArray.data_append]

theorem strCells_bytes (s : ByteArray) : Lib.strCells s = Lib.byteCells s.data.toList := rfl

/-- the array behind k digits of d. -/
def hexCells (r d k : Nat) : Array Value := ((List.range d).map fun j => numCell r d k j).toArray

set_option maxHeartbeats 1000000 in
theorem refHex_ok (r d : Nat) (hd : d = 2 ∨ d = 4) (hr : r ≤ 1114111) (w : World) :
    Calls Tryd.prog 36 #[.int .i64 r, .int .i64 d] w fun e w' => e = .returned (.string ⟨(numb r d).toArray⟩) ∧ Below w.heap.size w w' := by
  have hcv : ∀ c, (convert 22 9 (.slice (some ⟨w.heap.size, 0, none⟩) d c)).run Tryd.prog (w.alloc (.cells (hexCells r d d) 5)) = .ok (.string ⟨(numb r d).toArray⟩) (w.alloc (.cells (hexCells r d d) 5)) := by
    intro c
    have h := conv_arr w (numb r d) (hexCells r d d) 5 c ?_
    · rw [numb_len] at h; exact h
    · intro j hj
      rw [numb_len] at hj
      rcases hd with rfl | rfl
      · have : j = 0 ∨ j = 1 := by omega
        rcases this with rfl | rfl <;> simp [hexCells, numCell, numb2]
      · have : j = 0 ∨ j = 1 ∨ j = 2 ∨ j = 3 := by omega
        rcases this with rfl | rfl | rfl | rfl <;> simp [hexCells, numCell, numb4, Nat.div_div_eq_div_mul]
  obtain ⟨X, hX⟩ : ∃ X, (⟨(numb r d).toArray⟩ : ByteArray) = X := ⟨_, rfl⟩
  rw [hX]
  rw [hX] at hcv
  clear hX
  rcases hd with rfl | rfl
  · have hmk : ∀ W : World, (Instr.makeSlice 22 (.int .i64 2) (.int .i64 2)).run Tryd.prog W = .ok (.slice (some ⟨W.heap.size, 0, none⟩) 2 2) (W.alloc (.cells (hexCells r 2 0) 5)) := by
      intro W
      have := run_make_row' (P := Tryd.prog) 22 5 _ 1 Tryd.underlying22 u8_info rfl .i64 .i64 2 (by decide) (by decide) W
      rw [show madeCells #[Value.int .u8 0] 2 = hexCells r 2 0 from Array.ext' (by simp [madeCells, hexCells, numCell, List.range_succ])] at this
      exact this
    rw [show ((2 : Nat) : Int) = 2 from rfl]
    go_enter Tryd.func36, Tryd.ntmps36
    go_wp2
    go_loopw [0, 6] (fun v0 v6 wr => ∃ k : Nat, v0 = .int .i64 (r / 16 ^ k : Nat) ∧ v6 = .int .i64 (1 - k) ∧ k ≤ 2 ∧ wr = w.alloc (.cells (hexCells r 2 k) 5)) (fun _ v6 _ => (intOf v6 + 1).toNat)
    case atStart => exact ⟨0, by simp, rfl, by omega, by rfl⟩
    case round =>
      obtain ⟨k, rfl, rfl, hk, rfl⟩ := hrel
      have hcase : k = 0 ∨ k = 1 ∨ k = 2 := by omega
      obtain ⟨q, hq⟩ : ∃ q, r / 16 ^ k = q := ⟨_, rfl⟩
      obtain ⟨m, hm⟩ : ∃ m, q % 16 = m := ⟨_, rfl⟩
      have hml : m < 16 := by rw [← hm]; exact Nat.mod_lt _ (by decide)
      have hql : q ≤ 1114111 := by rw [← hq]; exact Nat.le_trans (Nat.div_le_self _ _) hr
      have hn : r / 16 ^ (k + 1) = q / 16 := by rw [← hq, Nat.pow_succ, Nat.div_div_eq_div_mul]
      have ha : (q : Int).tmod 16 = (m : Int) := by rw [Int.tmod_eq_emod_of_nonneg (by omega), ← hm]; omega
      have ha2 : (q : Int) % 16 = (m : Int) := by rw [← hm]; omega
      rw [hq]
      have HQ := Lib.hid hq
      have HM := Lib.hid hm
      have HN := Lib.hid hn
      clear hq hm hk hn
      rcases hcase with rfl | rfl | rfl
      · simp only [hexCells, List.range_succ_eq_map, List.range_zero, List.map_cons, List.map_nil]
        clear hcv
        go_wp2
        go_roundw
        case rel => exact ⟨1, by rw [HN.out]; simp, by rfl, by omega, by rw [hexAt m hml, ← HM.out, ← HQ.out]; simp [hexCells, numCell, List.range_succ]⟩
        case measure => simp [intOf]
      · simp only [hexCells, List.range_succ_eq_map, List.range_zero, List.map_cons, List.map_nil]
        clear hcv
        go_wp2
        go_roundw
        case rel => exact ⟨2, by rw [HN.out]; simp, by rfl, by omega, by rw [hexAt m hml, ← HM.out, ← HQ.out]; simp [hexCells, numCell, List.range_succ]⟩
        case measure => simp [intOf]
      · go_wp2
        go_ret
        exact ⟨rfl, Below.alloc (Below.refl _ _) (Nat.le_refl _) _⟩
  · have hmk : ∀ W : World, (Instr.makeSlice 22 (.int .i64 4) (.int .i64 4)).run Tryd.prog W = .ok (.slice (some ⟨W.heap.size, 0, none⟩) 4 4) (W.alloc (.cells (hexCells r 4 0) 5)) := by
      intro W
      have := run_make_row' (P := Tryd.prog) 22 5 _ 1 Tryd.underlying22 u8_info rfl .i64 .i64 4 (by decide) (by decide) W
      rw [show madeCells #[Value.int .u8 0] 4 = hexCells r 4 0 from Array.ext' (by simp [madeCells, hexCells, numCell, List.range_succ])] at this
      exact this
    rw [show ((4 : Nat) : Int) = 4 from rfl]
    go_enter Tryd.func36, Tryd.ntmps36
    go_wp2
    go_loopw [0, 6] (fun v0 v6 wr => ∃ k : Nat, v0 = .int .i64 (r / 16 ^ k : Nat) ∧ v6 = .int .i64 (3 - k) ∧ k ≤ 4 ∧ wr = w.alloc (.cells (hexCells r 4 k) 5)) (fun _ v6 _ => (intOf v6 + 1).toNat)
    case atStart => exact ⟨0, by simp, rfl, by omega, by rfl⟩
    case round =>
      obtain ⟨k, rfl, rfl, hk, rfl⟩ := hrel
      have hcase : k = 0 ∨ k = 1 ∨ k = 2 ∨ k = 3 ∨ k = 4 := by omega
      obtain ⟨q, hq⟩ : ∃ q, r / 16 ^ k = q := ⟨_, rfl⟩
      obtain ⟨m, hm⟩ : ∃ m, q % 16 = m := ⟨_, rfl⟩
      have hml : m < 16 := by rw [← hm]; exact Nat.mod_lt _ (by decide)
      have hql : q ≤ 1114111 := by rw [← hq]; exact Nat.le_trans (Nat.div_le_self _ _) hr
      have hn : r / 16 ^ (k + 1) = q / 16 := by rw [← hq, Nat.pow_succ, Nat.div_div_eq_div_mul]
      have ha : (q : Int).tmod 16 = (m : Int) := by rw [Int.tmod_eq_emod_of_nonneg (by omega), ← hm]; omega
      have ha2 : (q : Int) % 16 = (m : Int) := by rw [← hm]; omega
      rw [hq]
      have HQ := Lib.hid hq
      have HM := Lib.hid hm
      have HN := Lib.hid hn
      clear hq hm hk hn
      rcases hcase with rfl | rfl | rfl | rfl | rfl
      · simp only [hexCells, List.range_succ_eq_map, List.range_zero, List.map_cons, List.map_nil]
        clear hcv
        go_wp2
        go_roundw
        case rel => exact ⟨1, by rw [HN.out]; simp, by rfl, by omega, by rw [hexAt m hml, ← HM.out, ← HQ.out]; simp [hexCells, numCell, List.range_succ]⟩
        case measure => simp [intOf]
      · simp only [hexCells, List.range_succ_eq_map, List.range_zero, List.map_cons, List.map_nil]
        clear hcv
        go_wp2
        go_roundw
        case rel => exact ⟨2, by rw [HN.out]; simp, by rfl, by omega, by rw [hexAt m hml, ← HM.out, ← HQ.out]; simp [hexCells, numCell, List.range_succ]⟩
        case measure => simp [intOf]
      · simp only [hexCells, List.range_succ_eq_map, List.range_zero, List.map_cons, List.map_nil]
        clear hcv
        go_wp2
        go_roundw
        case rel => exact ⟨3, by rw [HN.out]; simp, by rfl, by omega, by rw [hexAt m hml, ← HM.out, ← HQ.out]; simp [hexCells, numCell, List.range_succ]⟩
        case measure => simp [intOf]
      · simp only [hexCells, List.range_succ_eq_map, List.range_zero, List.map_cons, List.map_nil]
        clear hcv
        go_wp2
        go_roundw
        case rel => exact ⟨4, by rw [HN.out]; simp, by rfl, by omega, by rw [hexAt m hml, ← HM.out, ← HQ.out]; simp [hexCells, numCell, List.range_succ]⟩
        case measure => simp [intOf]
      · go_wp2
        go_ret
        exact ⟨rfl, Below.alloc (Below.refl _ _) (Nat.le_refl _) _⟩

theorem str_info : (Tryd.prog.info? 9).map (fun i => (i.zero, i.size, i.bytes)) = some (some (.string ⟨#[]⟩), 1, 16) := by kernel_rfl
theorem news_one (w : World) (x : Value) (t : TypeId) : ∀ j u, [x][j]? = some u → (w.alloc (.cells #[x] t)).cell? ((⟨w.heap.size, 0, none⟩ : Addr).add j) = some u := by
  intro j u h
  match j with
  | 0 =>
    simp only [List.getElem?_cons_zero, Option.some.injEq] at h
    subst h
    rw [Addr.add_lit, World.cell?_alloc_at _ _ _ _ rfl]; rfl
  | j + 1 => simp at h
theorem news_two (w : World) (x y : Value) (t : TypeId) : ∀ j u, [x, y][j]? = some u → (w.alloc (.cells #[x, y] t)).cell? ((⟨w.heap.size, 0, none⟩ : Addr).add j) = some u := by
  intro j u h
  match j with
  | 0 =>
    simp only [List.getElem?_cons_zero, Option.some.injEq] at h
    subst h
    rw [Addr.add_lit, World.cell?_alloc_at _ _ _ _ rfl]; rfl
  | 1 =>
    simp only [List.getElem?_cons_succ, List.getElem?_cons_zero, Option.some.injEq] at h
    subst h
    rw [Addr.add_lit, World.cell?_alloc_at _ _ _ _ rfl]; rfl
  | j + 2 => simp at h

set_option maxHeartbeats 8000000 in
theorem refQuote_ok (s : ByteArray) (w : World) (hs : s.size ≤ 1099511627776) :
    Calls Tryd.prog 23 #[.string s] w fun e w' => e = .returned (.string ⟨(quoteL (pieces s.data.toList)).toArray⟩) ∧ Below w.heap.size w w' := by
  obtain ⟨i0, hi0, hz0, hz1, hz2⟩ := info_parts u8_info
  have hpc := fun wx => pieces_ok s wx hs
  have hpl := pieces_len s.data.toList
  have hscs := pieces_sc s.data.toList
  rw [show s.data.toList.length = s.size by simp] at hpl
  obtain ⟨rs, hrs⟩ : ∃ rs, pieces s.data.toList = rs := ⟨_, rfl⟩
  simp only [hrs] at hpc
  rw [hrs] at hpl hscs ⊢
  clear hrs
  obtain ⟨Q, hQ⟩ : ∃ Q, quoteL rs = Q := ⟨_, rfl⟩
  rw [hQ]
  have HQ := Lib.hid hQ
  clear hQ
  go_enter Tryd.func23, Tryd.ntmps23
  go_wp2_with (go_at_call 35; refine (hpc w).mono ?_; rintro e w1 ⟨A, c, rfl, l1, l2, fr, hb1⟩)
  have hrd := fr.rd
  have HF := Lib.hid hrd
  have hsz1 := hb1.size
  clear fr hrd
  go_loopw [4, 5] (fun v iv wr => ∃ (k : Nat) (acc : List UInt8), iv = .int .i64 k ∧ k ≤ rs.length ∧ acc.length ≤ 1 + 6 * k ∧ wr.ownsRow w1.heap.size 5 1 v acc.length (Lib.byteCells acc) ∧ Below w1.heap.size w1 wr ∧ Hid (acc ++ (rs.drop k).flatMap quotedL = 39 :: rs.flatMap quotedL)) (fun _ iv _ => rs.length - (intOf iv).toNat)
  case atStart => exact ⟨0, [39], rfl, Nat.zero_le _, by simp, World.ownsRow_lit w1 #[.int .u8 39] 1 (Nat.le_refl _) (by decide) rfl, (Below.refl _ _).alloc (Nat.le_refl _) _, Lib.hid (by rw [List.drop_zero]; rfl)⟩
  case round =>
    obtain ⟨k, acc, rfl, hk, hal, hown, hbw, hT⟩ := hrel
    have hsz := hbw.size
    obtain ⟨B, cB, rfl, _, _, _⟩ := own_form hown
    by_cases hp : k < rs.length
    · obtain ⟨b, off, t, hA, ht, hct⟩ := HF.out k (by rw [nums_length]; exact hp)
      have htr : t = (rs[k] : Int) := by
        simp only [nums, List.getElem?_map, List.getElem?_eq_getElem hp, Option.map_some, Option.some.injEq] at ht
        exact ht.symm
      subst htr
      have hbl : b < w1.heap.size := World.block_lt_of_cell? w1 _ hct
      have hct2 : wr.cell? ⟨b, off + k, none⟩ = some (.int .i32 (rs[k] : Int)) := cell_later hbw hct
      have hbr : b < wr.heap.size := by omega
      have hsc := hscs rs[k] (List.getElem_mem hp)
      rw [List.drop_eq_getElem_cons hp, List.flatMap_cons, ← List.append_assoc] at hT
      clear ht
      generalize rs[k] = r at *
      subst hA
      have hq6 := quotedL_len r
      obtain ⟨X, hX⟩ : ∃ X, (⟨(quotedL r).toArray⟩ : ByteArray) = X := ⟨_, rfl⟩
      have hXl : X.data.toList = quotedL r := by rw [← hX, str_of]
      clear hX
      have hXs : X.size = (quotedL r).length := by rw [← hXl]; rfl
      have HA := Lib.hid (show acc.length + X.size ≤ 140737488355328 by rw [hXs]; omega)
      have HM := Lib.hid (show acc.length + X.size ≤ maxLen by unfold maxLen; rw [hXs]; omega)
      have REL : ∀ (v3 : Value) (w3 : World), w3.ownsRow w1.heap.size 5 1 v3 (acc.length + X.size) (Lib.byteCells acc ++ Lib.strCells X) → Below w1.heap.size w1 w3 → ∃ (k' : Nat) (acc' : List UInt8), Value.int .i64 ((k : Int) + 1) = .int .i64 k' ∧ k' ≤ rs.length ∧ acc'.length ≤ 1 + 6 * k' ∧ w3.ownsRow w1.heap.size 5 1 v3 acc'.length (Lib.byteCells acc') ∧ Below w1.heap.size w1 w3 ∧ Hid (acc' ++ (rs.drop k').flatMap quotedL = 39 :: rs.flatMap quotedL) := by
        intro v3 w3 h1 h2
        refine ⟨k + 1, acc ++ quotedL r, by go_num, by omega, by rw [List.length_append]; omega, ?_, h2, hT⟩
        rw [List.length_append, ← hXs, Lib.byteCells_append, ← hXl]
        exact h1
      have hr0 : r ≤ 1114111 := by unfold Sc at hsc; omega
      have hh2 := fun wx => refHex_ok r 2 (Or.inl rfl) hr0 wx
      have hh4 := fun wx => refHex_ok r 4 (Or.inr rfl) hr0 wx
      have hal2 : acc.length + 6 ≤ 140737488355328 := by omega
      have HAL := Lib.hid hal2
      clear hXs hq6 hT hal hal2 hsc hpl hs
      unfold quotedL at hXl
      by_cases h39 : r = 39
      · subst h39
        have hX2 : Lib.strCells X = [.int .u8 92, .int .u8 39] := by rw [strCells_bytes, hXl]; rfl
        have hXs2 : X.size = 2 := by have := Lib.strCells_length X; rw [hX2] at this; exact this.symm
        rw [hX2, hXs2] at REL
        have hbw2 : Below w1.heap.size w1 (wr.alloc (.cells #[.int .u8 92, .int .u8 39] 5)) := hbw.alloc hsz _
        have hown2 := hown.alloc (.cells #[.int .u8 92, .int .u8 39] 5)
        clear hXl hX2 hXs2 hh2 hh4 HA HM
        go_wp2_with (at_builtin; refine wpList_append_own _ rfl _ _ 22 rfl w1.heap.size 5 i0 _ 1 1 Tryd.underlying22 hi0 hz0 hz1 hz2 rfl (by decide) _ acc.length _ rfl hown2 _ 2 2 [.int .u8 92, .int .u8 39] rfl rfl (news_two _ _ _ _) (by simp [Value.oneCell']) (by unfold maxLen; have := HAL.out; omega) (by have := HAL.out; omega) hbw2.size ?_; intro v3 w3 hown3 hg3 _)
        have hg4 : (wr.alloc (.cells #[.int .u8 92, .int .u8 39] 5)).grownBy w3 (Value.slice B acc.length cB).ownBlock := hg3
        go_roundw
        case rel => exact REL v3 w3 hown3 (hbw2.grown hg4 hbw2.size (own_base hown2))
        case measure => simp [intOf]; omega
      by_cases h92 : r = 92
      · subst h92
        have hX2 : Lib.strCells X = [.int .u8 92, .int .u8 92] := by rw [strCells_bytes, hXl]; rfl
        have hXs2 : X.size = 2 := by have := Lib.strCells_length X; rw [hX2] at this; exact this.symm
        rw [hX2, hXs2] at REL
        have hbw2 : Below w1.heap.size w1 (wr.alloc (.cells #[.int .u8 92, .int .u8 92] 5)) := hbw.alloc hsz _
        have hown2 := hown.alloc (.cells #[.int .u8 92, .int .u8 92] 5)
        clear hXl hX2 hXs2 hh2 hh4 HA HM
        go_wp2_with (at_builtin; refine wpList_append_own _ rfl _ _ 22 rfl w1.heap.size 5 i0 _ 1 1 Tryd.underlying22 hi0 hz0 hz1 hz2 rfl (by decide) _ acc.length _ rfl hown2 _ 2 2 [.int .u8 92, .int .u8 92] rfl rfl (news_two _ _ _ _) (by simp [Value.oneCell']) (by unfold maxLen; have := HAL.out; omega) (by have := HAL.out; omega) hbw2.size ?_; intro v3 w3 hown3 hg3 _)
        have hg4 : (wr.alloc (.cells #[.int .u8 92, .int .u8 92] 5)).grownBy w3 (Value.slice B acc.length cB).ownBlock := hg3
        go_roundw
        case rel => exact REL v3 w3 hown3 (hbw2.grown hg4 hbw2.size (own_base hown2))
        case measure => simp [intOf]; omega
      rw [if_neg (by omega)] at hXl
      by_cases h10 : r = 10
      · subst h10
        have hX2 : X = ⟨#[92, 110]⟩ := str_eq (by rw [hXl]; rfl)
        clear hXl hh2 hh4
        subst hX2
        go_wp2_with (at_builtin; refine Lib.wpList_append_own_string _ rfl _ _ 22 9 rfl w1.heap.size 5 i0 Tryd.underlying22 Tryd.underlying9 hi0 hz0 hz1 hz2 _ acc.length _ rfl hown (⟨#[92, 110]⟩ : ByteArray) rfl HM.out HA.out hsz ?_; intro v3 w3 hown3 hg3 _)
        go_roundw
        case rel => exact REL v3 w3 hown3 ((hbw).grown hg3 (hbw).size (own_base hown))
        case measure => simp [intOf]; omega
      rw [if_neg h10] at hXl
      by_cases h9 : r = 9
      · subst h9
        have hX2 : X = ⟨#[92, 116]⟩ := str_eq (by rw [hXl]; rfl)
        clear hXl hh2 hh4
        subst hX2
        go_wp2_with (at_builtin; refine Lib.wpList_append_own_string _ rfl _ _ 22 9 rfl w1.heap.size 5 i0 Tryd.underlying22 Tryd.underlying9 hi0 hz0 hz1 hz2 _ acc.length _ rfl hown (⟨#[92, 116]⟩ : ByteArray) rfl HM.out HA.out hsz ?_; intro v3 w3 hown3 hg3 _)
        go_roundw
        case rel => exact REL v3 w3 hown3 ((hbw).grown hg3 (hbw).size (own_base hown))
        case measure => simp [intOf]; omega
      rw [if_neg h9] at hXl
      have b39 : ((r : Int) == 39) = false := beqI (b := 39) h39
      have b92 : ((r : Int) == 92) = false := beqI (b := 92) h92
      have b10 : ((r : Int) == 10) = false := beqI (b := 10) h10
      have b9 : ((r : Int) == 9) = false := beqI (b := 9) h9
      clear h39 h92 h10 h9
      have hr1 : (r : Int) ≤ 1114111 := by omega
      by_cases hx : r < 32 ∨ r = 127
      · rw [if_pos hx] at hXl
        obtain ⟨Y, hY⟩ : ∃ Y, (⟨(numb r 2).toArray⟩ : ByteArray) = Y := ⟨_, rfl⟩
        have hX2 : (⟨#[92, 120]⟩ : ByteArray) ++ Y = X := str_eq (by rw [hXl, str_app, ← hY, str_of]; rfl)
        have hYs : Y.size = 2 := by rw [← hY]; exact numb_len 2 r
        rw [hY] at hh2
        subst hX2
        clear hXl hh4 hY hr0
        have hx2 : (r : Int) < 32 ∨ r = 127 := by omega
        clear hx
        rcases hx2 with hx2 | rfl
        all_goals
          go_wp2_with (first | (go_at_call 36; refine (hh2 _).mono ?_; rintro e W3 ⟨rfl, hb3⟩; have hown2 := ownsRow_later hown hb3; have hbw2 := hbw.trans (hb3.mono hsz)) | (at_builtin; refine Lib.wpList_append_own_string _ rfl _ _ 22 9 rfl w1.heap.size 5 i0 Tryd.underlying22 Tryd.underlying9 hi0 hz0 hz1 hz2 _ acc.length _ rfl hown2 (⟨#[92, 120]⟩ ++ Y) rfl HM.out HA.out hbw2.size ?_; intro v3 w3 hown3 hg3 _))
          go_roundw
          case rel => exact REL v3 w3 hown3 ((hbw2).grown hg3 (hbw2).size (own_base hown2))
          case measure => simp [intOf]; omega
      rw [if_neg hx] at hXl
      have x32 : 32 ≤ (r : Int) := by omega
      have b127 : ((r : Int) == 127) = false := beqI (b := 127) (by omega)
      by_cases hw : Wide r
      · rw [if_pos hw] at hXl
        obtain ⟨Y, hY⟩ : ∃ Y, (⟨(numb r 4).toArray⟩ : ByteArray) = Y := ⟨_, rfl⟩
        have hX2 : (⟨#[92, 117]⟩ : ByteArray) ++ Y = X := str_eq (by rw [hXl, str_app, ← hY, str_of]; rfl)
        have hYs : Y.size = 4 := by rw [← hY]; exact numb_len 4 r
        rw [hY] at hh4
        subst hX2
        have hw2 : (128 ≤ (r : Int) ∧ (r : Int) ≤ 159) ∨ r = 8232 ∨ r = 8233 ∨ r = 65279 := by unfold Wide at hw; omega
        clear hXl hh2 hY hx hr0 hw
        rcases hw2 with ⟨y1, y2⟩ | rfl | rfl | rfl
        all_goals
          go_wp2_with (first | (go_at_call 36; refine (hh4 _).mono ?_; rintro e W3 ⟨rfl, hb3⟩; have hown2 := ownsRow_later hown hb3; have hbw2 := hbw.trans (hb3.mono hsz)) | (at_builtin; refine Lib.wpList_append_own_string _ rfl _ _ 22 9 rfl w1.heap.size 5 i0 Tryd.underlying22 Tryd.underlying9 hi0 hz0 hz1 hz2 _ acc.length _ rfl hown2 (⟨#[92, 117]⟩ ++ Y) rfl HM.out HA.out hbw2.size ?_; intro v3 w3 hown3 hg3 _))
          go_roundw
          case rel => exact REL v3 w3 hown3 ((hbw2).grown hg3 (hbw2).size (own_base hown2))
          case measure => simp [intOf]; omega
      · rw [if_neg hw] at hXl
        have hX2 : Utf8.encode (r : Int) = X := str_eq (by rw [hXl]; rfl)
        have hw2 : ((r : Int) < 128 ∨ (128 ≤ (r : Int) ∧ 159 < (r : Int))) ∧ r ≠ 8232 ∧ r ≠ 8233 ∧ r ≠ 65279 := by unfold Wide at hw; omega
        obtain ⟨hw2, z1, z2, z3⟩ := hw2
        have b1 : ((r : Int) == 8232) = false := beqI (b := 8232) z1
        have b2 : ((r : Int) == 8233) = false := beqI (b := 8233) z2
        have b3 : ((r : Int) == 65279) = false := beqI (b := 65279) z3
        clear hXl hh2 hh4 hx hr0 hw z1 z2 z3
        rcases hw2 with y1 | ⟨y1, y2⟩
        all_goals
          go_wp2_with (at_builtin; refine Lib.wpList_append_own_string _ rfl _ _ 22 9 rfl w1.heap.size 5 i0 Tryd.underlying22 Tryd.underlying9 hi0 hz0 hz1 hz2 _ acc.length _ rfl hown X rfl HM.out HA.out hsz ?_; intro v3 w3 hown3 hg3 _)
          go_roundw
          case rel => exact REL v3 w3 hown3 ((hbw).grown hg3 (hbw).size (own_base hown))
          case measure => simp [intOf]; omega
    · have hk2 : k = rs.length := by omega
      subst hk2
      rw [List.drop_length, List.flatMap_nil, List.append_nil] at hT
      have HE : acc ++ [39] = Q := by rw [← HQ.out, hT.out, quoteL]; rfl
      have hbw2 : Below w1.heap.size w1 (wr.alloc (.cells #[.int .u8 39] 5)) := hbw.alloc hsz _
      have hown2 := hown.alloc (.cells #[.int .u8 39] 5)
      have hal2 : acc.length + 6 ≤ 140737488355328 := by omega
      have HAL := Lib.hid hal2
      have HE2 := Lib.hid HE
      clear hal hal2 hpl hs HE hT
      go_wp2_with (at_builtin; refine wpList_append_own _ rfl _ _ 22 rfl w1.heap.size 5 i0 _ 1 1 Tryd.underlying22 hi0 hz0 hz1 hz2 rfl (by decide) _ acc.length _ rfl hown2 _ 1 1 [.int .u8 39] rfl rfl (news_one _ _ _) (by simp [Value.oneCell']) (by unfold maxLen; have := HAL.out; omega) (by have := HAL.out; omega) hbw2.size ?_; intro v3 w3 hown3 hg3 _; obtain ⟨A3, c3, rfl, _, _, _⟩ := own_form hown3; have hcv := conv_bytes w3 w1.heap.size A3 (acc.length + 1) c3 Q (by rw [← HE2.out, List.length_append]; rfl) (by rw [← HE2.out, Lib.byteCells_append]; exact hown3))
      have hg4 : (wr.alloc (.cells #[.int .u8 39] 5)).grownBy w3 (Value.slice B acc.length cB).ownBlock := hg3
      go_ret
      exact ⟨rfl, hb1.trans ((hbw2.grown hg4 hbw2.size (own_base hown2)).mono hsz1)⟩
end

/-- a piece: its text in the source, its token's kind and text. -/
structure PieceOk (src : List UInt8) (kd : Int) (txt : List UInt8) : Prop where
  l1 : 1 ≤ src.length
  l2 : src.length ≤ 20
  hd : ∀ c rest, src = c :: rest → c ≠ 10 ∧ c ≠ 32 ∧ c ≠ 35
  tok : ∀ c rest, c = 32 ∨ c = 10 → tokL 0 (src ++ c :: rest) = .tok kd txt src.length 0

theorem wd_app (l : List UInt8) (c : UInt8) (rest : List UInt8) (hl : l.all isWd = true) (hc : isWd c = false) : wd (l ++ c :: rest) = l := by
  induction l with
  | nil => rw [List.nil_append, wd, List.takeWhile_cons, if_neg (by rw [hc]; decide)]
  | cons a t ih =>
    rw [List.all_cons, Bool.and_eq_true] at hl
    rw [wd] at ih
    rw [List.cons_append, wd, List.takeWhile_cons, if_pos hl.1, ih hl.2]
theorem end_wd {c : UInt8} (hc : c = 32 ∨ c = 10) : isWd c = false := by rcases hc with rfl | rfl <;> decide
theorem hd_of {p : UInt8 → Prop} {a : UInt8} {t : List UInt8} (h : p a) : ∀ c rest, a :: t = c :: rest → p c := by
  intro c rest e
  injection e with e _
  exact e ▸ h
theorem let_ne {a : UInt8} (h : isLet a = true ∨ isDig a = true) : a ≠ 10 ∧ a ≠ 32 ∧ a ≠ 35 := by
  refine ⟨?_, ?_, ?_⟩ <;> (rintro rfl; rcases h with h | h <;> exact absurd h (by decide))
theorem name_piece (a : UInt8) (t : List UInt8) (ha : isLet a = true) (ht : (a :: t).all isWd = true) (hl : (a :: t).length ≤ 20) (k : Int) (hk : (if wordB (a :: t) then (2 : Int) else 1) = k) : PieceOk (a :: t) k (a :: t) where
  l1 := by simp
  l2 := hl
  hd := hd_of (let_ne (.inl ha))
  tok c rest hc := by
    have hw := wd_app (a :: t) c rest ht (end_wd hc)
    rw [tokL_let (l := (a :: t) ++ c :: rest) (t := t ++ c :: rest) rfl ha, hw, hk]
theorem num_piece (a : UInt8) (t : List UInt8) (ha : isDig a = true) (ha2 : isLet a = false) (ht : (a :: t).all isWd = true) (hl : (a :: t).length ≤ 20) (hn : numOk (a :: t) = true) : PieceOk (a :: t) 3 (a :: t) where
  l1 := by simp
  l2 := hl
  hd := hd_of (let_ne (.inr ha))
  tok c rest hc := by
    have hw := wd_app (a :: t) c rest ht (end_wd hc)
    rw [tokL_dig (l := (a :: t) ++ c :: rest) (t := t ++ c :: rest) rfl ha2 ha, hw, if_pos hn]
theorem quote_piece (rs : List Nat) (txt : List UInt8) (hs : ∀ r ∈ rs, Sc r) (he : encs rs = txt) (hl : (quoteL rs).length ≤ 20) : PieceOk (quoteL rs) 4 txt where
  l1 := by simp [quoteL]
  l2 := hl
  hd := by unfold quoteL; exact hd_of (by decide)
  tok c rest hc := by
    rw [tokL_quo (l := quoteL rs ++ c :: rest) (c := 39) (t := (rs.flatMap quotedL ++ [39]) ++ c :: rest) rfl (by decide) (by decide) (.inl rfl), quoT, unquote_quote_app rs _ hs, he]
def laySigns : List (List UInt8) := [[44], [58], [46], [61], [61, 61], [33, 61], [60], [60, 61], [62], [62, 61], [43], [43, 61], [45], [45, 61], [42], [42, 61], [42, 42], [47, 47], [47, 47, 61], [37], [37, 61], [38], [38, 61], [124], [124, 61], [94], [94, 61]]
theorem sign_piece : ∀ x ∈ laySigns, PieceOk x 5 x := by
  intro x hx
  simp only [laySigns, List.mem_cons, List.not_mem_nil, or_false] at hx
  rcases hx with rfl | rfl | rfl | rfl | rfl | rfl | rfl | rfl | rfl | rfl | rfl | rfl | rfl | rfl | rfl | rfl | rfl | rfl | rfl | rfl | rfl | rfl | rfl | rfl | rfl | rfl | rfl
  all_goals exact ⟨by decide, by decide, hd_of (by decide), fun c rest hc => by rcases hc with rfl | rfl <;> cases rest <;> rfl⟩
def layNames : List (List UInt8) := [[97], [120, 49], [95], [90, 101, 100], [105, 102, 102], [110, 111, 116, 116]]
theorem names_piece : ∀ x ∈ layNames, PieceOk x 1 x := by
  intro x hx
  simp only [layNames, List.mem_cons, List.not_mem_nil, or_false] at hx
  rcases hx with rfl | rfl | rfl | rfl | rfl | rfl
  all_goals exact name_piece _ _ (by decide) (by decide) (by decide) _ (by decide)
def layWords : List (List UInt8) := [[105, 102], [110, 111, 116], [78, 111, 110, 101], [99, 108, 97, 115, 115], [105, 110], [108, 97, 109, 98, 100, 97], [84, 114, 117, 101]]
theorem words_piece : ∀ x ∈ layWords, ∀ k, (if wordB x then (2 : Int) else 1) = k → PieceOk x k x := by
  intro x hx
  simp only [layWords, List.mem_cons, List.not_mem_nil, or_false] at hx
  rcases hx with rfl | rfl | rfl | rfl | rfl | rfl | rfl
  all_goals exact fun k hk => name_piece _ _ (by decide) (by decide) (by decide) _ hk
def layNums : List (List UInt8) := [[48], [55], [49, 48], [57, 56, 55, 54, 53, 52, 51, 50, 49, 48, 57, 56, 55, 54, 53, 52, 51, 50, 49, 48]]
theorem nums_piece : ∀ x ∈ layNums, PieceOk x 3 x := by
  intro x hx
  simp only [layNums, List.mem_cons, List.not_mem_nil, or_false] at hx
  rcases hx with rfl | rfl | rfl | rfl
  all_goals exact num_piece _ _ (by decide) (by decide) (by decide) (by decide) (by decide)
def layStrs : List (List UInt8) := [[], [97], [105, 116, 39, 115], [97, 195, 177, 10], [92], [35]]
theorem strs_piece : ∀ x ∈ layStrs, PieceOk (quoteL (pieces x)) 4 x := by
  intro x hx
  simp only [layStrs, List.mem_cons, List.not_mem_nil, or_false] at hx
  rcases hx with rfl | rfl | rfl | rfl | rfl | rfl
  all_goals exact quote_piece _ _ (pieces_sc _) (by decide) (by decide)

/-- a token's kind and text. -/
def tkey (t : Tk) : Int × List UInt8 := (t.kind, t.text)
/-- in a line, behind a blank. -/
def Spc (u : ByteArray) (T : List Tk) : Prop := ∀ s, Begins s u → ∃ b, lexR s.data.toList lexS = lexR s.data.toList ⟨u.size, b, false, 0, [0], T⟩
/-- in a line, behind a piece. -/
def Mid (u : ByteArray) (T : List Tk) : Prop := ∀ s, Begins s u → ∀ (h : u.size < s.size), s[u.size] = 32 ∨ s[u.size] = 10 → ∃ b, lexR s.data.toList lexS = lexR s.data.toList ⟨u.size, b, false, 0, [0], T⟩
/-- ahead of a line's end. -/
def Fin (u : ByteArray) (T : List Tk) : Prop := ∀ s, Begins s u → ∀ (h : u.size < s.size), s[u.size] = 10 → ∃ b, lexR s.data.toList lexS = lexR s.data.toList ⟨u.size, b, false, 0, [0], T⟩
theorem Mid.fin {u : ByteArray} {T : List Tk} (h : Mid u T) : Fin u T := fun s hs hl hc => h s hs hl (.inr hc)
theorem app_size (a b : ByteArray) : (a ++ b).size = a.size + b.size := by simp
/-- what stands behind u. -/
theorem Begins.next {s u v : ByteArray} {c : UInt8} {r : List UInt8} (h : Begins s (u ++ v)) (hv : v.data.toList = c :: r) : ∃ hl : u.size < s.size, s[u.size] = c := by
  obtain ⟨q, hd⟩ := h.drop
  rw [hv] at hd
  obtain ⟨h1, h2⟩ := at_of_drop (k := 0) (c := c) hd rfl
  exact ⟨h1, h2⟩
/-- a piece's first byte, and its token. -/
theorem piece_tok {s u v : ByteArray} {k : Int} {x : List UInt8} (hp : PieceOk v.data.toList k x) (h : Begins s (u ++ v)) (hl : (u ++ v).size < s.size) (hc : s[(u ++ v).size] = 32 ∨ s[(u ++ v).size] = 10) :
    ∃ hq : u.size < s.size, s[u.size] ≠ 10 ∧ s[u.size] ≠ 32 ∧ s[u.size] ≠ 35 ∧ tokL 0 (s.data.toList.drop u.size) = .tok k x v.size 0 := by
  obtain ⟨q, hd⟩ := h.drop
  have hvl : v.data.toList.length = v.size := by simp
  cases hv : v.data.toList with
  | nil => have := hp.l1; rw [hv] at this; simp at this
  | cons a t =>
    obtain ⟨hq, ha⟩ := Begins.next h hv
    obtain ⟨n1, n2, n3⟩ := hp.hd a t hv
    refine ⟨hq, by rw [ha]; exact n1, by rw [ha]; exact n2, by rw [ha]; exact n3, ?_⟩
    have hd2 := drop_cons s (u ++ v).size hl
    have e1 : s.data.toList.drop (u ++ v).size = q := by
      rw [app_size, ← List.drop_drop, hd, ← hvl, List.drop_left]
    rw [e1] at hd2
    rw [hd, hd2, hp.tok _ _ hc, hvl]
theorem Spc.piece {u v : ByteArray} {T : List Tk} {k : Int} {x : List UInt8} (h : Spc u T) (hp : PieceOk v.data.toList k x) : Mid (u ++ v) (T ++ [⟨k, x, u.size⟩]) := fun s hs hl hc => by
  obtain ⟨b, e⟩ := h s hs.app
  obtain ⟨hq, n1, n2, n3, ht⟩ := piece_tok hp hs hl hc
  refine ⟨b, ?_⟩
  rw [e, tok_lex hq n1 n2 n3 ht, app_size]
theorem Come.piece {u v : ByteArray} {T : List Tk} {k : Int} {x : List UInt8} (h : Come u [0] T) (hp : PieceOk v.data.toList k x) : Mid (u ++ v) (T ++ [⟨k, x, u.size⟩]) := fun s hs hl hc => by
  have e := h s hs.app
  obtain ⟨hq, n1, n2, n3, ht⟩ := piece_tok hp hs hl hc
  refine ⟨0, ?_⟩
  have hb : beginL 0 u.size [0] T = .inl ([0], T) := by simp [beginL, popL]
  rw [e, head_lex hq n1 n2 n3, hb]
  dsimp only
  rw [tok_lex hq n1 n2 n3 ht, app_size]
theorem step_sp {s : ByteArray} {p b o : Nat} {h : Bool} {st : List Nat} {toks : List Tk} (hp : p < s.size) (hc : s[p] = 32) :
    lexR s.data.toList ⟨p, b, h, o, st, toks⟩ = lexR s.data.toList ⟨p + 1, b + 1, h, o, st, toks⟩ := by
  refine lexR_step ?_
  unfold stepL
  dsimp only
  rw [drop_cons s p hp, hc]
  rfl
theorem step_rm {s : ByteArray} {p b o : Nat} {h : Bool} {st : List Nat} {toks : List Tk} (hp : p < s.size) (hc : s[p] = 35) :
    lexR s.data.toList ⟨p, b, h, o, st, toks⟩ = lexR s.data.toList ⟨p + remL (s.data.toList.drop p), b, h, o, st, toks⟩ := by
  refine lexR_step ?_
  unfold stepL
  dsimp only
  rw [drop_cons s p hp, hc]
  rfl
theorem Spc.sp {u v : ByteArray} {T : List Tk} (h : Spc u T) (hv : v.data.toList = [32]) : Spc (u ++ v) T := fun s hs => by
  obtain ⟨b, e⟩ := h s hs.app
  obtain ⟨hl, hc⟩ := Begins.next hs hv
  have hvs : v.size = 1 := by have : v.data.toList.length = v.size := by simp
                              rw [← this, hv]; rfl
  exact ⟨b + 1, by rw [e, step_sp hl hc, app_size, hvs]⟩
theorem Mid.sp {u v : ByteArray} {T : List Tk} (h : Mid u T) (hv : v.data.toList = [32]) : Spc (u ++ v) T := fun s hs => by
  obtain ⟨hl, hc⟩ := Begins.next hs hv
  obtain ⟨b, e⟩ := h s hs.app hl (.inl hc)
  have hvs : v.size = 1 := by have : v.data.toList.length = v.size := by simp
                              rw [← this, hv]; rfl
  exact ⟨b + 1, by rw [e, step_sp hl hc, app_size, hvs]⟩
theorem Fin.nl {u v : ByteArray} {T : List Tk} (h : Fin u T) (hv : v.data.toList = [10]) : Come (u ++ v) [0] (T ++ [⟨6, [], u.size⟩]) := fun s hs => by
  obtain ⟨hl, hc⟩ := Begins.next hs hv
  obtain ⟨b, e⟩ := h s hs.app hl hc
  have hvs : v.size = 1 := by have : v.data.toList.length = v.size := by simp
                              rw [← this, hv]; rfl
  rw [e, step_nl hl hc, app_size, hvs]
  rfl
/-- the remark behind a line. -/
def remB : List UInt8 := [32, 35, 32, 39, 120, 255, 9, 105, 102]
theorem remL_app (l : List UInt8) (c : UInt8) (rest : List UInt8) (hl : l.all (fun c => c != 10) = true) (hc : c = 10) : remL (l ++ c :: rest) = l.length := by
  induction l with
  | nil => rw [List.nil_append, remL, List.takeWhile_cons, if_neg (by rw [hc]; decide)]
  | cons a t ih =>
    rw [List.all_cons, Bool.and_eq_true] at hl
    rw [remL] at ih
    rw [List.cons_append, remL, List.takeWhile_cons, if_pos hl.1, List.length_cons, ih hl.2, List.length_cons]
theorem Mid.rem {u v : ByteArray} {T : List Tk} (h : Mid u T) (hv : v.data.toList = remB) : Fin (u ++ v) T := fun s hs hl hc => by
  have hvs : v.size = 9 := by have : v.data.toList.length = v.size := by simp
                              rw [← this, hv]; rfl
  have hsp : Spc (u ++ ⟨#[32]⟩) T := h.sp rfl
  have ev : v = ⟨#[32]⟩ ++ ⟨#[35, 32, 39, 120, 255, 9, 105, 102]⟩ := str_eq (by rw [hv]; rfl)
  have es : u ++ v = (u ++ ⟨#[32]⟩) ++ ⟨#[35, 32, 39, 120, 255, 9, 105, 102]⟩ := str_eq (by rw [ev]; simp only [str_app, List.append_assoc])
  have hz : (u ++ ⟨#[32]⟩).size = u.size + 1 := by rw [app_size]; rfl
  rw [es] at hs
  obtain ⟨b, e⟩ := hsp s hs.app
  obtain ⟨hl2, hc2⟩ := Begins.next (c := 35) (r := [32, 39, 120, 255, 9, 105, 102]) hs rfl
  obtain ⟨q, hd⟩ := hs.drop
  have hd2 := drop_cons s (u ++ v).size hl
  have e1 : s.data.toList.drop (u ++ v).size = q := by
    rw [show (u ++ v).size = (u ++ ⟨#[32]⟩).size + 8 by rw [hz, app_size, hvs], ← List.drop_drop, hd]
    rfl
  have hrem : remL (s.data.toList.drop (u ++ ⟨#[32]⟩).size) = 8 := by
    rw [hd, ← e1, hd2, hc]
    exact remL_app [35, 32, 39, 120, 255, 9, 105, 102] 10 _ (by decide) rfl
  refine ⟨b, ?_⟩
  rw [e, step_rm hl2 hc2, hrem, hz, app_size, hvs]
/-- the lines of nothing behind a line. -/
def gapB : List UInt8 := [32, 32, 32, 35, 32, 40, 10, 10, 32, 32, 10]
theorem Come.gap {u v : ByteArray} {T : List Tk} (h : Come u [0] T) (hv : v.data.toList = gapB) : Come (u ++ v) [0] T := fun s hs => by
  have hvs : v.size = 11 := by have : v.data.toList.length = v.size := by simp
                               rw [← this, hv]; rfl
  have e := h s hs.app
  obtain ⟨q, hd⟩ := hs.drop
  rw [hv] at hd
  have at_ : ∀ (k : Nat) (c : UInt8), gapB[k]? = some c → ∃ hlt : u.size + k < s.size, s[u.size + k] = c := fun k c hk => at_of_drop hd (by
    have hk2 : k < gapB.length := (List.getElem?_eq_some_iff.1 hk).1
    rw [List.getElem?_append_left hk2]; exact hk)
  obtain ⟨l0, c0⟩ := at_ 0 32 rfl
  obtain ⟨l1, c1⟩ := at_ 1 32 rfl
  obtain ⟨l2, c2⟩ := at_ 2 32 rfl
  obtain ⟨l3, c3⟩ := at_ 3 35 rfl
  obtain ⟨l6, c6⟩ := at_ 6 10 rfl
  obtain ⟨l7, c7⟩ := at_ 7 10 rfl
  obtain ⟨l8, c8⟩ := at_ 8 32 rfl
  obtain ⟨l9, c9⟩ := at_ 9 32 rfl
  obtain ⟨l10, c10⟩ := at_ 10 10 rfl
  have hrem : remL (s.data.toList.drop (u.size + 3)) = 3 := by
    rw [← List.drop_drop, hd]
    exact remL_app [35, 32, 40] 10 _ (by decide) rfl
  rw [e, app_size, hvs]
  refine (step_sp l0 c0).trans ?_
  refine (step_sp l1 c1).trans ?_
  refine (step_sp l2 c2).trans ?_
  refine (step_rm l3 c3).trans ?_
  rw [hrem]
  refine (step_nl l6 c6).trans ?_
  refine (step_nl l7 c7).trans ?_
  refine (step_sp l8 c8).trans ?_
  refine (step_sp l9 c9).trans ?_
  refine (step_nl l10 c10).trans ?_
  rfl
/-- the end. -/
theorem Come.tokens {u : ByteArray} {T : List Tk} (h : Come u [0] T) (ho : offB T.getLast? = false) : lexR u.data.toList lexS = .ok (T ++ [⟨9, [], u.size⟩]) := by
  rw [h.done, endL_eq, ho]
  simp

/-- append(b, s...), and where the answer lies. -/
theorem run_app_str (w : World) (base : Nat) (t u ty e : TypeId) (i : TypeInfo) (ht : Tryd.prog.underlying t = some (.slice e)) (hu : Tryd.prog.underlying u = some .string) (hi : Tryd.prog.info? e = some i) (hz : i.zero = some (.int .u8 0))
    (hsize : i.size = 1) (hby : i.bytes = 1) (v : Value) (n : Nat) (xs : List Value) (hown : w.ownsRow base e 1 v n xs) (s : ByteArray)
    (h63 : n + s.size ≤ maxLen) (hbytes : n + s.size ≤ 140737488355328) (hbase : base ≤ w.heap.size) :
    ∃ v' w', (Builtin.append_ #[t, u] ty #[v, .string s]).run Tryd.prog w = .ok v' w' ∧ w'.ownsRow base e 1 v' (n + s.size) (xs ++ Lib.strCells s) ∧ w.grownBy w' v.ownBlock ∧
      (v'.ownBlock = v.ownBlock ∨ v'.ownBlock = some w.heap.size) := by
  obtain ⟨v', w', hr, h2, h3, h4⟩ := Lib.run_append_own_string (P := Tryd.prog) w base t u ty e i ht hu hi hz hsize hby v n xs hown s h63 hbytes hbase
  have hsmall : n + s.size ≤ 9223372036854775807 := by simp only [maxLen] at h63; omega
  have hxl : xs.length = n := by simpa using hown.1
  refine ⟨v', w', hr, h2, h3, ?_⟩
  rcases hown.2 with ⟨rfl, rfl⟩ | ⟨g, cap, cur, rfl, hbg, hg, hnc, hcm, hcs, htake⟩
  · by_cases hm : s.size = 0
    · exact .inl (by rw [h4.2 ⟨rfl, hm⟩])
    · have h := run_append_nil_string (P := Tryd.prog) w t u ty e i (.int .u8 0) ht hu hi hz s (by omega) (by omega) (by rw [hby]; omega)
      rw [hr] at h
      injection h with h _
      exact .inr (by rw [h]; rfl)
  · by_cases hroom : n + s.size ≤ cap
    · have hcs' : cur.size = cap := by simpa using hcs
      have h := Lib.run_append_room_string (P := Tryd.prog) w t u ty e i ht hu hi hsize g n cap cur hg s hroom (by omega)
      rw [hr] at h
      injection h with h _
      exact .inl (by rw [h]; rfl)
    · have holds : ∀ j u, xs[j]? = some u → w.cell? ((⟨g, 0, none⟩ : Addr).add j) = some u := hown.cells (g := g) rfl
      have h := Lib.run_append_grow_string (P := Tryd.prog) w t u ty e i (.int .u8 0) ht hu hi hz ⟨g, 0, none⟩ n cap xs (by rw [hsize]; simpa using hxl) holds s (by omega) (by omega) (by rw [hby]; exact growslice_fits (by omega) (by omega))
      rw [hr] at h
      injection h with h _
      exact .inr (by rw [h]; rfl)
theorem wpList_app_str (w : World) {ops : Array Oper} {rest : List Oper} {o : Oper} {a : Act} {Q : Exit → Act → World → Prop} (hgd : o.guard = none) (sl x : Operand) (t u : TypeId)
    (ho : o.op = .call { callee := .builtin .append, args := #[sl, x], argTypes := #[t, u] })
    (base : Nat) (e : TypeId) (i : TypeInfo) (ht : Tryd.prog.underlying t = some (.slice e)) (hu : Tryd.prog.underlying u = some .string) (hi : Tryd.prog.info? e = some i) (hz : i.zero = some (.int .u8 0))
    (hsize : i.size = 1) (hby : i.bytes = 1)
    (v : Value) (n : Nat) (xs : List Value) (hs : a.eval sl = v) (hown : w.ownsRow base e 1 v n xs) (s : ByteArray) (hx : a.eval x = .string s)
    (h63 : n + s.size ≤ maxLen) (hbytes : n + s.size ≤ 140737488355328) (hbase : base ≤ w.heap.size)
    (h : ∀ v' w', w'.ownsRow base e 1 v' (n + s.size) (xs ++ Lib.strCells s) → w.grownBy w' v.ownBlock → (v'.ownBlock = v.ownBlock ∨ v'.ownBlock = some w.heap.size) → wpList Tryd.prog ops Q rest (a.put o.dst v') w') : wpList Tryd.prog ops Q (o :: rest) a w := by
  refine wpList_plain hgd fun K hK => ?_
  obtain ⟨v', w', hr, h2, h3, h4⟩ := run_app_str w base t u o.type e i ht hu hi hz hsize hby v n xs hown s h63 hbytes hbase
  unfold Oper.wp execOp
  simp only [ho, resolve, invoke, builtin, Sem.run_bind, Sem.run_pure, Result.andThen_ok, List.map_toArray, List.map_cons, List.map_nil, hs, hx, hr]
  exact hK _ _ (h v' w' h2 h3 h4)

/-- a row of texts. -/
def StrsAt (w : World) (A : Option Addr) (L : List ByteArray) : Prop := ∀ i s, L[i]? = some s → ∃ b off, A = some ⟨b, off, none⟩ ∧ w.cell? ⟨b, off + i, none⟩ = some (.string s)
theorem strsAt_new (w : World) (L : List ByteArray) (t : TypeId) (cs : Array Value) (hc : cs = (L.map Value.string).toArray) : StrsAt (w.alloc (.cells cs t)) (some ⟨w.heap.size, 0, none⟩) L := fun i s hi => by
  refine ⟨w.heap.size, 0, rfl, ?_⟩
  rw [Nat.zero_add, cell_of_row _ _ i cs t (0, 0) (heap_alloc_new w _), hc]
  simp [hi]
set_option maxHeartbeats 4000000 in
theorem pick_ok (A : Option Addr) (L : List ByteArray) (n c : Nat) (k : Int) (w : World) (hn : L.length = n) (h : StrsAt w A L) (h0 : 0 < n) (hm : n ≤ 1000) (k0 : -9223372036854775808 ≤ k) (k1 : k ≤ 9223372036854775807) :
    Calls Tryd.prog 22 #[.slice A n c, .int .i64 k] w fun e w' => (∃ s, s ∈ L ∧ e = .returned (.string s)) ∧ Below w.heap.size w w' := by
  have q0 : -(n : Int) < k.tmod n ∧ k.tmod n < n := by
    have h1 := Int.tmod_lt_of_pos k (show (0 : Int) < n by omega)
    have h2 := Int.neg_tmod k n
    have h3 := Int.tmod_lt_of_pos (-k) (show (0 : Int) < n by omega)
    omega
  obtain ⟨q, hq⟩ : ∃ q, k.tmod n = q := ⟨_, rfl⟩
  rw [hq] at q0
  obtain ⟨q0, q1⟩ := q0
  obtain ⟨m, hml, hmm⟩ : ∃ m : Nat, m < n ∧ ((q < 0 ∧ q + (n : Int) = (m : Int)) ∨ (0 ≤ q ∧ q = (m : Int))) := by
    rcases Int.lt_or_le q 0 with h1 | h1
    · exact ⟨(q + n).toNat, by omega, .inl ⟨h1, by omega⟩⟩
    · exact ⟨q.toNat, by omega, .inr ⟨h1, by omega⟩⟩
  obtain ⟨s, hs⟩ : ∃ s, L[m]? = some s := ⟨_, List.getElem?_eq_getElem (by omega)⟩
  obtain ⟨b, off, hA, hc⟩ := h m s hs
  have hsm : s ∈ L := List.mem_of_getElem? hs
  subst hA
  have HS := Lib.hid hsm
  have HQ := Lib.hid hq
  clear h hs hsm hq hn
  rcases hmm with ⟨hq0, hqm⟩ | ⟨hq0, hqm⟩
  · have hq' : k.tmod n = q := HQ.out
    have e1 : decide (q < 0) = true := decide_eq_true hq0
    go_enter Tryd.func22, Tryd.ntmps22
    go_wp2
    go_ret
    exact ⟨⟨s, HS.out, rfl⟩, Below.refl _ _⟩
  · have hq' : k.tmod n = (m : Int) := HQ.out.trans hqm
    have e1 : decide ((m : Int) < 0) = false := decide_eq_false (by omega)
    subst hqm
    go_enter Tryd.func22, Tryd.ntmps22
    go_wp2
    go_ret
    exact ⟨⟨s, HS.out, rfl⟩, Below.refl _ _⟩
def baL (l : List (List UInt8)) : List ByteArray := l.map fun x => ⟨x.toArray⟩
theorem mem_baL {l : List (List UInt8)} {s : ByteArray} (h : s ∈ baL l) : s.data.toList ∈ l := by
  obtain ⟨x, hx, rfl⟩ := List.mem_map.1 h
  simpa using hx
/-- what a piece is. -/
def WordR (w : World) (e : Ending) (w' : World) : Prop := ∃ (s t : ByteArray) (k : Int), e = .returned (.tuple #[.string s, .agg #[.int .i64 k, .string t, .int .i64 0]]) ∧ PieceOk s.data.toList k t.data.toList ∧ Below w.heap.size w w'
theorem baL_len (l : List (List UInt8)) : (baL l).length = l.length := by simp [baL]

theorem strs_lit (w : World) (L : List ByteArray) (t : TypeId) (cs : Array Value) (n : Nat) (hn : n = w.heap.size) (hc : (L.map Value.string).toArray = cs) : StrsAt (w.alloc (.cells cs t)) (some ⟨n, 0, none⟩) L := by
  rw [hn]
  exact strsAt_new w L t cs hc.symm
theorem below3 {w w3 : World} {o1 o3 : Obj} {a b c : Value} {t : TypeId} (h : Below (((w.alloc o1).alloc (.cells #[a, b, c] t)).alloc o3).heap.size (((w.alloc o1).alloc (.cells #[a, b, c] t)).alloc o3) w3) :
    Below w.heap.size w w3 ∧ w3.cell? ⟨w.heap.size + 1, 0, none⟩ = some a ∧ w3.cell? ⟨w.heap.size + 1, 1, none⟩ = some b ∧ w3.cell? ⟨w.heap.size + 1, 2, none⟩ = some c ∧ ∀ i, w3.frozen? ⟨w.heap.size + 1, i, none⟩ = false := by
  have h1 := (((Below.refl w.heap.size w).alloc (Nat.le_refl _) o1).alloc (by simp) (.cells #[a, b, c] t)).alloc (by simp; omega) o3
  have hh : w3.heap[w.heap.size + 1]? = some (.cells #[a, b, c] t) := by
    rw [h.5 _ (by simp), heap_alloc_old ((w.alloc o1).alloc (.cells #[a, b, c] t)) o3 (show w.heap.size + 1 < _ by simp)]
    have := heap_alloc_new (w.alloc o1) (.cells #[a, b, c] t)
    simpa using this
  exact ⟨h1.trans (h.mono h1.size), cell_of_row _ _ 0 _ _ _ hh, cell_of_row _ _ 1 _ _ _ hh, cell_of_row _ _ 2 _ _ _ hh, fun i => by simp [World.frozen?, hh]⟩
theorem three_sets {w w3 : World} {B : Nat} (h : Below w.heap.size w w3) (hB : w.heap.size ≤ B) (a b c : Value) : Below w.heap.size w (((w3.setCell ⟨B, 0, none⟩ a).setCell ⟨B, 1, none⟩ b).setCell ⟨B, 2, none⟩ c) :=
  ((h.setCell (p := ⟨B, 0, none⟩) hB a).setCell (p := ⟨B, 1, none⟩) hB b).setCell (p := ⟨B, 2, none⟩) hB c
theorem three_cells {w : World} {B : Nat} {a b c : Value} (h0 : w.cell? ⟨B, 0, none⟩ = some a) (h1 : w.cell? ⟨B, 1, none⟩ = some b) (h2 : w.cell? ⟨B, 2, none⟩ = some c) (x y z : Value) :
    (((w.setCell ⟨B, 0, none⟩ x).setCell ⟨B, 1, none⟩ y).setCell ⟨B, 2, none⟩ z).cell? ⟨B, 0, none⟩ = some x ∧ (((w.setCell ⟨B, 0, none⟩ x).setCell ⟨B, 1, none⟩ y).setCell ⟨B, 2, none⟩ z).cell? ⟨B, 1, none⟩ = some y ∧ (((w.setCell ⟨B, 0, none⟩ x).setCell ⟨B, 1, none⟩ y).setCell ⟨B, 2, none⟩ z).cell? ⟨B, 2, none⟩ = some z :=
  ⟨cell_set_ne (cell_set_ne (cell_set_eq h0) (by decide)) (by decide), cell_set_ne (cell_set_eq (cell_set_ne h1 (by decide))) (by decide), cell_set_eq (cell_set_ne (cell_set_ne h2 (by decide)) (by decide))⟩
theorem str_small : ∀ x ∈ layStrs, x.length ≤ 10 := by
  intro x hx
  simp only [layStrs, List.mem_cons, List.not_mem_nil, or_false] at hx
  rcases hx with rfl | rfl | rfl | rfl | rfl | rfl
  all_goals decide
set_option maxHeartbeats 8000000 in
theorem word_ok (x y z : Int) (w : World) (k0 : -9223372036854775808 ≤ y) (k1 : y ≤ 9223372036854775807) :
    Calls Tryd.prog 16 #[.agg #[.int .i64 x, .int .i64 y, .int .i64 z]] w (WordR w) := by
  have HR : ∀ (s t : ByteArray) (k : Int) (w' : World), PieceOk s.data.toList k t.data.toList → Below w.heap.size w w' → WordR w (.returned (.tuple #[.string s, .agg #[.int .i64 k, .string t, .int .i64 0]])) w' := fun s t k w' h1 h2 => ⟨s, t, k, rfl, h1, h2⟩
  have HR := Lib.hid HR
  obtain ⟨R, hR⟩ : ∃ R, WordR w = R := ⟨_, rfl⟩
  rw [hR] at HR ⊢
  clear hR
  by_cases h0 : x = 0
  · subst h0
    go_enter Tryd.func16, Tryd.ntmps16
    go_wp2_with (go_at_call 22; refine (pick_ok _ (baL layNames) 6 6 y _ (by rw [baL_len]; rfl) (strs_lit _ _ _ _ _ (by simp) (by rfl)) (by decide) (by decide) k0 k1).mono ?_; rintro e w3 ⟨⟨s, hs, rfl⟩, hb3⟩; obtain ⟨hb3, q0, q1, q2, hfz⟩ := below3 hb3; have z0 := hfz 0; have z1 := hfz 1; have z2 := hfz 2; have hs := mem_baL hs)
    obtain ⟨g0, g1, g2⟩ := three_cells q0 q1 q2 (.int .i64 1) (.string s) (.int .i64 0)
    refine bodyPost_ret (v := .tuple #[.string s, .agg #[.int .i64 1, .string s, .int .i64 0]]) (by simp [results, Tryd.results16, go_sem, g0, g1, g2]) rfl ?_
    exact HR.out _ _ _ _ (names_piece _ hs) (three_sets hb3 (by omega) _ _ _)
  · by_cases h1 : x = 1
    · subst h1
      go_enter Tryd.func16, Tryd.ntmps16
      go_wp2_with (go_at_call 22; refine (pick_ok _ (baL layWords) 7 7 y _ (by rw [baL_len]; rfl) (strs_lit _ _ _ _ _ (by simp) (by rfl)) (by decide) (by decide) k0 k1).mono ?_; rintro e w3 ⟨⟨s, hs, rfl⟩, hb3⟩; obtain ⟨hb3, q0, q1, q2, hfz⟩ := below3 hb3; have z0 := hfz 0; have z1 := hfz 1; have z2 := hfz 2; have hs := mem_baL hs; have HWd := words_piece _ hs; have HRW := refWord_ok s)
      generalize wordB s.data.toList = bw at HWd HRW
      cases bw
      · go_wp2_with (go_at_call 15; refine (HRW _).mono ?_; rintro e w4 ⟨rfl, hb4⟩; have hb3 := hb3.trans (hb4.mono hb3.size); have hlt := World.block_lt_of_cell? _ _ q0; have z0 := (hb4.frozen (p := ⟨w.heap.size + 1, 0, none⟩) hlt).trans z0; have z1 := (hb4.frozen (p := ⟨w.heap.size + 1, 1, none⟩) hlt).trans z1; have z2 := (hb4.frozen (p := ⟨w.heap.size + 1, 2, none⟩) hlt).trans z2; have q0 := cell_later hb4 q0; have q1 := cell_later hb4 q1; have q2 := cell_later hb4 q2)
        obtain ⟨g0, g1, g2⟩ := three_cells q0 q1 q2 (.int .i64 1) (.string s) (.int .i64 0)
        refine bodyPost_ret (v := .tuple #[.string s, .agg #[.int .i64 1, .string s, .int .i64 0]]) (by simp [results, Tryd.results16, go_sem, g0, g1, g2]) rfl ?_
        exact HR.out _ _ _ _ (HWd _ rfl) (three_sets hb3 (by omega) _ _ _)
      · go_wp2_with (go_at_call 15; refine (HRW _).mono ?_; rintro e w4 ⟨rfl, hb4⟩; have hb3 := hb3.trans (hb4.mono hb3.size); have hlt := World.block_lt_of_cell? _ _ q0; have z0 := (hb4.frozen (p := ⟨w.heap.size + 1, 0, none⟩) hlt).trans z0; have z1 := (hb4.frozen (p := ⟨w.heap.size + 1, 1, none⟩) hlt).trans z1; have z2 := (hb4.frozen (p := ⟨w.heap.size + 1, 2, none⟩) hlt).trans z2; have q0 := cell_later hb4 q0; have q1 := cell_later hb4 q1; have q2 := cell_later hb4 q2)
        obtain ⟨g0, g1, g2⟩ := three_cells q0 q1 q2 (.int .i64 2) (.string s) (.int .i64 0)
        refine bodyPost_ret (v := .tuple #[.string s, .agg #[.int .i64 2, .string s, .int .i64 0]]) (by simp [results, Tryd.results16, go_sem, g0, g1, g2]) rfl ?_
        exact HR.out _ _ _ _ (HWd _ rfl) (three_sets hb3 (by omega) _ _ _)
    · by_cases h2 : x = 2
      · subst h2
        go_enter Tryd.func16, Tryd.ntmps16
        go_wp2_with (go_at_call 22; refine (pick_ok _ (baL layNums) 4 4 y _ (by rw [baL_len]; rfl) (strs_lit _ _ _ _ _ (by simp) (by rfl)) (by decide) (by decide) k0 k1).mono ?_; rintro e w3 ⟨⟨s, hs, rfl⟩, hb3⟩; obtain ⟨hb3, q0, q1, q2, hfz⟩ := below3 hb3; have z0 := hfz 0; have z1 := hfz 1; have z2 := hfz 2; have hs := mem_baL hs)
        obtain ⟨g0, g1, g2⟩ := three_cells q0 q1 q2 (.int .i64 3) (.string s) (.int .i64 0)
        refine bodyPost_ret (v := .tuple #[.string s, .agg #[.int .i64 3, .string s, .int .i64 0]]) (by simp [results, Tryd.results16, go_sem, g0, g1, g2]) rfl ?_
        exact HR.out _ _ _ _ (nums_piece _ hs) (three_sets hb3 (by omega) _ _ _)
      · by_cases h3 : x = 3
        · subst h3
          go_enter Tryd.func16, Tryd.ntmps16
          go_wp2_with (go_at_call 22; refine (pick_ok _ (baL layStrs) 6 6 y _ (by rw [baL_len]; rfl) (strs_lit _ _ _ _ _ (by simp) (by rfl)) (by decide) (by decide) k0 k1).mono ?_; rintro e w3 ⟨⟨s, hs, rfl⟩, hb3⟩; obtain ⟨hb3, q0, q1, q2, hfz⟩ := below3 hb3; have z0 := hfz 0; have z1 := hfz 1; have z2 := hfz 2; have hs := mem_baL hs; have hPc := strs_piece _ hs; have hs20 : s.size ≤ 1099511627776 := Nat.le_trans (Nat.le_of_eq (Array.length_toList (xs := s.data)).symm) (Nat.le_trans (str_small _ hs) (by decide)); have HQ := fun W => refQuote_ok s W hs20; clear hs20)
          obtain ⟨qs, hqs⟩ : ∃ qs : ByteArray, (⟨(quoteL (pieces s.data.toList)).toArray⟩ : ByteArray) = qs := ⟨_, rfl⟩
          have hql : qs.data.toList = quoteL (pieces s.data.toList) := by rw [← hqs, str_of]
          simp only [hqs] at HQ
          rw [← hql] at hPc
          clear hqs hql
          go_wp2_with (go_at_call 23; refine (HQ _).mono ?_; rintro e w4 ⟨rfl, hb4⟩; have hb3 := hb3.trans (hb4.mono hb3.size); have hlt := World.block_lt_of_cell? _ _ q0; have z0 := (hb4.frozen (p := ⟨w.heap.size + 1, 0, none⟩) hlt).trans z0; have z1 := (hb4.frozen (p := ⟨w.heap.size + 1, 1, none⟩) hlt).trans z1; have z2 := (hb4.frozen (p := ⟨w.heap.size + 1, 2, none⟩) hlt).trans z2; have q0 := cell_later hb4 q0; have q1 := cell_later hb4 q1; have q2 := cell_later hb4 q2)
          obtain ⟨g0, g1, g2⟩ := three_cells q0 q1 q2 (.int .i64 4) (.string s) (.int .i64 0)
          refine bodyPost_ret (v := .tuple #[.string qs, .agg #[.int .i64 4, .string s, .int .i64 0]]) (by simp [results, Tryd.results16, go_sem, g0, g1, g2]) rfl ?_
          exact HR.out _ _ _ _ (hPc) (three_sets hb3 (by omega) _ _ _)
        · have e0 : (x == 0) = false := by simpa using h0
          have e1 : (x == 1) = false := by simpa using h1
          have e2 : (x == 2) = false := by simpa using h2
          have e3 : (x == 3) = false := by simpa using h3
          go_enter Tryd.func16, Tryd.ntmps16
          go_wp2_with (go_at_call 22; refine (pick_ok _ (baL laySigns) 27 27 y _ (by rw [baL_len]; rfl) (strs_lit _ _ _ _ _ (by simp) (by rfl)) (by decide) (by decide) k0 k1).mono ?_; rintro e w3 ⟨⟨s, hs, rfl⟩, hb3⟩; obtain ⟨hb3, q0, q1, q2, hfz⟩ := below3 hb3; have z0 := hfz 0; have z1 := hfz 1; have z2 := hfz 2; have hs := mem_baL hs)
          obtain ⟨g0, g1, g2⟩ := three_cells q0 q1 q2 (.int .i64 5) (.string s) (.int .i64 0)
          refine bodyPost_ret (v := .tuple #[.string s, .agg #[.int .i64 5, .string s, .int .i64 0]]) (by simp [results, Tryd.results16, go_sem, g0, g1, g2]) rfl ?_
          exact HR.out _ _ _ _ (sign_piece _ hs) (three_sets hb3 (by omega) _ _ _)

theorem own_not {w : World} {base size n B : Nat} {e t : TypeId} {v : Value} {xs : List Value} {cs : Array Value} {fr : Nat × Nat} (h : w.ownsRow base e size v n xs) (hB : w.heap[B]? = some (.cells cs t fr)) (hne : e ≠ t) : v.ownBlock ≠ some B := by
  rcases h.2 with ⟨hv, _⟩ | ⟨g, cap, cur, hv, hg, hh, _⟩
  · subst hv; simp [Value.ownBlock]
  · subst hv
    intro e2
    simp only [Value.ownBlock, Option.some.injEq] at e2
    subst e2
    rw [hh] at hB
    injection hB with hB
    injection hB with _ hB _
    exact hne hB
theorem lt_of_heap {w : World} {B : Nat} {o : Obj} (h : w.heap[B]? = some o) : B < w.heap.size := (Array.getElem?_eq_some_iff.1 h).1
/-- the plain source, the loose one, the tokens that are wanted; the piece's box. -/
structure Ly (w0 w : World) (A1 : Option Addr) (C1 : Nat) (u : ByteArray) (A2 : Option Addr) (C2 : Nat) (v : ByteArray) (A3 : Option Addr) (C3 : Nat) (T : List Tk) : Prop where
  op : w.ownsRow w0.heap.size 5 1 (.slice A1 u.size C1) u.size (Lib.strCells u)
  ol : w.ownsRow w0.heap.size 5 1 (.slice A2 v.size C2) v.size (Lib.strCells v)
  ow : w.ownsRow w0.heap.size 35 3 (.slice A3 T.length C3) T.length (tkVs T)
  ap : ∀ g, (Value.slice A1 u.size C1).ownBlock = some g → (Value.slice A2 v.size C2).ownBlock ≠ some g
  hb : Below w0.heap.size w0 w
def Bx (w : World) (B : Nat) (k : Int) (t : ByteArray) : Prop := w.heap[B]? = some (.cells #[.int .i64 k, .string t, .int .i64 0] 35 (0, 0))
section
variable {w0 w w' : World} {A1 A2 A3 : Option Addr} {C1 C2 C3 : Nat} {u v : ByteArray} {T : List Tk} {B : Nat} {k : Int} {t : ByteArray}
theorem Bx.later (h : Bx w B k t) (hb : Below w.heap.size w w') : Bx w' B k t := by
  unfold Bx at h ⊢
  rw [hb.5 B (lt_of_heap h)]; exact h
theorem Bx.grown {base n : Nat} {x : Value} {xs : List Value} (h : Bx w B k t) (ho : w.ownsRow base 5 1 x n xs) (hg : w.grownBy w' x.ownBlock) : Bx w' B k t := by
  unfold Bx at h ⊢
  rw [hg.block B (lt_of_heap h) (fun e => own_not ho h (by decide) e.symm)]; exact h
theorem Bx.cells (h : Bx w B k t) : w.cell? ⟨B, 0, none⟩ = some (.int .i64 k) ∧ w.cell? ⟨B, 1, none⟩ = some (.string t) ∧ w.cell? ⟨B, 2, none⟩ = some (.int .i64 0) :=
  ⟨cell_of_row _ _ 0 _ _ _ h, cell_of_row _ _ 1 _ _ _ h, cell_of_row _ _ 2 _ _ _ h⟩
theorem Ly.start (w : World) : Ly w w none 0 ⟨#[]⟩ none 0 ⟨#[]⟩ none 0 [] :=
  ⟨World.ownsRow_nil _ _ _ _, World.ownsRow_nil _ _ _ _, World.ownsRow_nil _ _ _ _, fun g h => by simp [Value.ownBlock] at h, Below.refl _ _⟩
theorem Ly.later (h : Ly w0 w A1 C1 u A2 C2 v A3 C3 T) (hb : Below w.heap.size w w') : Ly w0 w' A1 C1 u A2 C2 v A3 C3 T :=
  ⟨own_later h.op hb, own_later h.ol hb, own_later h.ow hb, h.ap, h.hb.trans (hb.mono h.hb.size)⟩
theorem Ly.swap (h : Ly w0 w A1 C1 u A2 C2 v A3 C3 T) : Ly w0 w A2 C2 v A1 C1 u A3 C3 T :=
  ⟨h.ol, h.op, h.ow, fun g e e2 => h.ap g e2 e, h.hb⟩
theorem Ly.fits (h : Ly w0 w A1 C1 u A2 C2 v A3 C3 T) : u.size ≤ C1 ∧ C1 ≤ maxLen ∧ v.size ≤ C2 ∧ C2 ≤ maxLen ∧ T.length ≤ C3 ∧ C3 ≤ maxLen :=
  ⟨(own_fits h.op).1, (own_fits h.op).2, (own_fits h.ol).1, (own_fits h.ol).2, (own_fits h.ow).1, (own_fits h.ow).2⟩
/-- something is appended to the plain source. -/
theorem Ly.appP {s : ByteArray} {x : Value} {n : Nat} (h : Ly w0 w A1 C1 u A2 C2 v A3 C3 T) (hown : w'.ownsRow w0.heap.size 5 1 x n (Lib.strCells u ++ Lib.strCells s)) (hn : n = u.size + s.size) (hg : w.grownBy w' (Value.slice A1 u.size C1).ownBlock)
    (hat : x.ownBlock = (Value.slice A1 u.size C1).ownBlock ∨ x.ownBlock = some w.heap.size) :
    ∃ U A C, x = .slice A U.size C ∧ Hid (U = u ++ s) ∧ U.size ≤ u.size + s.size ∧ Ly w0 w' A C U A2 C2 v A3 C3 T := by
  have hsz : (u ++ s).size = u.size + s.size := app_size u s
  rw [hn, ← hsz, ← cells_app] at hown
  obtain ⟨A, C, rfl, _⟩ := own_form hown
  refine ⟨u ++ s, A, C, rfl, Lib.hid rfl, Nat.le_of_eq hsz, hown, ?_, own_keep h.op h.ow (by decide) hg, ?_, h.hb.grown hg h.hb.size (fun j hj => (h.op.lt j hj).1)⟩
  · exact h.ol.kept hg (by
      cases hv : (Value.slice A2 v.size C2).ownBlock with
      | none => exact Or.inl rfl
      | some b => exact Or.inr (fun e => h.ap b (e ▸ rfl) hv))
  · intro g hgA hgB
    rcases hat with e | e
    · exact h.ap g (e ▸ hgA) hgB
    · rw [hgA] at e
      injection e with e
      have := (h.ol.lt g hgB).2
      omega
theorem Ly.appL {s : ByteArray} {x : Value} {n : Nat} (h : Ly w0 w A1 C1 u A2 C2 v A3 C3 T) (hown : w'.ownsRow w0.heap.size 5 1 x n (Lib.strCells v ++ Lib.strCells s)) (hn : n = v.size + s.size) (hg : w.grownBy w' (Value.slice A2 v.size C2).ownBlock)
    (hat : x.ownBlock = (Value.slice A2 v.size C2).ownBlock ∨ x.ownBlock = some w.heap.size) :
    ∃ V A C, x = .slice A V.size C ∧ Hid (V = v ++ s) ∧ V.size ≤ v.size + s.size ∧ Ly w0 w' A1 C1 u A C V A3 C3 T := by
  obtain ⟨V, A, C, h1, h2, h3, h4⟩ := h.swap.appP hown hn hg hat
  exact ⟨V, A, C, h1, h2, h3, h4.swap⟩
/-- a place as appends of elements tell it. -/
theorem at_of {x : Value} {g H n c : Nat} (h : x.ownBlock = some g ∨ g = H) : (Value.slice (some ⟨g, 0, none⟩) n c).ownBlock = x.ownBlock ∨ (Value.slice (some ⟨g, 0, none⟩) n c).ownBlock = some H := by
  rcases h with h | h
  · exact .inl (by rw [h]; rfl)
  · exact .inr (by rw [h]; rfl)
theorem Ly.appT {A : Option Addr} {C : Nat} {T' : List Tk} (h : Ly w0 w A1 C1 u A2 C2 v A3 C3 T) (hg : w.grownBy w' (Value.slice A3 T.length C3).ownBlock) (ho : w'.ownsRow w0.heap.size 35 3 (.slice A T'.length C) T'.length (tkVs T')) : Ly w0 w' A1 C1 u A2 C2 v A C T' :=
  ⟨own_keep h.ow h.op (by decide) hg, own_keep h.ow h.ol (by decide) hg, ho, h.ap, h.hb.grown hg h.hb.size (fun j hj => (h.ow.lt j hj).1)⟩
end
/-- the tokens of both sources are those that are wanted, but for their places. -/
def Keys (Tu Tv T : List Tk) : Prop := Tu.map tkey = T.map tkey ∧ Tv.map tkey = T.map tkey
theorem Keys.snoc {Tu Tv T : List Tk} (h : Keys Tu Tv T) (k : Int) (x : List UInt8) (p q r : Nat) : Keys (Tu ++ [⟨k, x, p⟩]) (Tv ++ [⟨k, x, q⟩]) (T ++ [⟨k, x, r⟩]) := by
  obtain ⟨h1, h2⟩ := h
  exact ⟨by rw [List.map_append, List.map_append, h1]; rfl, by rw [List.map_append, List.map_append, h2]; rfl⟩
def Lines (u v : ByteArray) (T : List Tk) : Prop := ∃ Tu Tv, Come u [0] Tu ∧ Come v [0] Tv ∧ Keys Tu Tv T ∧ offB Tu.getLast? = false ∧ offB Tv.getLast? = false
def Mids (u v : ByteArray) (T : List Tk) : Prop := ∃ Tu Tv, Mid u Tu ∧ Mid v Tv ∧ Keys Tu Tv T
def Spcs (u v : ByteArray) (T : List Tk) : Prop := ∃ Tu Tv, Spc u Tu ∧ Spc v Tv ∧ Keys Tu Tv T
def Fins (u v : ByteArray) (T : List Tk) : Prop := ∃ Tu Tv, Fin u Tu ∧ Fin v Tv ∧ Keys Tu Tv T
def InLine (q : Nat) (u v : ByteArray) (T : List Tk) : Prop := (q = 0 ∧ Lines u v T) ∨ (0 < q ∧ Mids u v T)
theorem lines_start : Lines ⟨#[]⟩ ⟨#[]⟩ [] := ⟨[], [], come_start, come_start, ⟨rfl, rfl⟩, rfl, rfl⟩
theorem Lines.piece {u v s : ByteArray} {T : List Tk} {k : Int} {t : ByteArray} (h : Lines u v T) (hp : PieceOk s.data.toList k t.data.toList) : Mids (u ++ s) (v ++ s) (T ++ [⟨k, t.data.toList, 0⟩]) := by
  obtain ⟨Tu, Tv, h1, h2, h3, _⟩ := h
  exact ⟨_, _, h1.piece hp, h2.piece hp, h3.snoc _ _ _ _ _⟩
theorem Spcs.piece {u v s : ByteArray} {T : List Tk} {k : Int} {t : ByteArray} (h : Spcs u v T) (hp : PieceOk s.data.toList k t.data.toList) : Mids (u ++ s) (v ++ s) (T ++ [⟨k, t.data.toList, 0⟩]) := by
  obtain ⟨Tu, Tv, h1, h2, h3⟩ := h
  exact ⟨_, _, h1.piece hp, h2.piece hp, h3.snoc _ _ _ _ _⟩
theorem Mids.sp {u v : ByteArray} {T : List Tk} (h : Mids u v T) : Spcs (u ++ ⟨#[32]⟩) (v ++ ⟨#[32]⟩) T := by
  obtain ⟨Tu, Tv, h1, h2, h3⟩ := h
  exact ⟨_, _, h1.sp rfl, h2.sp rfl, h3⟩
theorem Spcs.sp {u v : ByteArray} {T : List Tk} (h : Spcs u v T) : Spcs u (v ++ ⟨#[32]⟩) T := by
  obtain ⟨Tu, Tv, h1, h2, h3⟩ := h
  exact ⟨_, _, h1, h2.sp rfl, h3⟩
theorem Mids.fins {u v : ByteArray} {T : List Tk} (h : Mids u v T) : Fins u v T := by
  obtain ⟨Tu, Tv, h1, h2, h3⟩ := h
  exact ⟨_, _, h1.fin, h2.fin, h3⟩
theorem Mids.rem {u v : ByteArray} {T : List Tk} (h : Mids u v T) : Fins u (v ++ ⟨#[32, 35, 32, 39, 120, 255, 9, 105, 102]⟩) T := by
  obtain ⟨Tu, Tv, h1, h2, h3⟩ := h
  exact ⟨_, _, h1.fin, h2.rem rfl, h3⟩
theorem Fins.nl {u v : ByteArray} {T : List Tk} (h : Fins u v T) : Lines (u ++ ⟨#[10]⟩) (v ++ ⟨#[10]⟩) (T ++ [⟨6, [], 0⟩]) := by
  obtain ⟨Tu, Tv, h1, h2, h3⟩ := h
  exact ⟨_, _, h1.nl rfl, h2.nl rfl, h3.snoc _ _ _ _ _, by rw [List.getLast?_concat]; rfl, by rw [List.getLast?_concat]; rfl⟩
theorem Lines.gap {u v : ByteArray} {T : List Tk} (h : Lines u v T) : Lines u (v ++ ⟨#[32, 32, 32, 35, 32, 40, 10, 10, 32, 32, 10]⟩) T := by
  obtain ⟨Tu, Tv, h1, h2, h3⟩ := h
  exact ⟨_, _, h1, h2.gap rfl, h3⟩
theorem alike_keys {Ta T : List Tk} (h : Ta.map tkey = T.map tkey) : Ta.length = T.length ∧ ∀ (i : Nat) (a b : Tk), Ta[i]? = some a → T[i]? = some b → Alike false a b := by
  refine ⟨by have := congrArg List.length h; simpa using this, fun i a b ha hb => ?_⟩
  have h1 : (Ta.map tkey)[i]? = some (tkey a) := by rw [List.getElem?_map, ha]; rfl
  have h2 : (T.map tkey)[i]? = some (tkey b) := by rw [List.getElem?_map, hb]; rfl
  rw [h, h2] at h1
  injection h1 with h1
  injection h1 with h1 h3
  exact ⟨h1.symm, h3.symm, fun e => by cases e⟩
/-- both are read as what is wanted. -/
theorem Lines.done {u v : ByteArray} {T : List Tk} (h : Lines u v T) : ∃ La Lb, lexR u.data.toList lexS = .ok La ∧ lexR v.data.toList lexS = .ok Lb ∧ Keys La Lb (T ++ [⟨9, [], 0⟩]) := by
  obtain ⟨Tu, Tv, h1, h2, h3, h4, h5⟩ := h
  exact ⟨_, _, h1.tokens h4, h2.tokens h5, h3.snoc _ _ _ _ _⟩

/-- the lines that came in: each piece three ints. -/
def LinesAt (w : World) (A : Option Addr) (n : Nat) : Prop := ∀ i, i < n → ∃ b off Ai m c, A = some ⟨b, off, none⟩ ∧ w.cell? ⟨b, off + i, none⟩ = some (.slice Ai m c) ∧ m ≤ c ∧ c ≤ maxLen ∧
  ∀ k, k < m → ∃ b2 off2 x y z, Ai = some ⟨b2, off2, none⟩ ∧ w.cell? ⟨b2, off2 + k * 3, none⟩ = some (.int .i64 x) ∧ w.cell? ⟨b2, off2 + k * 3 + 1, none⟩ = some (.int .i64 y) ∧ w.cell? ⟨b2, off2 + k * 3 + 2, none⟩ = some (.int .i64 z) ∧
    -9223372036854775808 ≤ y ∧ y ≤ 9223372036854775807

section
open Go.ChangeShapes Go.WideShapes Go.ChangeAt Go.Joins

theorem addr_lit {w : World} {x : Addr} {v : Value} (h : w.cell? x = some v) : x = ⟨x.block, x.off, none⟩ := by
  obtain ⟨b, o, s⟩ := x
  cases s with
  | none => rfl
  | some s => simp [World.cell?] at h; split at h <;> simp at h
theorem add_zero (x : Addr) : x.add 0 = x := by simp [Addr.add]
theorem cells_at {w : World} {base : Nat} {a : Addr} {n : Nat} {cs : List Value} (h : w.cells? base a n = some cs) (hn : 0 < n) : a = ⟨a.block, a.off, none⟩ ∧ cs.length = n ∧ ∀ i, i < n → w.cell? ⟨a.block, a.off + i, none⟩ = cs[i]? := by
  obtain ⟨_, h1, h2⟩ := World.cells?_some h
  obtain ⟨v, hv⟩ : ∃ v, cs[0]? = some v := ⟨_, List.getElem?_eq_getElem (by omega)⟩
  have ha := addr_lit (x := a) (by rw [← hv, ← h2 0 hn, add_zero])
  refine ⟨ha, h1, fun i hi => ?_⟩
  have := h2 i hi
  rw [ha, Addr.add_lit] at this
  exact this
section
variable {H : Type} {enc : TypeId × Value → H} {P : Program} {w : World} {base : Nat} {spare : Nat → Bool} {held : Bool}
/-- a slice's elements, by cells. -/
theorem trod_elems {t e : TypeId} {n : Nat} {cs : List Value} {y : DataW H × List MemPlace} (ht : P.underlying t = some (.slice e)) {c : Nat} (hC : P.cellsOf e = c) (hc0 : 0 < c)
    (h : DataW.trod enc P w base spare held n t cs = some y) :
    ∃ A m cap, cs = [.slice A m cap] ∧ m ≤ cap ∧ cap ≤ maxLen ∧ ∀ i, i < m → ∃ b off, A = some ⟨b, off, none⟩ ∧ ∃ xs n' z, xs.length = c ∧ (∀ j, j < c → w.cell? ⟨b, off + i * c + j, none⟩ = xs[j]?) ∧ DataW.trod enc P w base spare held n' e xs = some z := by
  rcases Deep.open_slice ht h with ⟨rfl, _⟩ | ⟨a, len, cap, m, n', D, Pl, rfl, hb, hl, hm, hmm, rfl, hx⟩
  · exact ⟨none, 0, 0, rfl, Nat.le_refl _, Nat.zero_le _, fun i hi => absurd hi (Nat.not_lt_zero _)⟩
  · refine ⟨some a, len, cap, rfl, hl, hm, fun i hi => ?_⟩
    have hlm : len ≤ m := by rw [hmm]; split <;> omega
    obtain ⟨xs0, h01, _⟩ := hx 0 (by omega)
    rw [hC] at h01
    obtain ⟨_, f1, f2⟩ := World.cells?_some h01
    obtain ⟨v, hv⟩ : ∃ v, xs0[0]? = some v := ⟨_, List.getElem?_eq_getElem (by omega)⟩
    have g0 := (f2 0 hc0).trans hv
    rw [Nat.zero_mul, add_zero, add_zero] at g0
    have ha := addr_lit g0
    obtain ⟨xs, h1, h2⟩ := hx i (by omega)
    rw [hC] at h1
    obtain ⟨_, g1, g2⟩ := World.cells?_some h1
    refine ⟨a.block, a.off, by rw [← ha], xs, n', _, g1, fun j hj => ?_, h2⟩
    have := g2 j hj
    rw [Deep.add_add, ha, Addr.add_lit] at this
    rw [Nat.add_assoc]
    exact this
theorem trod_int3 {t i0 i1 i2 : TypeId} {n : Nat} {cs : List Value} {y : DataW H × List MemPlace} {fs : Array Field} (ht : P.underlying t = some (.struct fs)) (hf : fs.toList.map (fun f => (f.type, f.offset)) = [(i0, 0), (i0, 1), (i0, 2)])
    (hi : P.underlying i0 = some (.int .i64)) (hC : P.cellsOf i0 = 1) (hl : cs.length = 3) (h : DataW.trod enc P w base spare held n t cs = some y) :
    ∃ x y z : Int, cs = [.int .i64 x, .int .i64 y, .int .i64 z] ∧ -9223372036854775808 ≤ y ∧ y ≤ 9223372036854775807 := by
  obtain ⟨xs, n', _, _, _, hxl, hx⟩ := DataW.trod_struct ht h
  have hfl : fs.size = 3 := by have := congrArg List.length hf; simpa using this
  have each : ∀ j, j < 3 → ∃ z, cs[j]? = some (.int .i64 z) ∧ -9223372036854775808 ≤ z ∧ z ≤ 9223372036854775807 := by
    intro j hj
    obtain ⟨f, hfj⟩ : ∃ f, fs[j]? = some f := ⟨_, Array.getElem?_eq_getElem (by omega)⟩
    have h1 := hx j f hfj
    have h2 : (fs.toList.map (fun f => (f.type, f.offset)))[j]? = some (f.type, f.offset) := by rw [List.getElem?_map, Array.getElem?_toList, hfj]; rfl
    rw [hf] at h2
    have h3 : f.type = i0 ∧ f.offset = j := by
      rcases (by omega : j = 0 ∨ j = 1 ∨ j = 2) with rfl | rfl | rfl <;> simp at h2 <;> exact ⟨h2.1.symm, h2.2.symm⟩
    rw [h3.1, h3.2, hC] at h1
    obtain ⟨q, hq⟩ : ∃ q, xs[j]? = some q := ⟨_, List.getElem?_eq_getElem (by omega)⟩
    rw [hq] at h1
    obtain ⟨z, hz, _, hw⟩ := DataW.trod_int hi h1
    refine ⟨z, ?_, by simpa [Lit.wf, IntKind.min, IntKind.max, IntKind.signed, IntKind.bits] using hw⟩
    have : ((cs.drop j).take 1)[0]? = some (.int .i64 z) := by rw [hz]; rfl
    rw [List.getElem?_take_of_lt (by omega), List.getElem?_drop] at this
    exact this
  obtain ⟨x, hx0, _⟩ := each 0 (by omega)
  obtain ⟨y, hy0, y1, y2⟩ := each 1 (by omega)
  obtain ⟨z, hz0, _⟩ := each 2 (by omega)
  refine ⟨x, y, z, ?_, y1, y2⟩
  apply List.ext_getElem?
  intro i
  rcases (by omega : i = 0 ∨ i = 1 ∨ i = 2 ∨ 3 ≤ i) with rfl | rfl | rfl | hi
  · rw [hx0]; rfl
  · rw [hy0]; rfl
  · rw [hz0]; rfl
  · rw [List.getElem?_eq_none (by omega), List.getElem?_eq_none (by simpa using hi)]
theorem trod_lines {t e p i0 : TypeId} {n : Nat} {v : Value} {y : DataW H × List MemPlace} {fs : Array Field} (ht : P.underlying t = some (.slice e)) (he : P.underlying e = some (.slice p)) (hp : P.underlying p = some (.struct fs)) (hf : fs.toList.map (fun f => (f.type, f.offset)) = [(i0, 0), (i0, 1), (i0, 2)])
    (hi : P.underlying i0 = some (.int .i64)) (hC : P.cellsOf i0 = 1) (hCe : P.cellsOf e = 1) (hCp : P.cellsOf p = 3) (h : DataW.trod enc P w base spare held n t [v] = some y) :
    ∃ A m c, v = .slice A m c ∧ m ≤ c ∧ c ≤ maxLen ∧ LinesAt w A m := by
  obtain ⟨A, m, cap, hcs, h1, h2, hx⟩ := trod_elems ht hCe (by decide) h
  simp at hcs
  subst hcs
  refine ⟨A, m, cap, rfl, h1, h2, fun i hi' => ?_⟩
  obtain ⟨b, off, hA, xs, n', z, hl, hcell, hz⟩ := hx i hi'
  obtain ⟨Ai, mi, ci, rfl, g1, g2, gx⟩ := trod_elems he hCp (by decide) hz
  have hc0 := hcell 0 (by decide)
  rw [Nat.mul_one, Nat.add_zero] at hc0
  refine ⟨b, off, Ai, mi, ci, hA, hc0, g1, g2, fun k hk => ?_⟩
  obtain ⟨b2, off2, hA2, xs2, n2, z2, hl2, hcell2, hz2⟩ := gx k hk
  obtain ⟨x, y', z', rfl, y1, y2⟩ := trod_int3 (i1 := i0) (i2 := i0) hp hf hi hC hl2 hz2
  exact ⟨b2, off2, x, y', z', hA2, hcell2 0 (by decide), hcell2 1 (by decide), hcell2 2 (by decide), y1, y2⟩
end
end

theorem tkV_of (k : Int) (t : ByteArray) : tkV ⟨k, t.data.toList, 0⟩ = [.int .i64 k, .string t, .int .i64 0] := by
  have h : (⟨t.data.toList.toArray⟩ : ByteArray) = t := ba_ext (by simp)
  show [Value.int .i64 k, .string ⟨t.data.toList.toArray⟩, .int .i64 ((0 : Nat) : Int)] = _
  rw [h]; rfl
set_option maxHeartbeats 64000000 in
theorem lawLays_any (A : Option Addr) (n c : Nat) (R : Option Addr) (rc : Nat) (zs : List Int) (w : World) (hln : LinesAt w A n) (hl : n ≤ c) (hm : c ≤ maxLen) (hr : RdI w .i64 R zs) (hrl : zs.length ≤ rc) (hrm : rc ≤ maxLen) (_ : ∀ z ∈ zs, -9223372036854775808 ≤ z ∧ z ≤ 9223372036854775807) (hT : Lib.Utf8Tabs 1 2 w) :
    Calls Tryd.prog 7 #[.slice A n c, .slice R zs.length rc] w fun e w' => e = .returned (.bool true) ∧ Below w.heap.size w w' := by
  unfold maxLen at hm hrm
  by_cases hbig : n ≤ 40 ∧ zs.length ≤ 100
  · obtain ⟨h, h100⟩ := hbig
    have e1 : decide (40 < (n : Int)) = false := decide_eq_false (by omega)
    have e1' : decide (40 < n) = false := decide_eq_false (by omega)
    have e2 : decide (100 < (zs.length : Int)) = false := decide_eq_false (by omega)
    have e2' : decide (100 < zs.length) = false := decide_eq_false (by omega)
    obtain ⟨i0, hi0, hz0, hz1, hz2⟩ := info_parts byte_info
    obtain ⟨k0, hk0, kz0, kz1, kz2⟩ := info_parts tok_info
    have HL := Lib.hid hln
    have HR := Lib.hid hr
    have HLi := Lib.hid lines_start
    have hLy := Ly.start w
    clear hln hr
    go_enter Tryd.func7, Tryd.ntmps7
    go_wp2_with fail
    go_loopw [5, 6, 7, 8] (fun pv lv tv iv wr => ∃ (k : Nat) (A1 : Option Addr) (C1 : Nat) (u : ByteArray) (A2 : Option Addr) (C2 : Nat) (v : ByteArray) (A3 : Option Addr) (C3 : Nat) (T : List Tk), iv = .int .i64 k ∧ k ≤ n ∧ pv = .slice A1 u.size C1 ∧ lv = .slice A2 v.size C2 ∧ tv = .slice A3 T.length C3 ∧ Ly w wr A1 C1 u A2 C2 v A3 C3 T ∧ Hid (Lines u v T) ∧ u.size ≤ 1300 * k ∧ v.size ≤ 1300 * k ∧ T.length ≤ 50 * k) (fun _ _ _ iv _ => n - (intOf iv).toNat)
    case atStart => exact ⟨0, none, 0, ⟨#[]⟩, none, 0, ⟨#[]⟩, none, 0, [], rfl, Nat.zero_le _, rfl, rfl, rfl, hLy, HLi, Nat.le_refl _, Nat.le_refl _, Nat.le_refl _⟩
    case round =>
      obtain ⟨k, A1, C1, u, A2, C2, v, A3, C3, T, rfl, hk, rfl, rfl, rfl, hly, hLi, hus, hvs, hTs⟩ := hrel
      clear hLy HLi
      by_cases hlt : k < n
      · have o1 : decide ((k : Int) < (n : Int)) = true := decide_eq_true (by omega)
        have o2 : decide (k < n) = true := decide_eq_true hlt
        obtain ⟨b, off, Ai, m, cm, hA, hc, hmc, hcm, hPc⟩ := HL.out k hlt
        subst hA
        have hcr := cell_later hly.hb hc
        have hblt : b < w.heap.size := World.block_lt_of_cell? w _ hc
        have hblr : b < wr.heap.size := by have := hly.hb.size; omega
        have HP := Lib.hid hPc
        clear hPc hc
        by_cases h40 : m ≤ 40
        · have f1 : decide (40 < (m : Int)) = false := decide_eq_false (by omega)
          have f1' : decide (40 < m) = false := decide_eq_false (by omega)
          by_cases h0 : m = 0
          · subst h0
            go_wp2_with fail
            go_roundw
            case rel => exact ⟨k + 1, A1, C1, u, A2, C2, v, A3, C3, T, by go_num, by omega, rfl, rfl, rfl, hly, hLi, by omega, by omega, by omega⟩
            case measure => simp [intOf]; omega
          · have f2 : ((m : Int) == 0) = false := by simp; omega
            have f2' : (m == 0) = false := by simp; omega
            unfold maxLen at hcm
            go_wp2_with fail
            go_loopw [5, 6, 7, 10] (fun pv lv tv qv wi => ∃ (q : Nat) (A1' : Option Addr) (C1' : Nat) (u' : ByteArray) (A2' : Option Addr) (C2' : Nat) (v' : ByteArray) (A3' : Option Addr) (C3' : Nat) (T' : List Tk), qv = .int .i64 q ∧ q ≤ m ∧ pv = .slice A1' u'.size C1' ∧ lv = .slice A2' v'.size C2' ∧ tv = .slice A3' T'.length C3' ∧ Ly w wi A1' C1' u' A2' C2' v' A3' C3' T' ∧ Hid (InLine q u' v' T') ∧ u'.size ≤ 1300 * k + 30 * q ∧ v'.size ≤ 1300 * k + 30 * q ∧ T'.length ≤ 50 * k + q) (fun _ _ _ qv _ => m - (intOf qv).toNat)
            case atStart => exact ⟨0, A1, C1, u, A2, C2, v, A3, C3, T, rfl, Nat.zero_le _, rfl, rfl, rfl, hly, Lib.hid (.inl ⟨rfl, hLi.out⟩), by omega, by omega, by omega⟩
            case round =>
              obtain ⟨q, A1', C1', u', A2', C2', v', A3', C3', T', rfl, hq, rfl, rfl, rfl, hlyi, hIn, hus', hvs', hTs'⟩ := hrel
              clear hly hLi hus hvs hTs hcr hblr hblt
              by_cases hqm : q < m
              · have p1 : decide ((q : Int) < (m : Int)) = true := decide_eq_true (by omega)
                have p2 : decide (q < m) = true := decide_eq_true hqm
                obtain ⟨b2, off2, x, y, z, hAi, hx, hy, hzz, ylo, yhi⟩ := HP.out q hqm
                subst hAi
                have hx2 := cell_later hlyi.hb hx
                have hy2 := cell_later hlyi.hb hy
                have hz2' := cell_later hlyi.hb hzz
                have hb2lt : b2 < w.heap.size := World.block_lt_of_cell? w _ hx
                have hb2r : b2 < wr.heap.size := by have := hlyi.hb.size; omega
                have hus2 : u'.size ≤ 60000 := by omega
                have hvs2 : v'.size ≤ 60000 := by omega
                have hTs2 : T'.length ≤ 3000 := by omega
                have HW := Lib.hid (fun W => word_ok x y z W ylo yhi)
                clear hx hy ylo yhi
                by_cases hq0 : q = 0
                · have q1 : decide (0 < (q : Int)) = false := decide_eq_false (by omega)
                  have q2 : decide (0 < q) = false := decide_eq_false (by omega)
                  have hLi : Hid (Lines u' v' T') := by
                    rcases hIn.out with ⟨_, h1⟩ | ⟨h1, _⟩
                    · exact Lib.hid h1
                    · omega
                  clear hIn hq0
                  go_wp2_with (first
                    | (go_at_call 16; refine (HW.out _).mono ?_; rintro e w5 ⟨s, t, kk, rfl, hp, hb5⟩; have hly6 := (hlyi.later hb5).later ((Below.refl _ _).alloc (Nat.le_refl _) (.cells #[.int .i64 kk, .string t, .int .i64 0] 35)); have hB6 : Bx (w5.alloc (.cells #[.int .i64 kk, .string t, .int .i64 0] 35)) w5.heap.size kk t := heap_alloc_new w5 _; have hs20 : s.size ≤ 20 := hp.l2; have HPo := Lib.hid hp; clear hp)
                    | (at_builtin; refine wpList_app_str _ rfl _ _ 22 9 rfl w.heap.size 5 i0 Tryd.underlying22 Tryd.underlying9 hi0 hz0 hz1 hz2 (.slice A1' u'.size C1') u'.size _ rfl (hly6).op s rfl (by unfold maxLen; omega) (by omega) (hly6).hb.size ?_; intro vp wp hownp hgrp hatp; obtain ⟨Up, Ap, Cp, rfl, hUp, hUsp, hlyp⟩ := (hly6).appP (s := s) hownp rfl hgrp hatp; clear hownp hatp; have hBp := (hB6).grown (hly6).op hgrp)
                    | (at_builtin; refine wpList_app_str _ rfl _ _ 22 9 rfl w.heap.size 5 i0 Tryd.underlying22 Tryd.underlying9 hi0 hz0 hz1 hz2 (.slice A2' v'.size C2') v'.size _ rfl (hlyp).ol s rfl (by unfold maxLen; omega) (by omega) (hlyp).hb.size ?_; intro vl wl hownl hgrl hatl; obtain ⟨Ul, Al, Cl, rfl, hUl, hUsl, hlyl⟩ := (hlyp).appL (s := s) hownl rfl hgrl hatl; clear hownl hatl; have hBl := hBp.grown hlyp.ol hgrl; obtain ⟨bc0, bc1, bc2⟩ := hBl.cells)
                    | (at_builtin; have hqt := (hlyl).later ((Below.refl _ _).alloc (Nat.le_refl _) (.cells #[.int .i64 kk, .string t, .int .i64 0] 35)); refine wpList_append_lies _ rfl _ _ 24 rfl w.heap.size 35 k0 _ 3 32 Tryd.underlying24 hk0 kz0 kz1 kz2 rfl (by decide) (.slice A3' T'.length C3') T'.length (tkVs T') rfl hqt.ow ⟨wl.heap.size, 0, none⟩ 1 1 [.int .i64 kk, .string t, .int .i64 0] rfl rfl (World.news_of_block (cs := #[.int .i64 kk, .string t, .int .i64 0]) (t := 35) (fr := (0, 0)) (heap_alloc_new wl _)) (by simp [Value.oneCell']) (by decide) (by unfold maxLen; omega) (by omega) hqt.hb.size (wl.heap.size + 1) (by simp) ?_; intro gt ct wt hownt hgrt hatt hltt))
                  go_roundw
                  case rel =>
                    refine ⟨q + 1, Ap, Cp, Up, Al, Cl, Ul, some ⟨gt, 0, none⟩, ct, T' ++ [⟨kk, t.data.toList, 0⟩], by go_num, by omega, rfl, rfl, by simp, hqt.appT hgrt (by rw [List.length_append, tkVs_snoc, tkV_of]; exact hownt), Lib.hid (.inr ⟨by omega, ?_⟩), by omega, by omega, by simp; omega⟩
                    rw [hUp.out, hUl.out]
                    exact hLi.out.piece HPo.out
                  case measure => simp [intOf]; omega
                · have hMi : Hid (Mids u' v' T') := by
                    rcases hIn.out with ⟨h1, _⟩ | ⟨_, h1⟩
                    · omega
                    · exact Lib.hid h1
                  clear hIn
                  have q1 : decide (0 < (q : Int)) = true := decide_eq_true (by omega)
                  have q2 : decide (0 < q) = true := decide_eq_true (by omega)
                  go_wp2_with (first
                    | (go_at_call 16; refine (HW.out _).mono ?_; rintro e w5 ⟨s, t, kk, rfl, hp, hb5⟩; have hly6 := (hlyi.later hb5).later ((Below.refl _ _).alloc (Nat.le_refl _) (.cells #[.int .i64 kk, .string t, .int .i64 0] 35)); have hB6 : Bx (w5.alloc (.cells #[.int .i64 kk, .string t, .int .i64 0] 35)) w5.heap.size kk t := heap_alloc_new w5 _; have hs20 : s.size ≤ 20 := hp.l2; have HPo := Lib.hid hp; clear hp)
                    | (at_builtin; have hq7 := (hly6).later ((Below.refl _ _).alloc (Nat.le_refl _) (.cells #[.int .u8 32] 5)); refine wpList_append_lies _ rfl _ _ 22 rfl w.heap.size 5 i0 _ 1 1 Tryd.underlying22 hi0 hz0 hz1 hz2 rfl (by decide) (.slice A1' u'.size C1') u'.size (Lib.strCells u') rfl hq7.op ⟨w5.heap.size + 1, 0, none⟩ 1 1 [.int .u8 32] rfl rfl (fun j x hx => by simpa using World.news_of_block (cs := #[.int .u8 32]) (t := 5) (fr := (0, 0)) (heap_alloc_new (w5.alloc (.cells #[.int .i64 kk, .string t, .int .i64 0] 35)) _) j x hx) (by simp [Value.oneCell']) (by decide) (by unfold maxLen; omega) (by omega) hq7.hb.size (w5.heap.size + 1 + 1) (by simp) ?_; intro g7 c7 w7 hown7 hgr7 hat7 hlt7; obtain ⟨U7, A7, C7, hv7, hU7, hUs7, hly7⟩ := hq7.appP (s := ⟨#[32]⟩) hown7 rfl hgr7 (by have := at_of (n := u'.size + 1) (c := c7) hat7; simpa using this); rw [hv7]; clear hv7 hown7 hat7; rw [show (⟨#[32]⟩ : ByteArray).size = 1 from rfl] at hUs7; have hB7 := (hB6.later ((Below.refl _ _).alloc (Nat.le_refl _) (.cells #[.int .u8 32] 5))).grown hq7.op hgr7)
                    | (at_builtin; have hq8 := (hly7).later ((Below.refl _ _).alloc (Nat.le_refl _) (.cells #[.int .u8 32] 5)); refine wpList_append_lies _ rfl _ _ 22 rfl w.heap.size 5 i0 _ 1 1 Tryd.underlying22 hi0 hz0 hz1 hz2 rfl (by decide) (.slice A2' v'.size C2') v'.size (Lib.strCells v') rfl hq8.ol ⟨w7.heap.size, 0, none⟩ 1 1 [.int .u8 32] rfl rfl (World.news_of_block (cs := #[.int .u8 32]) (t := 5) (fr := (0, 0)) (heap_alloc_new w7 _)) (by simp [Value.oneCell']) (by decide) (by unfold maxLen; omega) (by omega) hq8.hb.size (w7.heap.size + 1) (by simp) ?_; intro g8 c8 w8 hown8 hgr8 hat8 hlt8; obtain ⟨U8, A8, C8, hv8, hU8, hUs8, hly8⟩ := hq8.appL (s := ⟨#[32]⟩) hown8 rfl hgr8 (by have := at_of (n := v'.size + 1) (c := c8) hat8; simpa using this); rw [hv8]; clear hv8 hown8 hat8; rw [show (⟨#[32]⟩ : ByteArray).size = 1 from rfl] at hUs8; have hB8 := (hB7.later ((Below.refl _ _).alloc (Nat.le_refl _) (.cells #[.int .u8 32] 5))).grown hq8.ol hgr8))
                  go_loopw [6, 13] (fun lv jv wj => ∃ (j : Nat) (A4 : Option Addr) (C4 : Nat) (v4 : ByteArray), jv = .int .i64 j ∧ j ≤ 9 ∧ lv = .slice A4 v4.size C4 ∧ Ly w wj A7 C7 U7 A4 C4 v4 A3' C3' T' ∧ Bx wj w5.heap.size kk t ∧ Hid (Spcs U7 v4 T') ∧ v4.size ≤ v'.size + 1 + j) (fun _ jv _ => 9 - (intOf jv).toNat)
                  case atStart => exact ⟨0, A8, C8, U8, rfl, by omega, rfl, hly8, hB8, Lib.hid (by rw [hU7.out, hU8.out]; exact hMi.out.sp), by omega⟩
                  case round =>
                    obtain ⟨j, A4, C4, v4, rfl, hj, rfl, hlyj, hBj, hSp, hv4⟩ := hrel
                    clear hly8 hB8 hly7 hB7 hly6 hB6
                    have hz4 := cell_later hlyj.hb hzz
                    have hb2j : b2 < wr.heap.size := by have := hlyj.hb.size; omega
                    have hv42 : v4.size ≤ 60010 := by omega
                    have hU72 : U7.size ≤ 60001 := by omega
                    by_cases hgo : (j : Int) < z ∧ j < 9
                    · obtain ⟨g1, g2⟩ := hgo
                      have r1 : decide ((j : Int) < z) = true := decide_eq_true g1
                      have r2 : decide ((j : Int) < 9) = true := decide_eq_true (by omega)
                      have r3 : decide (j < 9) = true := decide_eq_true g2
                      go_wp2_with (at_builtin; have hq9 := (hlyj).later ((Below.refl _ _).alloc (Nat.le_refl _) (.cells #[.int .u8 32] 5)); refine wpList_append_lies _ rfl _ _ 22 rfl w.heap.size 5 i0 _ 1 1 Tryd.underlying22 hi0 hz0 hz1 hz2 rfl (by decide) (.slice A4 v4.size C4) v4.size (Lib.strCells v4) rfl hq9.ol ⟨wr.heap.size, 0, none⟩ 1 1 [.int .u8 32] rfl rfl (World.news_of_block (cs := #[.int .u8 32]) (t := 5) (fr := (0, 0)) (heap_alloc_new wr _)) (by simp [Value.oneCell']) (by decide) (by unfold maxLen; omega) (by omega) hq9.hb.size (wr.heap.size + 1) (by simp) ?_; intro g9 c9 w9 hown9 hgr9 hat9 hlt9; obtain ⟨U9, A9, C9, hv9, hU9, hUs9, hly9⟩ := hq9.appL (s := ⟨#[32]⟩) hown9 rfl hgr9 (by have := at_of (n := v4.size + 1) (c := c9) hat9; simpa using this); rw [hv9]; clear hv9 hown9 hat9; rw [show (⟨#[32]⟩ : ByteArray).size = 1 from rfl] at hUs9; have hB9 := (hBj.later ((Below.refl _ _).alloc (Nat.le_refl _) (.cells #[.int .u8 32] 5))).grown hq9.ol hgr9)
                      go_roundw
                      case rel => exact ⟨j + 1, A9, C9, U9, by go_num, by omega, rfl, hly9, hB9, Lib.hid (by rw [hU9.out]; exact hSp.out.sp), by omega⟩
                      case measure => simp [intOf]; omega
                    · rcases (by omega : (¬ (j : Int) < z) ∨ ((j : Int) < z ∧ ¬ j < 9)) with g1 | ⟨g1, g2⟩
                      · have r1 : decide ((j : Int) < z) = false := decide_eq_false g1
                        clear hgo
                        go_wp2_with (first
                          | (at_builtin; refine wpList_app_str _ rfl _ _ 22 9 rfl w.heap.size 5 i0 Tryd.underlying22 Tryd.underlying9 hi0 hz0 hz1 hz2 (.slice A7 U7.size C7) U7.size _ rfl (hlyj).op s rfl (by unfold maxLen; omega) (by omega) (hlyj).hb.size ?_; intro vp wp hownp hgrp hatp; obtain ⟨Up, Ap, Cp, rfl, hUp, hUsp, hlyp⟩ := (hlyj).appP (s := s) hownp rfl hgrp hatp; clear hownp hatp; have hBp := (hBj).grown (hlyj).op hgrp)
                          | (at_builtin; refine wpList_app_str _ rfl _ _ 22 9 rfl w.heap.size 5 i0 Tryd.underlying22 Tryd.underlying9 hi0 hz0 hz1 hz2 (.slice A4 v4.size C4) v4.size _ rfl (hlyp).ol s rfl (by unfold maxLen; omega) (by omega) (hlyp).hb.size ?_; intro vl wl hownl hgrl hatl; obtain ⟨Ul, Al, Cl, rfl, hUl, hUsl, hlyl⟩ := (hlyp).appL (s := s) hownl rfl hgrl hatl; clear hownl hatl; have hBl := hBp.grown hlyp.ol hgrl; obtain ⟨bc0, bc1, bc2⟩ := hBl.cells)
                          | (at_builtin; have hqt := (hlyl).later ((Below.refl _ _).alloc (Nat.le_refl _) (.cells #[.int .i64 kk, .string t, .int .i64 0] 35)); refine wpList_append_lies _ rfl _ _ 24 rfl w.heap.size 35 k0 _ 3 32 Tryd.underlying24 hk0 kz0 kz1 kz2 rfl (by decide) (.slice A3' T'.length C3') T'.length (tkVs T') rfl hqt.ow ⟨wl.heap.size, 0, none⟩ 1 1 [.int .i64 kk, .string t, .int .i64 0] rfl rfl (World.news_of_block (cs := #[.int .i64 kk, .string t, .int .i64 0]) (t := 35) (fr := (0, 0)) (heap_alloc_new wl _)) (by simp [Value.oneCell']) (by decide) (by unfold maxLen; omega) (by omega) hqt.hb.size (wl.heap.size + 1) (by simp) ?_; intro gt ct wt hownt hgrt hatt hltt))
                        go_roundw
                        case rel =>
                          refine ⟨q + 1, Ap, Cp, Up, Al, Cl, Ul, some ⟨gt, 0, none⟩, ct, T' ++ [⟨kk, t.data.toList, 0⟩], by go_num, by omega, rfl, rfl, by simp, hqt.appT hgrt (by rw [List.length_append, tkVs_snoc, tkV_of]; exact hownt), Lib.hid (.inr ⟨by omega, ?_⟩), by omega, by omega, by simp; omega⟩
                          rw [hUp.out, hUl.out]
                          exact hSp.out.piece HPo.out
                        case measure => simp [intOf]; omega
                      · have r1 : decide ((j : Int) < z) = true := decide_eq_true g1
                        have r2 : decide ((j : Int) < 9) = false := decide_eq_false (by omega)
                        have r3 : decide (j < 9) = false := decide_eq_false g2
                        clear hgo
                        go_wp2_with (first
                          | (at_builtin; refine wpList_app_str _ rfl _ _ 22 9 rfl w.heap.size 5 i0 Tryd.underlying22 Tryd.underlying9 hi0 hz0 hz1 hz2 (.slice A7 U7.size C7) U7.size _ rfl (hlyj).op s rfl (by unfold maxLen; omega) (by omega) (hlyj).hb.size ?_; intro vp wp hownp hgrp hatp; obtain ⟨Up, Ap, Cp, rfl, hUp, hUsp, hlyp⟩ := (hlyj).appP (s := s) hownp rfl hgrp hatp; clear hownp hatp; have hBp := (hBj).grown (hlyj).op hgrp)
                          | (at_builtin; refine wpList_app_str _ rfl _ _ 22 9 rfl w.heap.size 5 i0 Tryd.underlying22 Tryd.underlying9 hi0 hz0 hz1 hz2 (.slice A4 v4.size C4) v4.size _ rfl (hlyp).ol s rfl (by unfold maxLen; omega) (by omega) (hlyp).hb.size ?_; intro vl wl hownl hgrl hatl; obtain ⟨Ul, Al, Cl, rfl, hUl, hUsl, hlyl⟩ := (hlyp).appL (s := s) hownl rfl hgrl hatl; clear hownl hatl; have hBl := hBp.grown hlyp.ol hgrl; obtain ⟨bc0, bc1, bc2⟩ := hBl.cells)
                          | (at_builtin; have hqt := (hlyl).later ((Below.refl _ _).alloc (Nat.le_refl _) (.cells #[.int .i64 kk, .string t, .int .i64 0] 35)); refine wpList_append_lies _ rfl _ _ 24 rfl w.heap.size 35 k0 _ 3 32 Tryd.underlying24 hk0 kz0 kz1 kz2 rfl (by decide) (.slice A3' T'.length C3') T'.length (tkVs T') rfl hqt.ow ⟨wl.heap.size, 0, none⟩ 1 1 [.int .i64 kk, .string t, .int .i64 0] rfl rfl (World.news_of_block (cs := #[.int .i64 kk, .string t, .int .i64 0]) (t := 35) (fr := (0, 0)) (heap_alloc_new wl _)) (by simp [Value.oneCell']) (by decide) (by unfold maxLen; omega) (by omega) hqt.hb.size (wl.heap.size + 1) (by simp) ?_; intro gt ct wt hownt hgrt hatt hltt))
                        go_roundw
                        case rel =>
                          refine ⟨q + 1, Ap, Cp, Up, Al, Cl, Ul, some ⟨gt, 0, none⟩, ct, T' ++ [⟨kk, t.data.toList, 0⟩], by go_num, by omega, rfl, rfl, by simp, hqt.appT hgrt (by rw [List.length_append, tkVs_snoc, tkV_of]; exact hownt), Lib.hid (.inr ⟨by omega, ?_⟩), by omega, by omega, by simp; omega⟩
                          rw [hUp.out, hUl.out]
                          exact hSp.out.piece HPo.out
                        case measure => simp [intOf]; omega
              · have p1 : decide ((q : Int) < (m : Int)) = false := decide_eq_false (by omega)
                have p2 : decide (q < m) = false := decide_eq_false hqm
                have hMi : Hid (Mids u' v' T') := by
                  rcases hIn.out with ⟨h1, _⟩ | ⟨_, h1⟩
                  · omega
                  · exact Lib.hid h1
                have hus2 : u'.size ≤ 60000 := by omega
                have hvs2 : v'.size ≤ 60000 := by omega
                have hTs2 : T'.length ≤ 3000 := by omega
                clear hIn
                by_cases hkr : k < zs.length
                · have s1 : decide ((k : Int) < (zs.length : Int)) = true := decide_eq_true (by omega)
                  have s2 : decide (k < zs.length) = true := decide_eq_true hkr
                  obtain ⟨b3, off3, z3, hR3, hz3, hc3⟩ := HR.out k hkr
                  subst hR3
                  clear hz3
                  have hb3w : b3 < w.heap.size := World.block_lt_of_cell? w _ hc3
                  have hc3i := cell_later hlyi.hb hc3
                  have hb3i : b3 < wr.heap.size := by have := hlyi.hb.size; omega
                  by_cases n1 : bits BinOp.and IntKind.i64 z3 1 = 1
                  · have n1' : (bits BinOp.and IntKind.i64 z3 1 == 1) = true := by rw [n1]; rfl
                    by_cases n2 : bits BinOp.and IntKind.i64 z3 2 = 2
                    · have n2' : (bits BinOp.and IntKind.i64 z3 2 == 2) = true := by rw [n2]; rfl
                      go_wp2_with (first
                        | (at_builtin; refine wpList_app_str _ rfl _ _ 22 9 rfl w.heap.size 5 i0 Tryd.underlying22 Tryd.underlying9 hi0 hz0 hz1 hz2 (.slice A2' v'.size C2') v'.size _ rfl (hlyi).ol ⟨#[32, 35, 32, 39, 120, 255, 9, 105, 102]⟩ rfl (by unfold maxLen; show v'.size + 9 ≤ _; omega) (by show v'.size + 9 ≤ _; omega) (hlyi).hb.size ?_; intro va wa howna hgra hata; obtain ⟨Ua, Aa, Ca, rfl, hUa, hUsa, hlya⟩ := (hlyi).appL (s := ⟨#[32, 35, 32, 39, 120, 255, 9, 105, 102]⟩) howna rfl hgra hata; clear howna hata; rw [show (⟨#[32, 35, 32, 39, 120, 255, 9, 105, 102]⟩ : ByteArray).size = 9 from rfl] at hUsa)
                        | (at_builtin; have hqb := (hlya).later ((Below.refl _ _).alloc (Nat.le_refl _) (.cells #[.int .u8 10] 5)); refine wpList_append_lies _ rfl _ _ 22 rfl w.heap.size 5 i0 _ 1 1 Tryd.underlying22 hi0 hz0 hz1 hz2 rfl (by decide) (.slice A1' u'.size C1') u'.size (Lib.strCells u') rfl hqb.op ⟨wa.heap.size, 0, none⟩ 1 1 [.int .u8 10] rfl rfl (World.news_of_block (cs := #[.int .u8 10]) (t := 5) (fr := (0, 0)) (heap_alloc_new wa _)) (by simp [Value.oneCell']) (by decide) (by unfold maxLen; omega) (by omega) hqb.hb.size (wa.heap.size + 1) (by simp) ?_; intro gb cb wb hownb hgrb hatb hltb; obtain ⟨Ub, Ab, Cb, hvb, hUb, hUsb, hlyb⟩ := hqb.appP (s := ⟨#[10]⟩) hownb rfl hgrb (by have := at_of (n := u'.size + 1) (c := cb) hatb; simpa using this); rw [hvb]; clear hvb hownb hatb; rw [show (⟨#[10]⟩ : ByteArray).size = 1 from rfl] at hUsb)
                        | (at_builtin; have hqc := (hlyb).later ((Below.refl _ _).alloc (Nat.le_refl _) (.cells #[.int .u8 10] 5)); refine wpList_append_lies _ rfl _ _ 22 rfl w.heap.size 5 i0 _ 1 1 Tryd.underlying22 hi0 hz0 hz1 hz2 rfl (by decide) (.slice Aa Ua.size Ca) Ua.size (Lib.strCells Ua) rfl hqc.ol ⟨wb.heap.size, 0, none⟩ 1 1 [.int .u8 10] rfl rfl (World.news_of_block (cs := #[.int .u8 10]) (t := 5) (fr := (0, 0)) (heap_alloc_new wb _)) (by simp [Value.oneCell']) (by decide) (by unfold maxLen; omega) (by omega) hqc.hb.size (wb.heap.size + 1) (by simp) ?_; intro gc cc wc hownc hgrc hatc hltc; obtain ⟨Uc, Ac, Cc, hvc, hUc, hUsc, hlyc⟩ := hqc.appL (s := ⟨#[10]⟩) hownc rfl hgrc (by have := at_of (n := Ua.size + 1) (c := cc) hatc; simpa using this); rw [hvc]; clear hvc hownc hatc; rw [show (⟨#[10]⟩ : ByteArray).size = 1 from rfl] at hUsc; have hc3c := cell_later hlyc.hb hc3; have hb3c : b3 < wc.heap.size := Nat.lt_of_lt_of_le hb3w hlyc.hb.size)
                        | (at_builtin; refine wpList_app_str _ rfl _ _ 22 9 rfl w.heap.size 5 i0 Tryd.underlying22 Tryd.underlying9 hi0 hz0 hz1 hz2 (.slice Ac Uc.size Cc) Uc.size _ rfl (hlyc).ol ⟨#[32, 32, 32, 35, 32, 40, 10, 10, 32, 32, 10]⟩ rfl (by unfold maxLen; show Uc.size + 11 ≤ _; omega) (by show Uc.size + 11 ≤ _; omega) (hlyc).hb.size ?_; intro vd wd hownd hgrd hatd; obtain ⟨Ud, Ad, Cd, rfl, hUd, hUsd, hlyd⟩ := (hlyc).appL (s := ⟨#[32, 32, 32, 35, 32, 40, 10, 10, 32, 32, 10]⟩) hownd rfl hgrd hatd; clear hownd hatd; rw [show (⟨#[32, 32, 32, 35, 32, 40, 10, 10, 32, 32, 10]⟩ : ByteArray).size = 11 from rfl] at hUsd)
                        | (at_builtin; have hqt := (hlyd).later ((Below.refl _ _).alloc (Nat.le_refl _) (.cells #[.int .i64 6, .string ⟨#[]⟩, .int .i64 0] 35)); refine wpList_append_lies _ rfl _ _ 24 rfl w.heap.size 35 k0 _ 3 32 Tryd.underlying24 hk0 kz0 kz1 kz2 rfl (by decide) (.slice A3' T'.length C3') T'.length (tkVs T') rfl hqt.ow ⟨wd.heap.size, 0, none⟩ 1 1 [.int .i64 6, .string ⟨#[]⟩, .int .i64 0] rfl rfl (World.news_of_block (cs := #[.int .i64 6, .string ⟨#[]⟩, .int .i64 0]) (t := 35) (fr := (0, 0)) (heap_alloc_new wd _)) (by simp [Value.oneCell']) (by decide) (by unfold maxLen; omega) (by omega) hqt.hb.size (wd.heap.size + 1) (by simp) ?_; intro gt ct wt hownt hgrt hatt hltt))
                      go_roundw
                      case rel =>
                        refine ⟨k + 1, Ab, Cb, Ub, Ad, Cd, Ud, some ⟨gt, 0, none⟩, ct, T' ++ [⟨6, [], 0⟩], by go_num, by omega, rfl, rfl, by simp, hqt.appT hgrt (by rw [List.length_append, tkVs_snoc]; exact hownt), Lib.hid ?_, by omega, by omega, by simp; omega⟩
                        rw [hUd.out, hUb.out, hUc.out, hUa.out]
                        exact (hMi.out.rem).nl.gap
                      case measure => simp [intOf]; omega
                    · have n2' : (bits BinOp.and IntKind.i64 z3 2 == 2) = false := by simpa using n2
                      go_wp2_with (first
                        | (at_builtin; refine wpList_app_str _ rfl _ _ 22 9 rfl w.heap.size 5 i0 Tryd.underlying22 Tryd.underlying9 hi0 hz0 hz1 hz2 (.slice A2' v'.size C2') v'.size _ rfl (hlyi).ol ⟨#[32, 35, 32, 39, 120, 255, 9, 105, 102]⟩ rfl (by unfold maxLen; show v'.size + 9 ≤ _; omega) (by show v'.size + 9 ≤ _; omega) (hlyi).hb.size ?_; intro va wa howna hgra hata; obtain ⟨Ua, Aa, Ca, rfl, hUa, hUsa, hlya⟩ := (hlyi).appL (s := ⟨#[32, 35, 32, 39, 120, 255, 9, 105, 102]⟩) howna rfl hgra hata; clear howna hata; rw [show (⟨#[32, 35, 32, 39, 120, 255, 9, 105, 102]⟩ : ByteArray).size = 9 from rfl] at hUsa)
                        | (at_builtin; have hqb := (hlya).later ((Below.refl _ _).alloc (Nat.le_refl _) (.cells #[.int .u8 10] 5)); refine wpList_append_lies _ rfl _ _ 22 rfl w.heap.size 5 i0 _ 1 1 Tryd.underlying22 hi0 hz0 hz1 hz2 rfl (by decide) (.slice A1' u'.size C1') u'.size (Lib.strCells u') rfl hqb.op ⟨wa.heap.size, 0, none⟩ 1 1 [.int .u8 10] rfl rfl (World.news_of_block (cs := #[.int .u8 10]) (t := 5) (fr := (0, 0)) (heap_alloc_new wa _)) (by simp [Value.oneCell']) (by decide) (by unfold maxLen; omega) (by omega) hqb.hb.size (wa.heap.size + 1) (by simp) ?_; intro gb cb wb hownb hgrb hatb hltb; obtain ⟨Ub, Ab, Cb, hvb, hUb, hUsb, hlyb⟩ := hqb.appP (s := ⟨#[10]⟩) hownb rfl hgrb (by have := at_of (n := u'.size + 1) (c := cb) hatb; simpa using this); rw [hvb]; clear hvb hownb hatb; rw [show (⟨#[10]⟩ : ByteArray).size = 1 from rfl] at hUsb)
                        | (at_builtin; have hqc := (hlyb).later ((Below.refl _ _).alloc (Nat.le_refl _) (.cells #[.int .u8 10] 5)); refine wpList_append_lies _ rfl _ _ 22 rfl w.heap.size 5 i0 _ 1 1 Tryd.underlying22 hi0 hz0 hz1 hz2 rfl (by decide) (.slice Aa Ua.size Ca) Ua.size (Lib.strCells Ua) rfl hqc.ol ⟨wb.heap.size, 0, none⟩ 1 1 [.int .u8 10] rfl rfl (World.news_of_block (cs := #[.int .u8 10]) (t := 5) (fr := (0, 0)) (heap_alloc_new wb _)) (by simp [Value.oneCell']) (by decide) (by unfold maxLen; omega) (by omega) hqc.hb.size (wb.heap.size + 1) (by simp) ?_; intro gc cc wc hownc hgrc hatc hltc; obtain ⟨Uc, Ac, Cc, hvc, hUc, hUsc, hlyc⟩ := hqc.appL (s := ⟨#[10]⟩) hownc rfl hgrc (by have := at_of (n := Ua.size + 1) (c := cc) hatc; simpa using this); rw [hvc]; clear hvc hownc hatc; rw [show (⟨#[10]⟩ : ByteArray).size = 1 from rfl] at hUsc; have hc3c := cell_later hlyc.hb hc3; have hb3c : b3 < wc.heap.size := Nat.lt_of_lt_of_le hb3w hlyc.hb.size)
                        | (at_builtin; have hqt := (hlyc).later ((Below.refl _ _).alloc (Nat.le_refl _) (.cells #[.int .i64 6, .string ⟨#[]⟩, .int .i64 0] 35)); refine wpList_append_lies _ rfl _ _ 24 rfl w.heap.size 35 k0 _ 3 32 Tryd.underlying24 hk0 kz0 kz1 kz2 rfl (by decide) (.slice A3' T'.length C3') T'.length (tkVs T') rfl hqt.ow ⟨wc.heap.size, 0, none⟩ 1 1 [.int .i64 6, .string ⟨#[]⟩, .int .i64 0] rfl rfl (World.news_of_block (cs := #[.int .i64 6, .string ⟨#[]⟩, .int .i64 0]) (t := 35) (fr := (0, 0)) (heap_alloc_new wc _)) (by simp [Value.oneCell']) (by decide) (by unfold maxLen; omega) (by omega) hqt.hb.size (wc.heap.size + 1) (by simp) ?_; intro gt ct wt hownt hgrt hatt hltt))
                      go_roundw
                      case rel =>
                        refine ⟨k + 1, Ab, Cb, Ub, Ac, Cc, Uc, some ⟨gt, 0, none⟩, ct, T' ++ [⟨6, [], 0⟩], by go_num, by omega, rfl, rfl, by simp, hqt.appT hgrt (by rw [List.length_append, tkVs_snoc]; exact hownt), Lib.hid ?_, by omega, by omega, by simp; omega⟩
                        rw [hUb.out, hUc.out, hUa.out]
                        exact (hMi.out.rem).nl
                      case measure => simp [intOf]; omega
                  · have n1' : (bits BinOp.and IntKind.i64 z3 1 == 1) = false := by simpa using n1
                    by_cases n2 : bits BinOp.and IntKind.i64 z3 2 = 2
                    · have n2' : (bits BinOp.and IntKind.i64 z3 2 == 2) = true := by rw [n2]; rfl
                      go_wp2_with (first
                        | (at_builtin; have hqb := (hlyi).later ((Below.refl _ _).alloc (Nat.le_refl _) (.cells #[.int .u8 10] 5)); refine wpList_append_lies _ rfl _ _ 22 rfl w.heap.size 5 i0 _ 1 1 Tryd.underlying22 hi0 hz0 hz1 hz2 rfl (by decide) (.slice A1' u'.size C1') u'.size (Lib.strCells u') rfl hqb.op ⟨wr.heap.size, 0, none⟩ 1 1 [.int .u8 10] rfl rfl (World.news_of_block (cs := #[.int .u8 10]) (t := 5) (fr := (0, 0)) (heap_alloc_new wr _)) (by simp [Value.oneCell']) (by decide) (by unfold maxLen; omega) (by omega) hqb.hb.size (wr.heap.size + 1) (by simp) ?_; intro gb cb wb hownb hgrb hatb hltb; obtain ⟨Ub, Ab, Cb, hvb, hUb, hUsb, hlyb⟩ := hqb.appP (s := ⟨#[10]⟩) hownb rfl hgrb (by have := at_of (n := u'.size + 1) (c := cb) hatb; simpa using this); rw [hvb]; clear hvb hownb hatb; rw [show (⟨#[10]⟩ : ByteArray).size = 1 from rfl] at hUsb)
                        | (at_builtin; have hqc := (hlyb).later ((Below.refl _ _).alloc (Nat.le_refl _) (.cells #[.int .u8 10] 5)); refine wpList_append_lies _ rfl _ _ 22 rfl w.heap.size 5 i0 _ 1 1 Tryd.underlying22 hi0 hz0 hz1 hz2 rfl (by decide) (.slice A2' v'.size C2') v'.size (Lib.strCells v') rfl hqc.ol ⟨wb.heap.size, 0, none⟩ 1 1 [.int .u8 10] rfl rfl (World.news_of_block (cs := #[.int .u8 10]) (t := 5) (fr := (0, 0)) (heap_alloc_new wb _)) (by simp [Value.oneCell']) (by decide) (by unfold maxLen; omega) (by omega) hqc.hb.size (wb.heap.size + 1) (by simp) ?_; intro gc cc wc hownc hgrc hatc hltc; obtain ⟨Uc, Ac, Cc, hvc, hUc, hUsc, hlyc⟩ := hqc.appL (s := ⟨#[10]⟩) hownc rfl hgrc (by have := at_of (n := v'.size + 1) (c := cc) hatc; simpa using this); rw [hvc]; clear hvc hownc hatc; rw [show (⟨#[10]⟩ : ByteArray).size = 1 from rfl] at hUsc; have hc3c := cell_later hlyc.hb hc3; have hb3c : b3 < wc.heap.size := Nat.lt_of_lt_of_le hb3w hlyc.hb.size)
                        | (at_builtin; refine wpList_app_str _ rfl _ _ 22 9 rfl w.heap.size 5 i0 Tryd.underlying22 Tryd.underlying9 hi0 hz0 hz1 hz2 (.slice Ac Uc.size Cc) Uc.size _ rfl (hlyc).ol ⟨#[32, 32, 32, 35, 32, 40, 10, 10, 32, 32, 10]⟩ rfl (by unfold maxLen; show Uc.size + 11 ≤ _; omega) (by show Uc.size + 11 ≤ _; omega) (hlyc).hb.size ?_; intro vd wd hownd hgrd hatd; obtain ⟨Ud, Ad, Cd, rfl, hUd, hUsd, hlyd⟩ := (hlyc).appL (s := ⟨#[32, 32, 32, 35, 32, 40, 10, 10, 32, 32, 10]⟩) hownd rfl hgrd hatd; clear hownd hatd; rw [show (⟨#[32, 32, 32, 35, 32, 40, 10, 10, 32, 32, 10]⟩ : ByteArray).size = 11 from rfl] at hUsd)
                        | (at_builtin; have hqt := (hlyd).later ((Below.refl _ _).alloc (Nat.le_refl _) (.cells #[.int .i64 6, .string ⟨#[]⟩, .int .i64 0] 35)); refine wpList_append_lies _ rfl _ _ 24 rfl w.heap.size 35 k0 _ 3 32 Tryd.underlying24 hk0 kz0 kz1 kz2 rfl (by decide) (.slice A3' T'.length C3') T'.length (tkVs T') rfl hqt.ow ⟨wd.heap.size, 0, none⟩ 1 1 [.int .i64 6, .string ⟨#[]⟩, .int .i64 0] rfl rfl (World.news_of_block (cs := #[.int .i64 6, .string ⟨#[]⟩, .int .i64 0]) (t := 35) (fr := (0, 0)) (heap_alloc_new wd _)) (by simp [Value.oneCell']) (by decide) (by unfold maxLen; omega) (by omega) hqt.hb.size (wd.heap.size + 1) (by simp) ?_; intro gt ct wt hownt hgrt hatt hltt))
                      go_roundw
                      case rel =>
                        refine ⟨k + 1, Ab, Cb, Ub, Ad, Cd, Ud, some ⟨gt, 0, none⟩, ct, T' ++ [⟨6, [], 0⟩], by go_num, by omega, rfl, rfl, by simp, hqt.appT hgrt (by rw [List.length_append, tkVs_snoc]; exact hownt), Lib.hid ?_, by omega, by omega, by simp; omega⟩
                        rw [hUd.out, hUb.out, hUc.out]
                        exact (hMi.out.fins).nl.gap
                      case measure => simp [intOf]; omega
                    · have n2' : (bits BinOp.and IntKind.i64 z3 2 == 2) = false := by simpa using n2
                      go_wp2_with (first
                        | (at_builtin; have hqb := (hlyi).later ((Below.refl _ _).alloc (Nat.le_refl _) (.cells #[.int .u8 10] 5)); refine wpList_append_lies _ rfl _ _ 22 rfl w.heap.size 5 i0 _ 1 1 Tryd.underlying22 hi0 hz0 hz1 hz2 rfl (by decide) (.slice A1' u'.size C1') u'.size (Lib.strCells u') rfl hqb.op ⟨wr.heap.size, 0, none⟩ 1 1 [.int .u8 10] rfl rfl (World.news_of_block (cs := #[.int .u8 10]) (t := 5) (fr := (0, 0)) (heap_alloc_new wr _)) (by simp [Value.oneCell']) (by decide) (by unfold maxLen; omega) (by omega) hqb.hb.size (wr.heap.size + 1) (by simp) ?_; intro gb cb wb hownb hgrb hatb hltb; obtain ⟨Ub, Ab, Cb, hvb, hUb, hUsb, hlyb⟩ := hqb.appP (s := ⟨#[10]⟩) hownb rfl hgrb (by have := at_of (n := u'.size + 1) (c := cb) hatb; simpa using this); rw [hvb]; clear hvb hownb hatb; rw [show (⟨#[10]⟩ : ByteArray).size = 1 from rfl] at hUsb)
                        | (at_builtin; have hqc := (hlyb).later ((Below.refl _ _).alloc (Nat.le_refl _) (.cells #[.int .u8 10] 5)); refine wpList_append_lies _ rfl _ _ 22 rfl w.heap.size 5 i0 _ 1 1 Tryd.underlying22 hi0 hz0 hz1 hz2 rfl (by decide) (.slice A2' v'.size C2') v'.size (Lib.strCells v') rfl hqc.ol ⟨wb.heap.size, 0, none⟩ 1 1 [.int .u8 10] rfl rfl (World.news_of_block (cs := #[.int .u8 10]) (t := 5) (fr := (0, 0)) (heap_alloc_new wb _)) (by simp [Value.oneCell']) (by decide) (by unfold maxLen; omega) (by omega) hqc.hb.size (wb.heap.size + 1) (by simp) ?_; intro gc cc wc hownc hgrc hatc hltc; obtain ⟨Uc, Ac, Cc, hvc, hUc, hUsc, hlyc⟩ := hqc.appL (s := ⟨#[10]⟩) hownc rfl hgrc (by have := at_of (n := v'.size + 1) (c := cc) hatc; simpa using this); rw [hvc]; clear hvc hownc hatc; rw [show (⟨#[10]⟩ : ByteArray).size = 1 from rfl] at hUsc; have hc3c := cell_later hlyc.hb hc3; have hb3c : b3 < wc.heap.size := Nat.lt_of_lt_of_le hb3w hlyc.hb.size)
                        | (at_builtin; have hqt := (hlyc).later ((Below.refl _ _).alloc (Nat.le_refl _) (.cells #[.int .i64 6, .string ⟨#[]⟩, .int .i64 0] 35)); refine wpList_append_lies _ rfl _ _ 24 rfl w.heap.size 35 k0 _ 3 32 Tryd.underlying24 hk0 kz0 kz1 kz2 rfl (by decide) (.slice A3' T'.length C3') T'.length (tkVs T') rfl hqt.ow ⟨wc.heap.size, 0, none⟩ 1 1 [.int .i64 6, .string ⟨#[]⟩, .int .i64 0] rfl rfl (World.news_of_block (cs := #[.int .i64 6, .string ⟨#[]⟩, .int .i64 0]) (t := 35) (fr := (0, 0)) (heap_alloc_new wc _)) (by simp [Value.oneCell']) (by decide) (by unfold maxLen; omega) (by omega) hqt.hb.size (wc.heap.size + 1) (by simp) ?_; intro gt ct wt hownt hgrt hatt hltt))
                      go_roundw
                      case rel =>
                        refine ⟨k + 1, Ab, Cb, Ub, Ac, Cc, Uc, some ⟨gt, 0, none⟩, ct, T' ++ [⟨6, [], 0⟩], by go_num, by omega, rfl, rfl, by simp, hqt.appT hgrt (by rw [List.length_append, tkVs_snoc]; exact hownt), Lib.hid ?_, by omega, by omega, by simp; omega⟩
                        rw [hUb.out, hUc.out]
                        exact (hMi.out.fins).nl
                      case measure => simp [intOf]; omega
                · have s1 : decide ((k : Int) < (zs.length : Int)) = false := decide_eq_false (by omega)
                  have s2 : decide (k < zs.length) = false := decide_eq_false hkr
                  go_wp2_with (first
                    | (at_builtin; have hqb := (hlyi).later ((Below.refl _ _).alloc (Nat.le_refl _) (.cells #[.int .u8 10] 5)); refine wpList_append_lies _ rfl _ _ 22 rfl w.heap.size 5 i0 _ 1 1 Tryd.underlying22 hi0 hz0 hz1 hz2 rfl (by decide) (.slice A1' u'.size C1') u'.size (Lib.strCells u') rfl hqb.op ⟨wr.heap.size, 0, none⟩ 1 1 [.int .u8 10] rfl rfl (World.news_of_block (cs := #[.int .u8 10]) (t := 5) (fr := (0, 0)) (heap_alloc_new wr _)) (by simp [Value.oneCell']) (by decide) (by unfold maxLen; omega) (by omega) hqb.hb.size (wr.heap.size + 1) (by simp) ?_; intro gb cb wb hownb hgrb hatb hltb; obtain ⟨Ub, Ab, Cb, hvb, hUb, hUsb, hlyb⟩ := hqb.appP (s := ⟨#[10]⟩) hownb rfl hgrb (by have := at_of (n := u'.size + 1) (c := cb) hatb; simpa using this); rw [hvb]; clear hvb hownb hatb; rw [show (⟨#[10]⟩ : ByteArray).size = 1 from rfl] at hUsb)
                    | (at_builtin; have hqc := (hlyb).later ((Below.refl _ _).alloc (Nat.le_refl _) (.cells #[.int .u8 10] 5)); refine wpList_append_lies _ rfl _ _ 22 rfl w.heap.size 5 i0 _ 1 1 Tryd.underlying22 hi0 hz0 hz1 hz2 rfl (by decide) (.slice A2' v'.size C2') v'.size (Lib.strCells v') rfl hqc.ol ⟨wb.heap.size, 0, none⟩ 1 1 [.int .u8 10] rfl rfl (World.news_of_block (cs := #[.int .u8 10]) (t := 5) (fr := (0, 0)) (heap_alloc_new wb _)) (by simp [Value.oneCell']) (by decide) (by unfold maxLen; omega) (by omega) hqc.hb.size (wb.heap.size + 1) (by simp) ?_; intro gc cc wc hownc hgrc hatc hltc; obtain ⟨Uc, Ac, Cc, hvc, hUc, hUsc, hlyc⟩ := hqc.appL (s := ⟨#[10]⟩) hownc rfl hgrc (by have := at_of (n := v'.size + 1) (c := cc) hatc; simpa using this); rw [hvc]; clear hvc hownc hatc; rw [show (⟨#[10]⟩ : ByteArray).size = 1 from rfl] at hUsc)
                    | (at_builtin; have hqt := (hlyc).later ((Below.refl _ _).alloc (Nat.le_refl _) (.cells #[.int .i64 6, .string ⟨#[]⟩, .int .i64 0] 35)); refine wpList_append_lies _ rfl _ _ 24 rfl w.heap.size 35 k0 _ 3 32 Tryd.underlying24 hk0 kz0 kz1 kz2 rfl (by decide) (.slice A3' T'.length C3') T'.length (tkVs T') rfl hqt.ow ⟨wc.heap.size, 0, none⟩ 1 1 [.int .i64 6, .string ⟨#[]⟩, .int .i64 0] rfl rfl (World.news_of_block (cs := #[.int .i64 6, .string ⟨#[]⟩, .int .i64 0]) (t := 35) (fr := (0, 0)) (heap_alloc_new wc _)) (by simp [Value.oneCell']) (by decide) (by unfold maxLen; omega) (by omega) hqt.hb.size (wc.heap.size + 1) (by simp) ?_; intro gt ct wt hownt hgrt hatt hltt))
                  go_roundw
                  case rel =>
                    refine ⟨k + 1, Ab, Cb, Ub, Ac, Cc, Uc, some ⟨gt, 0, none⟩, ct, T' ++ [⟨6, [], 0⟩], by go_num, by omega, rfl, rfl, by simp, hqt.appT hgrt (by rw [List.length_append, tkVs_snoc]; exact hownt), Lib.hid ?_, by omega, by omega, by simp; omega⟩
                    rw [hUb.out, hUc.out]
                    exact (hMi.out.fins).nl
                  case measure => simp [intOf]; omega
        · have f1 : decide (40 < (m : Int)) = true := decide_eq_true (by omega)
          have f1' : decide (40 < m) = true := decide_eq_true (by omega)
          go_wp2_with (go_at_call 9; refine (lxAwake_ok _ (Utf8Tabs_below hT hly.hb)).mono ?_; rintro e w1 ⟨rfl, hb1⟩)
          go_ret
          exact ⟨rfl, hly.hb.trans (hb1.mono hly.hb.size)⟩
      · have o1 : decide ((k : Int) < (n : Int)) = false := decide_eq_false (by omega)
        have o2 : decide (k < n) = false := decide_eq_false hlt
        have hus2 : u.size ≤ 52000 := by omega
        have hvs2 : v.size ≤ 52000 := by omega
        have hTs2 : T.length ≤ 2000 := by omega
        clear hk hus hvs hTs
        go_wp2_with (at_builtin; have hqt := (hly).later ((Below.refl _ _).alloc (Nat.le_refl _) (.cells #[.int .i64 9, .string ⟨#[]⟩, .int .i64 0] 35)); refine wpList_append_lies _ rfl _ _ 24 rfl w.heap.size 35 k0 _ 3 32 Tryd.underlying24 hk0 kz0 kz1 kz2 rfl (by decide) (.slice A3 T.length C3) T.length (tkVs T) rfl hqt.ow ⟨wr.heap.size, 0, none⟩ 1 1 [.int .i64 9, .string ⟨#[]⟩, .int .i64 0] rfl rfl (World.news_of_block (cs := #[.int .i64 9, .string ⟨#[]⟩, .int .i64 0]) (t := 35) (fr := (0, 0)) (heap_alloc_new wr _)) (by simp [Value.oneCell']) (by decide) (by unfold maxLen; omega) (by omega) hqt.hb.size (wr.heap.size + 1) (by simp) ?_; intro gt ct wt hownt hgrt hatt hltt)
        have hly9 := hqt.appT hgrt (T' := T ++ [⟨9, [], 0⟩]) (by rw [List.length_append, tkVs_snoc]; exact hownt)
        have hTk1 := lxTokens_any (s := u) C1 wt (bsAt_cells hly9.op) hly9.fits.1 hly9.fits.2.1 (Utf8Tabs_below hT hly9.hb)
        have hTk2 := fun W (hW : Below wt.heap.size wt W) => lxTokens_any (s := v) C2 W (bsAt_cells (hly9.later hW).ol) hly9.fits.2.2.1 hly9.fits.2.2.2.1 (Utf8Tabs_below hT (hly9.later hW).hb)
        obtain ⟨La, Lb, hla, hlb, hK⟩ := hLi.out.done
        have ha : anyR u = .ok La := by unfold anyR; rw [if_pos (by omega), hla]
        have hb' : anyR v = .ok Lb := by unfold anyR; rw [if_pos (by omega), hlb]
        rw [ha] at hTk1
        simp only [hb'] at hTk2
        unfold TokensR at hTk1 hTk2
        dsimp only at hTk1 hTk2
        clear ha hb' hla hlb hLi
        obtain ⟨L9, hL9⟩ : ∃ L9, T ++ [(⟨9, [], 0⟩ : Tk)] = L9 := ⟨_, rfl⟩
        have hlen9 : T.length + 1 = L9.length := by rw [← hL9]; simp
        rw [hL9] at hly9 hK
        rw [hlen9]
        clear hL9 hlen9 hownt hgrt hatt hltt hqt hly
        have HkA := Lib.hid (alike_keys hK.1)
        have HkB := Lib.hid (alike_keys hK.2)
        clear hK
        go_wp2_with (first
          | (go_at_call 10; (with_reducible refine hTk1.mono ?_); rintro e w10 ⟨A10, C10, rfl, ho10, hC10⟩; have hb10 := hC10.alloc hC10.size (.cells #[.int .i64 0, .int .i64 0] 26); have y10 := (tkAt_own ho10 rfl).later ((Below.refl _ _).alloc (Nat.le_refl w10.heap.size) (.cells #[.int .i64 0, .int .i64 0] 26)); obtain ⟨v10, m10⟩ := own_fits ho10; have c10 : (w10.alloc (.cells #[.int .i64 0, .int .i64 0] 26)).cell? ⟨w10.heap.size, 0, none⟩ = some (.int .i64 0) := cell_of_row _ _ 0 _ _ _ (heap_alloc_new w10 _))
          | (go_at_call 10; (with_reducible refine (hTk2 _ hb10).mono ?_); rintro e w11 ⟨A11, C11, rfl, ho11, hC11⟩; have hC12 := hC11.alloc hC11.size (.cells #[.int .i64 0, .int .i64 0] 26); have z10 := y10.later hC12; have z11 := (tkAt_own ho11 rfl).later ((Below.refl _ _).alloc (Nat.le_refl w11.heap.size) (.cells #[.int .i64 0, .int .i64 0] 26)); obtain ⟨v11, m11⟩ := own_fits ho11; have c11 := cell_later hC12 c10; have c12 : (w11.alloc (.cells #[.int .i64 0, .int .i64 0] 26)).cell? ⟨w11.heap.size, 0, none⟩ = some (.int .i64 0) := cell_of_row _ _ 0 _ _ _ (heap_alloc_new w11 _); have hbW := hb10.trans (hC12.mono hb10.size); have z9 := (tkAt_own hly9.ow rfl).later hbW; obtain ⟨v9, m9⟩ := own_fits hly9.ow)
          | (go_at_call 13; (with_reducible refine (tokens_true A10 _ C10 _ La L9 false _ z10 z9 v10 v9 m10 m9 HkA.out.1 HkA.out.2).mono ?_); rintro e w12 ⟨rfl, hb12⟩)
          | (go_at_call 13; (with_reducible refine (tokens_true A11 _ C11 _ Lb L9 false _ (z11.later hb12) (z9.later hb12) v11 v9 m11 m9 HkB.out.1 HkB.out.2).mono ?_); rintro e w13 ⟨rfl, hb13⟩; have hbX := (hly9.hb.trans (hbW.mono hly9.hb.size)); have hbY := hbX.trans (hb12.mono hbX.size); have hbZ := hbY.trans (hb13.mono hbY.size))
          | (go_at_call 9; refine (lxAwake_ok _ (Utf8Tabs_below hT hbZ)).mono ?_; rintro e w14 ⟨rfl, hb14⟩))
        go_ret
        exact ⟨rfl, hbZ.trans (hb14.mono hbZ.size)⟩
  · go_enter Tryd.func7, Tryd.ntmps7
    by_cases hn4 : 40 < n
    · have e1 : decide (40 < (n : Int)) = true := decide_eq_true (by omega)
      have e1' : decide (40 < n) = true := decide_eq_true (by omega)
      go_wp2_with (go_at_call 9; refine (lxAwake_ok _ hT).mono ?_; rintro e w1 ⟨rfl, hb1⟩)
      go_ret
      exact ⟨rfl, hb1⟩
    · have e1 : decide (40 < (n : Int)) = false := decide_eq_false (by omega)
      have e1' : decide (40 < n) = false := decide_eq_false (by omega)
      have e2 : decide (100 < (zs.length : Int)) = true := decide_eq_true (by omega)
      have e2' : decide (100 < zs.length) = true := decide_eq_true (by omega)
      go_wp2_with (go_at_call 9; refine (lxAwake_ok _ hT).mono ?_; rintro e w1 ⟨rfl, hb1⟩)
      go_ret
      exact ⟨rfl, hb1⟩
end Go.Proofs.YtgheejogpbhokaaDoor
