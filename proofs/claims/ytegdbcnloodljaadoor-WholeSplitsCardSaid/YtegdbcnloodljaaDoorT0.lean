/- Words for whole.Text: a builder and rows of one's own under what others do; a copy of words; the digits of pieces as bytes. -/
import Derived.Test.YtegdbcnloodljaaDoorBWrite
import Derived.Test.YtegdbcnloodljaaDoorClone
import Derived.Test.YtegdbcnloodljaaDoorW10
import Derived.Test.YtegdbcnloodljaaDoorWDec
import Derived.Test.YtegdbcnloodljaaDoorRest
import Derived.Test.YtegdbcnloodljaaDoorR2
import Derived.Lib.OthersKept
namespace Go.Proofs.YtegdbcnloodljaaDoor
set_option linter.unusedVariables false
set_option linter.unusedSimpArgs false
open Go.RowKit Go.Shelf
set_option maxRecDepth 1000000

theorem heap_later {w w' : World} (hb : Below w.heap.size w w') {k : Nat} {o : Obj} (h : w.heap[k]? = some o) : w'.heap[k]? = some o :=
  (hb.block k (Array.getElem?_eq_some_iff.1 h).1).trans h
theorem bAt_later {T e : TypeId} {B b : Nat} {p : Value} {bs : List Value} {w w' : World} (h : Lib.BuilderAtF T e B b p bs w) (hb : Below w.heap.size w w') : Lib.BuilderAtF T e B b p bs w' := by
  obtain ⟨hB, v, hbk, hown, hne⟩ := h
  refine ⟨hB, v, heap_later hb hbk, ⟨hown.1, ?_⟩, hne⟩
  rcases hown.2 with hn | ⟨g, cap, cur, fz, hv, hbg, hg, rest⟩
  · exact .inl hn
  · exact .inr ⟨g, cap, cur, fz, hv, hbg, heap_later hb hg, rest⟩
theorem isB_later {T e : TypeId} {B b : Nat} {bs : List Value} {w w' : World} (h : Lib.IsBuilderF T e B b bs w) (hb : Below w.heap.size w w') : Lib.IsBuilderF T e B b bs w' :=
  h.elim (fun x => .inl (bAt_later x hb)) (fun x => .inr (bAt_later x hb))
theorem bAt_own {T e : TypeId} {B b : Nat} {p : Value} {bs : List Value} {w w' : World} {row : Option Nat} (h : Lib.BuilderAtF T e B b p bs w) (hg : w.grownBy w' row) (hr : ∀ r, row = some r → ∃ o : Obj, w.heap[r]? = some o ∧ o.isCells = false) : Lib.BuilderAtF T e B b p bs w' := by
  obtain ⟨hB, v, hbk, hown, hne⟩ := h
  have hlt : b < w.heap.size := (Array.getElem?_eq_some_iff.1 hbk).1
  refine ⟨hB, v, (hg.block b hlt (fun e => ?_)).trans hbk, hown.kept hg ?_, hne⟩
  · obtain ⟨o, ho, hc⟩ := hr b e.symm
    rw [hbk] at ho
    injection ho with ho
    subst ho
    cases hc
  · rcases hv : v.ownBlock with _ | k
    · exact .inl rfl
    · refine .inr fun e => ?_
      obtain ⟨c, fz, hk⟩ := Lib.ownsRowF_kind hown k hv
      obtain ⟨o, ho, hc⟩ := hr k e.symm
      rw [hk] at ho
      injection ho with ho
      subst ho
      cases hc
theorem isB_own {T e : TypeId} {B b : Nat} {bs : List Value} {w w' : World} {row : Option Nat} (h : Lib.IsBuilderF T e B b bs w) (hg : w.grownBy w' row) (hr : ∀ r, row = some r → ∃ o : Obj, w.heap[r]? = some o ∧ o.isCells = false) : Lib.IsBuilderF T e B b bs w' :=
  h.elim (fun x => .inl (bAt_own x hg hr)) (fun x => .inr (bAt_own x hg hr))
theorem heap_own {k : Nat} {cs : Array Value} {t : TypeId} {fz : Nat × Nat} {w w' : World} {row : Option Nat} (h : w.heap[k]? = some (.cells cs t fz)) (hg : w.grownBy w' row) (hr : ∀ r, row = some r → ∃ o : Obj, w.heap[r]? = some o ∧ o.isCells = false) : w'.heap[k]? = some (.cells cs t fz) := by
  refine (hg.block k (Array.getElem?_eq_some_iff.1 h).1 (fun e => ?_)).trans h
  obtain ⟨o, ho, hc⟩ := hr k e.symm
  rw [h] at ho
  injection ho with ho
  subst ho
  cases hc
theorem own_later {B : Nat} {e : TypeId} {k : Nat} {v : Value} {n : Nat} {xs : List Value} {w w' : World} (h : w.ownsRow B e k v n xs) (hb : Below w.heap.size w w') : w'.ownsRow B e k v n xs :=
  h.kept (row := none) ⟨hb.os, hb.tape, hb.output, hb.size, fun j hj _ => hb.block j hj⟩ (by cases hv : v.ownBlock <;> simp)

theorem set_mid (l : List Int) (i : Nat) (q : Int) (qs : List Int) (h : i < l.length) : (l.take (i + 1) ++ qs).set i q = l.take i ++ (q :: qs) := by
  have hl : (l.take i).length = i := by rw [List.length_take]; omega
  rw [List.take_succ_eq_append_getElem h, List.append_assoc, List.set_append_right _ _ (by omega), hl, Nat.sub_self]
  rfl

theorem clone_own (A : Option Addr) (c : Nat) (zs : List Int) (w : World) (hr : RdI w .u32 A zs) (hm : zs.length ≤ 1000000) (h0 : 0 < zs.length) :
    Calls Tryd.prog 53 #[.slice A zs.length c] w fun e w' => ∃ g c', e = .returned (.slice (some ⟨g, 0, none⟩) zs.length c') ∧ zs.length ≤ c' ∧ c' ≤ 9223372036854775807 ∧ w'.ownsRow w.heap.size 62 1 (.slice (some ⟨g, 0, none⟩) zs.length c') zs.length (zs.map (Value.int .u32)) ∧ Below w.heap.size w w' := by
  obtain ⟨i0, hi0, hz0, hz1, hz2⟩ := info_parts u32_info
  obtain ⟨b, off, z, hA, _, _⟩ := hr 0 h0
  subst hA
  refine (Tryd.slices_Clone i0 _ 1 4 hi0 hz0 hz1 hz2 rfl (by decide) Tryd.sizeOf62 b off zs.length c (zs.map (Value.int .u32)) w (by simp) (by unfold maxLen; omega) (by omega) ?_ (by simp [Value.oneCell'])).mono ?_
  · intro j u hu
    rw [List.getElem?_map] at hu
    by_cases hj : j < zs.length
    · obtain ⟨b2, o2, z2, hA2, hz2, hcell⟩ := hr j hj
      injection hA2 with hA2
      injection hA2 with e1 e2 _
      subst e1 e2
      rw [hz2] at hu
      simp only [Option.map_some, Option.some.injEq] at hu
      rw [← hu]; exact hcell
    · rw [List.getElem?_eq_none (by omega)] at hu; simp at hu
  · rintro e w' ⟨v', rfl, hown, _, hb⟩
    obtain ⟨A', c', rfl, h1, h2, _⟩ := own_form hown
    have hA' : ∃ g, A' = some ⟨g, 0, none⟩ := by
      rcases hown.2 with ⟨hv, hn⟩ | ⟨g, cap, cur, hv, _⟩
      · omega
      · injection hv with hv _ _
        exact ⟨g, hv⟩
    obtain ⟨g, rfl⟩ := hA'
    exact ⟨g, c', rfl, h1, h2, hown, hb⟩

/-- an own row of words reads as its words. -/
theorem rd_of_own {w : World} {base : Nat} {g n c : Nat} {xs ys : List Int} (h : w.ownsRow base 62 1 (.slice (some ⟨g, 0, none⟩) n c) n ((xs ++ ys).map (Value.int .u32))) : RdI w .u32 (some ⟨g, 0, none⟩) xs := fun i hi => by
  have hn : n = (xs ++ ys).length := by have := h.1; simp at this; simp; omega
  rw [List.length_append] at hn
  refine ⟨g, 0, xs[i], rfl, List.getElem?_eq_getElem hi, ?_⟩
  rw [Nat.zero_add, h.cellAt i (by omega), List.getElem?_map, List.getElem?_append_left hi, List.getElem?_eq_getElem hi]
  rfl

/-- the nine digits of a piece. -/
def dig9 (n : Nat) : List Value := [.int .u8 (dsign n 8), .int .u8 (dsign n 7), .int .u8 (dsign n 6), .int .u8 (dsign n 5), .int .u8 (dsign n 4), .int .u8 (dsign n 3), .int .u8 (dsign n 2), .int .u8 (dsign n 1), .int .u8 (dsign n 0)]
theorem dig9_bytes (n : Nat) : dig9 n = Lib.byteCells ((digs n 9).map dchr) := by
  have h : ∀ k, dsign n k = ((dchr (n / 10 ^ k % 10)).toNat : Int) := fun k => by
    rw [dchr_toNat _ (Nat.mod_lt _ (by decide)), dsign]; simp
  simp only [dig9, h, digs, Lib.byteCells, List.map_cons, List.map_nil]
/-- what the builder holds when some pieces have come, the highest first. -/
def flat9 (pre : List (Nat × U32)) : List Value := pre.flatMap fun x => dig9 x.2.1.toNat
theorem flat9_snoc (pre : List (Nat × U32)) (x : Nat × U32) : flat9 (pre ++ [x]) = flat9 pre ++ dig9 x.2.1.toNat := by simp [flat9]
theorem flat9_len (pre : List (Nat × U32)) : (flat9 pre).length = 9 * pre.length := by
  induction pre with
  | nil => rfl
  | cons x pre ih => rw [flat9, List.flatMap_cons, List.length_append] ; rw [flat9] at ih; rw [ih]; simp [dig9]; omega
theorem byteCells_append (a b : List UInt8) : Lib.byteCells (a ++ b) = Lib.byteCells a ++ Lib.byteCells b := by simp [Lib.byteCells]
theorem backAt_snd (us : List U32) (k : Nat) (h : k < us.length) : (backAt us k).2 = us[us.length - 1 - k]'(by omega) := by
  simp only [backAt, u32at]
  rw [List.getElem?_eq_getElem (by omega)]; rfl
theorem flat9_upto (us : List U32) : ∀ k, k ≤ us.length → flat9 (upto (backAt us) k) = Lib.byteCells (((us.drop (us.length - k)).reverse.flatMap fun u => digs u.1.toNat 9).map dchr)
  | 0, _ => by simp [upto, flat9, Lib.byteCells]
  | k + 1, h => by
    obtain ⟨j, hj⟩ : ∃ j, j = us.length - (k + 1) := ⟨_, rfl⟩
    have e1 : us.length - k = j + 1 := by omega
    have e2 : us.length - 1 - k = j := by omega
    have hjl : j < us.length := by omega
    rw [upto_succ, flat9_snoc, flat9_upto us k (by omega), ← hj, e1, List.drop_eq_getElem_cons hjl, List.reverse_cons, List.flatMap_append, List.map_append, byteCells_append, dig9_bytes, backAt_snd us k (by omega)]
    simp only [e2, List.flatMap_cons, List.flatMap_nil, List.append_nil]
theorem flat9_all (us : List U32) : flat9 (upto (backAt us) us.length) = Lib.byteCells ((us.reverse.flatMap fun u => digs u.1.toNat 9).map dchr) := by
  rw [flat9_upto us _ (Nat.le_refl _), Nat.sub_self, List.drop_zero]
/-- pieces as words. -/
theorem words_pcs : ∀ pcs : List Nat, (∀ p ∈ pcs, p < 1000000000) → ∃ us : List U32, vals us = pcs.map (fun p : Nat => (p : Int)) ∧ us.map (fun u => u.1.toNat) = pcs
  | [], _ => ⟨[], rfl, rfl⟩
  | p :: pcs, h => by
    obtain ⟨us, h1, h2⟩ := words_pcs pcs (fun q hq => h q (List.mem_cons_of_mem _ hq))
    have := h p (List.mem_cons_self ..)
    have h0 : (0 : Int) ≤ (p : Int) := by omega
    have h3 : (p : Int) ≤ 4294967295 := by omega
    exact ⟨⟨(p : Int), h0, h3⟩ :: us, by rw [vals, List.map_cons, List.map_cons]; exact congrArg _ h1, by rw [List.map_cons, h2]; rfl⟩
theorem flat9_pcs (us : List U32) (pcs : List Nat) (h : us.map (fun u => u.1.toNat) = pcs) : flat9 (upto (backAt us) us.length) = Lib.byteCells ((pcs.reverse.flatMap fun p => digs p 9).map dchr) := by
  rw [flat9_all, ← h, ← List.map_reverse, List.flatMap_map]
/-- how many pieces there can be. -/
theorem pcs_few (n L : Nat) (V M : Int) (hV : V < 4294967296 ^ n) (h : ((10 ^ (9 * L) : Nat) : Int) * M ≤ V) (hM : 1 ≤ M) : 9 * L < 10 * n := by
  have h1 : ((10 ^ (9 * L) : Nat) : Int) ≤ V := by
    have := Int.mul_le_mul_of_nonneg_left hM (Int.natCast_nonneg (10 ^ (9 * L)))
    omega
  have h2 : (4294967296 : Int) ^ n ≤ ((10 ^ (10 * n) : Nat) : Int) := by
    rw [Nat.pow_mul]
    have := Nat.pow_le_pow_left (show 4294967296 ≤ 10 ^ 10 by decide) n
    have e : (4294967296 : Int) ^ n = ((4294967296 ^ n : Nat) : Int) := by simp
    rw [e]
    exact Int.ofNat_le.2 this
  have h3 : (10 ^ (9 * L) : Nat) < 10 ^ (10 * n) := by omega
  exact (Nat.pow_lt_pow_iff_right (by decide)).1 h3
end Go.Proofs.YtegdbcnloodljaaDoor
