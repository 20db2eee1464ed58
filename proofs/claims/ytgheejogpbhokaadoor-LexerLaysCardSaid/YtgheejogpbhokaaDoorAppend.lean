/- append onto a row of the call's own of what a slice reads (nil, empty or not): integers of one kind. Conditions: the new length is within the reach. -/
import Derived.Maps.AppendAt
import Derived.Deep.AppendLies
import Derived.RegionTactic
import Derived.OwnWalk
import Derived.Test.YtgheejogpbhokaaDoorWords
namespace Go.Proofs.YtgheejogpbhokaaDoor
set_option linter.unusedVariables false
set_option linter.unusedSimpArgs false
open Go.RowKit

/-- A slice in blocks from base on, not frozen, that reads as the integers zs. -/
def FrI (w : World) (base : Nat) (k : IntKind) (A : Option Addr) (zs : List Int) : Prop :=
  ∀ i, i < zs.length → ∃ (b off : Nat) (z : Int), A = some ⟨b, off, none⟩ ∧ base ≤ b ∧ zs[i]? = some z ∧ w.cell? ⟨b, off + i, none⟩ = some (.int k z) ∧ w.frozen? ⟨b, off + i, none⟩ = false
theorem FrI.rd {w : World} {base : Nat} {k : IntKind} {A : Option Addr} {zs : List Int} (h : FrI w base k A zs) : RdI w k A zs := fun i hi => by
  obtain ⟨b, off, z, hA, _, hz, hc, _⟩ := h i hi
  exact ⟨b, off, z, hA, hz, hc⟩
theorem FrI.later {w w' : World} {base : Nat} {k : IntKind} {A : Option Addr} {zs : List Int} (h : FrI w base k A zs) (hb : Below w.heap.size w w') : FrI w' base k A zs := fun i hi => by
  obtain ⟨b, off, z, hA, hB, hz, hc, hf⟩ := h i hi
  exact ⟨b, off, z, hA, hB, hz, cell_later hb hc, (hb.frozen (p := ⟨b, off + i, none⟩) (World.block_lt_of_cell? _ _ hc)).trans hf⟩
theorem FrI.mono {w : World} {base base' : Nat} {k : IntKind} {A : Option Addr} {zs : List Int} (h : FrI w base k A zs) (hb : base' ≤ base) : FrI w base' k A zs := fun i hi => by
  obtain ⟨b, off, z, hA, hB, hz, hc, hf⟩ := h i hi
  exact ⟨b, off, z, hA, by omega, hz, hc, hf⟩

theorem FrI.setCell {w : World} {base : Nat} {k : IntKind} {A : Option Addr} {zs : List Int} (h : FrI w base k A zs) {p : Addr} (hp : p.block < base) (u : Value) : FrI (w.setCell p u) base k A zs := fun i hi => by
  obtain ⟨b, off, z, hA, hB, hz, hc, hf⟩ := h i hi
  exact ⟨b, off, z, hA, hB, hz, by rw [World.cell?_setCell_other _ _ _ _ (fun e => by subst e; simp at hp; omega)]; exact hc, by rw [World.frozen?_setCell]; exact hf⟩

/-- An owned row of integers: the slice's form. -/
theorem own_form {w : World} {base : Nat} {e : TypeId} {v : Value} {n : Nat} {xs : List Value} (h : w.ownsRow base e 1 v n xs) : ∃ A c, v = .slice A n c ∧ n ≤ c ∧ c ≤ maxLen ∧ (A = none → c = 0) := by
  rcases h.2 with ⟨rfl, rfl⟩ | ⟨g, cap, cur, rfl, _, _, h1, h2, _⟩
  · exact ⟨none, 0, rfl, Nat.le_refl _, Nat.zero_le _, fun _ => rfl⟩
  · exact ⟨_, cap, rfl, h1, h2, fun h => by cases h⟩

theorem FrI.of_own {w : World} {base : Nat} {e : TypeId} {k : IntKind} {A : Option Addr} {n c : Nat} {zs : List Int} (h : w.ownsRow base e 1 (.slice A n c) n (zs.map (Value.int k))) : FrI w base k A zs := fun i hi => by
  have hn : n = zs.length := by have := h.1; simp at this; omega
  rcases h.2 with ⟨_, h0⟩ | ⟨g, cap, cur, hv, hg, hh, h1, h2, hs, ht⟩
  · omega
  · injection hv with hA _ _
    subst hA
    have hc : (cur.toList.take (n * 1))[i]? = (zs.map (Value.int k))[i]? := by rw [ht]
    rw [List.getElem?_take_of_lt (by omega)] at hc
    refine ⟨g, 0, zs[i], rfl, hg, List.getElem?_eq_getElem hi, ?_, ?_⟩
    · simp only [World.cell?, hh, Nat.zero_add]
      simpa [List.getElem?_eq_getElem hi] using hc
    · simp [World.frozen?, hh]

/-- One integer in a new block of its own. -/
theorem rdI_one (w : World) (k : IntKind) (z : Int) (t : TypeId) : RdI (w.alloc (.cells #[.int k z] t)) k (some ⟨w.heap.size, 0, none⟩) [z] := fun i hi => by
  obtain rfl : i = 0 := by simp at hi; exact hi
  exact ⟨w.heap.size, 0, z, rfl, rfl, by simp⟩

section
variable {P : Program} (w : World)

theorem run_append_nilsrc (base : Nat) (t ty e : TypeId) (i : TypeInfo) (size : Nat) (ht : P.underlying t = some (.slice e)) (hi : P.info? e = some i)
    (v : Value) (n : Nat) (xs : List Value) (hown : w.ownsRow base e size v n xs) (c : Nat) : (Builtin.append_ #[t, t] ty #[v, .slice none 0 c]).run P w = .ok v w := by
  rcases hown.2 with ⟨rfl, rfl⟩ | ⟨g, cap, cur, rfl, _, _, hnc, _⟩ <;>
    simp [Builtin.append_, run_underlying ht, sizeOf, typeInfo, hi, Builtin.lenOf, Builtin.firstCells, storeCells, *]

theorem run_append_ints (base : Nat) (t ty e : TypeId) (i : TypeInfo) (z : Value) (bytes : Nat) (k : IntKind) (ht : P.underlying t = some (.slice e)) (hi : P.info? e = some i) (hz : i.zero = some z)
    (hsize : i.size = 1) (hby : i.bytes = bytes) (hzs : z.cells.size = 1)
    (v : Value) (n : Nat) (xs : List Int) (hown : w.ownsRow base e 1 v n (xs.map (Value.int k)))
    (A : Option Addr) (m c : Nat) (ys : List Int) (hm : m = ys.length) (hr : RdI w k A ys)
    (h63 : n + m ≤ maxLen) (hbytes : (n + m) * bytes ≤ 140737488355328) (hbase : base ≤ w.heap.size) :
    ∃ v' w', (Builtin.append_ #[t, t] ty #[v, .slice A m c]).run P w = .ok v' w' ∧ w'.ownsRow base e 1 v' (n + m) ((xs ++ ys).map (Value.int k)) ∧ w.grownBy w' v.ownBlock ∧
      (v'.ownBlock = v.ownBlock ∨ v'.ownBlock = some w.heap.size) := by
  have hcells : ∀ j u, (ys.map (Value.int k))[j]? = some u → ∃ ad, A = some ad ∧ w.cell? (ad.add j) = some u := by
    intro j u hu
    rw [List.getElem?_map] at hu
    obtain ⟨y, hy, rfl⟩ := Option.map_eq_some_iff.1 hu
    obtain ⟨b, off, z', rfl, hz', hc⟩ := hr j (List.getElem?_eq_some_iff.1 hy).1
    rw [hy] at hz'
    injection hz' with hz'
    subst hz'
    refine ⟨_, rfl, ?_⟩
    rw [Addr.add_lit]
    exact hc
  rw [List.map_append]
  cases ys with
  | nil =>
    obtain rfl : m = 0 := by simpa using hm
    cases A with
    | none => exact ⟨v, w, run_append_nilsrc w base t ty e i 1 ht hi v n _ hown c, by simpa using hown, World.grownBy.refl w _, .inl rfl⟩
    | some ad =>
      obtain ⟨v', w', h1, h2, h3, _, h5⟩ := run_append_own_at (P := P) w base t ty e i z 1 bytes ht hi hz hsize hby hzs (by decide) v n _ hown ad 0 c [] (by simp) (by simp) (by simp) h63 hbytes hbase
      exact ⟨v', w', h1, h2, h3, h5⟩
  | cons y ys =>
    obtain ⟨ad, rfl, _⟩ := hcells 0 _ rfl
    obtain ⟨v', w', h1, h2, h3, _, h5⟩ := run_append_own_at (P := P) w base t ty e i z 1 bytes ht hi hz hsize hby hzs (by decide) v n _ hown ad m c ((y :: ys).map (Value.int k)) (by simp [hm])
      (fun j u hu => by obtain ⟨ad', e, h⟩ := hcells j u hu; injection e with e; subst e; exact h) (by simp [Value.oneCell']) h63 hbytes hbase
    exact ⟨v', w', h1, h2, h3, h5⟩

theorem wpList_append_ints {ops : Array Oper} {rest : List Oper} {o : Oper} {a : Act} {Q : Exit → Act → World → Prop} (hgd : o.guard = none) (s x : Operand) (t : TypeId)
    (ho : o.op = .call { callee := .builtin .append, args := #[s, x], argTypes := #[t, t] })
    (base : Nat) (e : TypeId) (i : TypeInfo) (z : Value) (bytes : Nat) (k : IntKind) (ht : P.underlying t = some (.slice e)) (hi : P.info? e = some i) (hz : i.zero = some z)
    (hsize : i.size = 1) (hby : i.bytes = bytes) (hzs : z.cells.size = 1)
    (v : Value) (n : Nat) (xs : List Int) (hs : a.eval s = v) (hown : w.ownsRow base e 1 v n (xs.map (Value.int k)))
    (A : Option Addr) (m c : Nat) (ys : List Int) (hx : a.eval x = .slice A m c) (hm : m = ys.length) (hr : RdI w k A ys)
    (h63 : n + m ≤ maxLen) (hbytes : (n + m) * bytes ≤ 140737488355328) (hbase : base ≤ w.heap.size)
    (h : ∀ v' w', w'.ownsRow base e 1 v' (n + m) ((xs ++ ys).map (Value.int k)) → w.grownBy w' v.ownBlock → (v'.ownBlock = v.ownBlock ∨ v'.ownBlock = some w.heap.size) → wpList P ops Q rest (a.put o.dst v') w') :
    wpList P ops Q (o :: rest) a w := by
  refine wpList_plain hgd fun K hK => ?_
  obtain ⟨v', w', h1, h2, h3, h5⟩ := run_append_ints (P := P) w base t o.type e i z bytes k ht hi hz hsize hby hzs v n xs hown A m c ys hm hr h63 hbytes hbase
  unfold Oper.wp execOp
  simp only [ho, resolve, invoke, builtin, Sem.run_bind, Sem.run_pure, Result.andThen_ok, List.map_toArray, List.map_cons, List.map_nil, hs, hx, h1]
  exact hK _ _ (h v' w' h2 h3 h5)
end
end Go.Proofs.YtgheejogpbhokaaDoor
