/- The law LexerReads: both Tokens answer alike, and nothing that was handed in is touched. -/
import Derived.Test.YtgheejogpbhokaaDoorLxBy
namespace Go.Proofs.YtgheejogpbhokaaDoor
set_option linter.unusedVariables false
set_option linter.unusedSimpArgs false
open Go.RowKit
set_option maxRecDepth 1000000

/-- all blocks but one are as they were. -/
structure ButG (g : Nat) (w w' : World) : Prop where
  size : w'.heap.size = w.heap.size
  blk : ∀ k, k ≠ g → w'.heap[k]? = w.heap[k]?
theorem ButG.refl (g : Nat) (w : World) : ButG g w w := ⟨rfl, fun _ _ => rfl⟩
theorem ButG.set {g : Nat} {w w' : World} (h : ButG g w w') (i : Nat) (v : Value) : ButG g w (w'.setCell ⟨g, i, none⟩ v) :=
  ⟨by rw [World.size_setCell]; exact h.size, fun k hk => by rw [Below.heap_setCell _ _ _ _ hk]; exact h.blk k hk⟩
theorem ButG.cell {g b i : Nat} {w w' : World} {v : Value} (h : ButG g w w') (hne : g ≠ b) (hc : w.cell? ⟨b, i, none⟩ = some v) : w'.cell? ⟨b, i, none⟩ = some v :=
  (World.cell?_of_block (a := ⟨b, i, none⟩) (h.blk b (fun e => hne e.symm))).trans hc
theorem ButG.tk {g : Nat} {w w' : World} {A : Option Addr} {L : List Tk} (h : ButG g w w') (hA : ∀ g', A = some ⟨g', 0, none⟩ → 0 < L.length → g' ≠ g) (ht : TkAt w A L) : TkAt w' A L := fun i t hi => by
  obtain ⟨g', e, h1, h2, h3⟩ := ht i t hi
  have hne : g ≠ g' := fun e2 => hA g' e (by have := (List.getElem?_eq_some_iff.1 hi).1; omega) e2.symm
  exact ⟨g', e, h.cell hne h1, h.cell hne h2, h.cell hne h3⟩
theorem own_fits {w : World} {base size n : Nat} {e : TypeId} {A : Option Addr} {C : Nat} {xs : List Value} (h : w.ownsRow base e size (.slice A n C) n xs) : n ≤ C ∧ C ≤ maxLen := by
  rcases h.2 with ⟨hv, h0⟩ | ⟨g, cap, cur, hv, hg, hh, h1, h2, hs, ht⟩
  · injection hv with e1 e2 e3
    subst e3
    exact ⟨by omega, Nat.zero_le _⟩
  · injection hv with e1 e2 e3
    subst e3
    exact ⟨h1, h2⟩
theorem rdI_take {w : World} {k : IntKind} {A : Option Addr} {zs : List Int} (h : RdI w k A zs) (j : Nat) : RdI w k A (zs.take j) := fun i hi => by
  rw [List.length_take] at hi
  obtain ⟨b, off, z, e, hz, hc⟩ := h i (by omega)
  exact ⟨b, off, z, e, by rw [List.getElem?_take_of_lt (by omega)]; exact hz, hc⟩
/-- the bytes as numbers. -/
def bsI (s : ByteArray) : List Int := s.data.toList.map fun c => (c.toNat : Int)
theorem bsI_len (s : ByteArray) : (bsI s).length = s.size := by simp [bsI]
/-- What the two appends have made. -/
theorem bytes_made {w w1 w2 : World} {A1 : Option Addr} {c1 n : Nat} {X : Obj} {v2 : Value} {s : ByteArray} {e : TypeId} {x : Int} (hB1 : Below w.heap.size w w1) (hown1 : w1.ownsRow w.heap.size e 1 (.slice A1 n c1) n ((bsI s).map (Value.int .u8)))
    (hown2 : w2.ownsRow w.heap.size e 1 v2 (n + 1) ((bsI s ++ [x]).map (Value.int .u8))) (hg2 : (w1.alloc X).grownBy w2 (Value.slice A1 n c1).ownBlock) :
    Below w.heap.size w w2 ∧ ∃ g c2, v2 = .slice (some ⟨g, 0, none⟩) (n + 1) c2 ∧ n + 1 ≤ c2 ∧ c2 ≤ 9223372036854775807 ∧ g < w2.heap.size ∧ w.heap.size ≤ g ∧ BsAt w2 (some ⟨g, 0, none⟩) s ∧ w2.cell? ⟨g, n, none⟩ = some (.int .u8 x) ∧ ∀ i, i < n + 1 → (w2.cell? ⟨g, i, none⟩).isSome = true ∧ w2.frozen? ⟨g, i, none⟩ = false := by
  have hn : n = (bsI s).length := by have := hown1.1; simp at this; omega
  refine ⟨(hB1.alloc hB1.size _).grown hg2 (by have := hB1.size; simp; omega) (fun j hj => (hown1.lt j hj).1), ?_⟩
  obtain ⟨g, c2, rfl, hgb, hgl⟩ := hown2.form (by omega)
  obtain ⟨A', c', hv, l2, m2, _⟩ := own_form hown2
  injection hv with e1 e2 e3
  subst e1; subst e3
  have fr := FrI.of_own hown2
  refine ⟨g, c2, rfl, l2, m2, hgl, hgb, ?_, ?_, ?_⟩
  · have := rdI_take (FrI.rd fr) n
    rw [hn, List.take_left] at this
    exact this
  · obtain ⟨b, off, z, hA, _, hz, hc, _⟩ := fr n (by simp [hn])
    injection hA with hA
    injection hA with e4 e5 _
    subst e4; subst e5
    rw [hn, List.getElem?_append_right (Nat.le_refl _)] at hz
    simp at hz
    subst hz
    simpa using hc
  · intro i hi
    obtain ⟨b, off, z, hA, _, hz, hc, hf⟩ := fr i (by simp; omega)
    injection hA with hA
    injection hA with e4 e5 _
    subst e4; subst e5
    rw [Nat.zero_add] at hc hf
    exact ⟨by rw [hc]; rfl, hf⟩
set_option maxHeartbeats 4000000 in
theorem lawReads_any (A : Option Addr) (c : Nat) (s : ByteArray) (w : World) (hr : BsAt w A s) (hl : s.size ≤ c) (hm : c ≤ maxLen) (hT : Lib.Utf8Tabs 1 2 w) :
    Calls Tryd.prog 3 #[.slice A s.size c] w fun e w' => e = .returned (.bool true) ∧ Below w.heap.size w w' := by
  unfold maxLen at hm
  by_cases h : s.size ≤ 70000
  · obtain ⟨i0, hi0, hz0, hz1, hz2⟩ := info_parts byte_info
    have hB : Below w.heap.size w w := Below.refl _ _
    have hri : RdI w .u8 A (bsI s) := hr
    have hbl := bsI_len s
    go_enter Tryd.func3, Tryd.ntmps3
    go_wp2_with (first
      | (at_builtin; refine wpList_append_ints _ rfl _ _ 22 rfl w.heap.size 5 i0 _ 1 .u8 Tryd.underlying22 hi0 hz0 hz1 hz2 rfl (.slice none 0 0) 0 [] rfl (World.ownsRow_nil _ _ _ _) _ _ _ (bsI s) rfl (by rw [bsI_len]) hri (by unfold maxLen; omega) (by omega) (Nat.le_refl _) ?_; intro v1 w1 hown1 hg1 hat1; have hB1 := hB.grown hg1 (Nat.le_refl _) (by simp [Value.ownBlock]); simp only [Nat.zero_add, List.nil_append] at hown1; obtain ⟨A1, c1, rfl, l1, m1, _⟩ := own_form hown1)
      | (at_builtin; refine wpList_append_ints _ rfl _ _ 22 rfl w.heap.size 5 i0 _ 1 .u8 Tryd.underlying22 hi0 hz0 hz1 hz2 rfl _ s.size (bsI s) rfl (hown1.alloc _) _ _ _ [77] rfl rfl (rdI_one _ _ _ _) (by unfold maxLen; omega) (by omega) (by have := hB1.size; simp; omega) ?_; intro v2 w2 hown2 hg2 hat2; obtain ⟨hB2, g, c2, rfl, l2, m2, hgl, hgb, hrd, h77, hfr⟩ := bytes_made hB1 hown1 hown2 hg2))
    have hTk := lxTokens_any (s := s) c2 w2 hrd (by omega) m2 (Utf8Tabs_below hT hB2)
    cases hR : anyR s with
    | ok l =>
      rw [hR] at hTk
      have hRk := fun W hW => refTokens_any (A := A) (s := s) c W hW hl hm
      rw [hR] at hRk
      unfold TokensR at hTk hRk
      dsimp only at hTk hRk
      go_at_call 10
      refine hTk.mono ?_
      rintro e w3 ⟨A3, C3, rfl, ho3, hC3⟩
      have ht3 : TkAt w3 A3 l := tkAt_own ho3 rfl
      have hg3 : ∀ g', A3 = some ⟨g', 0, none⟩ → 0 < l.length → g' ≠ g := fun g' e h0 => by
        obtain ⟨g3, e3, _, _, h3, _⟩ := own_some ho3 h0
        rw [e] at e3
        injection e3 with e3
        injection e3 with e3
        omega
      obtain ⟨f3, m3⟩ := own_fits ho3
      have hb4 : Below w3.heap.size w3 (w3.alloc (.cells #[.int .i64 0, .int .i64 0] 26)) := (Below.refl _ _).alloc (Nat.le_refl _) _
      have hC4 := hC3.trans (hb4.mono hC3.size)
      have p0 : (w3.alloc (.cells #[.int .i64 0, .int .i64 0] 26)).cell? ⟨w3.heap.size, 0, none⟩ = some (.int .i64 0) := by simp
      have p1 : (w3.alloc (.cells #[.int .i64 0, .int .i64 0] 26)).cell? ⟨w3.heap.size, 1, none⟩ = some (.int .i64 0) := by simp
      go_wp2_with fail
      generalize w3.alloc (.cells #[.int .i64 0, .int .i64 0] 26) = w4 at *
      go_at_call 11
      refine (hRk _ (hr.later (hB2.trans (hC4.mono hB2.size)))).mono ?_
      rintro e w5 ⟨A5, C5, rfl, ho5, hC5⟩
      have ht5 : TkAt w5 A5 l := tkAt_own ho5 rfl
      have hg5 : ∀ g', A5 = some ⟨g', 0, none⟩ → 0 < l.length → g' ≠ g := fun g' e h0 => by
        obtain ⟨g3, e3, _, _, h3, _⟩ := own_some ho5 h0
        rw [e] at e3
        injection e3 with e3
        injection e3 with e3
        have := hC4.size
        omega
      obtain ⟨f5, m5⟩ := own_fits ho5
      have hb6 : Below w5.heap.size w5 (w5.alloc (.cells #[.int .i64 0, .int .i64 0] 26)) := (Below.refl _ _).alloc (Nat.le_refl _) _
      have q0 : (w5.alloc (.cells #[.int .i64 0, .int .i64 0] 26)).cell? ⟨w5.heap.size, 0, none⟩ = some (.int .i64 0) := by simp
      have q1 : (w5.alloc (.cells #[.int .i64 0, .int .i64 0] 26)).cell? ⟨w5.heap.size, 1, none⟩ = some (.int .i64 0) := by simp
      have hC6 := (hC4.trans (hC5.mono hC4.size)).trans (hb6.mono (hC4.trans (hC5.mono hC4.size)).size)
      go_wp2_with fail
      generalize w5.alloc (.cells #[.int .i64 0, .int .i64 0] 26) = w6 at *
      go_at_call 12
      refine (bytes_true _ _ s _ _ _ (hrd.later hC6) (hr.later (hB2.trans (hC6.mono hB2.size))) (by omega) hl (by unfold maxLen; omega) (by unfold maxLen; omega)).mono ?_
      rintro e w7 ⟨rfl, hC7⟩
      have h77' := cell_later (hC6.trans (hC7.mono hC6.size)) h77
      have hD5 := hb6.trans (hC7.mono hb6.size)
      have hD4 := hC5.trans (hD5.mono hC5.size)
      have hD3 := hb4.trans (hD4.mono hb4.size)
      have hD2 := hC6.trans (hC7.mono hC6.size)
      have k0 := cell_later hD4 p0
      have k1 := cell_later hD4 p1
      have k2 := cell_later hC7 q0
      have k3 := cell_later hC7 q1
      have hk3 := ht3.later hD3
      have hk5 := ht5.later hD5
      have hwB := hB2.trans (hD2.mono hB2.size)
      have hz3 : g ≠ w3.heap.size := by have := hC3.size; omega
      have hz5 : g ≠ w5.heap.size := by have := (hC4.trans (hC5.mono hC4.size)).size; omega
      have hfr7 : ∀ i, i < s.size + 1 → (w7.cell? ⟨g, i, none⟩).isSome = true ∧ w7.frozen? ⟨g, i, none⟩ = false := fun i hi => by
        obtain ⟨v, hv⟩ := Option.isSome_iff_exists.1 (hfr i hi).1
        exact ⟨by rw [cell_later hD2 hv]; rfl, (hD2.frozen (p := ⟨g, i, none⟩) hgl).trans (hfr i hi).2⟩
      have HF := Lib.hid hfr7
      clear hfr7 hfr h77 hrd hC3 hC4 hC5 hC6 hC7 hb4 hb6 hD5 hD4 hD3 p0 p1 q0 q1 hTk hRk hR hown1 hown2 hg1 hg2 hat1 hat2 hri
      go_wp2_with fail
      go_loopw [8] (fun v wr => ∃ k : Nat, v = .int .i64 k ∧ k ≤ s.size + 1 ∧ ButG g w7 wr ∧ Below w.heap.size w wr ∧ Hid (∀ i, i < s.size + 1 → (wr.cell? ⟨g, i, none⟩).isSome = true ∧ wr.frozen? ⟨g, i, none⟩ = false)) (fun v _ => s.size + 1 - (intOf v).toNat)
      case atStart => exact ⟨0, rfl, Nat.zero_le _, ButG.refl _ _, hwB, HF⟩
      case round =>
        obtain ⟨k, rfl, hk, hbt, hbr, HFr⟩ := hrel
        clear HF hwB h77'
        by_cases hlt : k < s.size + 1
        · obtain ⟨hs1, hf1⟩ := HFr.out k hlt
          obtain ⟨v1, hv1⟩ := Option.isSome_iff_exists.1 hs1
          have hgr : g < wr.heap.size := World.block_lt_of_cell? _ _ hv1
          have n1 : (k : Int) < ((s.size + 1 : Nat) : Int) := by omega
          go_wp2
          go_roundw
          case rel =>
            refine ⟨k + 1, by go_num, by omega, hbt.set _ _, Below.setCell (p := ⟨g, k, none⟩) hbr hgb _, Lib.hid (fun i hi => ?_)⟩
            obtain ⟨a1, a2⟩ := HFr.out i hi
            refine ⟨?_, by rw [World.frozen?_setCell]; exact a2⟩
            by_cases e : i = k
            · subst e
              rw [cell_set_eq hv1]; rfl
            · obtain ⟨v2, hv2⟩ := Option.isSome_iff_exists.1 a1
              rw [cell_set_ne hv2 (fun h => e h.symm)]; rfl
          case measure => simp [intOf]; omega
        · have hke : k = s.size + 1 := by omega
          subst hke
          have x0 := hbt.cell hz3 k0
          have x1 := hbt.cell hz3 k1
          have x2 := hbt.cell hz5 k2
          have x3 := hbt.cell hz5 k3
          have y3 := hbt.tk hg3 hk3
          have y5 := hbt.tk hg5 hk5
          have c1 : ((0 : Int) == 0) = true := by simp
          go_wp2_with (first
            | (go_at_call 13; refine (tokens_true A3 A5 C3 C5 l l true _ y3 y5 f3 f5 m3 m5 rfl (fun i a b h1 h2 => by rw [h1] at h2; injection h2 with h2; subst h2; exact ⟨rfl, rfl, fun _ => rfl⟩)).mono ?_; rintro e w8 ⟨rfl, hb8⟩)
            | (go_at_call 9; refine (lxAwake_ok _ (Utf8Tabs_below hT (hbr.trans (hb8.mono hbr.size)))).mono ?_; rintro e w9 ⟨rfl, hb9⟩))
          go_ret
          exact ⟨rfl, (hbr.trans (hb8.mono hbr.size)).trans (hb9.mono (hbr.trans (hb8.mono hbr.size)).size)⟩
    | bad cc a =>
      rw [hR] at hTk
      have hRk := fun W hW => refTokens_any (A := A) (s := s) c W hW hl hm
      rw [hR] at hRk
      unfold TokensR at hTk hRk
      dsimp only at hTk hRk
      go_at_call 10
      refine hTk.mono ?_
      rintro e w3 ⟨rfl, hC3⟩
      have ht3 : TkAt w3 none [] := fun i t h => by simp at h
      have hg3 : ∀ g', (none : Option Addr) = some ⟨g', 0, none⟩ → 0 < ([] : List Tk).length → g' ≠ g := fun g' e => by cases e
      have hb4 : Below w3.heap.size w3 (w3.alloc (.cells #[.int .i64 cc, .int .i64 a] 26)) := (Below.refl _ _).alloc (Nat.le_refl _) _
      have hC4 := hC3.trans (hb4.mono hC3.size)
      have p0 : (w3.alloc (.cells #[.int .i64 cc, .int .i64 a] 26)).cell? ⟨w3.heap.size, 0, none⟩ = some (.int .i64 cc) := by simp
      have p1 : (w3.alloc (.cells #[.int .i64 cc, .int .i64 a] 26)).cell? ⟨w3.heap.size, 1, none⟩ = some (.int .i64 a) := by simp
      go_wp2_with fail
      generalize w3.alloc (.cells #[.int .i64 cc, .int .i64 a] 26) = w4 at *
      go_at_call 11
      refine (hRk _ (hr.later (hB2.trans (hC4.mono hB2.size)))).mono ?_
      rintro e w5 ⟨rfl, hC5⟩
      have ht5 : TkAt w5 none [] := fun i t h => by simp at h
      have hg5 : ∀ g', (none : Option Addr) = some ⟨g', 0, none⟩ → 0 < ([] : List Tk).length → g' ≠ g := fun g' e => by cases e
      have hb6 : Below w5.heap.size w5 (w5.alloc (.cells #[.int .i64 cc, .int .i64 a] 26)) := (Below.refl _ _).alloc (Nat.le_refl _) _
      have q0 : (w5.alloc (.cells #[.int .i64 cc, .int .i64 a] 26)).cell? ⟨w5.heap.size, 0, none⟩ = some (.int .i64 cc) := by simp
      have q1 : (w5.alloc (.cells #[.int .i64 cc, .int .i64 a] 26)).cell? ⟨w5.heap.size, 1, none⟩ = some (.int .i64 a) := by simp
      have hC6 := (hC4.trans (hC5.mono hC4.size)).trans (hb6.mono (hC4.trans (hC5.mono hC4.size)).size)
      go_wp2_with fail
      generalize w5.alloc (.cells #[.int .i64 cc, .int .i64 a] 26) = w6 at *
      go_at_call 12
      refine (bytes_true _ _ s _ _ _ (hrd.later hC6) (hr.later (hB2.trans (hC6.mono hB2.size))) (by omega) hl (by unfold maxLen; omega) (by unfold maxLen; omega)).mono ?_
      rintro e w7 ⟨rfl, hC7⟩
      have h77' := cell_later (hC6.trans (hC7.mono hC6.size)) h77
      have hD5 := hb6.trans (hC7.mono hb6.size)
      have hD4 := hC5.trans (hD5.mono hC5.size)
      have hD3 := hb4.trans (hD4.mono hb4.size)
      have hD2 := hC6.trans (hC7.mono hC6.size)
      have k0 := cell_later hD4 p0
      have k1 := cell_later hD4 p1
      have k2 := cell_later hC7 q0
      have k3 := cell_later hC7 q1
      have hk3 := ht3.later hD3
      have hk5 := ht5.later hD5
      have hwB := hB2.trans (hD2.mono hB2.size)
      have hz3 : g ≠ w3.heap.size := by have := hC3.size; omega
      have hz5 : g ≠ w5.heap.size := by have := (hC4.trans (hC5.mono hC4.size)).size; omega
      have hfr7 : ∀ i, i < s.size + 1 → (w7.cell? ⟨g, i, none⟩).isSome = true ∧ w7.frozen? ⟨g, i, none⟩ = false := fun i hi => by
        obtain ⟨v, hv⟩ := Option.isSome_iff_exists.1 (hfr i hi).1
        exact ⟨by rw [cell_later hD2 hv]; rfl, (hD2.frozen (p := ⟨g, i, none⟩) hgl).trans (hfr i hi).2⟩
      have HF := Lib.hid hfr7
      clear hfr7 hfr h77 hrd hC3 hC4 hC5 hC6 hC7 hb4 hb6 hD5 hD4 hD3 p0 p1 q0 q1 hTk hRk hR hown1 hown2 hg1 hg2 hat1 hat2 hri
      go_wp2_with fail
      go_loopw [8] (fun v wr => ∃ k : Nat, v = .int .i64 k ∧ k ≤ s.size + 1 ∧ ButG g w7 wr ∧ Below w.heap.size w wr ∧ Hid (∀ i, i < s.size + 1 → (wr.cell? ⟨g, i, none⟩).isSome = true ∧ wr.frozen? ⟨g, i, none⟩ = false)) (fun v _ => s.size + 1 - (intOf v).toNat)
      case atStart => exact ⟨0, rfl, Nat.zero_le _, ButG.refl _ _, hwB, HF⟩
      case round =>
        obtain ⟨k, rfl, hk, hbt, hbr, HFr⟩ := hrel
        clear HF hwB h77'
        by_cases hlt : k < s.size + 1
        · obtain ⟨hs1, hf1⟩ := HFr.out k hlt
          obtain ⟨v1, hv1⟩ := Option.isSome_iff_exists.1 hs1
          have hgr : g < wr.heap.size := World.block_lt_of_cell? _ _ hv1
          have n1 : (k : Int) < ((s.size + 1 : Nat) : Int) := by omega
          go_wp2
          go_roundw
          case rel =>
            refine ⟨k + 1, by go_num, by omega, hbt.set _ _, Below.setCell (p := ⟨g, k, none⟩) hbr hgb _, Lib.hid (fun i hi => ?_)⟩
            obtain ⟨a1, a2⟩ := HFr.out i hi
            refine ⟨?_, by rw [World.frozen?_setCell]; exact a2⟩
            by_cases e : i = k
            · subst e
              rw [cell_set_eq hv1]; rfl
            · obtain ⟨v2, hv2⟩ := Option.isSome_iff_exists.1 a1
              rw [cell_set_ne hv2 (fun h => e h.symm)]; rfl
          case measure => simp [intOf]; omega
        · have hke : k = s.size + 1 := by omega
          subst hke
          have x0 := hbt.cell hz3 k0
          have x1 := hbt.cell hz3 k1
          have x2 := hbt.cell hz5 k2
          have x3 := hbt.cell hz5 k3
          have y3 := hbt.tk hg3 hk3
          have y5 := hbt.tk hg5 hk5
          have c1 : (cc == cc) = true := by simp
          go_wp2_with (first
            | (go_at_call 13; refine (tokens_true none none 0 0 ([] : List Tk) ([] : List Tk) true _ y3 y5 (Nat.le_refl _) (Nat.le_refl _) (Nat.zero_le _) (Nat.zero_le _) rfl (fun i a b h1 h2 => by rw [h1] at h2; injection h2 with h2; subst h2; exact ⟨rfl, rfl, fun _ => rfl⟩)).mono ?_; rintro e w8 ⟨rfl, hb8⟩)
            | (go_at_call 9; refine (lxAwake_ok _ (Utf8Tabs_below hT (hbr.trans (hb8.mono hbr.size)))).mono ?_; rintro e w9 ⟨rfl, hb9⟩))
          go_ret
          exact ⟨rfl, (hbr.trans (hb8.mono hbr.size)).trans (hb9.mono (hbr.trans (hb8.mono hbr.size)).size)⟩
  · have e1 : decide (70000 < (s.size : Int)) = true := decide_eq_true (by omega)
    go_enter Tryd.func3, Tryd.ntmps3
    go_wp2_with (go_at_call 9; refine (lxAwake_ok _ hT).mono ?_; rintro e w1 ⟨rfl, hb1⟩)
    go_ret
    exact ⟨rfl, hb1⟩
end Go.Proofs.YtgheejogpbhokaaDoor
