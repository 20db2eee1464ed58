/- The law's tokens and bytes: two rows that read alike. -/
import Derived.Test.YtgheejogpbhokaaDoorLxAw
namespace Go.Proofs.YtgheejogpbhokaaDoor
set_option linter.unusedVariables false
set_option linter.unusedSimpArgs false
open Go.RowKit
set_option maxRecDepth 1000000

/-- a slice that reads as these tokens. -/
def TkAt (w : World) (A : Option Addr) (L : List Tk) : Prop := ∀ i t, L[i]? = some t → ∃ g, A = some ⟨g, 0, none⟩ ∧ w.cell? ⟨g, i * 3, none⟩ = some (.int .i64 t.kind) ∧ w.cell? ⟨g, i * 3 + 1, none⟩ = some (.string ⟨t.text.toArray⟩) ∧ w.cell? ⟨g, i * 3 + 2, none⟩ = some (.int .i64 t.pos)
theorem tkVs_get (L : List Tk) (i : Nat) (t : Tk) (h : L[i]? = some t) : (tkVs L)[i * 3]? = some (.int .i64 t.kind) ∧ (tkVs L)[i * 3 + 1]? = some (.string ⟨t.text.toArray⟩) ∧ (tkVs L)[i * 3 + 2]? = some (.int .i64 t.pos) := by
  induction L generalizing i with
  | nil => simp at h
  | cons a L ih =>
    have e : tkVs (a :: L) = tkV a ++ tkVs L := rfl
    cases i with
    | zero =>
      simp only [List.getElem?_cons_zero, Option.some.injEq] at h
      subst h
      rw [e]
      exact ⟨rfl, rfl, rfl⟩
    | succ i =>
      rw [List.getElem?_cons_succ] at h
      obtain ⟨h1, h2, h3⟩ := ih i h
      have hl : (tkV a).length = 3 := rfl
      rw [e]
      refine ⟨?_, ?_, ?_⟩
      · rw [List.getElem?_append_right (by rw [hl]; omega), hl, show (i + 1) * 3 - 3 = i * 3 by omega]; exact h1
      · rw [List.getElem?_append_right (by rw [hl]; omega), hl, show (i + 1) * 3 + 1 - 3 = i * 3 + 1 by omega]; exact h2
      · rw [List.getElem?_append_right (by rw [hl]; omega), hl, show (i + 1) * 3 + 2 - 3 = i * 3 + 2 by omega]; exact h3
theorem tkAt_own {w : World} {base n : Nat} {e : TypeId} {A : Option Addr} {C : Nat} {L : List Tk} (h : w.ownsRow base e 3 (.slice A n C) n (tkVs L)) (hn : n = L.length) : TkAt w A L := by
  intro i t hi
  have h0 : 0 < n := by have := (List.getElem?_eq_some_iff.1 hi).1; omega
  obtain ⟨g, rfl, _, _, _, _, hc⟩ := own_some h h0
  obtain ⟨h1, h2, h3⟩ := tkVs_get L i t hi
  exact ⟨g, rfl, hc _ _ h1, hc _ _ h2, hc _ _ h3⟩
theorem TkAt.later {w w' : World} {A : Option Addr} {L : List Tk} (h : TkAt w A L) (hb : Below w.heap.size w w') : TkAt w' A L := fun i t hi => by
  obtain ⟨g, e, h1, h2, h3⟩ := h i t hi
  exact ⟨g, e, cell_later hb h1, cell_later hb h2, cell_later hb h3⟩
/-- alike: by kind and text, and by place if that is asked. -/
def Alike (at_ : Bool) (a b : Tk) : Prop := a.kind = b.kind ∧ a.text = b.text ∧ (at_ = true → a.pos = b.pos)
set_option maxHeartbeats 2000000 in
theorem tokens_true (A B : Option Addr) (C D : Nat) (la lb : List Tk) (at_ : Bool) (w : World) (hA : TkAt w A la) (hB : TkAt w B lb) (hC : la.length ≤ C) (hD : lb.length ≤ D) (hC2 : C ≤ maxLen) (hD2 : D ≤ maxLen) (hl : la.length = lb.length) (hal : ∀ (i : Nat) (a b : Tk), la[i]? = some a → lb[i]? = some b → Alike at_ a b) :
    Calls Tryd.prog 13 #[.slice A la.length C, .slice B lb.length D, .bool at_] w fun e w' => e = .returned (.bool true) ∧ Below w.heap.size w w' := by
  unfold maxLen at hC2 hD2
  have HA := Lib.hid hA
  have HB := Lib.hid hB
  have HL := Lib.hid hal
  rw [← hl]
  rw [← hl] at hD
  clear hA hB hal
  generalize hn : la.length = n at *
  cases at_
  all_goals
    go_enter Tryd.func13, Tryd.ntmps13
    go_wp2_with fail
    go_loopw [7] (fun v wr => ∃ k : Nat, v = .int .i64 k ∧ k ≤ n ∧ Below w.heap.size w wr ∧ Hid (TkAt wr A la) ∧ Hid (TkAt wr B lb)) (fun v _ => n - (intOf v).toNat)
    case atStart => exact ⟨0, rfl, Nat.zero_le _, Below.refl _ _, HA, HB⟩
    case round =>
      obtain ⟨k, rfl, hk, hbr, HAr, HBr⟩ := hrel
      clear HA HB
      by_cases hlt : k < n
      · obtain ⟨a, ha⟩ : ∃ a, la[k]? = some a := ⟨_, List.getElem?_eq_getElem (by omega)⟩
        obtain ⟨b, hb⟩ : ∃ b, lb[k]? = some b := ⟨_, List.getElem?_eq_getElem (by omega)⟩
        obtain ⟨a1, a2, a3⟩ := HL.out k a b ha hb
        obtain ⟨g, hAe, c0, c1, c2⟩ := HAr.out k a ha
        obtain ⟨g', hBe, d0, d1, d2⟩ := HBr.out k b hb
        subst hAe hBe
        rw [← a1] at d0
        rw [← a2] at d1
        try rw [← a3 rfl] at d2
        generalize a.kind = kd at *
        generalize (⟨a.text.toArray⟩ : ByteArray) = T at *
        generalize a.pos = ps at *
        generalize b.pos = ps2 at *
        clear ha hb a1 a2 a3
        have x1 : (kd != kd) = false := by simp
        have x2 : (T.toList != T.toList) = false := by simp
        have x3 : ((ps : Int) != (ps : Int)) = false := by simp
        go_wp2_with fail
        go_quiet (fail)
        obtain ⟨v2, hv, hbv⟩ : ∃ v, v = wr.drewN nq ∧ Below wr.heap.size wr v := ⟨_, rfl, below_draws _ _⟩
        rw [← hv]
        clear hv c0 c1 c2 d0 d1 d2
        have HA2 := Lib.hid (HAr.out.later hbv)
        have HB2 := Lib.hid (HBr.out.later hbv)
        replace hbr := hbr.trans (hbv.mono hbr.size)
        clear HAr HBr
        go_wp2
        go_roundw
        case rel => exact ⟨k + 1, by go_num, by omega, hbr, HA2, HB2⟩
        case measure => simp [intOf]; omega
      · have hke : k = n := by omega
        subst hke
        go_wp2
        go_ret
        exact ⟨rfl, hbr⟩
end Go.Proofs.YtgheejogpbhokaaDoor
