/- The reference's trim, made, Form, Negate, Small (chapter 1). Conditions: the slice reads as at most a million words. -/
import Derived.Test.YtegdbcnloodljaaDoorAppend
import Derived.Test.YtegdbcnloodljaaDoorTrim
import Derived.Test.YtegdbcnloodljaaDoorBits
import Derived.BigQuiet
import Derived.Deep.QuietTactic
namespace Go.Proofs.YtegdbcnloodljaaDoor
set_option linter.unusedVariables false
set_option linter.unusedSimpArgs false
open Go.RowKit

/-- A slice in new memory that reads as the words zs is handed back. -/
def RetRow (w : World) (k : IntKind) (zs : List Int) (e : Ending) (w' : World) : Prop :=
  ∃ A c, e = .returned (.slice A zs.length c) ∧ zs.length ≤ c ∧ c ≤ 9223372036854775807 ∧ FrI w' w.heap.size k A zs ∧ Below w.heap.size w w'
/-- An Int in new memory is handed back. -/
def RetInt (w : World) (b : Bool) (zs : List Int) (e : Ending) (w' : World) : Prop :=
  ∃ A c, e = .returned (.agg #[.bool b, .slice A zs.length c]) ∧ zs.length ≤ c ∧ c ≤ 9223372036854775807 ∧ FrI w' w.heap.size .u32 A zs ∧ Below w.heap.size w w'

theorem retRow_own {w w1 : World} {e : TypeId} {k : IntKind} {v : Value} {n : Nat} {zs : List Int} (hn : zs.length = n) (h : w1.ownsRow w.heap.size e 1 v (0 + n) (([] ++ zs).map (Value.int k))) (hg : w.grownBy w1 (Value.slice none 0 0).ownBlock) :
    RetRow w k zs (.returned v) w1 := by
  subst hn
  simp only [Nat.zero_add, List.nil_append] at h
  obtain ⟨A, c, rfl, h1, h2, _⟩ := own_form h
  exact ⟨A, c, rfl, h1, h2, FrI.of_own h, (Below.refl _ _).grown hg (Nat.le_refl _) (by simp [Value.ownBlock])⟩

theorem u32_info : (Tryd.prog.info? 62).map (fun i => (i.zero, i.size, i.bytes)) = some (some (.int .u32 0), 1, 4) := by kernel_rfl

set_option maxHeartbeats 400000 in
theorem refTrim_any (A : Option Addr) (c : Nat) (zs : List Int) (w : World) (hr : RdI w .u32 A zs) (hl : zs.length ≤ c) (hc : c ≤ 9223372036854775807) (hm : zs.length ≤ 1000000) :
    Calls Tryd.prog 49 #[.slice A zs.length c] w (RetRow w .u32 (trimN zs)) := by
  obtain ⟨i0, hi0, hz0, hz1, hz2⟩ := info_parts u32_info
  go_enter Tryd.func49, Tryd.ntmps49
  go_wp2
  go_loop [3] (fun v => ∃ k : Nat, k ≤ zs.length ∧ v = .int .i64 k ∧ Hid (trimLen zs k = trimLen zs zs.length)) (fun v => (intOf v).toNat)
  case atStart => exact ⟨zs.length, Nat.le_refl _, rfl, rfl⟩
  case round =>
    obtain ⟨k, hk, rfl, hT⟩ := hrel
    have hrk := hr.take k
    have hlk : (zs.take k).length = k := by rw [List.length_take]; omega
    by_cases h0 : k = 0 ∨ zs[k-1]?.getD 0 ≠ 0
    · have hkk : trimLen zs k = k := by
        rcases h0 with h0 | h0
        · subst h0; rfl
        · cases k with
          | zero => rfl
          | succ k => simp at h0; rw [trimLen, if_neg h0]
      have hu : zs.take k = trimN zs := by rw [trimN, ← hT.out, hkk]
      rw [hu] at hrk hlk
      clear hkk hu
      have HL := Lib.hid hlk
      clear hlk
      have hex : k = 0 ∨ ∃ (j b off : Nat) (z : Int), k = j + 1 ∧ A = some ⟨b, off, none⟩ ∧ w.cell? ⟨b, off + j, none⟩ = some (.int .u32 z) ∧ (z == 0) = false := by
        rcases h0 with h0 | h0
        · exact .inl h0
        · cases k with
          | zero => exact .inl rfl
          | succ j =>
            obtain ⟨b, off, z, hA, hz, hc⟩ := hr j (by omega)
            refine .inr ⟨j, b, off, z, rfl, hA, hc, ?_⟩
            simp [hz] at h0
            simp [h0]
      clear h0
      rcases hex with rfl | ⟨j, b, off, z, rfl, rfl, hcz, hzn⟩
      all_goals
        go_wp2_with (at_builtin; refine wpList_append_ints _ rfl (.tmp 19) (.tmp 22) _ rfl w.heap.size 62 i0 _ 4 .u32 Tryd.underlying22 hi0 hz0 hz1 hz2 rfl (.slice none 0 0) 0 [] rfl (World.ownsRow_nil _ _ _ _) _ _ _ (trimN zs) rfl HL.out.symm hrk (by unfold maxLen; omega) (by omega) (Nat.le_refl _) ?_; intro v1 w1 hown hg _)
        go_ret
        exact retRow_own HL.out hown hg
    · cases k with
      | zero => exact absurd (.inl rfl) h0
      | succ k =>
        obtain ⟨b, off, z, rfl, hz, hc⟩ := hr k (by omega)
        have hzz : z = 0 := by
          rcases Int.lt_trichotomy z 0 with h | h | h
          · exact absurd (.inr (by simp [hz]; omega)) h0
          · exact h
          · exact absurd (.inr (by simp [hz]; omega)) h0
        have hzn : (z == 0) = true := by simp [hzz]
        have HT : Hid (trimLen zs k = trimLen zs zs.length) := by
          rw [← hT.out, trimLen, hz, if_pos (by simpa using hzz)]; rfl
        clear h0 hzz hz hrk hlk
        go_wp2
        go_round
        case rel => exact ⟨k, by omega, by go_num, HT⟩
        case measure => simp [intOf]

theorem retInt_close {w w' : World} {X : Obj} {b : Bool} {A : Option Addr} {ts : List Int} {c : Nat} (l1 : ts.length ≤ c) (l2 : c ≤ 9223372036854775807) (fr : FrI w' (w.alloc X).heap.size .u32 A ts) (hb : Below (w.alloc X).heap.size (w.alloc X) w') (x y : Value) :
    RetInt w b ts (.returned (.agg #[.bool b, .slice A ts.length c])) ((w'.setCell ⟨w.heap.size, 0, none⟩ x).setCell ⟨w.heap.size, 1, none⟩ y) := by
  refine ⟨A, c, rfl, l1, l2, ?_, ?_⟩
  · have h1 : FrI w' (w.heap.size + 1) .u32 A ts := by simpa using fr
    exact ((h1.setCell (p := ⟨w.heap.size, 0, none⟩) (by simp) _).setCell (p := ⟨w.heap.size, 1, none⟩) (by simp) _).mono (by omega)
  · exact ((((Below.refl _ w).alloc (Nat.le_refl _) X).trans (hb.mono (by simp))).setCell (p := ⟨w.heap.size, 0, none⟩) (Nat.le_refl _) _).setCell (p := ⟨w.heap.size, 1, none⟩) (Nat.le_refl _) _

/-- The sign of an Int in its form. -/
def negN (neg : Bool) (zs : List Int) : Bool := neg && decide (0 < (trimN zs).length)

set_option maxHeartbeats 400000 in
theorem made_any (neg : Bool) (A : Option Addr) (c : Nat) (zs : List Int) (w : World) (hr : RdI w .u32 A zs) (hl : zs.length ≤ c) (hc : c ≤ 9223372036854775807) (hm : zs.length ≤ 1000000) :
    Calls Tryd.prog 52 #[.bool neg, .slice A zs.length c] w (RetInt w (negN neg zs) (trimN zs)) := by
  have hl2 := trimN_le zs
  have HN : Hid (negN neg zs = (neg && decide (0 < (trimN zs).length))) := rfl
  obtain ⟨ts, hts⟩ : ∃ ts, ts = trimN zs := ⟨_, rfl⟩
  have HC := Lib.hid (fun W (hb : Below w.heap.size w W) => refTrim_any A c zs W (hr.later hb) hl hc hm)
  rw [← hts] at HN HC hl2
  have HT := Lib.hid hts
  clear hts
  rw [← HT.out, HN.out]
  clear HN
  cases neg
  all_goals
    by_cases h0 : 0 < ts.length
    all_goals
      go_enter Tryd.func52, Tryd.ntmps52
      go_wp2_with (go_at_call 49; refine (HC.out _ ((Below.refl _ _).alloc (Nat.le_refl _) _)).mono ?_; rintro e w' ⟨A', c', rfl, l1, l2, fr, hb⟩; obtain ⟨ko, kf⟩ := oldCells hb; have hsz : w.heap.size + 1 ≤ w'.heap.size := by have := hb.size; simpa using this)
      exact bodyPost_ret (v := .agg #[.bool _, .slice A' ts.length c']) (by simp [results, Tryd.results52, go_sem, ko, hsz]; rfl) rfl (by first | exact retInt_close l1 l2 fr hb _ _ | (simp only [h0, decide_true, decide_false, Bool.and_true, Bool.and_false]; exact retInt_close l1 l2 fr hb _ _))

theorem retInt_at {w W1 w' : World} {g : Nat} {b : Bool} {A : Option Addr} {ts : List Int} {c : Nat} (h01 : Below w.heap.size w W1) (hg : g < W1.heap.size) (hgw : w.heap.size ≤ g) (l1 : ts.length ≤ c) (l2 : c ≤ 9223372036854775807)
    (fr : FrI w' W1.heap.size .u32 A ts) (hb : Below W1.heap.size W1 w') (x y : Value) :
    RetInt w b ts (.returned (.agg #[.bool b, .slice A ts.length c])) ((w'.setCell ⟨g, 0, none⟩ x).setCell ⟨g, 1, none⟩ y) := by
  refine ⟨A, c, rfl, l1, l2, ?_, ?_⟩
  · exact ((fr.setCell (p := ⟨g, 0, none⟩) hg _).setCell (p := ⟨g, 1, none⟩) hg _).mono h01.size
  · exact ((h01.trans (hb.mono h01.size)).setCell (p := ⟨g, 0, none⟩) hgw _).setCell (p := ⟨g, 1, none⟩) hgw _

set_option maxHeartbeats 400000 in
theorem form_any (neg : Bool) (A : Option Addr) (c : Nat) (zs : List Int) (w : World) (hr : RdI w .u32 A zs) (hl : zs.length ≤ c) (hc : c ≤ 9223372036854775807) (hm : zs.length ≤ 1000000) :
    Calls Tryd.prog 37 #[.agg #[.bool neg, .slice A zs.length c]] w (RetInt w (negN neg zs) (trimN zs)) := by
  have HC := Lib.hid (fun W (hb : Below w.heap.size w W) => made_any neg A c zs W (hr.later hb) hl hc hm)
  obtain ⟨ts, hts⟩ : ∃ ts, ts = trimN zs := ⟨_, rfl⟩
  obtain ⟨bb, hbb⟩ : ∃ bb, bb = negN neg zs := ⟨_, rfl⟩
  rw [← hts, ← hbb] at HC ⊢
  clear hts hbb
  have hb1 : Below w.heap.size w ((w.alloc (.cells #[.bool neg, .slice A zs.length c] 24)).alloc (.cells #[.bool false, .slice none 0 0] 24)) := ((Below.refl _ _).alloc (Nat.le_refl _) _).alloc (by simp) _
  go_enter Tryd.func37, Tryd.ntmps37
  go_wp2_with (go_at_call 52; refine (HC.out _ hb1).mono ?_; rintro e w' ⟨A', c', rfl, l1, l2, fr, hb⟩; obtain ⟨ko, kf⟩ := oldCells hb; have hsz : w.heap.size + 1 + 1 ≤ w'.heap.size := by have := hb.size; simpa using this)
  exact bodyPost_ret (v := .agg #[.bool bb, .slice A' ts.length c']) (by simp [results, Tryd.results37, go_sem, ko, hsz]) rfl (retInt_at hb1 (by simp) (by omega) l1 l2 fr hb _ _)

set_option maxHeartbeats 400000 in
theorem refNegate_any (neg : Bool) (A : Option Addr) (c : Nat) (zs : List Int) (w : World) (hr : RdI w .u32 A zs) (hl : zs.length ≤ c) (hc : c ≤ 9223372036854775807) (hm : zs.length ≤ 1000000) :
    Calls Tryd.prog 29 #[.agg #[.bool neg, .slice A zs.length c]] w (RetInt w (negN (!neg) zs) (trimN zs)) := by
  have HC := Lib.hid (fun W (hb : Below w.heap.size w W) => made_any (!neg) A c zs W (hr.later hb) hl hc hm)
  obtain ⟨ts, hts⟩ : ∃ ts, ts = trimN zs := ⟨_, rfl⟩
  obtain ⟨bb, hbb⟩ : ∃ bb, bb = negN (!neg) zs := ⟨_, rfl⟩
  rw [← hts, ← hbb] at HC ⊢
  clear hts hbb
  have hb1 : Below w.heap.size w ((w.alloc (.cells #[.bool neg, .slice A zs.length c] 24)).alloc (.cells #[.bool false, .slice none 0 0] 24)) := ((Below.refl _ _).alloc (Nat.le_refl _) _).alloc (by simp) _
  go_enter Tryd.func29, Tryd.ntmps29
  go_wp2_with (go_at_call 52; refine (HC.out _ hb1).mono ?_; rintro e w' ⟨A', c', rfl, l1, l2, fr, hb⟩; obtain ⟨ko, kf⟩ := oldCells hb; have hsz : w.heap.size + 1 + 1 ≤ w'.heap.size := by have := hb.size; simpa using this)
  exact bodyPost_ret (v := .agg #[.bool bb, .slice A' ts.length c']) (by simp [results, Tryd.results29, go_sem, ko, hsz]) rfl (retInt_at hb1 (by simp) (by omega) l1 l2 fr hb _ _)
end Go.Proofs.YtegdbcnloodljaaDoor
