/- The lexer goes through its source: what holds at each label. -/
import Derived.Test.YtgheejogpbhokaaDoorLx12
import Derived.Test.YtgheejogpbhokaaDoorScopes
namespace Go.Proofs.YtgheejogpbhokaaDoor
set_option linter.unusedVariables false
set_option linter.unusedSimpArgs false
open Go.RowKit
set_option maxRecDepth 1000000

theorem list_map_get (l : List Value) : l = (List.range l.length).map fun i => l.getD i undef := by
  refine List.ext_getElem (by simp) fun i h1 h2 => ?_
  simp [h1]
/-- a frame of 103 slots, written out. -/
theorem frame_out (t : Array Value) (X : Nat) (hs : t.size = 103) (h0 : t[0]? = some (.pointer (some ⟨X, 0, none⟩))) : ∃ f : Nat → Value, t = #[.pointer (some ⟨X, 0, none⟩), f 1, f 2, f 3, f 4, f 5, f 6, f 7, f 8, f 9, f 10, f 11, f 12, f 13, f 14, f 15, f 16, f 17, f 18, f 19, f 20, f 21, f 22, f 23, f 24, f 25, f 26, f 27, f 28, f 29, f 30, f 31, f 32, f 33, f 34, f 35, f 36, f 37, f 38, f 39, f 40, f 41, f 42, f 43, f 44, f 45, f 46, f 47, f 48, f 49, f 50, f 51, f 52, f 53, f 54, f 55, f 56, f 57, f 58, f 59, f 60, f 61, f 62, f 63, f 64, f 65, f 66, f 67, f 68, f 69, f 70, f 71, f 72, f 73, f 74, f 75, f 76, f 77, f 78, f 79, f 80, f 81, f 82, f 83, f 84, f 85, f 86, f 87, f 88, f 89, f 90, f 91, f 92, f 93, f 94, f 95, f 96, f 97, f 98, f 99, f 100, f 101, f 102] := by
  refine ⟨fun i => t.toList.getD i undef, ?_⟩
  have h := list_map_get t.toList
  rw [show t.toList.length = 103 by simpa using hs] at h
  have h00 : t.toList.getD 0 undef = .pointer (some ⟨X, 0, none⟩) := by
    have : t.toList[0]? = some (.pointer (some ⟨X, 0, none⟩)) := by simpa using h0
    rw [List.getD_eq_getElem?_getD, this]; rfl
  rw [← h00]
  apply Array.toList_inj.1
  rw [h]
  rfl

/-- what comes of the source. -/
def AllR (w : World) (base X : Nat) (s : ByteArray) (R : LR) (e : Ending) (w' : World) : Prop :=
  match R with
  | .ok l => e = .returned (.tuple #[]) ∧ (∃ p o st, LxS w' base X s p o st l) ∧ Below base w w'
  | .bad c a => e = .panicked [{ v := stopV c a, recovered := false }] ∧ Below base w w'
/-- what is kept. -/
structure Ok (s : ByteArray) (p o : Nat) (st : List Nat) (toks : List Tk) (k : Nat) : Prop where
  hp : p ≤ s.size
  ho : o ≤ 60
  hb : st.getLast? = some 0
  hc : toks.length + st.length ≤ k
  hd : st.length ≤ 41
def Kept (w0 : World) (base X : Nat) (s : ByteArray) (p o : Nat) (st : List Nat) (toks : List Tk) (k : Nat) (w : World) : Prop :=
  LxS w base X s p o st toks ∧ Below base w0 w ∧ base ≤ w.heap.size ∧ Ok s p o st toks k
/-- what holds at a label. -/
def AtL (w0 : World) (base X : Nat) (s : ByteArray) (R : LR) (l : Nat) (w : World) : Prop :=
  match l with
  | 0 => ∃ p st toks, Kept w0 base X s p 0 st toks (3 * p + 1) w ∧ lexR s.data.toList ⟨p, 0, true, 0, st, toks⟩ = R
  | 1 => ∃ p b st toks, Kept w0 base X s p 0 st toks (3 * p + 4) w ∧ lexR s.data.toList ⟨p, b, true, 0, st, toks⟩ = R ∧ (∀ h : p < s.size, s[p] = 10)
  | 2 => ∃ p o b st toks, Kept w0 base X s p o st toks (3 * p + 3) w ∧ lexR s.data.toList ⟨p, b, false, o, st, toks⟩ = R
  | 3 => ∃ p o st toks, Kept w0 base X s p o st toks (3 * p + 4) w ∧ R = .ok (endL s.size st toks)
  | _ => False
def JL (w0 : World) (base X : Nat) (s : ByteArray) (R : LR) (l : Nat) (a : Act) (w : World) : Prop :=
  a.tmps.size = 103 ∧ a.tmps[0]? = some (.pointer (some ⟨X, 0, none⟩)) ∧ a.defers = [] ∧ AtL w0 base X s R l w
def rk (l : Nat) : Nat := if l = 0 then 3 else if l = 2 then 2 else if l = 1 then 1 else 0
def muL (s : ByteArray) (X : Nat) (l : Nat) (a : Act) (w : World) : Nat := 4 * atM s X w + rk l
theorem mu_eq {w : World} {s : ByteArray} {X p : Nat} {a : Act} {l k : Nat} (h : w.cell? ⟨X, 1, none⟩ = some (.int .i64 p)) (hk : rk l = k) : muL s X l a w = 4 * (s.size - p) + k := by rw [muL, atM_eq h, hk]

theorem step_end {s : List UInt8} {S : LS} (h : s.length ≤ S.pos) : lexR s S = .ok (endL s.length S.st S.toks) := by
  refine lexR_end ?_
  unfold stepL
  rw [List.drop_eq_nil_of_le h]
theorem step_nl {s : ByteArray} {p b o : Nat} {h : Bool} {st : List Nat} {toks : List Tk} (hp : p < s.size) (hc : s[p] = 10) :
    lexR s.data.toList ⟨p, b, h, o, st, toks⟩ = lexR s.data.toList ⟨p + 1, 0, h || decide (o = 0), o, st, if o = 0 ∧ h = false then toks ++ [⟨6, [], p⟩] else toks⟩ := by
  refine lexR_step ?_
  unfold stepL
  dsimp only
  rw [drop_cons s p hp, hc]
  rfl
theorem bl_lex (s : ByteArray) (h : Bool) (o : Nat) (st : List Nat) (toks : List Tk) : ∀ (n p b : Nat), blL (s.data.toList.drop p) = n → p ≤ s.size → p + n ≤ s.size ∧ lexR s.data.toList ⟨p, b, h, o, st, toks⟩ = lexR s.data.toList ⟨p + n, b + n, h, o, st, toks⟩ ∧ blL (s.data.toList.drop (p + n)) = 0
  | 0, p, b, hn, hp => ⟨hp, rfl, hn⟩
  | n + 1, p, b, hn, hp => by
    by_cases hlt : p < s.size
    · by_cases h32 : s[p] = 32
      · rw [blL_step s p hlt h32] at hn
        obtain ⟨a1, a2, a3⟩ := bl_lex s h o st toks n (p + 1) (b + 1) (by omega) (by omega)
        have e : lexR s.data.toList ⟨p, b, h, o, st, toks⟩ = lexR s.data.toList ⟨p + 1, b + 1, h, o, st, toks⟩ := by
          refine lexR_step ?_
          unfold stepL
          dsimp only
          rw [drop_cons s p hlt, h32]
          rfl
        have e1 : p + (n + 1) = p + 1 + n := by omega
        have e2 : b + (n + 1) = b + 1 + n := by omega
        rw [e1, e2]
        exact ⟨a1, e.trans a2, a3⟩
      · rw [blL_stop s p hlt h32] at hn; omega
    · have : p = s.size := by omega
      subst this
      rw [blL_end] at hn; omega
theorem rem_stop : ∀ (l : List UInt8) (c : UInt8), l[remL l]? = some c → c = 10
  | [], c, h => by simp at h
  | d :: t, c, h => by
    by_cases hd : d = 10
    · subst hd
      have : remL (10 :: t) = 0 := by rw [remL, List.takeWhile_cons, if_neg (by decide)]; rfl
      rw [this] at h
      simpa using h.symm
    · have : remL (d :: t) = remL t + 1 := by rw [remL, List.takeWhile_cons, if_pos (by simpa using hd), List.length_cons, remL]
      rw [this, List.getElem?_cons_succ] at h
      exact rem_stop t c h
/-- past blanks and a remark nothing is turned but the place. -/
theorem past_lexE (s : ByteArray) (p b : Nat) (h : Bool) (o : Nat) (st : List Nat) (toks : List Tk) (hp : p ≤ s.size) : p ≤ pastP s p ∧ pastP s p ≤ s.size ∧ lexR s.data.toList ⟨p, b, h, o, st, toks⟩ = lexR s.data.toList ⟨pastP s p, b + blL (s.data.toList.drop p), h, o, st, toks⟩ ∧ ∀ (hlt : pastP s p < s.size), s[pastP s p] ≠ 10 → s[pastP s p] ≠ 32 ∧ s[pastP s p] ≠ 35 := by
  obtain ⟨a1, a2, a3⟩ := bl_lex s h o st toks _ p b rfl hp
  have hpq : p ≤ p + blL (s.data.toList.drop p) := Nat.le_add_right _ _
  unfold pastP
  generalize p + blL (s.data.toList.drop p) = q at *
  by_cases hlt : q < s.size
  · by_cases h35 : s[q] = 35
    · have hh : (s.data.toList.drop q).head? = some 35 := by rw [drop_cons s q hlt, List.head?_cons, h35]
      have hrl := rem_le (s.data.toList.drop q)
      rw [List.length_drop] at hrl
      have hlen : s.data.toList.length = s.size := by simp
      rw [hlen] at hrl
      have hst : lexR s.data.toList ⟨q, b + blL (s.data.toList.drop p), h, o, st, toks⟩ = lexR s.data.toList ⟨q + remL (s.data.toList.drop q), b + blL (s.data.toList.drop p), h, o, st, toks⟩ := by
        refine lexR_step ?_
        unfold stepL
        dsimp only
        rw [drop_cons s q hlt, h35]
        rfl
      have h10 : ∀ (hl : q + remL (s.data.toList.drop q) < s.size), s[q + remL (s.data.toList.drop q)] = 10 := fun hl => by
        refine rem_stop (s.data.toList.drop q) _ ?_
        rw [List.getElem?_drop, List.getElem?_eq_getElem (by rw [hlen]; exact hl)]
        rfl
      simp only [hh, if_true]
      exact ⟨by omega, by omega, a2.trans hst, fun hl hne => absurd (h10 hl) hne⟩
    · have hh : ¬ ((s.data.toList.drop q).head? = some 35) := by rw [drop_cons s q hlt, List.head?_cons]; intro e; injection e with e; exact h35 e
      simp only [hh, if_false, Nat.add_zero]
      refine ⟨hpq, a1, a2, fun hl _ => ⟨?_, h35⟩⟩
      intro e
      rw [blL_step s q hlt e] at a3
      omega
  · have hq : q = s.size := by omega
    have hh : ¬ ((s.data.toList.drop q).head? = some 35) := by rw [hq, List.drop_eq_nil_of_le (by simp)]; simp
    simp only [hh, if_false, Nat.add_zero]
    exact ⟨hpq, a1, a2, fun hl => absurd hl hlt⟩
theorem past_lex (s : ByteArray) (p b : Nat) (h : Bool) (o : Nat) (st : List Nat) (toks : List Tk) (hp : p ≤ s.size) : p ≤ pastP s p ∧ pastP s p ≤ s.size ∧ (∃ b', lexR s.data.toList ⟨p, b, h, o, st, toks⟩ = lexR s.data.toList ⟨pastP s p, b', h, o, st, toks⟩) ∧ ∀ (hlt : pastP s p < s.size), s[pastP s p] ≠ 10 → s[pastP s p] ≠ 32 ∧ s[pastP s p] ≠ 35 := by
  obtain ⟨a, b, c, d⟩ := past_lexE s p b h o st toks hp
  exact ⟨a, b, ⟨_, c⟩, d⟩
theorem pop_last (n : Nat) : ∀ l : List Nat, l.getLast? = some 0 → (popL n l).getLast? = some 0
  | [], h => by simp at h
  | d :: r, h => by
    rw [popL]
    split
    · exact pop_last n r (last_more h (by omega))
    · exact h
theorem begin_in {n a : Nat} {st : List Nat} {toks : List Tk} {y : List Nat × List Tk} (h : beginL n a st toks = .inl y) (hl : st.getLast? = some 0) (hd : st.length ≤ 41) : y.1.getLast? = some 0 ∧ y.2.length + y.1.length ≤ toks.length + st.length + 2 ∧ y.1.length ≤ 41 := by
  unfold beginL at h
  split at h
  · split at h
    · cases h
    · injection h with h
      subst h
      refine ⟨?_, ?_, ?_⟩
      · cases st with
        | nil => simp at hl
        | cons d r => rw [List.getLast?_cons_cons]; exact hl
      · simp; omega
      · simp; omega
  · split at h
    · injection h with h
      subst h
      have := pop_le n st
      exact ⟨pop_last n st hl, by simp; omega, by simp; omega⟩
    · cases h
theorem head_lex {s : ByteArray} {q b o : Nat} {st : List Nat} {toks : List Tk} (hq : q < s.size) (h10 : s[q] ≠ 10) (h32 : s[q] ≠ 32) (h35 : s[q] ≠ 35) : lexR s.data.toList ⟨q, b, true, o, st, toks⟩ = (match beginL b q st toks with | .inl x => lexR s.data.toList ⟨q, b, false, o, x.1, x.2⟩ | .inr c => .bad c q) := by
  cases h : beginL b q st toks with
  | inl x =>
    refine lexR_step ?_
    unfold stepL
    dsimp only
    rw [drop_cons s q hq]
    dsimp only
    rw [if_neg h35, if_neg h32, if_neg h10, if_pos rfl, h]
  | inr c =>
    refine lexR_end ?_
    unfold stepL
    dsimp only
    rw [drop_cons s q hq]
    dsimp only
    rw [if_neg h35, if_neg h32, if_neg h10, if_pos rfl, h]
theorem tokL_opn {o : Nat} {l t : List UInt8} {k : Int} {n o' : Nat} (h : tokL o l = .tok k t n o') (ho : o ≤ 60) : o' ≤ 60 := by
  unfold tokL at h
  cases l with
  | nil => cases h
  | cons c r =>
    simp only at h
    split at h
    · injection h with _ _ _ d; omega
    · split at h
      · split at h
        · injection h with _ _ _ d; omega
        · cases h
      · split at h
        · split at h
          · cases h
          · injection h with _ _ _ d; omega
        · unfold signT at h
          split at h
          · cases h
          · split at h
            · split at h
              · cases h
              · injection h with _ _ _ d; omega
            · split at h
              · injection h with _ _ _ d; omega
              · injection h with _ _ _ d; omega
end Go.Proofs.YtgheejogpbhokaaDoor
