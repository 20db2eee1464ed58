/- The plain law of LexerShape; the frame of its walk and the body of its loop. -/
import Derived.Test.YtgheejogpbhokaaDoorLawLong
namespace Go.Proofs.YtgheejogpbhokaaDoor
set_option linter.unusedVariables false
set_option linter.unusedSimpArgs false
open Go.RowKit
set_option maxRecDepth 1000000

/-- a token is good behind another. -/
structure GoodT (s : List UInt8) (prev : Option Tk) (t : Tk) : Prop where
  at_ : t.pos ≤ s.length
  mono : ∀ p, prev = some p → p.pos ≤ t.pos
  bare : 6 ≤ t.kind → t.text = []
  lo : 1 ≤ t.kind
  hi : t.kind ≤ 9
  here : (t.kind = 1 ∨ t.kind = 2 ∨ t.kind = 3 ∨ t.kind = 5) → t.text ≠ [] ∧ t.pos + t.text.length ≤ s.length ∧ (s.drop t.pos).take t.text.length = t.text ∧ ∀ p, prev = some p → p.pos < t.pos ∨ p.kind = 7 ∨ p.kind = 8
  name : t.kind = 1 → wordB t.text = false
  word : t.kind = 2 → wordB t.text = true
def delta (t : Tk) : Int := if t.kind = 7 then 1 else if t.kind = 8 then -1 else 0
def dep (l : List Tk) : Int := (l.map delta).sum
theorem dep_app (a b : List Tk) : dep (a ++ b) = dep a + dep b := by simp [dep, List.sum_append]
theorem dep_one (t : Tk) : dep [t] = delta t := by simp [dep]
def prevOf (l : List Tk) (i : Nat) : Option Tk := if i = 0 then none else l[i - 1]?
structure Shp (s : List UInt8) (l : List Tk) : Prop where
  good : ∀ (i : Nat) (t : Tk), l[i]? = some t → GoodT s (prevOf l i) t
  deep : ∀ i, i ≤ l.length → 0 ≤ dep (l.take i)
theorem shp_nil (s : List UInt8) : Shp s [] := ⟨fun i t h => by simp at h, fun i h => by simp [dep]⟩
theorem Shp.snoc {s : List UInt8} {l : List Tk} {t : Tk} (h : Shp s l) (hg : GoodT s l.getLast? t) (hd : 0 ≤ dep l + delta t) : Shp s (l ++ [t]) := by
  refine ⟨fun i t' hi => ?_, fun i hi => ?_⟩
  · by_cases hl : i < l.length
    · rw [List.getElem?_append_left hl] at hi
      have := h.good i t' hi
      have he : prevOf (l ++ [t]) i = prevOf l i := by
        unfold prevOf
        by_cases h0 : i = 0
        · rw [if_pos h0, if_pos h0]
        · rw [if_neg h0, if_neg h0, List.getElem?_append_left (by omega)]
      rw [he]; exact this
    · have hi2 := (List.getElem?_eq_some_iff.1 hi).1
      rw [List.length_append, List.length_singleton] at hi2
      have hil : i = l.length := by omega
      subst hil
      rw [List.getElem?_append_right (Nat.le_refl _), Nat.sub_self] at hi
      simp only [List.getElem?_cons_zero, Option.some.injEq] at hi
      subst hi
      have he : prevOf (l ++ [t]) l.length = l.getLast? := by
        unfold prevOf
        by_cases h0 : l.length = 0
        · rw [if_pos h0, List.eq_nil_of_length_eq_zero h0]; rfl
        · rw [if_neg h0, List.getElem?_append_left (by omega), List.getLast?_eq_getElem?]
      rw [he]; exact hg
  · rw [List.length_append, List.length_singleton] at hi
    by_cases hl : i ≤ l.length
    · rw [List.take_append_of_le_length hl]; exact h.deep i hl
    · rw [List.take_of_length_le (by simp; omega), dep_app, dep_one]; exact hd
theorem Shp.total {s : List UInt8} {l : List Tk} (h : Shp s l) : 0 ≤ dep l := by
  have := h.deep l.length (Nat.le_refl _)
  rwa [List.take_length] at this
/-- what holds of a lexer's state. -/
structure LInv (s : List UInt8) (S : LS) : Prop where
  pos : S.pos ≤ s.length
  shp : Shp s S.toks
  noEnd : ∀ t ∈ S.toks, t.kind ≠ 9
  last : ∀ p, S.toks.getLast? = some p → p.pos < S.pos ∨ (p.pos = S.pos ∧ (p.kind = 7 ∨ p.kind = 8))
  bot : S.st.getLast? = some 0
  dp : (S.st.length : Int) = 1 + dep S.toks
theorem linv_start (s : List UInt8) : LInv s lexS := ⟨Nat.zero_le _, shp_nil s, by simp [lexS], by simp [lexS], rfl, by simp [lexS, dep]⟩
theorem LInv.le {s : List UInt8} {S : LS} (h : LInv s S) : ∀ p, S.toks.getLast? = some p → p.pos ≤ S.pos := fun p hp => by
  rcases h.last p hp with h | h
  · omega
  · omega
/-- a bare token at the state's place. -/
theorem bare_good {s : List UInt8} {prev : Option Tk} {k : Int} {a : Nat} (hk : 6 ≤ k) (hk2 : k ≤ 9) (ha : a ≤ s.length) (hp : ∀ p, prev = some p → p.pos ≤ a) : GoodT s prev ⟨k, [], a⟩ :=
  ⟨ha, hp, fun _ => rfl, by show 1 ≤ k; omega, hk2, fun h => by simp at h; omega, fun h => by simp at h; omega, fun h => by simp at h; omega⟩
/-- so many ends of blocks. -/
theorem ends_good {s : List UInt8} {a : Nat} (ha : a ≤ s.length) : ∀ (k : Nat) (l : List Tk), Shp s l → (∀ t ∈ l, t.kind ≠ 9) → (∀ p, l.getLast? = some p → p.pos ≤ a) → (k : Int) ≤ dep l → Shp s (l ++ List.replicate k (⟨8, [], a⟩ : Tk)) ∧ (∀ t ∈ l ++ List.replicate k (⟨8, [], a⟩ : Tk), t.kind ≠ 9) ∧ (∀ p, (l ++ List.replicate k (⟨8, [], a⟩ : Tk)).getLast? = some p → p.pos ≤ a) ∧ dep (l ++ List.replicate k (⟨8, [], a⟩ : Tk)) = dep l - k
  | 0, l, h, h9, hp, hk => by simpa using ⟨h, h9, hp⟩
  | k + 1, l, h, h9, hp, hk => by
    have hd : delta ⟨8, [], a⟩ = -1 := rfl
    have h1 := h.snoc (bare_good (k := 8) (by decide) (by decide) ha hp) (by rw [hd]; omega)
    have h2 := ends_good ha k (l ++ [⟨8, [], a⟩]) h1 (fun t ht => by
      rcases List.mem_append.1 ht with ht | ht
      · exact h9 t ht
      · simp at ht; subst ht; show (8 : Int) ≠ 9; decide) (fun p hp2 => by
      rw [List.getLast?_concat] at hp2
      injection hp2 with hp2
      subst hp2
      exact Nat.le_refl _) (by rw [dep_app, dep_one, hd]; omega)
    rw [List.append_assoc, List.singleton_append, ← List.replicate_succ] at h2
    refine ⟨h2.1, h2.2.1, h2.2.2.1, ?_⟩
    rw [h2.2.2.2, dep_app, dep_one, hd]
    omega
theorem tokL_good {o : Nat} {l x : List UInt8} {k : Int} {n o' : Nat} (h : tokL o l = .tok k x n o') : 1 ≤ k ∧ k ≤ 5 ∧ ((k = 1 ∨ k = 2 ∨ k = 3 ∨ k = 5) → x ≠ [] ∧ x.length ≤ l.length ∧ l.take x.length = x) ∧ (k = 1 → wordB x = false) ∧ (k = 2 → wordB x = true) := by
  unfold tokL at h
  cases l with
  | nil => cases h
  | cons c r =>
    simp only at h
    have hw : isWd c = true → wd (c :: r) ≠ [] := fun hc e => by have := wd_pos (t := r) hc; rw [e] at this; simp at this
    split at h
    · rename_i hc
      injection h with a b c' d
      subst a b
      refine ⟨by split <;> decide, by split <;> decide, fun _ => ⟨hw (by rw [isWd, hc]; rfl), wd_le _, wd_take _⟩, fun h => ?_, fun h => ?_⟩
      · cases hb : wordB (wd (c :: r)) with
        | false => rfl
        | true => rw [hb] at h; simp at h
      · cases hb : wordB (wd (c :: r)) with
        | true => rfl
        | false => rw [hb] at h; simp at h
    · split at h
      · rename_i hc
        split at h
        · injection h with a b c' d
          subst a b
          exact ⟨by decide, by decide, fun _ => ⟨hw (by rw [isWd, hc]; simp), wd_le _, wd_take _⟩, fun h => by simp at h, fun h => by simp at h⟩
        · cases h
      · split at h
        · split at h
          · cases h
          · injection h with a b c' d
            subst a
            exact ⟨by decide, by decide, fun h => by simp at h, fun h => by simp at h, fun h => by simp at h⟩
        · obtain ⟨h1, h2, h3, h4⟩ := signT_len h
          subst h4 h3
          refine ⟨by decide, by decide, fun _ => ⟨fun e => by rw [e] at h2; simp at h2; omega, signL_len _, ?_⟩, fun h => by simp at h, fun h => by simp at h⟩
          exact signL_take _
theorem linv_tok {s : List UInt8} {S : LS} {t : Tk} (h : LInv s S) (hg : GoodT s S.toks.getLast? t) (h9 : t.kind ≠ 9) (hd : 0 ≤ dep S.toks + delta t) : Shp s (S.toks ++ [t]) ∧ (∀ x ∈ S.toks ++ [t], x.kind ≠ 9) ∧ ∀ p, (S.toks ++ [t]).getLast? = some p → p = t := by
  refine ⟨h.shp.snoc hg hd, fun x hx => ?_, fun p hp => ?_⟩
  · rcases List.mem_append.1 hx with hx | hx
    · exact h.noEnd x hx
    · rw [List.mem_singleton] at hx; subst hx; exact h9
  · rw [List.getLast?_concat] at hp
    injection hp with hp
    exact hp.symm
theorem linv_step {s : List UInt8} {S S' : LS} (h : LInv s S) (hs : stepL s S = .inl S') : LInv s S' := by
  unfold stepL at hs
  cases hd : s.drop S.pos with
  | nil => rw [hd] at hs; cases hs
  | cons c t =>
    have hl : S.pos < s.length := by
      by_cases h1 : S.pos < s.length
      · exact h1
      · rw [List.drop_eq_nil_of_le (by omega)] at hd; cases hd
    have hl2 : (c :: t).length = s.length - S.pos := by rw [← hd, List.length_drop]
    rw [hd] at hs
    simp only at hs
    split at hs
    · rename_i hc
      injection hs with hs; subst hs
      have h1 := rem_pos (t := t) hc
      have h2 := rem_le (c :: t)
      exact ⟨by show S.pos + _ ≤ _; omega, h.shp, h.noEnd, fun p hp => .inl (by have := h.le p hp; show _ < S.pos + _; omega), h.bot, h.dp⟩
    · split at hs
      · injection hs with hs; subst hs
        exact ⟨by show S.pos + 1 ≤ _; omega, h.shp, h.noEnd, fun p hp => .inl (by have := h.le p hp; show _ < S.pos + 1; omega), h.bot, h.dp⟩
      · split at hs
        · injection hs with hs; subst hs
          by_cases h0 : S.opn = 0 ∧ S.head = false
          · have hg := bare_good (s := s) (prev := S.toks.getLast?) (k := 6) (a := S.pos) (by decide) (by decide) (by omega) h.le
            have hd6 : delta ⟨6, [], S.pos⟩ = 0 := rfl
            obtain ⟨a1, a2, a3⟩ := linv_tok h hg (by show (6 : Int) ≠ 9; decide) (by rw [hd6]; have := h.shp.total; omega)
            refine ⟨by show S.pos + 1 ≤ _; omega, ?_, ?_, ?_, h.bot, ?_⟩
            · dsimp only; rw [if_pos h0]; exact a1
            · dsimp only; rw [if_pos h0]; exact a2
            · dsimp only
              rw [if_pos h0]
              intro p hp
              rw [a3 p hp]
              exact .inl (Nat.lt_succ_self _)
            · dsimp only
              rw [if_pos h0, dep_app, dep_one, hd6, h.dp]; omega
          · refine ⟨by show S.pos + 1 ≤ _; omega, ?_, ?_, ?_, h.bot, ?_⟩
            · dsimp only; rw [if_neg h0]; exact h.shp
            · dsimp only; rw [if_neg h0]; exact h.noEnd
            · dsimp only
              rw [if_neg h0]
              exact fun p hp => .inl (by have := h.le p hp; show _ < S.pos + 1; omega)
            · dsimp only
              rw [if_neg h0]; exact h.dp
        · split at hs
          · split at hs
            · rename_i x hb
              injection hs with hs; subst hs
              unfold beginL at hb
              split at hb
              · split at hb
                · cases hb
                · injection hb with hb
                  subst hb
                  have hg := bare_good (s := s) (prev := S.toks.getLast?) (k := 7) (a := S.pos) (by decide) (by decide) (by omega) h.le
                  have hd7 : delta ⟨7, [], S.pos⟩ = 1 := rfl
                  obtain ⟨a1, a2, a3⟩ := linv_tok h hg (by show (7 : Int) ≠ 9; decide) (by rw [hd7]; have := h.shp.total; omega)
                  refine ⟨h.pos, a1, a2, fun p hp => ?_, ?_, ?_⟩
                  · rw [a3 p hp]; exact .inr ⟨rfl, .inl rfl⟩
                  · show (_ :: S.st).getLast? = some 0
                    have hb0 := h.bot
                    cases hst : S.st with
                    | nil => rw [hst] at hb0; simp at hb0
                    | cons d r => rw [hst] at hb0; rw [List.getLast?_cons_cons]; exact hb0
                  · show ((_ :: S.st).length : Int) = 1 + dep (S.toks ++ _)
                    rw [dep_app, dep_one, hd7, List.length_cons]; have := h.dp; omega
              · split at hb
                · injection hb with hb
                  subst hb
                  have hbot := pop_last S.blanks S.st h.bot
                  have hpl := pop_le S.blanks S.st
                  have hp1 : 1 ≤ (popL S.blanks S.st).length := by
                    cases hpp : popL S.blanks S.st with
                    | nil => rw [hpp] at hbot; simp at hbot
                    | cons a b => simp
                  have hk : ((S.st.length - (popL S.blanks S.st).length : Nat) : Int) ≤ dep S.toks := by have := h.dp; omega
                  obtain ⟨a1, a2, a3, a4⟩ := ends_good (s := s) (a := S.pos) (by omega) (S.st.length - (popL S.blanks S.st).length) S.toks h.shp h.noEnd h.le hk
                  refine ⟨h.pos, a1, a2, fun p hp => ?_, hbot, ?_⟩
                  · by_cases hz : S.st.length - (popL S.blanks S.st).length = 0
                    · rw [hz] at hp
                      exact h.last p (by simpa using hp)
                    · obtain ⟨m, hm⟩ : ∃ m, S.st.length - (popL S.blanks S.st).length = m + 1 := ⟨_, (Nat.succ_pred hz).symm⟩
                      rw [hm] at hp
                      have hp2 : (S.toks ++ List.replicate (m + 1) (⟨8, [], S.pos⟩ : Tk)).getLast? = some p := hp
                      rw [List.replicate_succ', ← List.append_assoc, List.getLast?_concat] at hp2
                      injection hp2 with hp2
                      subst hp2
                      exact .inr ⟨rfl, .inr rfl⟩
                  · show ((popL S.blanks S.st).length : Int) = 1 + dep (S.toks ++ _)
                    rw [a4]; have := h.dp; omega
                · cases hb
            · cases hs
          · split at hs
            · rename_i k x n o ht
              injection hs with hs; subst hs
              have hn := tokL_len ht
              obtain ⟨b1, b2, b3, b4, b5⟩ := tokL_good ht
              have hdk : delta ⟨k, x, S.pos⟩ = 0 := by show (if k = 7 then (1 : Int) else if k = 8 then -1 else 0) = 0; rw [if_neg (by omega), if_neg (by omega)]
              have hg : GoodT s S.toks.getLast? ⟨k, x, S.pos⟩ := by
                refine ⟨by show S.pos ≤ _; omega, h.le, fun h6 => ?_, b1, by show k ≤ 9; omega, fun hk => ?_, b4, b5⟩
                · exfalso; have h6 : 6 ≤ k := h6; omega
                · obtain ⟨c1, c2, c3⟩ := b3 hk
                  refine ⟨c1, by show S.pos + x.length ≤ _; omega, by show (s.drop S.pos).take x.length = x; rw [hd]; exact c3, fun p hp => ?_⟩
                  rcases h.last p hp with h1 | ⟨h1, h2⟩
                  · exact .inl h1
                  · exact .inr h2
              obtain ⟨a1, a2, a3⟩ := linv_tok h hg (by show k ≠ 9; omega) (by rw [hdk]; have := h.shp.total; omega)
              refine ⟨by show S.pos + n ≤ _; omega, a1, a2, fun p hp => ?_, h.bot, ?_⟩
              · rw [a3 p hp]; exact .inl (by show S.pos < S.pos + n; omega)
              · show (S.st.length : Int) = 1 + dep (S.toks ++ _)
                rw [dep_app, dep_one, hdk]; have := h.dp; omega
            · cases hs
/-- what is said of the tokens of a source. -/
def Shaped (s : List UInt8) (l : List Tk) : Prop := ∃ l', l = l' ++ [⟨9, [], s.length⟩] ∧ Shp s l ∧ (∀ t ∈ l', t.kind ≠ 9) ∧ dep l = 0
theorem linv_end {s : List UInt8} {S : LS} (h : LInv s S) (hp : s.length ≤ S.pos) : Shaped s (endL s.length S.st S.toks) := by
  have hpe : S.pos = s.length := by have := h.pos; omega
  cases hst : S.st with
  | nil => have := h.bot; rw [hst] at this; simp at this
  | cons d r =>
    rw [endL_eq]
    have hdp := h.dp
    rw [hst, List.length_cons] at hdp
    have hle : ∀ p, S.toks.getLast? = some p → p.pos ≤ s.length := fun p hp => by have := h.le p hp; omega
    obtain ⟨T, hT, a1, a2, a3, a4⟩ : ∃ T, S.toks ++ (if offB S.toks.getLast? then [⟨6, [], s.length⟩] else []) = T ∧ Shp s T ∧ (∀ t ∈ T, t.kind ≠ 9) ∧ (∀ p, T.getLast? = some p → p.pos ≤ s.length) ∧ dep T = dep S.toks := by
      by_cases ho : offB S.toks.getLast? = true
      · rw [if_pos ho]
        have hg := bare_good (s := s) (prev := S.toks.getLast?) (k := 6) (a := s.length) (by decide) (by decide) (Nat.le_refl _) hle
        have hd6 : delta ⟨6, [], s.length⟩ = 0 := rfl
        obtain ⟨b1, b2, b3⟩ := linv_tok h hg (by show (6 : Int) ≠ 9; decide) (by rw [hd6]; have := h.shp.total; omega)
        exact ⟨_, rfl, b1, b2, fun p hp => by rw [b3 p hp]; exact Nat.le_refl _, by rw [dep_app, dep_one, hd6]; omega⟩
      · rw [if_neg ho, List.append_nil]
        exact ⟨_, rfl, h.shp, h.noEnd, hle, rfl⟩
    rw [hT]
    obtain ⟨c1, c2, c3, c4⟩ := ends_good (s := s) (a := s.length) (Nat.le_refl _) r.length T a1 a2 a3 (by rw [a4]; omega)
    have hd9 : delta ⟨9, [], s.length⟩ = 0 := rfl
    refine ⟨_, rfl, c1.snoc (bare_good (by decide) (by decide) (Nat.le_refl _) c3) (by rw [hd9, c4, a4]; omega), c2, ?_⟩
    rw [dep_app, dep_one, hd9, c4, a4]; omega
theorem stepL_bad {s : List UInt8} {S : LS} {c : Int} {a : Nat} (h : stepL s S = .inr (.bad c a)) : c ≠ 0 ∧ a = S.pos := by
  unfold stepL at h
  split at h
  · simp at h
  · split at h
    · cases h
    · split at h
      · cases h
      · split at h
        · cases h
        · split at h
          · split at h
            · cases h
            · rename_i hb
              injection h with h
              injection h with h1 h2
              subst h1
              exact ⟨beginL_ne hb, h2.symm⟩
          · split at h
            · cases h
            · rename_i hb
              injection h with h
              injection h with h1 h2
              subst h1
              exact ⟨tokL_ne hb, h2.symm⟩
theorem stepL_ok {s : List UInt8} {S : LS} {l : List Tk} (h : stepL s S = .inr (.ok l)) : s.length ≤ S.pos ∧ l = endL s.length S.st S.toks := by
  unfold stepL at h
  split at h
  · rename_i hd
    injection h with h
    injection h with h
    refine ⟨?_, h.symm⟩
    by_cases h1 : S.pos < s.length
    · have := congrArg List.length hd
      rw [List.length_drop, List.length_nil] at this
      omega
    · omega
  · split at h
    · cases h
    · split at h
      · cases h
      · split at h
        · cases h
        · split at h
          · split at h
            · cases h
            · simp at h
          · split at h
            · cases h
            · simp at h
theorem runL_shape (s : List UInt8) : ∀ (f : Nat) (S : LS), mu s S < f → LInv s S → match runL s f S with | .ok l => Shaped s l | .bad c a => c ≠ 0 ∧ a ≤ s.length
  | 0, S, h, _ => by omega
  | f + 1, S, h, hi => by
    unfold runL
    cases hs : stepL s S with
    | inl S' =>
      have := step_mu hs
      exact runL_shape s f S' (by omega) (linv_step hi hs)
    | inr R =>
      cases R with
      | ok l =>
        obtain ⟨h1, rfl⟩ := stepL_ok hs
        exact linv_end hi h1
      | bad c a =>
        obtain ⟨h1, h2⟩ := stepL_bad hs
        exact ⟨h1, by rw [h2]; exact hi.pos⟩
theorem lex_shape {s : List UInt8} {l : List Tk} (h : lexR s lexS = .ok l) : Shaped s l := by
  have := runL_shape s _ lexS (Nat.lt_succ_self _) (linv_start s)
  rw [lexR] at h
  rw [h] at this
  exact this
theorem lex_bad {s : List UInt8} {c : Int} {a : Nat} (h : lexR s lexS = .bad c a) : c ≠ 0 ∧ a ≤ s.length := by
  have := runL_shape s _ lexS (Nat.lt_succ_self _) (linv_start s)
  rw [lexR] at h
  rw [h] at this
  exact this

/-- the body of the first loop. -/
def firstLoop : Code → Option Code
  | .loop b => some b
  | .seq a b => match firstLoop a with | some x => some x | none => firstLoop b
  | .block _ c => firstLoop c
  | .cond _ a b => match firstLoop a with | some x => some x | none => firstLoop b
  | _ => none
theorem list_get_all (l : List Value) : l = (List.range l.length).map fun i => l.getD i undef := by
  refine List.ext_getElem (by simp) fun i h1 h2 => ?_
  simp [h1]
/-- a frame of 229 slots, written out. -/
theorem shape_frame (t : Array Value) {v0 v3 v5 v6 : Value} (hs : t.size = 229) (h0 : t[0]? = some v0) (h3 : t[3]? = some v3) (h5 : t[5]? = some v5) (h6 : t[6]? = some v6) : ∃ f : Nat → Value, t = #[v0, f 1, f 2, v3, f 4, v5, v6, f 7, f 8, f 9, f 10, f 11, f 12, f 13, f 14, f 15, f 16, f 17, f 18, f 19, f 20, f 21, f 22, f 23, f 24, f 25, f 26, f 27, f 28, f 29, f 30, f 31, f 32, f 33, f 34, f 35, f 36, f 37, f 38, f 39, f 40, f 41, f 42, f 43, f 44, f 45, f 46, f 47, f 48, f 49, f 50, f 51, f 52, f 53, f 54, f 55, f 56, f 57, f 58, f 59, f 60, f 61, f 62, f 63, f 64, f 65, f 66, f 67, f 68, f 69, f 70, f 71, f 72, f 73, f 74, f 75, f 76, f 77, f 78, f 79, f 80, f 81, f 82, f 83, f 84, f 85, f 86, f 87, f 88, f 89, f 90, f 91, f 92, f 93, f 94, f 95, f 96, f 97, f 98, f 99, f 100, f 101, f 102, f 103, f 104, f 105, f 106, f 107, f 108, f 109, f 110, f 111, f 112, f 113, f 114, f 115, f 116, f 117, f 118, f 119, f 120, f 121, f 122, f 123, f 124, f 125, f 126, f 127, f 128, f 129, f 130, f 131, f 132, f 133, f 134, f 135, f 136, f 137, f 138, f 139, f 140, f 141, f 142, f 143, f 144, f 145, f 146, f 147, f 148, f 149, f 150, f 151, f 152, f 153, f 154, f 155, f 156, f 157, f 158, f 159, f 160, f 161, f 162, f 163, f 164, f 165, f 166, f 167, f 168, f 169, f 170, f 171, f 172, f 173, f 174, f 175, f 176, f 177, f 178, f 179, f 180, f 181, f 182, f 183, f 184, f 185, f 186, f 187, f 188, f 189, f 190, f 191, f 192, f 193, f 194, f 195, f 196, f 197, f 198, f 199, f 200, f 201, f 202, f 203, f 204, f 205, f 206, f 207, f 208, f 209, f 210, f 211, f 212, f 213, f 214, f 215, f 216, f 217, f 218, f 219, f 220, f 221, f 222, f 223, f 224, f 225, f 226, f 227, f 228] := by
  refine ⟨fun i => t.toList.getD i undef, ?_⟩
  have h := list_get_all t.toList
  rw [show t.toList.length = 229 by simpa using hs] at h
  have g : ∀ (i : Nat) (v : Value), t[i]? = some v → t.toList.getD i undef = v := fun i v hv => by
    have : t.toList[i]? = some v := by simpa using hv
    rw [List.getD_eq_getElem?_getD, this]; rfl
  rw [← g 0 v0 h0, ← g 3 v3 h3, ← g 5 v5 h5, ← g 6 v6 h6]
  apply Array.toList_inj.1
  rw [h]
  rfl
theorem dep_le : ∀ l : List Tk, dep l ≤ l.length
  | [] => by simp [dep]
  | a :: l => by
    have ih := dep_le l
    have e : dep (a :: l) = delta a + dep l := by simp [dep]
    have : delta a ≤ 1 := by
      unfold delta
      split
      · decide
      · split <;> decide
    rw [e, List.length_cons]
    omega
/-- what holds ahead of a round. -/
structure SInv (w0 : World) (s : ByteArray) (A : Option Addr) (c : Nat) (l : List Tk) (g C3 k : Nat) (a : Act) (w : World) : Prop where
  sz : a.tmps.size = 229
  t0 : a.tmps[0]? = some (.slice A s.size c)
  t3 : a.tmps[3]? = some (.slice (some ⟨g, 0, none⟩) l.length C3)
  t5 : a.tmps[5]? = some (.int .i64 (dep (l.take k)))
  t6 : a.tmps[6]? = some (.int .i64 k)
  df : a.defers = []
  kl : k ≤ l.length
  hb : Below w0.heap.size w0 w
  tk : TkAt w (some ⟨g, 0, none⟩) l
  bs : BsAt w A s
end Go.Proofs.YtgheejogpbhokaaDoor
