/- The plain law of the lexer: what a source's tokens are, by steps. No program in sight. -/
import Derived.Test.YtgheejogpbhokaaDoorLetPlain
namespace Go.Proofs.YtgheejogpbhokaaDoor
set_option linter.unusedVariables false
set_option linter.unusedSimpArgs false
set_option maxRecDepth 1000000

/-- a token: its kind, its text, its place. -/
structure Tk where
  kind : Int
  text : List UInt8
  pos : Nat

def isDig (c : UInt8) : Bool := 48 ≤ c.toNat && c.toNat ≤ 57
def isLet (c : UInt8) : Bool := (97 ≤ c.toNat && c.toNat ≤ 122) || (65 ≤ c.toNat && c.toNat ≤ 90) || c.toNat == 95
def isWd (c : UInt8) : Bool := isLet c || isDig c
/-- as many letters and digits as there are. -/
def wd (l : List UInt8) : List UInt8 := l.takeWhile isWd

def wordsL : List (List UInt8) := [[97, 110, 100], [97, 115], [98, 114, 101, 97, 107], [99, 108, 97, 115, 115], [99, 111, 110, 116, 105, 110, 117, 101], [100, 101, 102], [100, 101, 108], [101, 108, 105, 102], [101, 108, 115, 101], [101, 120, 99, 101, 112, 116], [70, 97, 108, 115, 101], [102, 111, 114], [103, 108, 111, 98, 97, 108], [105, 102], [105, 110], [105, 115], [78, 111, 110, 101], [110, 111, 110, 108, 111, 99, 97, 108], [110, 111, 116], [111, 114], [112, 97, 115, 115], [114, 97, 105, 115, 101], [114, 101, 116, 117, 114, 110], [84, 114, 117, 101], [116, 114, 121], [119, 104, 105, 108, 101]]
def wordB (l : List UInt8) : Bool := wordsL.contains l

/-- the signs of one, two, three bytes. -/
def signs1 : List (List UInt8) := [[40], [41], [91], [93], [123], [125], [44], [58], [46], [61], [60], [62], [43], [45], [42], [37], [38], [124], [94]]
def signs2 : List (List UInt8) := [[61, 61], [33, 61], [60, 61], [62, 61], [43, 61], [45, 61], [42, 61], [42, 42], [47, 47], [37, 61], [38, 61], [124, 61], [94, 61]]
def signs3 : List (List UInt8) := [[47, 47, 61]]
/-- the longest sign at the head. -/
def signL (l : List UInt8) : List UInt8 :=
  if signs3.contains (l.take 3) then l.take 3
  else if signs2.contains (l.take 2) then l.take 2
  else if signs1.contains (l.take 1) then l.take 1 else []

/-- what a lexer has come to. -/
structure LS where
  pos : Nat
  blanks : Nat
  head : Bool
  opn : Nat
  st : List Nat
  toks : List Tk

/-- the tokens; or the fault and its place. -/
inductive LR where
  | ok (l : List Tk)
  | bad (code : Int) (pos : Nat)

/-- one token at the head of l: kind, text, how far, brackets that are open then; or the fault. -/
inductive T1 where
  | tok (kind : Int) (text : List UInt8) (n : Nat) (opn : Nat)
  | bad (code : Int)

def numOk (r : List UInt8) : Bool := r.all isDig && !(r.head? == some 48 && decide (1 < r.length)) && decide (r.length ≤ 1000)
def signT (opn : Nat) (x : List UInt8) : T1 :=
  if x = [] then .bad 102
  else if x = [40] ∨ x = [91] ∨ x = [123] then (if opn = 60 then .bad 107 else .tok 5 x 1 (opn + 1))
  else if x = [41] ∨ x = [93] ∨ x = [125] then .tok 5 x 1 (opn - 1)
  else .tok 5 x x.length opn
def tokL (opn : Nat) (l : List UInt8) : T1 :=
  match l with
  | [] => .bad 102
  | c :: _ =>
    if isLet c then .tok (if wordB (wd l) then 2 else 1) (wd l) (wd l).length opn
    else if isDig c then (if numOk (wd l) then .tok 3 (wd l) (wd l).length opn else .bad 105)
    else if c = 39 ∨ c = 34 then (match unquote l with | none => .bad 104 | some (t, n) => .tok 4 t n opn)
    else signT opn (signL l)

theorem wd_pos {c : UInt8} {t : List UInt8} (h : isWd c = true) : 1 ≤ (wd (c :: t)).length := by
  unfold wd; rw [List.takeWhile_cons, if_pos h]; simp
theorem wd_le (l : List UInt8) : (wd l).length ≤ l.length := by
  unfold wd; exact (List.takeWhile_sublist _).length_le
theorem signL_len (l : List UInt8) : (signL l).length ≤ l.length := by
  unfold signL
  split
  · rw [List.length_take]; omega
  · split
    · rw [List.length_take]; omega
    · split
      · rw [List.length_take]; omega
      · simp
theorem signT_len {o : Nat} {x t : List UInt8} {k : Int} {n o' : Nat} (h : signT o x = .tok k t n o') : 1 ≤ n ∧ n = x.length ∧ t = x ∧ k = 5 := by
  unfold signT at h
  split at h
  · cases h
  · rename_i h0
    have hx : 1 ≤ x.length := by cases x with | nil => exact absurd rfl h0 | cons a b => simp
    split at h
    · rename_i h1
      split at h
      · cases h
      · injection h with a b c d
        subst a b c d
        rcases h1 with rfl | rfl | rfl <;> exact ⟨Nat.le_refl _, rfl, rfl, rfl⟩
    · split at h
      · rename_i h1
        injection h with a b c d
        subst a b c d
        rcases h1 with rfl | rfl | rfl <;> exact ⟨Nat.le_refl _, rfl, rfl, rfl⟩
      · injection h with a b c d
        subst a b c d
        exact ⟨hx, rfl, rfl, rfl⟩
theorem tokL_len {o : Nat} {l t : List UInt8} {k : Int} {n o' : Nat} (h : tokL o l = .tok k t n o') : 1 ≤ n ∧ n ≤ l.length := by
  unfold tokL at h
  cases l with
  | nil => cases h
  | cons c r =>
    simp only at h
    split at h
    · rename_i hc
      injection h with a b c' d
      subst c'
      exact ⟨wd_pos (by rw [isWd, hc]; rfl), wd_le _⟩
    · split at h
      · rename_i hc
        split at h
        · injection h with a b c' d
          subst c'
          exact ⟨wd_pos (by rw [isWd, hc]; simp), wd_le _⟩
        · cases h
      · split at h
        · split at h
          · cases h
          · rename_i hu
            injection h with a b c' d
            subst c'
            exact unquote_len _ _ hu
        · have := signT_len h
          have h2 := signL_len (c :: r)
          omega

/-- blocks that end ahead of n blanks, the innermost first; so many Dedents. -/
def popL (n : Nat) : List Nat → List Nat
  | [] => []
  | d :: r => if n < d then popL n r else d :: r
/-- what a line's blanks mean. -/
def beginL (n a : Nat) (st : List Nat) (toks : List Tk) : (List Nat × List Tk) ⊕ Int :=
  if st.headD 0 < n then (if 40 < st.length then .inr 107 else .inl (n :: st, toks ++ [⟨7, [], a⟩]))
  else if (popL n st).headD 0 = n then .inl (popL n st, toks ++ List.replicate (st.length - (popL n st).length) ⟨8, [], a⟩)
  else .inr 103
/-- where a remark ends. -/
def remL (l : List UInt8) : Nat := (l.takeWhile (fun c => c != 10)).length
/-- the tokens at the end. -/
def endL (n : Nat) (st : List Nat) (toks : List Tk) : List Tk :=
  toks ++ (match toks.getLast? with | some t => if 6 ≤ t.kind ∧ t.kind ≤ 8 then [] else [⟨6, [], n⟩] | none => []) ++ List.replicate (st.length - 1) ⟨8, [], n⟩ ++ [⟨9, [], n⟩]

/-- one step. -/
def stepL (s : List UInt8) (S : LS) : LS ⊕ LR :=
  match s.drop S.pos with
  | [] => .inr (.ok (endL s.length S.st S.toks))
  | c :: t =>
    if c = 35 then .inl { S with pos := S.pos + remL (c :: t) }
    else if c = 32 then .inl { S with pos := S.pos + 1, blanks := S.blanks + 1 }
    else if c = 10 then .inl { S with pos := S.pos + 1, blanks := 0, head := S.head || decide (S.opn = 0), toks := if S.opn = 0 ∧ S.head = false then S.toks ++ [⟨6, [], S.pos⟩] else S.toks }
    else if S.head = true then
      (match beginL S.blanks S.pos S.st S.toks with
      | .inl x => .inl { S with head := false, st := x.1, toks := x.2 }
      | .inr code => .inr (.bad code S.pos))
    else
      (match tokL S.opn (c :: t) with
      | .tok k x n o => .inl { S with pos := S.pos + n, opn := o, toks := S.toks ++ [⟨k, x, S.pos⟩] }
      | .bad code => .inr (.bad code S.pos))
def mu (s : List UInt8) (S : LS) : Nat := 2 * (s.length - S.pos) + (if S.head then 1 else 0)
def runL (s : List UInt8) : Nat → LS → LR
  | 0, _ => .bad 0 0
  | f + 1, S => match stepL s S with | .inl S' => runL s f S' | .inr R => R
/-- what comes of it. -/
def lexR (s : List UInt8) (S : LS) : LR := runL s (mu s S + 1) S
def lexS : LS := ⟨0, 0, true, 0, [0], []⟩

theorem rem_pos {c : UInt8} {t : List UInt8} (h : c = 35) : 1 ≤ remL (c :: t) := by
  subst h; unfold remL; rw [List.takeWhile_cons, if_pos (by decide)]; simp
theorem step_mu {s : List UInt8} {S S' : LS} (h : stepL s S = .inl S') : mu s S' < mu s S := by
  unfold stepL at h
  cases hd : s.drop S.pos with
  | nil => rw [hd] at h; cases h
  | cons c t =>
    have hl : S.pos < s.length := by
      by_cases h1 : S.pos < s.length
      · exact h1
      · rw [List.drop_eq_nil_of_le (by omega)] at hd; cases hd
    have hl2 : (c :: t).length = s.length - S.pos := by rw [← hd, List.length_drop]
    rw [hd] at h
    simp only at h
    unfold mu
    split at h
    · rename_i hc
      injection h with h; subst h
      have := rem_pos (t := t) hc
      simp only
      split <;> omega
    · split at h
      · injection h with h; subst h
        simp only
        split <;> omega
      · split at h
        · injection h with h; subst h
          simp only
          split <;> split <;> omega
        · split at h
          · rename_i hh
            split at h
            · injection h with h; subst h
              rw [hh]; simp
            · cases h
          · rename_i hh
            split at h
            · rename_i ht
              injection h with h; subst h
              have := tokL_len ht
              simp only
              split <;> omega
            · cases h
theorem runL_fuel (s : List UInt8) : ∀ (f g : Nat) (S : LS), mu s S < f → mu s S < g → runL s f S = runL s g S
  | 0, _, S, h, _ => by omega
  | _, 0, S, _, h => by omega
  | f + 1, g + 1, S, hf, hg => by
    unfold runL
    cases h : stepL s S with
    | inr R => rfl
    | inl S' =>
      have := step_mu h
      exact runL_fuel s f g S' (by omega) (by omega)
theorem lexR_step {s : List UInt8} {S S' : LS} (h : stepL s S = .inl S') : lexR s S = lexR s S' := by
  have := step_mu h
  rw [lexR, runL, h]
  exact runL_fuel s _ _ S' this (by omega)
theorem lexR_end {s : List UInt8} {S : LS} {R : LR} (h : stepL s S = .inr R) : lexR s S = R := by
  rw [lexR, runL, h]
end Go.Proofs.YtgheejogpbhokaaDoor
