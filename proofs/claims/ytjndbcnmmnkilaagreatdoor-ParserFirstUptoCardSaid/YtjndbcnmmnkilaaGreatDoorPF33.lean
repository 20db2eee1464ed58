/- Joined by a program: LetPlain, LxP, Shelf, LClone. -/
import Derived.Test.YtjndbcnmmnkilaaGreatDoorPF32
namespace Go.Proofs.YtjndbcnmmnkilaaGreatDoor
set_option linter.unusedVariables false
set_option linter.unusedSimpArgs false
set_option maxRecDepth 1000000
set_option maxHeartbeats 16000000
section
open Go.Lib
open List (length_append length_cons length_nil length_singleton)
def hexd (c : UInt8) : Option Nat :=
 if 48 ≤ c.toNat ∧ c.toNat ≤ 57 then some (c.toNat - 48)
 else if 97 ≤ c.toNat ∧ c.toNat ≤ 102 then some (c.toNat - 87)
 else if 65 ≤ c.toNat ∧ c.toNat ≤ 70 then some (c.toNat - 55) else none
def hexN : Nat → Nat → List UInt8 → Option Nat
 | 0, v, _ => some v
 | _ + 1, _, [] => none
 | n + 1, v, c :: t => match hexd c with
  | none => none
  | some d => hexN n (16 * v + d) t
def esc : List UInt8 → Option (Nat × Nat)
 | [] => none
 | c :: t =>
  if c = 110 then some (10, 1)
  else if c = 116 then some (9, 1)
  else if c = 120 then (match hexN 2 0 t with | some v => if v < 128 then some (v, 3) else none | none => none)
  else if c = 117 then (match hexN 4 0 t with | some v => if Sc v then some (v, 5) else none | none => none)
  else if c = 92 ∨ c = 39 ∨ c = 34 then some (c.toNat, 1) else none
def unq : Nat → UInt8 → List UInt8 → Option (List UInt8 × Nat)
 | 0, _, _ => none
 | _ + 1, _, [] => none
 | f + 1, q, c :: t =>
  if c = q then some ([], 1)
  else if c = 92 then (match esc t with
   | none => none
   | some (r, n) => (unq f q (t.drop n)).map fun x => (enc r ++ x.1, 1 + n + x.2))
  else if Bad (c :: t) ∨ (decodeL (c :: t)).1 < 32 ∨ (decodeL (c :: t)).1 = 127 then none
  else (unq f q ((c :: t).drop (decodeL (c :: t)).2)).map fun x => (enc (decodeL (c :: t)).1 ++ x.1, (decodeL (c :: t)).2 + x.2)
theorem hexd_lt {c : UInt8} {d : Nat} (h : hexd c = some d) : d < 16 := by
 unfold hexd at h
 have := c.toNat_lt
 split at h
 ·simp at h; omega
 ·split at h
  ·simp at h; omega
  ·split at h
   ·simp at h; omega
   ·simp at h
theorem hexN_short : ∀ (n v : Nat) (l : List UInt8), l.length < n → hexN n v l = none
 | 0, _, _, h => by omega
 | n + 1, v, [], _ => rfl
 | n + 1, v, c :: t, h => by
  simp only [hexN]
  cases hexd c with
  | none => rfl
  | some d => exact hexN_short n _ t (by simp at h; omega)
theorem hexN_len : ∀ (n v u : Nat) (l : List UInt8), hexN n v l = some u → n ≤ l.length
 | n, v, u, l, h => by
  by_cases hl : l.length < n
  ·rw [hexN_short n v l hl] at h; simp at h
  ·omega
theorem hexN_lt : ∀ (n v u : Nat) (l : List UInt8), hexN n v l = some u → u < (v + 1) * 16 ^ n
 | 0, v, u, _, h => by simp [hexN] at h; omega
 | n + 1, v, u, [], h => by simp [hexN] at h
 | n + 1, v, u, c :: t, h => by
  simp only [hexN] at h
  cases hd : hexd c with
  | none => rw [hd] at h; simp at h
  | some d =>
   rw [hd] at h; have h1 := hexN_lt n _ u t h; have h2 := hexd_lt hd; have h3 : (16 * v + d + 1) * 16 ^ n ≤ (16 * v + 16) * 16 ^ n := Nat.mul_le_mul_right _ lq17; rw [Nat.pow_succ]; have h4 : (16 * v + 16) * 16 ^ n = (v + 1) * (16 ^ n * 16) := by rw [Nat.mul_comm (16 ^ n) 16, ← Nat.mul_assoc]; congr 1; omega
   omega
theorem esc_cons (c : UInt8) (t : List UInt8) : esc (c :: t) =
  if c = 110 then some (10, 1)
  else if c = 116 then some (9, 1)
  else if c = 120 then (match hexN 2 0 t with | some v => if v < 128 then some (v, 3) else none | none => none)
  else if c = 117 then (match hexN 4 0 t with | some v => if Sc v then some (v, 5) else none | none => none)
  else if c = 92 ∨ c = 39 ∨ c = 34 then some (c.toNat, 1) else none := rfl
theorem esc_ok : ∀ (l : List UInt8) (r n : Nat), esc l = some (r, n) → Sc r ∧ 1 ≤ n ∧ n ≤ l.length
 | [], r, n, h => by simp [esc] at h
 | c :: t, r, n, h => by
  have hc := c.toNat_lt; rw [esc_cons] at h
  split at h
  ·simp at h; obtain ⟨rfl, rfl⟩ := h; simp [Sc]
  split at h
  ·simp at h; obtain ⟨rfl, rfl⟩ := h; simp [Sc]
  split at h
  ·cases hx : hexN 2 0 t with
   | none => rw [hx] at h; simp at h
   | some v =>
    rw [hx] at h; have hl := hexN_len _ _ _ _ hx; simp only at h
    split at h
    ·simp at h; obtain ⟨rfl, rfl⟩ := h; unfold Sc; simp; omega
    ·simp at h
  split at h
  ·cases hx : hexN 4 0 t with
   | none => rw [hx] at h; simp at h
   | some v =>
    rw [hx] at h; have hl := hexN_len _ _ _ _ hx; simp only at h
    split at h
    ·rename_i hs
     simp at h; obtain ⟨rfl, rfl⟩ := h
     exact ⟨hs, by omega, by simp; omega⟩
    ·simp at h
  split at h
  ·simp at h; obtain ⟨rfl, rfl⟩ := h; unfold Sc; simp; omega
  ·simp at h
theorem unq_len : ∀ (f : Nat) (q : UInt8) (l : List UInt8) (x : List UInt8 × Nat), unq f q l = some x → 1 ≤ x.2 ∧ x.2 ≤ l.length
 | 0, _, _, _, h => by simp [unq] at h
 | f + 1, q, [], x, h => by simp [unq] at h
 | f + 1, q, c :: t, x, h => by
  unfold unq at h
  by_cases h1 : c = q
  ·rw [if_pos h1] at h; simp at h; subst h; simp
  rw [if_neg h1] at h
  by_cases h2 : c = 92
  ·rw [if_pos h2] at h
   cases hx : esc t with
   | none => rw [hx] at h; simp at h
   | some y =>
    obtain ⟨r, n⟩ := y; rw [hx] at h; have hn := (esc_ok t r n hx).2.2; simp only at h
    cases hu : unq f q (t.drop n) with
    | none => rw [hu] at h; simp at h
    | some y =>
     rw [hu] at h; have := unq_len f q _ y hu; rw [List.length_drop] at this; simp only [Option.map_some, Option.some.injEq] at h; subst h; simp only [length_cons]
     omega
  rw [if_neg h2] at h
  by_cases h3 : Bad (c :: t) ∨ (decodeL (c :: t)).1 < 32 ∨ (decodeL (c :: t)).1 = 127
  ·rw [if_pos h3] at h; simp at h
  rw [if_neg h3] at h; have hle := decodeL_le (c :: t) lq18
  cases hu : unq f q ((c :: t).drop (decodeL (c :: t)).2) with
  | none => rw [hu] at h; simp at h
  | some y =>
   rw [hu] at h; have := unq_len f q _ y hu; rw [List.length_drop] at this; simp only [Option.map_some, Option.some.injEq] at h; subst h; simp only
   omega
def unquote (l : List UInt8) : Option (List UInt8 × Nat) :=
 match l with
 | [] => none
 | c :: t => if c = 39 ∨ c = 34 then (unq l.length c t).map fun x => (x.1, 1 + x.2) else none
theorem unquote_len (l : List UInt8) (x : List UInt8 × Nat) (h : unquote l = some x) : 1 ≤ x.2 ∧ x.2 ≤ l.length := by
 cases l with
 | nil => simp [unquote] at h
 | cons c t =>
  simp only [unquote] at h
  split at h
  ·cases hu : unq (c :: t).length c t with
   | none => rw [hu] at h; simp at h
   | some y =>
    rw [hu] at h; have := unq_len _ c t y hu; simp only [Option.map_some, Option.some.injEq] at h; subst h; simp only [length_cons]
    omega
  ·simp at h
end
section
open List (length_append length_cons length_nil length_singleton)
structure Tk where
 kind : Int
 text : List UInt8
 pos : Nat
def isDig (c : UInt8) : Bool := 48 ≤ c.toNat && c.toNat ≤ 57
def isLet (c : UInt8) : Bool := (97 ≤ c.toNat && c.toNat ≤ 122) || (65 ≤ c.toNat && c.toNat ≤ 90) || c.toNat == 95
def isWd (c : UInt8) : Bool := isLet c || isDig c
def wd (l : List UInt8) : List UInt8 := l.takeWhile isWd
def wordsL : List (List UInt8) := [[97, 110, 100], [97, 115], [98, 114, 101, 97, 107], [99, 108, 97, 115, 115], [99, 111, 110, 116, 105, 110, 117, 101], [100, 101, 102], [100, 101, 108], [101, 108, 105, 102], [101, 108, 115, 101], [101, 120, 99, 101, 112, 116], [70, 97, 108, 115, 101], [102, 111, 114], [103, 108, 111, 98, 97, 108], [105, 102], [105, 110], [105, 115], [78, 111, 110, 101], [110, 111, 110, 108, 111, 99, 97, 108], [110, 111, 116], [111, 114], [112, 97, 115, 115], [114, 97, 105, 115, 101], [114, 101, 116, 117, 114, 110], [84, 114, 117, 101], [116, 114, 121], [119, 104, 105, 108, 101]]
def wordB (l : List UInt8) : Bool := wordsL.contains l
def signs1 : List (List UInt8) := [[40], [41], [91], [93], [123], [125], [44], [58], [46], [61], [60], [62], [43], [45], [42], [37], [38], [124], [94]]
def signs2 : List (List UInt8) := [[61, 61], [33, 61], [60, 61], [62, 61], [43, 61], [45, 61], [42, 61], [42, 42], [47, 47], [37, 61], [38, 61], [124, 61], [94, 61]]
def signs3 : List (List UInt8) := [[47, 47, 61]]
def signL (l : List UInt8) : List UInt8 :=
 if signs3.contains (l.take 3) then l.take 3
 else if signs2.contains (l.take 2) then l.take 2
 else if signs1.contains (l.take 1) then l.take 1 else []
structure LS where
 pos : Nat
 blanks : Nat
 head : Bool
 opn : Nat
 st : List Nat
 toks : List Tk
inductive LR where
 | ok (l : List Tk)
 | bad (code : Int) (pos : Nat)
inductive T1 where
 | tok (kind : Int) (text : List UInt8) (n : Nat) (opn : Nat)
 | bad (code : Int)
def numOk (r : List UInt8) : Bool := r.all isDig && !(r.head? == some 48 && decide (1 < r.length)) && decide (r.length ≤ 1000)
def signT (opn : Nat) (x : List UInt8) : T1 :=
 if x = [] then .bad 102
 else if x = [40] ∨ x = [91] ∨ x = [123] then (if opn = 60 then .bad 107 else .tok 5 x 1 (opn + 1))
 else if x = [41] ∨ x = [93] ∨ x = [125] then .tok 5 x 1 (opn - 1)
 else .tok 5 x x.length opn
def tokL (opn : Nat) (l : List UInt8) : T1 :=
 match l with
 | [] => .bad 102
 | c :: _ =>
  if isLet c then .tok (if wordB (wd l) then 2 else 1) (wd l) (wd l).length opn
  else if isDig c then (if numOk (wd l) then .tok 3 (wd l) (wd l).length opn else .bad 105)
  else if c = 39 ∨ c = 34 then (match unquote l with | none => .bad 104 | some (t, n) => .tok 4 t n opn)
  else signT opn (signL l)
theorem wd_pos {c : UInt8} {t : List UInt8} (h : isWd c = true) : 1 ≤ (wd (c :: t)).length := by
 unfold wd; rw [List.takeWhile_cons, if_pos h]; simp
theorem wd_le (l : List UInt8) : (wd l).length ≤ l.length := by
 unfold wd; exact (List.takeWhile_sublist _).length_le
theorem signL_len (l : List UInt8) : (signL l).length ≤ l.length := by
 unfold signL
 split
 ·rw [List.length_take]; omega
 ·split
  ·rw [List.length_take]; omega
  ·split
   ·rw [List.length_take]; omega
   ·simp
theorem signT_len {o : Nat} {x t : List UInt8} {k : Int} {n o' : Nat} (h : signT o x = .tok k t n o') : 1 ≤ n ∧ n = x.length ∧ t = x ∧ k = 5 := by
 unfold signT at h
 split at h
 ·cases h
 ·rename_i h0
  have hx : 1 ≤ x.length := by cases x with | nil => exact absurd rfl h0 | cons a b => simp
  split at h
  ·rename_i h1
   split at h
   ·cases h
   ·injection h with a b c d
    subst a b c d
    rcases h1 with rfl | rfl | rfl <;> exact ⟨Nat.le_refl _, rfl, rfl, rfl⟩
  ·split at h
   ·rename_i h1
    injection h with a b c d
    subst a b c d
    rcases h1 with rfl | rfl | rfl <;> exact ⟨Nat.le_refl _, rfl, rfl, rfl⟩
   ·injection h with a b c d
    subst a b c d; exact ⟨hx, rfl, rfl, rfl⟩
theorem tokL_len {o : Nat} {l t : List UInt8} {k : Int} {n o' : Nat} (h : tokL o l = .tok k t n o') : 1 ≤ n ∧ n ≤ l.length := by
 unfold tokL at h
 cases l with
 | nil => cases h
 | cons c r =>
  simp only at h
  split at h
  ·rename_i hc
   injection h with a b c' d
   subst c'; exact ⟨wd_pos (by rw [isWd, hc]; rfl), wd_le _⟩
  ·split at h
   ·rename_i hc
    split at h
    ·injection h with a b c' d
     subst c'; exact ⟨wd_pos (by rw [isWd, hc]; simp), wd_le _⟩
    ·cases h
   ·split at h
    ·split at h
     ·cases h
     ·rename_i hu
      injection h with a b c' d
      subst c'; exact unquote_len _ _ hu
    ·have := signT_len h; have h2 := signL_len (c :: r)
     omega
def popL (n : Nat) : List Nat → List Nat
 | [] => []
 | d :: r => if n < d then popL n r else d :: r
def beginL (n a : Nat) (st : List Nat) (toks : List Tk) : (List Nat × List Tk) ⊕ Int :=
 if st.headD 0 < n then (if 40 < st.length then .inr 107 else .inl (n :: st, toks ++ [⟨7, [], a⟩]))
 else if (popL n st).headD 0 = n then .inl (popL n st, toks ++ List.replicate (st.length - (popL n st).length) ⟨8, [], a⟩)
 else .inr 103
def remL (l : List UInt8) : Nat := (l.takeWhile (fun c => c != 10)).length
def endL (n : Nat) (st : List Nat) (toks : List Tk) : List Tk :=
 toks ++ (match toks.getLast? with | some t => if 6 ≤ t.kind ∧ t.kind ≤ 8 then [] else [⟨6, [], n⟩] | none => []) ++ List.replicate (st.length - 1) ⟨8, [], n⟩ ++ [⟨9, [], n⟩]
def stepL (s : List UInt8) (S : LS) : LS ⊕ LR :=
 match s.drop S.pos with
 | [] => .inr (.ok (endL s.length S.st S.toks))
 | c :: t =>
  if c = 35 then .inl { S with pos := S.pos + remL (c :: t) }
  else if c = 32 then .inl { S with pos := S.pos + 1, blanks := S.blanks + 1 }
  else if c = 10 then .inl { S with pos := S.pos + 1, blanks := 0, head := S.head || decide (S.opn = 0), toks := if S.opn = 0 ∧ S.head = false then S.toks ++ [⟨6, [], S.pos⟩] else S.toks }
  else if S.head = true then
   (match beginL S.blanks S.pos S.st S.toks with
   | .inl x => .inl { S with head := false, st := x.1, toks := x.2 }
   | .inr code => .inr (.bad code S.pos))
  else
   (match tokL S.opn (c :: t) with
   | .tok k x n o => .inl { S with pos := S.pos + n, opn := o, toks := S.toks ++ [⟨k, x, S.pos⟩] }
   | .bad code => .inr (.bad code S.pos))
def mu (s : List UInt8) (S : LS) : Nat := 2 * (s.length - S.pos) + (if S.head then 1 else 0)
def runL (s : List UInt8) : Nat → LS → LR
 | 0, _ => .bad 0 0
 | f + 1, S => match stepL s S with | .inl S' => runL s f S' | .inr R => R
def lexR (s : List UInt8) (S : LS) : LR := runL s (mu s S + 1) S
def lexS : LS := ⟨0, 0, true, 0, [0], []⟩
theorem rem_pos {c : UInt8} {t : List UInt8} (h : c = 35) : 1 ≤ remL (c :: t) := by
 subst h; unfold remL; rw [List.takeWhile_cons, if_pos lq16]; simp
theorem step_mu {s : List UInt8} {S S' : LS} (h : stepL s S = .inl S') : mu s S' < mu s S := by
 unfold stepL at h
 cases hd : s.drop S.pos with
 | nil => rw [hd] at h; cases h
 | cons c t =>
  have hl : S.pos < s.length := by
   by_cases h1 : S.pos < s.length
   ·exact h1
   ·rw [List.drop_eq_nil_of_le lq17] at hd; cases hd
  have hl2 : (c :: t).length = s.length - S.pos := by rw [← hd, List.length_drop]
  rw [hd] at h; simp only at h; unfold mu
  split at h
  ·rename_i hc
   injection h with h; subst h; have := rem_pos (t := t) hc; simp only
   split <;> omega
  ·split at h
   ·injection h with h; subst h; simp only
    split <;> omega
   ·split at h
    ·injection h with h; subst h; simp only
     split <;> split <;> omega
    ·split at h
     ·rename_i hh
      split at h
      ·injection h with h; subst h; rw [hh]; simp
      ·cases h
     ·rename_i hh
      split at h
      ·rename_i ht
       injection h with h; subst h; have := tokL_len ht; simp only
       split <;> omega
      ·cases h
theorem runL_fuel (s : List UInt8) : ∀ (f g : Nat) (S : LS), mu s S < f → mu s S < g → runL s f S = runL s g S
 | 0, _, S, h, _ => by omega
 | _, 0, S, _, h => by omega
 | f + 1, g + 1, S, hf, hg => by
  unfold runL
  cases h : stepL s S with
  | inr R => rfl
  | inl S' =>
   have := step_mu h; exact runL_fuel s f g S' lq17 lq17
theorem lexR_step {s : List UInt8} {S S' : LS} (h : stepL s S = .inl S') : lexR s S = lexR s S' := by
 have := step_mu h
 rw [lexR, runL, h]
 exact runL_fuel s _ _ S' this lq17
theorem lexR_end {s : List UInt8} {S : LS} {R : LR} (h : stepL s S = .inr R) : lexR s S = R := by
 rw [lexR, runL, h]
end
end Go.Proofs.YtjndbcnmmnkilaaGreatDoor
namespace Go.Proofs
set_option linter.unusedVariables false
set_option linter.unusedSimpArgs false
set_option maxRecDepth 1000000
set_option maxHeartbeats 16000000
section
open Go.Shelf
def Tryz.lays169_ren : Go.Shelf.Ren := ⟨fun | 169 => 44 | n => n, fun | 70 => 70 | 9 => 9 | 0 => 0 | 72 => 72 | 37 => 22 | 127 => 106 | 3 => 3 | 5 => 5 | n => n, fun | n => n⟩
theorem Tryz.lays169 : Go.Proofs.Lays.n169 Tryz.prog Tryz.lays169_ren := {
  mixed := by kernel_rfl
  f169 := Tryz.func44.trans (congrArg some (by kernel_rfl))
  t0 := Tryz.underlying0
  a0 := Tryz.isAgg0
  z0 := Tryz.sizeOf0
  v0 := Tryz.zeroValue0
  t3 := Tryz.underlying3
  a3 := Tryz.isAgg3
  z3 := Tryz.sizeOf3
  v3 := Tryz.zeroValue3
  t9 := Tryz.underlying9
  a9 := Tryz.isAgg9
  z9 := Tryz.sizeOf9
  v9 := Tryz.zeroValue9
  t37 := Tryz.underlying22
  a37 := Tryz.isAgg22
  z37 := Tryz.sizeOf22
  v37 := Tryz.zeroValue22
  t70 := Tryz.underlying70
  a70 := Tryz.isAgg70
  z70 := Tryz.sizeOf70
  v70 := Tryz.zeroValue70
  t72 := Tryz.underlying72
  a72 := Tryz.isAgg72
  z72 := Tryz.sizeOf72
  v72 := Tryz.zeroValue72
  t127 := Tryz.underlying106
  a127 := Tryz.isAgg106
  z127 := Tryz.sizeOf106
  v127 := Tryz.zeroValue106 }
theorem Tryz.Builder_Extra_169 : Builder.Extra Tryz.prog Tryz.lays169_ren := {
  sizeBuilder := by kernel_rfl
  liesBuilder := by kernel_rfl
  t5 := Tryz.underlying5
  a5 := Tryz.isAgg5
  z5 := Tryz.sizeOf5
  v5 := Tryz.zeroValue5
  infoByte := by kernel_rfl
  cellsByte := by kernel_rfl
  sizeByte := by kernel_rfl
  neB5 := by decide }
def Tryz.lays119_ren : Go.Shelf.Ren := ⟨fun | 119 => 312 | n => n, fun | 21 => 21 | 4 => 4 | n => n, fun | n => n⟩
theorem Tryz.lays119 : Go.Proofs.Lays.n119 Tryz.prog Tryz.lays119_ren := {
  mixed := by kernel_rfl
  f119 := Tryz.func312.trans (congrArg some (by kernel_rfl))
  t4 := Tryz.underlying4
  a4 := Tryz.isAgg4
  z4 := Tryz.sizeOf4
  v4 := Tryz.zeroValue4
  t21 := Tryz.underlying21
  a21 := Tryz.isAgg21
  z21 := Tryz.sizeOf21
  v21 := Tryz.zeroValue21 }
theorem Tryz.utf8_ValidRune (r : Int) (w : World) :
    Calls Tryz.prog 312 #[.int .i32 r] w fun e w' => e = .returned (.bool (Lib.validRune r)) ∧ w' = w := Any.utf8_ValidRune Tryz.lays119 r w
def Tryz.lays137_ren : Go.Shelf.Ren := ⟨fun | 137 => 164 | 217 => 231 | 266 => 278 | n => n, fun | 9 => 9 | 5 => 5 | 3 => 3 | n => n, fun | n => n⟩
theorem Tryz.lays137 : Go.Proofs.Lays.n137 Tryz.prog Tryz.lays137_ren := {
  mixed := by kernel_rfl
  f137 := Tryz.func164.trans (congrArg some (by kernel_rfl))
  f217 := Tryz.func231.trans (congrArg some (by kernel_rfl))
  f266 := Tryz.func278.trans (congrArg some (by kernel_rfl))
  t3 := Tryz.underlying3
  a3 := Tryz.isAgg3
  z3 := Tryz.sizeOf3
  v3 := Tryz.zeroValue3
  t5 := Tryz.underlying5
  a5 := Tryz.isAgg5
  z5 := Tryz.sizeOf5
  v5 := Tryz.zeroValue5
  t9 := Tryz.underlying9
  a9 := Tryz.isAgg9
  z9 := Tryz.sizeOf9
  v9 := Tryz.zeroValue9 }
open Go.RowKit in
theorem Tryz.strings_IndexByte (s : ByteArray) (c : Int) (w : World) :
    Calls Tryz.prog 164 #[.string s, .int .u8 c] w fun e w' => e = .returned (.int .i64 (Lib.indexByte s.data.toList c.toNat.toUInt8)) ∧ w' = w := Any.strings_IndexByte Tryz.lays137 s c w
def Tryz.lays103_ren : Go.Shelf.Ren := ⟨fun | 103 => 315 | 210 => 330 | 206 => 301 | n => n, fun | 9 => 9 | 4 => 4 | 24 => 217 | 3 => 3 | n => n, fun | n => n⟩
theorem Tryz.lays103 : Go.Proofs.Lays.n103 Tryz.prog Tryz.lays103_ren := {
  mixed := by kernel_rfl
  f103 := Tryz.func315.trans (congrArg some (by kernel_rfl))
  f206 := Tryz.func301.trans (congrArg some (by kernel_rfl))
  f210 := Tryz.func330.trans (congrArg some (by kernel_rfl))
  t3 := Tryz.underlying3
  a3 := Tryz.isAgg3
  z3 := Tryz.sizeOf3
  v3 := Tryz.zeroValue3
  t4 := Tryz.underlying4
  a4 := Tryz.isAgg4
  z4 := Tryz.sizeOf4
  v4 := Tryz.zeroValue4
  t9 := Tryz.underlying9
  a9 := Tryz.isAgg9
  z9 := Tryz.sizeOf9
  v9 := Tryz.zeroValue9
  t24 := Tryz.underlying217
  a24 := Tryz.isAgg217
  z24 := Tryz.sizeOf217
  v24 := Tryz.zeroValue217 }
open Go.RowKit in
theorem Tryz.strings_CutPrefix (s p : ByteArray) (w : World) :
    Calls Tryz.prog 315 #[.string s, .string p] w fun e w' => e = .returned (.tuple #[.string ⟨(Lib.trimPrefix s.data.toList p.data.toList).toArray⟩, .bool (Lib.hasPrefix s.data.toList p.data.toList)]) ∧ w' = w := Any.strings_CutPrefix Tryz.lays103 s p w
open Go.RowKit in
theorem Tryz.Builder_String_any_k (B b : Nat) (l : List UInt8) (w : World) (h : Lib.IsBuilderF 72 5 B b (Lib.byteCells l) w) (hBw : B ≤ w.heap.size) :
    Calls Tryz.prog 44 #[.pointer (some ⟨b, 0, none⟩)] w fun e w' => e = .returned (.string ⟨l.toArray⟩) ∧ (Lib.IsBuilderF 72 5 B b (Lib.byteCells l) w' ∧ Below B w w' ∧ Lib.OthersKept 5 (some b) w w') := Any.Builder_String_any_k Tryz.lays169 Tryz.Builder_Extra_169 B b l w h hBw
def Tryz.lays197_ren : Go.Shelf.Ren := ⟨fun | 197 => 279 | 260 => 310 | n => n, fun | 9 => 9 | 21 => 21 | 3 => 3 | 4 => 4 | 5 => 5 | 105 => 186 | 119 => 196 | 0 => 0 | 46 => 168 | 139 => 199 | 138 => 198 | n => n, fun | 3 => 0 | 4 => 1 | n => n⟩
theorem Tryz.lays197 : Go.Proofs.Lays.n197 Tryz.prog Tryz.lays197_ren := {
  mixed := by kernel_rfl
  f197 := Tryz.func279.trans (congrArg some (by kernel_rfl))
  f260 := Tryz.func310.trans (congrArg some (by kernel_rfl))
  t0 := Tryz.underlying0
  a0 := Tryz.isAgg0
  z0 := Tryz.sizeOf0
  v0 := Tryz.zeroValue0
  t3 := Tryz.underlying3
  a3 := Tryz.isAgg3
  z3 := Tryz.sizeOf3
  v3 := Tryz.zeroValue3
  t4 := Tryz.underlying4
  a4 := Tryz.isAgg4
  z4 := Tryz.sizeOf4
  v4 := Tryz.zeroValue4
  t5 := Tryz.underlying5
  a5 := Tryz.isAgg5
  z5 := Tryz.sizeOf5
  v5 := Tryz.zeroValue5
  t9 := Tryz.underlying9
  a9 := Tryz.isAgg9
  z9 := Tryz.sizeOf9
  v9 := Tryz.zeroValue9
  t21 := Tryz.underlying21
  a21 := Tryz.isAgg21
  z21 := Tryz.sizeOf21
  v21 := Tryz.zeroValue21
  t46 := Tryz.underlying168
  a46 := Tryz.isAgg168
  z46 := Tryz.sizeOf168
  v46 := Tryz.zeroValue168
  t105 := Tryz.underlying186
  a105 := Tryz.isAgg186
  z105 := Tryz.sizeOf186
  v105 := Tryz.zeroValue186
  t119 := Tryz.underlying196
  a119 := Tryz.isAgg196
  z119 := Tryz.sizeOf196
  t138 := Tryz.underlying198
  a138 := Tryz.isAgg198
  z138 := Tryz.sizeOf198
  v138 := Tryz.zeroValue198
  t139 := Tryz.underlying199
  a139 := Tryz.isAgg199
  z139 := Tryz.sizeOf199
  v139 := Tryz.zeroValue199
  g3 := by kernel_rfl
  g4 := by kernel_rfl }
def Tryz.lays105_ren : Go.Shelf.Ren := ⟨fun | 105 => 222 | 212 => 265 | 99 => 266 | 165 => 267 | 166 => 229 | 170 => 268 | 169 => 44 | 263 => 299 | 264 => 300 | 206 => 301 | 240 => 277 | 241 => 302 | 276 => 309 | 277 => 323 | n => n, fun | 9 => 9 | 3 => 3 | 4 => 4 | 20 => 20 | 0 => 0 | 46 => 168 | 109 => 172 | 5 => 5 | 72 => 72 | 76 => 151 | 51 => 52 | 146 => 175 | 53 => 167 | 148 => 201 | 70 => 70 | 37 => 22 | 75 => 150 | 127 => 106 | 164 => 212 | 80 => 76 | n => n, fun | n => n⟩
theorem Tryz.lays105 : Go.Proofs.Lays.n105 Tryz.prog Tryz.lays105_ren := {
  mixed := by kernel_rfl
  f99 := Tryz.func266.trans (congrArg some (by kernel_rfl))
  f105 := Tryz.func222.trans (congrArg some (by kernel_rfl))
  f165 := Tryz.func267.trans (congrArg some (by kernel_rfl))
  f166 := Tryz.func229.trans (congrArg some (by kernel_rfl))
  f169 := Tryz.func44.trans (congrArg some (by kernel_rfl))
  f170 := Tryz.func268.trans (congrArg some (by kernel_rfl))
  f206 := Tryz.func301.trans (congrArg some (by kernel_rfl))
  f212 := Tryz.func265.trans (congrArg some (by kernel_rfl))
  f240 := Tryz.func277.trans (congrArg some (by kernel_rfl))
  f241 := Tryz.func302.trans (congrArg some (by kernel_rfl))
  f263 := Tryz.func299.trans (congrArg some (by kernel_rfl))
  f264 := Tryz.func300.trans (congrArg some (by kernel_rfl))
  f276 := Tryz.func309.trans (congrArg some (by kernel_rfl))
  f277 := Tryz.func323.trans (congrArg some (by kernel_rfl))
  t0 := Tryz.underlying0
  a0 := Tryz.isAgg0
  z0 := Tryz.sizeOf0
  v0 := Tryz.zeroValue0
  t3 := Tryz.underlying3
  a3 := Tryz.isAgg3
  z3 := Tryz.sizeOf3
  v3 := Tryz.zeroValue3
  t4 := Tryz.underlying4
  a4 := Tryz.isAgg4
  z4 := Tryz.sizeOf4
  v4 := Tryz.zeroValue4
  t5 := Tryz.underlying5
  a5 := Tryz.isAgg5
  z5 := Tryz.sizeOf5
  v5 := Tryz.zeroValue5
  t9 := Tryz.underlying9
  a9 := Tryz.isAgg9
  z9 := Tryz.sizeOf9
  v9 := Tryz.zeroValue9
  t20 := Tryz.underlying20
  a20 := Tryz.isAgg20
  z20 := Tryz.sizeOf20
  v20 := Tryz.zeroValue20
  t37 := Tryz.underlying22
  a37 := Tryz.isAgg22
  z37 := Tryz.sizeOf22
  v37 := Tryz.zeroValue22
  t46 := Tryz.underlying168
  a46 := Tryz.isAgg168
  z46 := Tryz.sizeOf168
  v46 := Tryz.zeroValue168
  t51 := Tryz.underlying52
  a51 := Tryz.isAgg52
  z51 := Tryz.sizeOf52
  v51 := Tryz.zeroValue52
  t53 := Tryz.underlying167
  a53 := Tryz.isAgg167
  z53 := Tryz.sizeOf167
  v53 := Tryz.zeroValue167
  t70 := Tryz.underlying70
  a70 := Tryz.isAgg70
  z70 := Tryz.sizeOf70
  v70 := Tryz.zeroValue70
  t72 := Tryz.underlying72
  a72 := Tryz.isAgg72
  z72 := Tryz.sizeOf72
  v72 := Tryz.zeroValue72
  t75 := Tryz.underlying150
  a75 := Tryz.isAgg150
  z75 := Tryz.sizeOf150
  v75 := Tryz.zeroValue150
  t76 := Tryz.underlying151
  a76 := Tryz.isAgg151
  z76 := Tryz.sizeOf151
  v76 := Tryz.zeroValue151
  t109 := Tryz.underlying172
  a109 := Tryz.isAgg172
  z109 := Tryz.sizeOf172
  v109 := Tryz.zeroValue172
  t127 := Tryz.underlying106
  a127 := Tryz.isAgg106
  z127 := Tryz.sizeOf106
  v127 := Tryz.zeroValue106
  t146 := Tryz.underlying175
  a146 := Tryz.isAgg175
  z146 := Tryz.sizeOf175
  v146 := Tryz.zeroValue175
  t148 := Tryz.underlying201
  a148 := Tryz.isAgg201
  z148 := Tryz.sizeOf201
  v148 := Tryz.zeroValue201
  t164 := Tryz.underlying212
  a164 := Tryz.isAgg212
  z164 := Tryz.sizeOf212
  v164 := Tryz.zeroValue212 }
theorem Tryz.Builder_Extra_105 : Builder.Extra Tryz.prog Tryz.lays105_ren := {
  sizeBuilder := by kernel_rfl
  liesBuilder := by kernel_rfl
  t5 := Tryz.underlying5
  a5 := Tryz.isAgg5
  z5 := Tryz.sizeOf5
  v5 := Tryz.zeroValue5
  infoByte := by kernel_rfl
  cellsByte := by kernel_rfl
  sizeByte := by kernel_rfl
  neB5 := by decide }
open Go.RowKit Go.Lib in
theorem Tryz.strings_Repeat (s : ByteArray) (c : Nat) (w : World) (hc : c ≤ 9223372036854775807) (hlen : s.size * c ≤ 140737488355328) :
    Calls Tryz.prog 222 #[.string s, .int .i64 c] w fun e w' => e = .returned (.string ⟨(Lib.repeatL s.data.toList c).toArray⟩) ∧ Below w.heap.size w w' := Any.strings_Repeat Tryz.lays105 Tryz.Builder_Extra_105 s c w hc hlen
open Go.RowKit Go.Lib in
theorem Tryz.utf8_DecodeRuneInString (s : ByteArray) (w : World) (hT : Lib.Utf8Tabs 0 1 w) :
    Calls Tryz.prog 279 #[.string s] w fun e w' => e = .returned (.tuple #[.int .i32 (Lib.decodeGo s).1, .int .i64 (Lib.decodeGo s).2]) ∧ Below w.heap.size w w' := Any.utf8_DecodeRuneInString Tryz.lays197 s w hT
def Tryz.lays110_ren : Go.Shelf.Ren := ⟨fun | 110 => 207 | 109 => 260 | n => n, fun | 31 => 127 | 9 => 9 | 4 => 4 | 3 => 3 | 0 => 0 | n => n, fun | n => n⟩
theorem Tryz.lays110 : Go.Proofs.Lays.n110 Tryz.prog Tryz.lays110_ren := {
  mixed := by kernel_rfl
  f109 := Tryz.func260.trans (congrArg some (by kernel_rfl))
  f110 := Tryz.func207.trans (congrArg some (by kernel_rfl))
  t0 := Tryz.underlying0
  a0 := Tryz.isAgg0
  z0 := Tryz.sizeOf0
  v0 := Tryz.zeroValue0
  t3 := Tryz.underlying3
  a3 := Tryz.isAgg3
  z3 := Tryz.sizeOf3
  v3 := Tryz.zeroValue3
  t4 := Tryz.underlying4
  a4 := Tryz.isAgg4
  z4 := Tryz.sizeOf4
  v4 := Tryz.zeroValue4
  t9 := Tryz.underlying9
  a9 := Tryz.isAgg9
  z9 := Tryz.sizeOf9
  v9 := Tryz.zeroValue9
  t31 := Tryz.underlying127
  a31 := Tryz.isAgg127
  z31 := Tryz.sizeOf127
  v31 := Tryz.zeroValue127 }
open Go.Lib in
theorem Tryz.slices_Contains_string (b off n c : Nat) (zs : List ByteArray) (x : ByteArray) (w : World) (hz : n ≤ zs.length) (hbig : n ≤ 9223372036854775807) (hc : ∀ j, j < zs.length → w.cell? ⟨b, off + j, none⟩ = some (.string (zs.getD j ByteArray.empty))) :
    Calls Tryz.prog 207 #[.slice (some ⟨b, off, none⟩) n c, .string x] w fun e w' => e = .returned (.bool (Lib.containsS (zs.take n) x)) ∧ w' = w := Any.slices_Contains_string Tryz.lays110 b off n c zs x w hz hbig hc
end
end Go.Proofs
namespace Go.Proofs.YtjndbcnmmnkilaaGreatDoor
set_option linter.unusedVariables false
set_option linter.unusedSimpArgs false
set_option maxRecDepth 1000000
set_option maxHeartbeats 16000000
section
open Go.RowKit
open List (length_append length_cons length_nil length_singleton)
theorem byte_info : (Tryz.prog.info? 5).map (fun i => (i.zero, i.size, i.bytes)) = some (some (.int .u8 0), 1, 1) := by kernel_rfl
theorem slClone_ok (s : ByteArray) (w : World) (hs : s.size ≤ 1099511627776) :
  Calls Tryz.prog 235 #[.string s] w fun e w' => e = .returned (.string s) ∧ Below w.heap.size w w' := by
 by_cases h0 : s.size = 0
 ·have hse : ((s.size : Int) == 0) = true := by simp [h0]
  have hss : s = ⟨#[]⟩ := by
   have : s.data = #[] := Array.eq_empty_of_size_eq_zero h0
   cases s; simp_all
  subst hss; clear h0 hse; go_enter Tryz.func235, Tryz.ntmps235; go_wp2; go_ret; exact ⟨rfl, Below.refl _ _⟩
 ·have hse : ((s.size : Int) == 0) = false := by simp [h0]
  obtain ⟨i0, hi0, hz0, hz1, hz2⟩ := info_parts byte_info; have hmk := run_make (P := Tryz.prog) w 22 5 i0 _ Tryz.underlying22 hi0 hz0 .i64 .i64 (s.size : Int) (s.size : Int) lq17 (Int.le_refl _) (by rw [hz2]; omega) lq17; rw [Int.toNat_natCast, hz1, Nat.mul_one] at hmk; obtain ⟨cur, hcur⟩ : ∃ cur, madeCells (Value.int .u8 0).cells s.size = cur := ⟨_, rfl⟩; have hcs : cur.size = s.size := by rw [← hcur]; exact size_madeCells _ _
  rw [hcur] at hmk; obtain ⟨W1, hW1⟩ : ∃ W1, w.alloc (.cells cur 5) = W1 := ⟨_, rfl⟩; have hb1 : Below w.heap.size w W1 := by rw [← hW1]; exact (Below.refl _ _).alloc (Nat.le_refl _) _
  have hg1 : W1.heap[w.heap.size]? = some (.cells cur 5 (0, 0)) := by rw [← hW1]; exact heap_alloc_new w _
  rw [hW1] at hmk; have hcp := Lib.run_copy_row_string (P := Tryz.prog) W1 22 9 3 5 w.heap.size 0 s.size s.size s cur 5 Tryz.underlying22 (by rw [hi0]; simp [hz1]) hg1 (Nat.le_refl _) lq17; rw [List.take_zero, List.nil_append, Nat.zero_add, List.drop_eq_nil_of_le (by rw [Array.length_toList]; omega), List.append_nil] at hcp; have hg2 := setRow_heap W1 w.heap.size cur (Lib.byteCells s.data.toList).toArray 5 (0, 0) hg1
  have hb2 : Below w.heap.size w (W1.setRow w.heap.size (Lib.byteCells s.data.toList).toArray) := hb1.grown (w' := W1.setRow w.heap.size (Lib.byteCells s.data.toList).toArray) (row := some w.heap.size) ⟨rfl, rfl, rfl, by simp [World.setRow], fun k _ hk => setRow_other W1 w.heap.size k _ (fun e => hk (by simp [e]))⟩ hb1.size (by intro k hk; injection hk with hk; omega); obtain ⟨W2, hW2⟩ : ∃ W2, W1.setRow w.heap.size (Lib.byteCells s.data.toList).toArray = W2 := ⟨_, rfl⟩; rw [hW2] at hcp hg2 hb2; have hl : s.data.toList.length = s.size := by simp
  have hsh : W2.shape? w.heap.size = some (5, s.size) := by
   unfold World.shape?; rw [hg2]
   simp [Lib.byteCells]
  have hus := Lib.run_unsafeString_row (P := Tryz.prog) (w := W2) 106 3 9 5 Tryz.underlying106 lq15 w.heap.size s.size hsh s.data.toList (by intro e; rw [e] at hl; simp at hl; omega) lq17 lq17 (fun j x hx => by
   rw [Addr.add_lit, Nat.zero_add, cell_of_row W2 w.heap.size j _ 5 (0, 0) hg2]
   simp [Lib.byteCells, hx])
  rw [hl] at hus; have hb3 : Below w.heap.size w (W2.freeze ⟨w.heap.size, 0, none⟩ s.size) := Lib.below_freeze hb2 (Nat.le_refl _) _
  generalize W2.freeze ⟨w.heap.size, 0, none⟩ s.size = W3 at *
  have hbe : (⟨s.data.toList.toArray⟩ : ByteArray) = s := by cases s; simp
  rw [hbe] at hus; have hn0 : (0 : Int) < (s.size : Int) := by omega
  clear hsh hcur hcs hW1 hW2 hg1 hg2 hl hbe hz0 hz1 hz2 hi0 hb1 hb2; go_enter Tryz.func235, Tryz.ntmps235; go_wp2; go_ret; exact ⟨rfl, hb3⟩
theorem clone_ok (s : ByteArray) (w : World) (hs : s.size ≤ 1099511627776) :
  Calls Tryz.prog 173 #[.string s] w fun e w' => e = .returned (.string s) ∧ Below w.heap.size w w' := by
 have h := fun W => slClone_ok s W hs
 go_enter Tryz.func173, Tryz.ntmps173
 go_wp2_with (go_at_call 235; refine (h _).mono ?_; rintro e w1 ⟨rfl, hb⟩)
 go_ret
 exact ⟨rfl, hb⟩
end
end Go.Proofs.YtjndbcnmmnkilaaGreatDoor
