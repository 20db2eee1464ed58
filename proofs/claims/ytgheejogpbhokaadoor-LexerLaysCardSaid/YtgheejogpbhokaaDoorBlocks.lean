/- The plain law of LexerBlocks: a line of one name behind so many blanks. No program in sight. -/
import Derived.Test.YtgheejogpbhokaaDoorLawLong
namespace Go.Proofs.YtgheejogpbhokaaDoor
set_option linter.unusedVariables false
set_option linter.unusedSimpArgs false
set_option maxRecDepth 1000000

def lineB (n : Nat) : List UInt8 := List.replicate n 32 ++ [97, 10]
theorem lineB_len (n : Nat) : (lineB n).length = n + 2 := by simp [lineB]
theorem blL_line (n : Nat) (rest : List UInt8) : blL (lineB n ++ rest) = n := by
  unfold lineB
  induction n with
  | zero => rfl
  | succ n ih =>
    rw [List.replicate_succ, List.cons_append, List.cons_append, blL, List.takeWhile_cons, if_pos (by decide), List.length_cons]
    rw [blL] at ih
    rw [ih]
theorem at_of_drop {s : ByteArray} {p k : Nat} {l : List UInt8} {c : UInt8} (h : s.data.toList.drop p = l) (hk : l[k]? = some c) : ∃ hlt : p + k < s.size, s[p + k] = c := by
  have hsz : s.data.toList.length = s.size := by simp
  rw [← h, List.getElem?_drop] at hk
  obtain ⟨h1, h2⟩ := List.getElem?_eq_some_iff.1 hk
  exact ⟨by omega, h2⟩
/-- one line of a source. -/
theorem line_lex {s : ByteArray} {p n : Nat} {rest : List UInt8} {st : List Nat} {toks : List Tk} (h : s.data.toList.drop p = lineB n ++ rest) :
    lexR s.data.toList ⟨p, 0, true, 0, st, toks⟩ = (match beginL n (p + n) st toks with | .inr c => .bad c (p + n) | .inl x => lexR s.data.toList ⟨p + n + 2, 0, true, 0, x.1, x.2 ++ [⟨1, [97], p + n⟩] ++ [⟨6, [], p + n + 1⟩]⟩) := by
  have hsz : s.data.toList.length = s.size := by simp
  have h97 : (lineB n ++ rest)[n]? = some 97 := by
    rw [List.getElem?_append_left (by rw [lineB_len]; omega), lineB, List.getElem?_append_right (by simp)]; simp
  have h10 : (lineB n ++ rest)[n + 1]? = some 10 := by
    rw [List.getElem?_append_left (by rw [lineB_len]; omega), lineB, List.getElem?_append_right (by simp)]; simp
  obtain ⟨q1, e97⟩ := at_of_drop h h97
  obtain ⟨q2, e10⟩ := at_of_drop h h10
  have hbl : blL (s.data.toList.drop p) = n := by rw [h, blL_line]
  obtain ⟨a1, a2, a3⟩ := bl_lex s true 0 st toks n p 0 hbl (by omega)
  rw [a2, Nat.zero_add, head_lex q1 (by rw [e97]; decide) (by rw [e97]; decide) (by rw [e97]; decide)]
  cases hb : beginL n (p + n) st toks with
  | inr c => rfl
  | inl x =>
    have hdr : s.data.toList.drop (p + n) = 97 :: 10 :: s.data.toList.drop (p + n + 2) := by
      have e10' : s[p + n + 1] = 10 := e10
      rw [drop_cons s (p + n) q1, e97, drop_cons s (p + n + 1) q2, e10']
    have htk : tokL 0 (s.data.toList.drop (p + n)) = .tok 1 [97] 1 0 := by
      rw [hdr]
      have hw : wd (97 :: 10 :: s.data.toList.drop (p + n + 2)) = [97] := by
        rw [wd, List.takeWhile_cons, if_pos (by decide), List.takeWhile_cons, if_neg (by decide)]
      rw [tokL_let rfl (by decide), hw]
      rfl
    show lexR s.data.toList ⟨p + n, n, false, 0, x.1, x.2⟩ = lexR s.data.toList ⟨p + n + 2, 0, true, 0, x.1, x.2 ++ [⟨1, [97], p + n⟩] ++ [⟨6, [], p + n + 1⟩]⟩
    rw [step_tok q1 (by rw [e97]; decide) (by rw [e97]; decide) (by rw [e97]; decide), htk]
    show lexR s.data.toList ⟨p + n + 1, n, false, 0, x.1, x.2 ++ [⟨1, [97], p + n⟩]⟩ = _
    have q3 : p + n + 1 < s.size := q2
    have e3 : s[p + n + 1] = 10 := e10
    rw [step_nl q3 e3]
    rfl
/-- a source begins with these bytes. -/
def Begins (s u : ByteArray) : Prop := ∃ r, s.data.toList = u.data.toList ++ r
theorem Begins.app {s u v : ByteArray} (h : Begins s (u ++ v)) : Begins s u := by
  obtain ⟨r, h⟩ := h
  exact ⟨v.data.toList ++ r, by rw [h]; simp⟩
theorem Begins.self (u : ByteArray) : Begins u u := ⟨[], by simp⟩
theorem Begins.drop {s u v : ByteArray} (h : Begins s (u ++ v)) : ∃ r, s.data.toList.drop u.size = v.data.toList ++ r := by
  obtain ⟨r, h⟩ := h
  refine ⟨r, ?_⟩
  have hu : u.size = u.data.toList.length := by simp
  rw [h, hu]
  simp
/-- how far the lines have come: of any source that begins so: the blocks and tokens; or a line that fits no block. -/
def Come (u : ByteArray) (st : List Nat) (toks : List Tk) : Prop := ∀ s, Begins s u → lexR s.data.toList lexS = lexR s.data.toList ⟨u.size, 0, true, 0, st, toks⟩
def Stuck (u : ByteArray) (a : Nat) : Prop := ∀ s, Begins s u → lexR s.data.toList lexS = .bad 103 a
theorem come_start : Come ⟨#[]⟩ [0] [] := fun s _ => rfl
theorem Stuck.app {u v : ByteArray} {a : Nat} (h : Stuck u a) : Stuck (u ++ v) a := fun s hs => h s hs.app
theorem Come.line {u v : ByteArray} {st st' : List Nat} {toks toks' : List Tk} {n : Nat} (h : Come u st toks) (hv : v.data.toList = lineB n) (hb : beginL n (u.size + n) st toks = .inl (st', toks')) : Come (u ++ v) st' (toks' ++ [⟨1, [97], u.size + n⟩] ++ [⟨6, [], u.size + n + 1⟩]) := fun s hs => by
  obtain ⟨r, hd⟩ := hs.drop
  rw [hv] at hd
  rw [h s hs.app, line_lex hd, hb]
  have hvs : v.size = n + 2 := by
    have : v.data.toList.length = v.size := by simp
    rw [← this, hv, lineB_len]
  have : (u ++ v).size = u.size + n + 2 := by simp [hvs]; omega
  rw [this]
theorem Come.stuck {u v : ByteArray} {st : List Nat} {toks : List Tk} {n : Nat} (h : Come u st toks) (hv : v.data.toList = lineB n) (hb : beginL n (u.size + n) st toks = .inr 103) : Stuck (u ++ v) (u.size + n) := fun s hs => by
  obtain ⟨r, hd⟩ := hs.drop
  rw [hv] at hd
  rw [h s hs.app, line_lex hd, hb]
theorem Come.done {u : ByteArray} {st : List Nat} {toks : List Tk} (h : Come u st toks) : lexR u.data.toList lexS = .ok (endL u.size st toks) := by
  rw [h u (Begins.self u)]
  have hsz : u.data.toList.length = u.size := by simp
  have := step_end (s := u.data.toList) (S := ⟨u.size, 0, true, 0, st, toks⟩) (by rw [hsz]; exact Nat.le_refl _)
  rw [hsz] at this
  exact this
end Go.Proofs.YtgheejogpbhokaaDoor
