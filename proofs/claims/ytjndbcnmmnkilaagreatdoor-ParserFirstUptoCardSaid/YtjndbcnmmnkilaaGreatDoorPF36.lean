/- Joined by a program: Let2, Let7, Lx6, Lx7. -/
import Derived.Test.YtjndbcnmmnkilaaGreatDoorPF35
namespace Go.Proofs.YtjndbcnmmnkilaaGreatDoor
set_option linter.unusedVariables false
set_option linter.unusedSimpArgs false
set_option maxRecDepth 1000000
set_option maxHeartbeats 16000000
section
open Go.RowKit Go.Shelf
open List (length_append length_cons length_nil length_singleton)
theorem heap_later {w w' : World} (hb : Below w.heap.size w w') {k : Nat} {o : Obj} (h : w.heap[k]? = some o) : w'.heap[k]? = some o :=
 (hb.block k (Array.getElem?_eq_some_iff.1 h).1).trans h
theorem bAt_later {T e : TypeId} {B b : Nat} {p : Value} {bs : List Value} {w w' : World} (h : Lib.BuilderAtF T e B b p bs w) (hb : Below w.heap.size w w') : Lib.BuilderAtF T e B b p bs w' := by
 obtain ⟨hB, v, hbk, hown, hne⟩ := h
 refine ⟨hB, v, heap_later hb hbk, ⟨hown.1, ?_⟩, hne⟩
 rcases hown.2 with hn | ⟨g, cap, cur, fz, hv, hbg, hg, rest⟩
 ·exact .inl hn
 ·exact .inr ⟨g, cap, cur, fz, hv, hbg, heap_later hb hg, rest⟩
theorem isB_later {T e : TypeId} {B b : Nat} {bs : List Value} {w w' : World} (h : Lib.IsBuilderF T e B b bs w) (hb : Below w.heap.size w w') : Lib.IsBuilderF T e B b bs w' :=
 h.elim (fun x => .inl (bAt_later x hb)) (fun x => .inr (bAt_later x hb))
theorem beqI {a b : Nat} (h : a ≠ b) : ((a : Int) == (b : Int)) = false := by simp; omega
theorem below_drewN {B : Nat} {a w : World} (h : Below B a w) (n : Nat) : Below B a (w.drewN n) := h.trans ⟨rfl, rfl, rfl, Nat.le_refl _, fun _ _ => rfl⟩
def unqR (o : Option (List UInt8 × Nat)) : Value := match o with | some x => .tuple #[.string ⟨x.1.toArray⟩, .int .i64 x.2, .int .i64 0] | none => .tuple #[.string ⟨#[]⟩, .int .i64 0, .int .i64 4]
def comb (acc : List UInt8) (at_ : Nat) (o : Option (List UInt8 × Nat)) : Option (List UInt8 × Nat) := o.map fun x => (acc ++ x.1, at_ + x.2)
theorem comb_comb (acc y : List UInt8) (a b : Nat) (o : Option (List UInt8 × Nat)) : comb acc a (o.map fun x => (y ++ x.1, b + x.2)) = comb (acc ++ y) (a + b) o := by
 cases o with
 | none => rfl
 | some x => simp [comb]; omega
section
variable (s : ByteArray)
include s
theorem bytes_at (i : Nat) (h : i < s.size) : s.data.toList.drop i = s[i] :: s.data.toList.drop (i + 1) := by
 rw [List.drop_eq_getElem_cons (by simpa using h)]; rfl
theorem ext_end (i : Nat) : (s.extract i s.size).data.toList = s.data.toList.drop i := by
 rw [Lib.extract_data, List.take_of_length_le lq18]
theorem decGo_at (i : Nat) (h : i < s.size) : Lib.decodeGo (s.extract i s.size) = Lib.decodeL (s.data.toList.drop i) := by
 have hs : (s.extract i s.size).size ≠ 0 := by simp; omega
 rw [Lib.decodeGo, if_neg hs, ← Lib.decodeL_drop, List.drop_zero, ext_end]
theorem dec_call (i : Nat) (h : i < s.size) (w : World) (hT : Lib.Utf8Tabs 0 1 w) :
  Calls Tryz.prog 279 #[.string (s.extract i s.size)] w fun e w' => e = .returned (.tuple #[.int .i32 (Lib.decodeL (s.data.toList.drop i)).1, .int .i64 (Lib.decodeL (s.data.toList.drop i)).2]) ∧ Below w.heap.size w w' := by
 rw [← decGo_at s i h]
 exact Tryz.utf8_DecodeRuneInString _ w hT
theorem unquote_short (w : World) (h : s.size = 0) :
  Calls Tryz.prog 233 #[.string s] w fun e w' => e = .returned (unqR none) ∧ Below w.heap.size w w' := by
 have hse : s.toList.isEmpty = true := by rw [Lib.toList_data, List.eq_nil_of_length_eq_zero (l := s.data.toList) (by simpa using h)]; rfl
 go_enter Tryz.func233, Tryz.ntmps233
 go_wp2
 go_ret3
 exact ⟨rfl, Below.refl _ _⟩
theorem unquote_other (w : World) (h : 0 < s.size) (h1 : s[0] ≠ 39) (h2 : s[0] ≠ 34) :
  Calls Tryz.prog 233 #[.string s] w fun e w' => e = .returned (unqR none) ∧ Below w.heap.size w w' := by
 have hse : s.toList.isEmpty = false := by rw [Lib.toList_data, bytes_cons s h]; rfl
 have ne : ∀ k : UInt8, s[0] ≠ k → s[0].toNat ≠ k.toNat := fun k h e => h (UInt8.toNat_inj.1 e)
 have d1 : ¬ s[0].toNat = 39 := ne 39 h1
 have d2 : ¬ s[0].toNat = 34 := ne 34 h2
 obtain ⟨k, hk⟩ : ∃ k, s[0].toNat = k := ⟨_, rfl⟩
 rw [hk] at d1 d2
 have b1 : ((k : Int) != 39) = true := by simp; omega
 have b2 : ((k : Int) != 34) = true := by simp; omega
 clear ne h1 h2 d1 d2
 go_enter Tryz.func233, Tryz.ntmps233
 go_wp2
 go_ret3
 exact ⟨rfl, Below.refl _ _⟩
end
theorem unq_hit (f : Nat) (q : UInt8) (t : List UInt8) : unq (f + 1) q (q :: t) = some ([], 1) := by simp [unq]
theorem unq_esc (f : Nat) (q : UInt8) (t : List UInt8) (h : (92 : UInt8) ≠ q) : unq (f + 1) q (92 :: t) = (match esc t with
   | none => none
   | some (r, n) => (unq f q (t.drop n)).map fun x => (enc r ++ x.1, 1 + n + x.2)) := by rw [unq, if_neg h, if_pos rfl]; rfl
theorem unq_bad (f : Nat) (q c : UInt8) (t : List UInt8) (h : c ≠ q) (h2 : c ≠ 92) (h3 : Bad (c :: t) ∨ (Lib.decodeL (c :: t)).1 < 32 ∨ (Lib.decodeL (c :: t)).1 = 127) : unq (f + 1) q (c :: t) = none := by
 rw [unq, if_neg h, if_neg h2, if_pos h3]
theorem unq_rune (f : Nat) (q c : UInt8) (t : List UInt8) (h : c ≠ q) (h2 : c ≠ 92) (h3 : ¬ (Bad (c :: t) ∨ (Lib.decodeL (c :: t)).1 < 32 ∨ (Lib.decodeL (c :: t)).1 = 127)) :
  unq (f + 1) q (c :: t) = (unq f q ((c :: t).drop (Lib.decodeL (c :: t)).2)).map fun x => (enc (Lib.decodeL (c :: t)).1 ++ x.1, (Lib.decodeL (c :: t)).2 + x.2) := by
 rw [unq, if_neg h, if_neg h2, if_neg h3]
theorem byteCells_enc (r : Nat) : Lib.byteCells (enc r) = Lib.runeCells (r : Int) := by rw [enc_Z]; exact Lib.byteCells_encodeRune _
theorem esc_call (s : ByteArray) (i : Nat) (hs : s.size ≤ 9223372036854775807) (w : World) :
  Calls Tryz.prog 280 #[.string (s.extract i s.size)] w fun e w' => e = .returned (escR (esc (s.data.toList.drop i))) ∧ w' = w := by
 rw [← ext_end]
 exact escape_ok _ w (by simp; omega)
set_option maxRecDepth 100000 in
theorem unquote_quote (s : ByteArray) (q : UInt8) (w : World) (hs : s.size ≤ 1099511627776) (hT : Lib.Utf8Tabs 0 1 w) (h : 0 < s.size) (hq : s[0] = q) (hq2 : q = 39 ∨ q = 34) (RES : Option (List UInt8 × Nat))
  (HR : Hid (RES = comb [] 1 (unq s.size q (s.data.toList.drop 1)))) :
  Calls Tryz.prog 233 #[.string s] w fun e w' => e = .returned (unqR RES) ∧ Below w.heap.size w w' := by
 have hse : s.toList.isEmpty = false := by rw [Lib.toList_data, bytes_cons s h]; rfl
 have hd : (s[0].toNat = 39 ∨ s[0].toNat = 34) := by rcases hq2 with c | c <;> rw [hq, c] <;> simp
 obtain ⟨k, hk⟩ : ∃ k, s[0].toNat = k := ⟨_, rfl⟩
 rw [hk] at hd
 rcases hd with hd | hd
 all_goals
  have HQ := Lib.hid hq; have HQ2 := Lib.hid hq2; clear hq hq2; subst hd; go_enter Tryz.func233, Tryz.ntmps233; go_wp2
  go_loopw [6] (fun v wr => ∃ (i f : Nat) (acc : List UInt8), v = .int .i64 i ∧ 1 ≤ i ∧ i ≤ s.size ∧ s.size < i + f ∧ acc.length ≤ 4 * i ∧ Lib.IsBuilderF 72 5 w.heap.size w.heap.size (Lib.byteCells acc) wr ∧ Below w.heap.size w wr ∧ Hid (RES = comb acc i (unq f q (s.data.toList.drop i)))) (fun v _ => s.size - (intOf v).toNat)
  case atStart =>
   refine ⟨1, s.size, [], rfl, Nat.le_refl _, h, by omega, by simp, Lib.IsBuilderF.of (Lib.fresh_isBuilder 72 5 w), (Below.refl _ w).alloc (Nat.le_refl _) _, HR⟩
  case round =>
   obtain ⟨i, f, acc, rfl, h1, h2, hf, hal, hI, hbw, hT0⟩ := hrel; have hsz := hbw.size
   by_cases hp : i < s.size
   ·obtain ⟨g, rfl⟩ : ∃ g, f = g + 1 := ⟨f - 1, by omega⟩; have hT1 := Utf8Tabs_below hT hbw; have hdc := dec_call s i hp wr hT1; have hla := bytes_at s i hp
    by_cases hc : s[i] = q
    ·rw [hla, hc, unq_hit] at hT0; have hR1 : RES = some (acc, i + 1) := by rw [hT0.out]; simp [comb]
     have hck : s[i].toNat = s[0].toNat := by rw [hc, HQ.out]
     rw [hk] at hck; subst hR1; clear hT0 hla HR hc; go_wp2_with (go_at_call 279; refine hdc.mono ?_; rintro e W1 ⟨rfl, hb1⟩)
     go_quiet (fail)
     have hb2 := below_drewN hb1 nq; clear hb1; have hI1 := isB_later hI hb2; have hs1 := Nat.le_trans hsz hb2.size; go_wp2_with ((go_at_call 44; refine (Tryz.Builder_String_any_k w.heap.size w.heap.size acc _ hI1 hs1).mono ?_; rintro e W2 ⟨rfl, _, b2, _⟩)); go_ret3; exact ⟨rfl, hbw.trans ((hb2.mono hsz).trans b2)⟩
    ·have hck : s[i].toNat ≠ s[0].toNat := fun e => hc (by rw [← HQ.out]; exact UInt8.toNat_inj.1 e)
     rw [hk] at hck; have h92q : (92 : UInt8) ≠ q := by rcases HQ2.out with c | c <;> rw [c] <;> decide
     by_cases h92 : s[i] = 92
     ·have hn : s[i].toNat = 92 := by rw [h92]; rfl
      have hd92 : Lib.decodeL (s.data.toList.drop i) = (92, 1) := by rw [hla, h92]; exact Lib.decodeL_ascii 92 _ lq16
      rw [hd92] at hdc; rw [hla, h92, unq_esc _ _ _ h92q] at hT0; have hec := fun wx => esc_call s (i + 1) lq17 wx
      cases hx : esc (s.data.toList.drop (i + 1)) with
      | none =>
       rw [hx] at hT0 hec; have hR1 : RES = none := by rw [hT0.out]; rfl
       subst hR1; simp only [escR] at hec; clear hT0 hla HR hx h92 hc hck h92q hd92; go_wp2_with (go_at_call 279; refine hdc.mono ?_; rintro e W1 ⟨rfl, hb1⟩)
       go_quiet (fail)
       have hb2 := below_drewN hb1 nq; clear hb1; have hI1 := isB_later hI hb2; have hs1 := Nat.le_trans hsz hb2.size; go_wp2_with ((go_at_call 280; refine (hec _).mono ?_; rintro e W2 ⟨rfl, rfl⟩)); go_ret3; exact ⟨rfl, hbw.trans (hb2.mono hsz)⟩
      | some x =>
       obtain ⟨r, n⟩ := x; rw [hx] at hT0 hec; obtain ⟨hsc, hn1, hn2⟩ := esc_ok _ _ _ hx; rw [List.length_drop] at hn2; have hsl2 : s.data.toList.length = s.size := by simp
       have hn2' : i + 1 + n ≤ s.size := by omega
       simp only [List.drop_drop] at hT0; rw [comb_comb] at hT0; simp only [escR] at hec; have hrb : r ≤ 1114111 := by unfold Sc at hsc; omega
       have hl4 := (enc_len r).2; clear hla HR hx h92 hc hck h92q hd92 hsc hn2; have x0 : ((n : Int) == 0) = false := beqI (b := 0) lq17; have hcl := Lib.hid (show (Lib.byteCells acc).length + 4 ≤ 140737488355328 by rw [Lib.byteCells_length]; omega); have hr0 : (-2147483648 : Int) ≤ r := by omega
       have hr1 : (r : Int) ≤ 2147483647 := by omega
       have HL := Lib.hid (And.intro hal (And.intro hl4 (And.intro hf hn1))); clear hal hl4 hrb hf hn1; go_wp2_with (go_at_call 279; refine hdc.mono ?_; rintro e W1 ⟨rfl, hb1⟩)
       go_quiet (fail)
       have hb2 := below_drewN hb1 nq; clear hb1; have hI1 := isB_later hI hb2; have hs1 := Nat.le_trans hsz hb2.size; go_wp2_with (first | (go_at_call 280; refine (hec _).mono ?_; rintro e W2 ⟨rfl, rfl⟩) | (go_at_call 281; refine (Tryz.bWriteRune w.heap.size w.heap.size _ r hr0 hr1 _ hI1 hcl.out hs1).mono ?_; rintro e W3 ⟨rfl, h3, b3, k3⟩))
       go_roundw
       case rel =>
        obtain ⟨hal, hl4, hf, hn1⟩ := HL.out
        refine ⟨i + (1 + n), g, acc ++ enc r, by go_num, by omega, by omega, by omega, by rw [length_append]; omega, ?_, hbw.trans ((hb2.mono hsz).trans b3), ?_⟩
        ·rw [Lib.byteCells_append, byteCells_enc]; exact Or.inr h3
        ·have : i + 1 + n = i + (1 + n) := by omega
         rw [this] at hT0; exact hT0
       case measure => (have hn1 := HL.out.2.2.2); simp [intOf]; omega
     ·have hdh := Lib.decodeL_le (s.data.toList.drop i) (by rw [hla]; simp); rw [List.length_drop] at hdh; have hdw := Lib.decodeL_width (s.data.toList.drop i); have hd92 : (Lib.decodeL (s.data.toList.drop i)).1 ≠ 92 := by
       rw [hla]
       rcases dec_head s[i] (s.data.toList.drop (i + 1)) with ⟨a1, a2⟩ | ⟨a1, a2⟩
       ·rw [a2]; exact fun e => h92 (UInt8.toNat_inj.1 e)
       ·omega
      have hsc := dec_sc (s.data.toList.drop i)
      by_cases hbad : Bad (s.data.toList.drop i) ∨ (Lib.decodeL (s.data.toList.drop i)).1 < 32 ∨ (Lib.decodeL (s.data.toList.drop i)).1 = 127
      ·have hR1 : RES = none := by
        rw [hT0.out, hla, unq_bad _ _ _ _ hc h92 (by rw [← hla]; exact hbad)]; rfl
       subst hR1; have hbad2 : ((Lib.decodeL (s.data.toList.drop i)).1 = 65533 ∧ (Lib.decodeL (s.data.toList.drop i)).2 = 1) ∨ (Lib.decodeL (s.data.toList.drop i)).1 < 32 ∨ (Lib.decodeL (s.data.toList.drop i)).1 = 127 := hbad; clear hT0 HR hla hbad hc h92 h92q hdh hdw hd92 hsc
       revert hdc hbad2
       generalize (Lib.decodeL (s.data.toList.drop i)).1 = r
       generalize (Lib.decodeL (s.data.toList.drop i)).2 = n
       intro hdc hbad2; obtain ⟨c, hcc⟩ : ∃ c, s[i].toNat = c := ⟨_, rfl⟩; rw [hcc] at hck; have hckI := beqI hck; clear hck
       rcases hbad2 with ⟨rfl, rfl⟩ | hlt | rfl
       ·exact lv33
       ·have x1 : ((r : Int) == 65533) = false := by simp; omega
        have x2 : (r : Int) < 32 := by omega
        clear hlt; exact lv33
       ·exact lv33
      ·have hbad3 : ¬ ((Lib.decodeL (s.data.toList.drop i)).1 = 65533 ∧ (Lib.decodeL (s.data.toList.drop i)).2 = 1) ∧ 32 ≤ (Lib.decodeL (s.data.toList.drop i)).1 ∧ (Lib.decodeL (s.data.toList.drop i)).1 ≠ 127 :=
        ⟨fun e => hbad (Or.inl e), Nat.not_lt.1 fun e => hbad (Or.inr (Or.inl e)), fun e => hbad (Or.inr (Or.inr e))⟩
       rw [hla, unq_rune _ _ _ _ hc h92 (by rw [← hla]; exact hbad), ← hla, List.drop_drop, comb_comb] at hT0; clear HR hla hbad hc h92 h92q
       generalize (Lib.decodeL (s.data.toList.drop i)).1 = r at hdc hbad3 hT0 hd92 hsc
       generalize (Lib.decodeL (s.data.toList.drop i)).2 = n at hdc hbad3 hT0 hdh hdw
       obtain ⟨c, hcc⟩ : ∃ c, s[i].toNat = c := ⟨_, rfl⟩; rw [hcc] at hck; have hckI := beqI hck; clear hck; obtain ⟨hb65, h32, h127⟩ := hbad3; have hrb : r ≤ 1114111 := by unfold Sc at hsc; omega
       have hl4 := (enc_len r).2; have hlz : s.data.toList.length = s.size := by simp
       have hin : i + n ≤ s.size := by omega
       have x2 : 32 ≤ (r : Int) := by omega
       have x3 := beqI h127; have x4 := beqI hd92; have hcl := Lib.hid (show (Lib.byteCells acc).length + 4 ≤ 140737488355328 by rw [Lib.byteCells_length]; omega); have hr0 : (-2147483648 : Int) ≤ r := by omega
       have hr1 : (r : Int) ≤ 2147483647 := by omega
       have x1 : (((r : Int) == 65533) = true ∧ ((n : Int) == 1) = false) ∨ ((r : Int) == 65533) = false := by
        by_cases e : r = 65533
        ·exact Or.inl ⟨by rw [e]; rfl, beqI fun e2 => hb65 ⟨e, e2⟩⟩
        ·exact Or.inr (beqI e)
       have HL := Lib.hid (And.intro hal (And.intro hl4 (And.intro hf hdw))); clear hb65 h32 h127 hd92 hsc hdh hlz hal hl4 hrb hf hdw
       rcases x1 with ⟨x5, x6⟩ | x5
       all_goals
        go_wp2_with (go_at_call 279; refine hdc.mono ?_; rintro e W1 ⟨rfl, hb1⟩)
        go_quiet (fail)
        have hb2 := below_drewN hb1 nq; clear hb1; have hI1 := isB_later hI hb2; have hs1 := Nat.le_trans hsz hb2.size; go_wp2_with ((go_at_call 281; refine (Tryz.bWriteRune w.heap.size w.heap.size _ r hr0 hr1 _ hI1 hcl.out hs1).mono ?_; rintro e W3 ⟨rfl, h3, b3, k3⟩))
        go_roundw
        case rel =>
         obtain ⟨hal, hl4, hf, hdw⟩ := HL.out
         refine ⟨i + n, g, acc ++ enc r, by go_num, by omega, by omega, by omega, by rw [length_append]; omega, ?_, hbw.trans ((hb2.mono hsz).trans b3), hT0⟩
         rw [Lib.byteCells_append, byteCells_enc]; exact Or.inr h3
        case measure => (have hdw := HL.out.2.2.2); simp [intOf]; omega
   ·have hR1 : RES = none := by
     have : s.data.toList.drop i = [] := List.drop_eq_nil_of_le (by simp; omega); rw [hT0.out, this]
     cases f <;> rfl
    subst hR1; clear hT0 HR; go_wp2; go_ret3; exact ⟨rfl, hbw⟩
theorem unquote_nil (s : ByteArray) (h : s.size = 0) : unquote s.data.toList = none := by
 rw [List.eq_nil_of_length_eq_zero (l := s.data.toList) (by simpa using h)]; rfl
theorem unquote_off (s : ByteArray) (h : 0 < s.size) (h1 : s[0] ≠ 39) (h2 : s[0] ≠ 34) : unquote s.data.toList = none := by
 rw [bytes_cons s h, unquote, if_neg (by rintro (e | e); exact h1 e; exact h2 e)]
theorem unquote_on (s : ByteArray) (h : 0 < s.size) (q : UInt8) (hq : s[0] = q) (hq2 : q = 39 ∨ q = 34) : unquote s.data.toList = comb [] 1 (unq s.size q (s.data.toList.drop 1)) := by
 have e : s.size = s.data.toList.length := by simp
 rw [e, bytes_cons s h, unquote, if_pos (by rw [hq]; exact hq2), hq]
 rw [List.drop_succ_cons, List.drop_zero]
 cases unq (q :: s.data.toList.drop 1).length q (s.data.toList.drop 1) with
 | none => rfl
 | some x => simp [comb]
theorem unquote_ok (s : ByteArray) (w : World) (hs : s.size ≤ 1099511627776) (hT : Lib.Utf8Tabs 0 1 w) :
  Calls Tryz.prog 233 #[.string s] w fun e w' => e = .returned (unqR (unquote s.data.toList)) ∧ Below w.heap.size w w' := by
 by_cases h : s.size = 0
 ·rw [unquote_nil s h]; exact unquote_short s w h
 ·have h : 0 < s.size := Nat.pos_of_ne_zero h
  by_cases h1 : s[0] = 39 ∨ s[0] = 34
  ·exact unquote_quote s _ w hs hT h rfl h1 _ (unquote_on s h _ rfl h1)
  ·rw [unquote_off s h (fun e => h1 (Or.inl e)) (fun e => h1 (Or.inr e))]; exact unquote_other s w h (fun e => h1 (Or.inl e)) (fun e => h1 (Or.inr e))
end
section
open Go.RowKit
open List (length_append length_cons length_nil length_singleton)
theorem rest_list (s : ByteArray) (p : Nat) : (s.extract p s.size).data.toList = s.data.toList.drop p := by
 rw [ext_list, List.take_of_length_le lq18]
theorem rest_size (s : ByteArray) (p : Nat) : (s.extract p s.size).size ≤ s.size := by
 have : (s.extract p s.size).data.toList.length = (s.extract p s.size).size := by simp
 rw [← this, rest_list, List.length_drop]; simp
theorem unq_text : ∀ (f : Nat) (q : UInt8) (l : List UInt8) (x : List UInt8 × Nat), unq f q l = some x → x.1.length ≤ 4 * x.2
 | 0, _, _, _, h => by simp [unq] at h
 | _ + 1, _, [], _, h => by simp [unq] at h
 | f + 1, q, c :: t, x, h => by
  unfold unq at h
  split at h
  ·injection h with h; subst h; simp
  ·split at h
   ·cases he : esc t with
    | none => rw [he] at h; simp at h
    | some y =>
     rw [he] at h; simp only at h
     cases hu : unq f q (t.drop y.2) with
     | none => rw [hu] at h; simp at h
     | some z =>
      rw [hu] at h; simp only [Option.map_some, Option.some.injEq] at h; subst h; have h1 := unq_text f q _ z hu; have h2 := enc_len y.1; simp only [length_append]
      omega
   ·split at h
    ·simp at h
    ·cases hu : unq f q ((c :: t).drop (Lib.decodeL (c :: t)).2) with
     | none => rw [hu] at h; simp at h
     | some z =>
      rw [hu] at h; simp only [Option.map_some, Option.some.injEq] at h; subst h; have h1 := unq_text f q _ z hu; have h2 := enc_len (Lib.decodeL (c :: t)).1; have h3 := Lib.decodeL_width (c :: t); simp only [length_append]; have h4 : 1 ≤ (Lib.decodeL (c :: t)).2 := by omega
      omega
theorem unquote_text (l : List UInt8) (x : List UInt8 × Nat) (h : unquote l = some x) : x.1.length ≤ 4 * x.2 := by
 cases l with
 | nil => simp [unquote] at h
 | cons c t =>
  simp only [unquote] at h
  split at h
  ·cases hu : unq (c :: t).length c t with
   | none => rw [hu] at h; simp at h
   | some y =>
    rw [hu] at h; have := unq_text _ c t y hu; simp only [Option.map_some, Option.some.injEq] at h; subst h; simp only
    omega
  ·simp at h
section
variable {w : World} {base X : Nat} {s : ByteArray} {p o : Nat} {st : List Nat} {toks : List Tk}
def quoT (l : List UInt8) (o : Nat) : T1 := match unquote l with | none => .bad 104 | some (t, n) => .tok 4 t n o
theorem lxQuoted_ok (hL : LxS w base X s p o st toks) (hz : base ≤ w.heap.size) (hs : s.size ≤ 1099511) (hp : p ≤ s.size) (hn : toks.length ≤ 1000000) (hT : Lib.Utf8Tabs 0 1 w) :
  Calls Tryz.prog 171 #[.pointer (some ⟨X, 0, none⟩)] w (TokR w base X s p st toks (quoT (s.data.toList.drop p) o)) := by
 have hU := fun W h => unquote_ok (s.extract p s.size) W (by have := rest_size s p; omega) h
 rw [rest_list] at hU
 have hT2 : Lib.Utf8Tabs 0 1 w.drew := Utf8Tabs_below hT ⟨rfl, rfl, rfl, Nat.le_refl _, fun _ _ => rfl⟩
 obtain ⟨q0, q1, q3, f1, f3, hX, hbX⟩ := hL.cells
 have i1 : (p : Int) ≤ (s.size : Int) := by omega
 have i2 : (0 : Int) ≤ (p : Int) := by omega
 unfold quoT
 have hB0 : ∀ W : World, Below W.heap.size W W.drew := fun W => ⟨rfl, rfl, rfl, Nat.le_refl _, fun _ _ => rfl⟩
 cases hu : unquote (s.data.toList.drop p) with
 | none =>
  rw [hu] at hU; simp only [unqR] at hU; clear hu; unfold TokR
  dsimp only
  go_enter Tryz.func171, Tryz.ntmps171; go_wp2_with fail
  go_region_held3 (fun W => W.cell? ⟨X, 0, none⟩ = some (.string s) ∧ W.cell? ⟨X, 1, none⟩ = some (.int .i64 p)) (first | exact ⟨q0, q1⟩ | exact ⟨cLt hb q0, cLt hb q1⟩ | go_keep) (first | (go_at_call 233; refine (hU _ hT2).mono ?_; rintro e w1 ⟨rfl, hb⟩; have hb := undrew hb))
  clear q0 q1 q3 f1 f3
  replace hL := hL.later hb
  have hz1 := Nat.le_trans hz hb.size
  replace hb := hb.mono hz
  obtain ⟨q0, q1, q3, f1, f3, hX, hbX⟩ := hL.cells; go_wp2_with (go_at_call 166; refine (lxFail_ok X 104 p _).mono ?_; rintro e w' ⟨rfl, rfl⟩); exact ⟨rfl, rfl, hb⟩
 | some y =>
  obtain ⟨t, n⟩ := y; rw [hu] at hU; simp only [unqR] at hU; have hl := unquote_len _ _ hu; have ht := unquote_text _ _ hu; rw [List.length_drop] at hl; simp only [Array.length_toList] at hl; have hsz : s.data.size = s.size := rfl; rw [hsz] at hl
  dsimp only at hl ht
  clear hu hsz; obtain ⟨T, hTe⟩ : ∃ T : ByteArray, (⟨t.toArray⟩ : ByteArray) = T := ⟨_, rfl⟩; have hTl : T.data.toList = t := by rw [← hTe]
  have hTs : T.size ≤ 4398044 := by
   have : T.data.toList.length = T.size := by simp
   rw [← this, hTl]; omega
  rw [hTe] at hU; have hP := fun (k : Int) (W : World) (h : LxS W base X s p o st toks) (h2 : base ≤ W.heap.size) => lxPut_ok k T p h h2 lq17 hn
  rw [hTl] at hP; have hln : p + n ≤ s.size := by omega
  clear hTe hTl ht hl; unfold TokR
  dsimp only
  go_enter Tryz.func171, Tryz.ntmps171; go_wp2_with fail
  go_region_held3 (fun W => W.cell? ⟨X, 0, none⟩ = some (.string s) ∧ W.cell? ⟨X, 1, none⟩ = some (.int .i64 p)) (first | exact ⟨q0, q1⟩ | exact ⟨cLt hb q0, cLt hb q1⟩ | go_keep) (first | (go_at_call 233; refine (hU _ hT2).mono ?_; rintro e w1 ⟨rfl, hb⟩; have hb := undrew hb))
  clear q0 q1 q3 f1 f3
  replace hL := hL.later hb
  have hz1 := Nat.le_trans hz hb.size
  replace hb := hb.mono hz
  obtain ⟨q0, q1, q3, f1, f3, hX, hbX⟩ := hL.cells; go_wp2_with (go_at_call 89; refine (hP _ _ hL hz1).mono ?_; rintro e w2 ⟨rfl, hL2, hb2⟩; clear q0 q1 q3 f1 f3; obtain ⟨q0, q1, q3, f1, f3, hX, hbX⟩ := hL2.cells)
  go_end0
  exact ⟨rfl, hL2.setPos _ _ lq17, Below.setCell (p := ⟨X, 1, none⟩) (hb.trans hb2) hbX _⟩
end
theorem lit_of {T : ByteArray} {c : UInt8} (h : T.data.toList = [c]) : T = ⟨#[c]⟩ := by
 cases T with | mk d => simp only at h; congr 1; exact Array.toList_inj.1 h
theorem lit_nil {T : ByteArray} (h : T.data.toList = []) : T = ⟨#[]⟩ := by
 cases T with | mk d => simp only at h; congr 1; exact Array.toList_inj.1 h
theorem ne_lit {T : ByteArray} {x y : List UInt8} (h : T.data.toList = x) (hn : x ≠ y) : (T.toList == y) = false := by
 rw [Lib.toList_data, h]; simpa using hn
section
variable {w : World} {base X : Nat} {s : ByteArray} {p o : Nat} {st : List Nat} {toks : List Tk}
theorem lxSgn_none (x : List UInt8) (hx : signL (s.data.toList.drop p) = x) (hL : LxS w base X s p o st toks) (hz : base ≤ w.heap.size) (hs : s.size ≤ 1099511) (hp : p ≤ s.size) (hn : toks.length ≤ 1000000) (ho : o ≤ 60) (h0 : x = []) :
  Calls Tryz.prog 172 #[.pointer (some ⟨X, 0, none⟩)] w (TokR w base X s p st toks (signT o x)) := by
 have hS := fun W => lxSign_ok (s.extract p s.size) W (by have := rest_size s p; omega)
 have hTl := sgS_list (s.extract p s.size)
 rw [rest_list, hx] at hTl
 have hle := signL_len (s.data.toList.drop p)
 rw [hx, List.length_drop] at hle
 have hsz : s.data.toList.length = s.size := by simp
 rw [hsz] at hle
 generalize sgS (s.extract p s.size) = T at *
 have i1 : (p : Int) ≤ (s.size : Int) := by omega
 have i2 : (0 : Int) ≤ (p : Int) := by omega
 have hTn : T.size = x.length := by rw [← hTl]; simp
 obtain ⟨q0, q1, q3, f1, f3, hX, hbX⟩ := hL.cells
 clear hx hsz
 subst h0
 obtain rfl := lit_nil hTl
 clear hTl hTn hle
 unfold signT TokR
 rw [if_pos rfl]
 dsimp only
 go_enter Tryz.func172, Tryz.ntmps172
 go_wp2_with fail
 go_region_held3 (fun W => W.cell? ⟨X, 0, none⟩ = some (.string s) ∧ W.cell? ⟨X, 1, none⟩ = some (.int .i64 p)) (first | exact ⟨q0, q1⟩ | go_keep) (first | (go_at_call 234; refine (hS _).mono ?_; rintro e w' ⟨rfl, rfl⟩))
 clear q0 q1 q3 f1 f3
 obtain ⟨wr, hwr, hbr⟩ : ∃ u, u = w.drew ∧ Below w.heap.size w u := ⟨_, rfl, ⟨rfl, rfl, rfl, Nat.le_refl _, fun _ _ => rfl⟩⟩
 rw [← hwr]
 clear hwr
 replace hL := hL.later hbr
 have hz1 := Nat.le_trans hz hbr.size
 replace hbr := hbr.mono hz
 obtain ⟨q0, q1, q3, f1, f3, hX, hbX⟩ := hL.cells
 go_wp2_with (go_at_call 166; refine (lxFail_ok X 102 p _).mono ?_; rintro e w' ⟨rfl, rfl⟩)
 exact ⟨rfl, rfl, hbr⟩
theorem lxSgn_open (x : List UInt8) (hx : signL (s.data.toList.drop p) = x) (hL : LxS w base X s p o st toks) (hz : base ≤ w.heap.size) (hs : s.size ≤ 1099511) (hp : p ≤ s.size) (hn : toks.length ≤ 1000000) (ho : o ≤ 60) (h0 : x = [40] ∨ x = [91] ∨ x = [123]) :
  Calls Tryz.prog 172 #[.pointer (some ⟨X, 0, none⟩)] w (TokR w base X s p st toks (signT o x)) := by
 have hS := fun W => lxSign_ok (s.extract p s.size) W (by have := rest_size s p; omega)
 have hTl := sgS_list (s.extract p s.size)
 rw [rest_list, hx] at hTl
 have hle := signL_len (s.data.toList.drop p)
 rw [hx, List.length_drop] at hle
 have hsz : s.data.toList.length = s.size := by simp
 rw [hsz] at hle
 generalize sgS (s.extract p s.size) = T at *
 have i1 : (p : Int) ≤ (s.size : Int) := by omega
 have i2 : (0 : Int) ≤ (p : Int) := by omega
 have hTn : T.size = x.length := by rw [← hTl]; simp
 obtain ⟨q0, q1, q3, f1, f3, hX, hbX⟩ := hL.cells
 clear hx hsz
 have hgo : signT o x = (if o = 60 then .bad 107 else .tok 5 x 1 (o + 1)) := by rcases h0 with rfl | rfl | rfl <;> rfl
 rw [hgo]
 clear hgo
 by_cases h60 : o = 60
 ·subst h60; rw [if_pos rfl]; unfold TokR
  dsimp only
  rcases h0 with rfl | rfl | rfl
  all_goals
   obtain rfl := lit_of hTl; clear hTl hTn hle; go_enter Tryz.func172, Tryz.ntmps172; go_wp2_with fail
   go_region_held3 (fun W => W.cell? ⟨X, 0, none⟩ = some (.string s) ∧ W.cell? ⟨X, 1, none⟩ = some (.int .i64 p)) (first | exact ⟨q0, q1⟩ | go_keep) (first | (go_at_call 234; refine (hS _).mono ?_; rintro e w' ⟨rfl, rfl⟩))
   clear q0 q1 q3 f1 f3; obtain ⟨wr, hwr, hbr⟩ : ∃ u, u = w.drew ∧ Below w.heap.size w u := ⟨_, rfl, ⟨rfl, rfl, rfl, Nat.le_refl _, fun _ _ => rfl⟩⟩; rw [← hwr]; clear hwr
   replace hL := hL.later hbr
   have hz1 := Nat.le_trans hz hbr.size
   replace hbr := hbr.mono hz
   obtain ⟨q0, q1, q3, f1, f3, hX, hbX⟩ := hL.cells; go_wp2_with (go_at_call 166; refine (lxFail_ok X 107 p _).mono ?_; rintro e w' ⟨rfl, rfl⟩); exact ⟨rfl, rfl, hbr⟩
 ·rw [if_neg h60]; have e60 : ((o : Int) == 60) = false := by simp; omega
  clear h60; unfold TokR
  dsimp only
  rcases h0 with rfl | rfl | rfl
  all_goals
   obtain rfl := lit_of hTl; clear hTl hTn; go_enter Tryz.func172, Tryz.ntmps172; go_wp2_with fail
   go_region_held3 (fun W => W.cell? ⟨X, 0, none⟩ = some (.string s) ∧ W.cell? ⟨X, 1, none⟩ = some (.int .i64 p)) (first | exact ⟨q0, q1⟩ | go_keep) (first | (go_at_call 234; refine (hS _).mono ?_; rintro e w' ⟨rfl, rfl⟩))
   clear q0 q1 q3 f1 f3; obtain ⟨wr, hwr, hbr⟩ : ∃ u, u = w.drew ∧ Below w.heap.size w u := ⟨_, rfl, ⟨rfl, rfl, rfl, Nat.le_refl _, fun _ _ => rfl⟩⟩; rw [← hwr]; clear hwr
   replace hL := hL.later hbr
   have hz1 := Nat.le_trans hz hbr.size
   replace hbr := hbr.mono hz
   obtain ⟨q0, q1, q3, f1, f3, hX, hbX⟩ := hL.cells; have hL3 := hL.setOpn (o + 1) ((o : Int) + 1) lq17; exact lv27
theorem lxSgn_shut (x : List UInt8) (hx : signL (s.data.toList.drop p) = x) (hL : LxS w base X s p o st toks) (hz : base ≤ w.heap.size) (hs : s.size ≤ 1099511) (hp : p ≤ s.size) (hn : toks.length ≤ 1000000) (ho : o ≤ 60) (h0 : x = [41] ∨ x = [93] ∨ x = [125]) :
  Calls Tryz.prog 172 #[.pointer (some ⟨X, 0, none⟩)] w (TokR w base X s p st toks (signT o x)) := by
 have hS := fun W => lxSign_ok (s.extract p s.size) W (by have := rest_size s p; omega)
 have hTl := sgS_list (s.extract p s.size)
 rw [rest_list, hx] at hTl
 have hle := signL_len (s.data.toList.drop p)
 rw [hx, List.length_drop] at hle
 have hsz : s.data.toList.length = s.size := by simp
 rw [hsz] at hle
 generalize sgS (s.extract p s.size) = T at *
 have i1 : (p : Int) ≤ (s.size : Int) := by omega
 have i2 : (0 : Int) ≤ (p : Int) := by omega
 have hTn : T.size = x.length := by rw [← hTl]; simp
 obtain ⟨q0, q1, q3, f1, f3, hX, hbX⟩ := hL.cells
 clear hx hsz
 have hgo : signT o x = .tok 5 x 1 (o - 1) := by rcases h0 with rfl | rfl | rfl <;> rfl
 rw [hgo]
 clear hgo
 have hm : max (0 : Int) ((o : Int) - 1) = ((o - 1 : Nat) : Int) := by omega
 unfold TokR
 dsimp only
 rcases h0 with rfl | rfl | rfl
 all_goals
  obtain rfl := lit_of hTl; clear hTl hTn; go_enter Tryz.func172, Tryz.ntmps172; go_wp2_with fail
  go_region_held3 (fun W => W.cell? ⟨X, 0, none⟩ = some (.string s) ∧ W.cell? ⟨X, 1, none⟩ = some (.int .i64 p)) (first | exact ⟨q0, q1⟩ | go_keep) (first | (go_at_call 234; refine (hS _).mono ?_; rintro e w' ⟨rfl, rfl⟩))
  clear q0 q1 q3 f1 f3; obtain ⟨wr, hwr, hbr⟩ : ∃ u, u = w.drew ∧ Below w.heap.size w u := ⟨_, rfl, ⟨rfl, rfl, rfl, Nat.le_refl _, fun _ _ => rfl⟩⟩; rw [← hwr]; clear hwr
  replace hL := hL.later hbr
  have hz1 := Nat.le_trans hz hbr.size
  replace hbr := hbr.mono hz
  obtain ⟨q0, q1, q3, f1, f3, hX, hbX⟩ := hL.cells; have hL3 := hL.setOpn (o - 1) ((o - 1 : Nat) : Int) rfl; exact lv27
theorem lxSgn_else (x : List UInt8) (hx : signL (s.data.toList.drop p) = x) (hL : LxS w base X s p o st toks) (hz : base ≤ w.heap.size) (hs : s.size ≤ 1099511) (hp : p ≤ s.size) (hn : toks.length ≤ 1000000) (ho : o ≤ 60) (h0 : x ≠ []) (h1 : ¬ (x = [40] ∨ x = [91] ∨ x = [123])) (h2 : ¬ (x = [41] ∨ x = [93] ∨ x = [125])) :
  Calls Tryz.prog 172 #[.pointer (some ⟨X, 0, none⟩)] w (TokR w base X s p st toks (signT o x)) := by
 have hS := fun W => lxSign_ok (s.extract p s.size) W (by have := rest_size s p; omega)
 have hTl := sgS_list (s.extract p s.size)
 rw [rest_list, hx] at hTl
 have hle := signL_len (s.data.toList.drop p)
 rw [hx, List.length_drop] at hle
 have hsz : s.data.toList.length = s.size := by simp
 rw [hsz] at hle
 generalize sgS (s.extract p s.size) = T at *
 have i1 : (p : Int) ≤ (s.size : Int) := by omega
 have i2 : (0 : Int) ≤ (p : Int) := by omega
 have hTn : T.size = x.length := by rw [← hTl]; simp
 obtain ⟨q0, q1, q3, f1, f3, hX, hbX⟩ := hL.cells
 clear hx hsz
 unfold signT TokR
 rw [if_neg h0, if_neg h1, if_neg h2]
 dsimp only
 simp only [not_or] at h1 h2
 have e0 := ne_lit hTl h0
 have e0' : T.toList.isEmpty = false := by rw [Lib.toList_data, hTl]; cases x with | nil => exact absurd rfl h0 | cons a b => rfl
 have e1 := ne_lit hTl h1.1
 have e2 := ne_lit hTl h1.2.1
 have e3 := ne_lit hTl h1.2.2
 have e4 := ne_lit hTl h2.1
 have e5 := ne_lit hTl h2.2.1
 have e6 := ne_lit hTl h2.2.2
 have hP := fun (k : Int) (W : World) (h : LxS W base X s p o st toks) (h2 : base ≤ W.heap.size) => lxPut_ok k T p h h2 lq17 hn
 rw [hTl] at hP
 rw [← hTn] at hle ⊢
 clear h0 h1 h2 hTl hTn
 go_enter Tryz.func172, Tryz.ntmps172
 go_wp2_with fail
 go_region_held3 (fun W => W.cell? ⟨X, 0, none⟩ = some (.string s) ∧ W.cell? ⟨X, 1, none⟩ = some (.int .i64 p)) (first | exact ⟨q0, q1⟩ | go_keep) (first | (go_at_call 234; refine (hS _).mono ?_; rintro e w' ⟨rfl, rfl⟩))
 clear q0 q1 q3 f1 f3
 obtain ⟨wr, hwr, hbr⟩ : ∃ u, u = w.drew ∧ Below w.heap.size w u := ⟨_, rfl, ⟨rfl, rfl, rfl, Nat.le_refl _, fun _ _ => rfl⟩⟩
 rw [← hwr]
 clear hwr
 replace hL := hL.later hbr
 have hz1 := Nat.le_trans hz hbr.size
 replace hbr := hbr.mono hz
 obtain ⟨q0, q1, q3, f1, f3, hX, hbX⟩ := hL.cells
 go_wp2_with (go_at_call 89; refine (hP _ _ hL hz1).mono ?_; rintro e w2 ⟨rfl, hL2, hb2⟩; clear q0 q1 q3 f1 f3; obtain ⟨q0, q1, q3, f1, f3, hX, hbX⟩ := hL2.cells)
 go_end0
 exact ⟨rfl, hL2.setPos _ _ lq17, Below.setCell (p := ⟨X, 1, none⟩) (hbr.trans hb2) hbX _⟩
end
end
end Go.Proofs.YtjndbcnmmnkilaaGreatDoor
