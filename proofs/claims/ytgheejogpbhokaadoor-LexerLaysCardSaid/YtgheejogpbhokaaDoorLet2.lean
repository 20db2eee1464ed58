/- letters.Unquote. -/
import Derived.Test.YtgheejogpbhokaaDoorLet1
import Derived.Test.YtgheejogpbhokaaDoorBuilderLay
import Derived.BigCall
import Derived.BigQuiet
import Derived.Deep.QuietTactic
import Derived.LoopTactic
namespace Go.Proofs.YtgheejogpbhokaaDoor
set_option linter.unusedVariables false
set_option linter.unusedSimpArgs false
open Go.RowKit Go.Shelf

theorem heap_later {w w' : World} (hb : Below w.heap.size w w') {k : Nat} {o : Obj} (h : w.heap[k]? = some o) : w'.heap[k]? = some o :=
  (hb.block k (Array.getElem?_eq_some_iff.1 h).1).trans h
theorem bAt_later {T e : TypeId} {B b : Nat} {p : Value} {bs : List Value} {w w' : World} (h : Lib.BuilderAtF T e B b p bs w) (hb : Below w.heap.size w w') : Lib.BuilderAtF T e B b p bs w' := by
  obtain ⟨hB, v, hbk, hown, hne⟩ := h
  refine ⟨hB, v, heap_later hb hbk, ⟨hown.1, ?_⟩, hne⟩
  rcases hown.2 with hn | ⟨g, cap, cur, fz, hv, hbg, hg, rest⟩
  · exact .inl hn
  · exact .inr ⟨g, cap, cur, fz, hv, hbg, heap_later hb hg, rest⟩
theorem isB_later {T e : TypeId} {B b : Nat} {bs : List Value} {w w' : World} (h : Lib.IsBuilderF T e B b bs w) (hb : Below w.heap.size w w') : Lib.IsBuilderF T e B b bs w' :=
  h.elim (fun x => .inl (bAt_later x hb)) (fun x => .inr (bAt_later x hb))

theorem beqI {a b : Nat} (h : a ≠ b) : ((a : Int) == (b : Int)) = false := by simp; omega
theorem below_drewN {B : Nat} {a w : World} (h : Below B a w) (n : Nat) : Below B a (w.drewN n) := h.trans ⟨rfl, rfl, rfl, Nat.le_refl _, fun _ _ => rfl⟩
/-- what Unquote hands back. -/
def unqR (o : Option (List UInt8 × Nat)) : Value := match o with | some x => .tuple #[.string ⟨x.1.toArray⟩, .int .i64 x.2, .int .i64 0] | none => .tuple #[.string ⟨#[]⟩, .int .i64 0, .int .i64 4]
/-- a result's front. -/
def comb (acc : List UInt8) (at_ : Nat) (o : Option (List UInt8 × Nat)) : Option (List UInt8 × Nat) := o.map fun x => (acc ++ x.1, at_ + x.2)
theorem comb_comb (acc y : List UInt8) (a b : Nat) (o : Option (List UInt8 × Nat)) : comb acc a (o.map fun x => (y ++ x.1, b + x.2)) = comb (acc ++ y) (a + b) o := by
  cases o with
  | none => rfl
  | some x => simp [comb]; omega

/-- the bytes from a place on. -/
theorem bytes_at (s : ByteArray) (i : Nat) (h : i < s.size) : s.data.toList.drop i = s[i] :: s.data.toList.drop (i + 1) := by
  rw [List.drop_eq_getElem_cons (by simpa using h)]; rfl
theorem ext_end (s : ByteArray) (i : Nat) : (s.extract i s.size).data.toList = s.data.toList.drop i := by
  rw [Lib.extract_data, List.take_of_length_le (by simp)]

theorem decGo_at (s : ByteArray) (i : Nat) (h : i < s.size) : Lib.decodeGo (s.extract i s.size) = Lib.decodeL (s.data.toList.drop i) := by
  have hs : (s.extract i s.size).size ≠ 0 := by simp; omega
  rw [Lib.decodeGo, if_neg hs, ← Lib.decodeL_drop, List.drop_zero, ext_end]

theorem dec_call (s : ByteArray) (i : Nat) (h : i < s.size) (w : World) (hT : Lib.Utf8Tabs 1 2 w) :
    Calls Tryd.prog 56 #[.string (s.extract i s.size)] w fun e w' => e = .returned (.tuple #[.int .i32 (Lib.decodeL (s.data.toList.drop i)).1, .int .i64 (Lib.decodeL (s.data.toList.drop i)).2]) ∧ Below w.heap.size w w' := by
  rw [← decGo_at s i h]
  exact Tryd.utf8_DecodeRuneInString _ w hT

theorem unquote_short (s : ByteArray) (w : World) (h : s.size = 0) :
    Calls Tryd.prog 51 #[.string s] w fun e w' => e = .returned (unqR none) ∧ Below w.heap.size w w' := by
  have hse : s.toList.isEmpty = true := by rw [Lib.toList_data, List.eq_nil_of_length_eq_zero (l := s.data.toList) (by simpa using h)]; rfl
  go_enter Tryd.func51, Tryd.ntmps51
  go_wp2
  go_ret3
  exact ⟨rfl, Below.refl _ _⟩
theorem unquote_other (s : ByteArray) (w : World) (h : 0 < s.size) (h1 : s[0] ≠ 39) (h2 : s[0] ≠ 34) :
    Calls Tryd.prog 51 #[.string s] w fun e w' => e = .returned (unqR none) ∧ Below w.heap.size w w' := by
  have hse : s.toList.isEmpty = false := by rw [Lib.toList_data, bytes_cons s h]; rfl
  have ne : ∀ k : UInt8, s[0] ≠ k → s[0].toNat ≠ k.toNat := fun k h e => h (UInt8.toNat_inj.1 e)
  have d1 : ¬ s[0].toNat = 39 := ne 39 h1
  have d2 : ¬ s[0].toNat = 34 := ne 34 h2
  obtain ⟨k, hk⟩ : ∃ k, s[0].toNat = k := ⟨_, rfl⟩
  rw [hk] at d1 d2
  have b1 : ((k : Int) != 39) = true := by simp; omega
  have b2 : ((k : Int) != 34) = true := by simp; omega
  clear ne h1 h2 d1 d2
  go_enter Tryd.func51, Tryd.ntmps51
  go_wp2
  go_ret3
  exact ⟨rfl, Below.refl _ _⟩

theorem unq_hit (f : Nat) (q : UInt8) (t : List UInt8) : unq (f + 1) q (q :: t) = some ([], 1) := by simp [unq]
theorem unq_esc (f : Nat) (q : UInt8) (t : List UInt8) (h : (92 : UInt8) ≠ q) : unq (f + 1) q (92 :: t) = (match esc t with
      | none => none
      | some (r, n) => (unq f q (t.drop n)).map fun x => (enc r ++ x.1, 1 + n + x.2)) := by rw [unq, if_neg h, if_pos rfl]; rfl
theorem unq_bad (f : Nat) (q c : UInt8) (t : List UInt8) (h : c ≠ q) (h2 : c ≠ 92) (h3 : Bad (c :: t) ∨ (Lib.decodeL (c :: t)).1 < 32 ∨ (Lib.decodeL (c :: t)).1 = 127) : unq (f + 1) q (c :: t) = none := by
  rw [unq, if_neg h, if_neg h2, if_pos h3]
theorem unq_rune (f : Nat) (q c : UInt8) (t : List UInt8) (h : c ≠ q) (h2 : c ≠ 92) (h3 : ¬ (Bad (c :: t) ∨ (Lib.decodeL (c :: t)).1 < 32 ∨ (Lib.decodeL (c :: t)).1 = 127)) :
    unq (f + 1) q (c :: t) = (unq f q ((c :: t).drop (Lib.decodeL (c :: t)).2)).map fun x => (enc (Lib.decodeL (c :: t)).1 ++ x.1, (Lib.decodeL (c :: t)).2 + x.2) := by
  rw [unq, if_neg h, if_neg h2, if_neg h3]
theorem byteCells_enc (r : Nat) : Lib.byteCells (enc r) = Lib.runeCells (r : Int) := by rw [enc_Z]; exact Lib.byteCells_encodeRune _
theorem esc_call (s : ByteArray) (i : Nat) (hs : s.size ≤ 9223372036854775807) (w : World) :
    Calls Tryd.prog 58 #[.string (s.extract i s.size)] w fun e w' => e = .returned (escR (esc (s.data.toList.drop i))) ∧ w' = w := by
  rw [← ext_end]
  exact escape_ok _ w (by simp; omega)

set_option maxRecDepth 100000 in
set_option maxHeartbeats 4000000 in
theorem unquote_quote (s : ByteArray) (q : UInt8) (w : World) (hs : s.size ≤ 1099511627776) (hT : Lib.Utf8Tabs 1 2 w) (h : 0 < s.size) (hq : s[0] = q) (hq2 : q = 39 ∨ q = 34) (RES : Option (List UInt8 × Nat))
    (HR : Hid (RES = comb [] 1 (unq s.size q (s.data.toList.drop 1)))) :
    Calls Tryd.prog 51 #[.string s] w fun e w' => e = .returned (unqR RES) ∧ Below w.heap.size w w' := by
  have hse : s.toList.isEmpty = false := by rw [Lib.toList_data, bytes_cons s h]; rfl
  have hd : (s[0].toNat = 39 ∨ s[0].toNat = 34) := by rcases hq2 with c | c <;> rw [hq, c] <;> simp
  obtain ⟨k, hk⟩ : ∃ k, s[0].toNat = k := ⟨_, rfl⟩
  rw [hk] at hd
  rcases hd with hd | hd
  all_goals
    have HQ := Lib.hid hq
    have HQ2 := Lib.hid hq2
    clear hq hq2
    subst hd
    go_enter Tryd.func51, Tryd.ntmps51
    go_wp2
    go_loopw [6] (fun v wr => ∃ (i f : Nat) (acc : List UInt8), v = .int .i64 i ∧ 1 ≤ i ∧ i ≤ s.size ∧ s.size < i + f ∧ acc.length ≤ 4 * i ∧ Lib.IsBuilderF 80 5 w.heap.size w.heap.size (Lib.byteCells acc) wr ∧ Below w.heap.size w wr ∧ Hid (RES = comb acc i (unq f q (s.data.toList.drop i)))) (fun v _ => s.size - (intOf v).toNat)
    case atStart =>
      refine ⟨1, s.size, [], rfl, Nat.le_refl _, h, by omega, by simp, Lib.IsBuilderF.of (Lib.fresh_isBuilder 80 5 w), (Below.refl _ w).alloc (Nat.le_refl _) _, HR⟩
    case round =>
      obtain ⟨i, f, acc, rfl, h1, h2, hf, hal, hI, hbw, hT0⟩ := hrel
      have hsz := hbw.size
      by_cases hp : i < s.size
      · obtain ⟨g, rfl⟩ : ∃ g, f = g + 1 := ⟨f - 1, by omega⟩
        have hT1 := Utf8Tabs_below hT hbw
        have hdc := dec_call s i hp wr hT1
        have hla := bytes_at s i hp
        by_cases hc : s[i] = q
        · rw [hla, hc, unq_hit] at hT0
          have hR1 : RES = some (acc, i + 1) := by rw [hT0.out]; simp [comb]
          have hck : s[i].toNat = s[0].toNat := by rw [hc, HQ.out]
          rw [hk] at hck
          subst hR1
          clear hT0 hla HR hc
          go_wp2_with (go_at_call 56; refine hdc.mono ?_; rintro e W1 ⟨rfl, hb1⟩)
          go_quiet (fail)
          have hb2 := below_drewN hb1 nq
          clear hb1
          have hI1 := isB_later hI hb2
          have hs1 := Nat.le_trans hsz hb2.size
          go_wp2_with ((go_at_call 57; refine (Tryd.Builder_String_any_k w.heap.size w.heap.size acc _ hI1 hs1).mono ?_; rintro e W2 ⟨rfl, _, b2, _⟩))
          go_ret3
          exact ⟨rfl, hbw.trans ((hb2.mono hsz).trans b2)⟩
        · have hck : s[i].toNat ≠ s[0].toNat := fun e => hc (by rw [← HQ.out]; exact UInt8.toNat_inj.1 e)
          rw [hk] at hck
          have h92q : (92 : UInt8) ≠ q := by rcases HQ2.out with c | c <;> rw [c] <;> decide
          by_cases h92 : s[i] = 92
          · have hn : s[i].toNat = 92 := by rw [h92]; rfl
            have hd92 : Lib.decodeL (s.data.toList.drop i) = (92, 1) := by rw [hla, h92]; exact Lib.decodeL_ascii 92 _ (by decide)
            rw [hd92] at hdc
            rw [hla, h92, unq_esc _ _ _ h92q] at hT0
            have hec := fun wx => esc_call s (i + 1) (by omega) wx
            cases hx : esc (s.data.toList.drop (i + 1)) with
            | none =>
              rw [hx] at hT0 hec
              have hR1 : RES = none := by rw [hT0.out]; rfl
              subst hR1
              simp only [escR] at hec
              clear hT0 hla HR hx h92 hc hck h92q hd92
              go_wp2_with (go_at_call 56; refine hdc.mono ?_; rintro e W1 ⟨rfl, hb1⟩)
              go_quiet (fail)
              have hb2 := below_drewN hb1 nq
              clear hb1
              have hI1 := isB_later hI hb2
              have hs1 := Nat.le_trans hsz hb2.size
              go_wp2_with ((go_at_call 58; refine (hec _).mono ?_; rintro e W2 ⟨rfl, rfl⟩))
              go_ret3
              exact ⟨rfl, hbw.trans (hb2.mono hsz)⟩
            | some x =>
              obtain ⟨r, n⟩ := x
              rw [hx] at hT0 hec
              obtain ⟨hsc, hn1, hn2⟩ := esc_ok _ _ _ hx
              rw [List.length_drop] at hn2
              have hn2' : i + 1 + n ≤ s.size := by have : s.data.toList.length = s.size := by simp
                                                   omega
              simp only [List.drop_drop] at hT0
              rw [comb_comb] at hT0
              simp only [escR] at hec
              have hrb : r ≤ 1114111 := by unfold Sc at hsc; omega
              have hl4 := (enc_len r).2
              clear hla HR hx h92 hc hck h92q hd92 hsc hn2
              have x0 : ((n : Int) == 0) = false := beqI (b := 0) (by omega)
              have hcl := Lib.hid (show (Lib.byteCells acc).length + 4 ≤ 140737488355328 by rw [Lib.byteCells_length]; omega)
              have hr0 : (-2147483648 : Int) ≤ r := by omega
              have hr1 : (r : Int) ≤ 2147483647 := by omega
              have HL := Lib.hid (And.intro hal (And.intro hl4 (And.intro hf hn1)))
              clear hal hl4 hrb hf hn1
              go_wp2_with (go_at_call 56; refine hdc.mono ?_; rintro e W1 ⟨rfl, hb1⟩)
              go_quiet (fail)
              have hb2 := below_drewN hb1 nq
              clear hb1
              have hI1 := isB_later hI hb2
              have hs1 := Nat.le_trans hsz hb2.size
              go_wp2_with (first | (go_at_call 58; refine (hec _).mono ?_; rintro e W2 ⟨rfl, rfl⟩) | (go_at_call 59; refine (Tryd.bWriteRune w.heap.size w.heap.size _ r hr0 hr1 _ hI1 hcl.out hs1).mono ?_; rintro e W3 ⟨rfl, h3, b3, k3⟩))
              go_roundw
              case rel =>
                obtain ⟨hal, hl4, hf, hn1⟩ := HL.out
                refine ⟨i + (1 + n), g, acc ++ enc r, by go_num, by omega, by omega, by omega, by rw [List.length_append]; omega, ?_, hbw.trans ((hb2.mono hsz).trans b3), ?_⟩
                · rw [Lib.byteCells_append, byteCells_enc]; exact Or.inr h3
                · have : i + 1 + n = i + (1 + n) := by omega
                  rw [this] at hT0; exact hT0
              case measure => (have hn1 := HL.out.2.2.2); simp [intOf]; omega
          · have hdh := Lib.decodeL_le (s.data.toList.drop i) (by rw [hla]; simp)
            rw [List.length_drop] at hdh
            have hdw := Lib.decodeL_width (s.data.toList.drop i)
            have hd92 : (Lib.decodeL (s.data.toList.drop i)).1 ≠ 92 := by
              rw [hla]
              rcases dec_head s[i] (s.data.toList.drop (i + 1)) with ⟨a1, a2⟩ | ⟨a1, a2⟩
              · rw [a2]; exact fun e => h92 (UInt8.toNat_inj.1 e)
              · omega
            have hsc := dec_sc (s.data.toList.drop i)
            by_cases hbad : Bad (s.data.toList.drop i) ∨ (Lib.decodeL (s.data.toList.drop i)).1 < 32 ∨ (Lib.decodeL (s.data.toList.drop i)).1 = 127
            · have hR1 : RES = none := by
                rw [hT0.out, hla, unq_bad _ _ _ _ hc h92 (by rw [← hla]; exact hbad)]; rfl
              subst hR1
              have hbad2 : ((Lib.decodeL (s.data.toList.drop i)).1 = 65533 ∧ (Lib.decodeL (s.data.toList.drop i)).2 = 1) ∨ (Lib.decodeL (s.data.toList.drop i)).1 < 32 ∨ (Lib.decodeL (s.data.toList.drop i)).1 = 127 := hbad
              clear hT0 HR hla hbad hc h92 h92q hdh hdw hd92 hsc
              revert hdc hbad2
              generalize (Lib.decodeL (s.data.toList.drop i)).1 = r
              generalize (Lib.decodeL (s.data.toList.drop i)).2 = n
              intro hdc hbad2
              obtain ⟨c, hcc⟩ : ∃ c, s[i].toNat = c := ⟨_, rfl⟩
              rw [hcc] at hck
              have hckI := beqI hck
              clear hck
              rcases hbad2 with ⟨rfl, rfl⟩ | hlt | rfl
              · go_wp2_with (go_at_call 56; refine hdc.mono ?_; rintro e W1 ⟨rfl, hb1⟩)
                go_quiet (fail)
                have hb2 := below_drewN hb1 nq
                clear hb1
                have hI1 := isB_later hI hb2
                have hs1 := Nat.le_trans hsz hb2.size
                go_wp2
                go_ret3
                exact ⟨rfl, hbw.trans (hb2.mono hsz)⟩
              · have x1 : ((r : Int) == 65533) = false := by simp; omega
                have x2 : (r : Int) < 32 := by omega
                clear hlt
                go_wp2_with (go_at_call 56; refine hdc.mono ?_; rintro e W1 ⟨rfl, hb1⟩)
                go_quiet (fail)
                have hb2 := below_drewN hb1 nq
                clear hb1
                have hI1 := isB_later hI hb2
                have hs1 := Nat.le_trans hsz hb2.size
                go_wp2
                go_ret3
                exact ⟨rfl, hbw.trans (hb2.mono hsz)⟩
              · go_wp2_with (go_at_call 56; refine hdc.mono ?_; rintro e W1 ⟨rfl, hb1⟩)
                go_quiet (fail)
                have hb2 := below_drewN hb1 nq
                clear hb1
                have hI1 := isB_later hI hb2
                have hs1 := Nat.le_trans hsz hb2.size
                go_wp2
                go_ret3
                exact ⟨rfl, hbw.trans (hb2.mono hsz)⟩
            · have hbad3 : ¬ ((Lib.decodeL (s.data.toList.drop i)).1 = 65533 ∧ (Lib.decodeL (s.data.toList.drop i)).2 = 1) ∧ 32 ≤ (Lib.decodeL (s.data.toList.drop i)).1 ∧ (Lib.decodeL (s.data.toList.drop i)).1 ≠ 127 :=
                ⟨fun e => hbad (Or.inl e), Nat.not_lt.1 fun e => hbad (Or.inr (Or.inl e)), fun e => hbad (Or.inr (Or.inr e))⟩
              rw [hla, unq_rune _ _ _ _ hc h92 (by rw [← hla]; exact hbad), ← hla, List.drop_drop, comb_comb] at hT0
              clear HR hla hbad hc h92 h92q
              generalize (Lib.decodeL (s.data.toList.drop i)).1 = r at hdc hbad3 hT0 hd92 hsc
              generalize (Lib.decodeL (s.data.toList.drop i)).2 = n at hdc hbad3 hT0 hdh hdw
              obtain ⟨c, hcc⟩ : ∃ c, s[i].toNat = c := ⟨_, rfl⟩
              rw [hcc] at hck
              have hckI := beqI hck
              clear hck
              obtain ⟨hb65, h32, h127⟩ := hbad3
              have hrb : r ≤ 1114111 := by unfold Sc at hsc; omega
              have hl4 := (enc_len r).2
              have hlz : s.data.toList.length = s.size := by simp
              have hin : i + n ≤ s.size := by omega
              have x2 : 32 ≤ (r : Int) := by omega
              have x3 := beqI h127
              have x4 := beqI hd92
              have hcl := Lib.hid (show (Lib.byteCells acc).length + 4 ≤ 140737488355328 by rw [Lib.byteCells_length]; omega)
              have hr0 : (-2147483648 : Int) ≤ r := by omega
              have hr1 : (r : Int) ≤ 2147483647 := by omega
              have x1 : (((r : Int) == 65533) = true ∧ ((n : Int) == 1) = false) ∨ ((r : Int) == 65533) = false := by
                by_cases e : r = 65533
                · exact Or.inl ⟨by rw [e]; rfl, beqI fun e2 => hb65 ⟨e, e2⟩⟩
                · exact Or.inr (beqI e)
              have HL := Lib.hid (And.intro hal (And.intro hl4 (And.intro hf hdw)))
              clear hb65 h32 h127 hd92 hsc hdh hlz hal hl4 hrb hf hdw
              rcases x1 with ⟨x5, x6⟩ | x5
              all_goals
                go_wp2_with (go_at_call 56; refine hdc.mono ?_; rintro e W1 ⟨rfl, hb1⟩)
                go_quiet (fail)
                have hb2 := below_drewN hb1 nq
                clear hb1
                have hI1 := isB_later hI hb2
                have hs1 := Nat.le_trans hsz hb2.size
                go_wp2_with ((go_at_call 59; refine (Tryd.bWriteRune w.heap.size w.heap.size _ r hr0 hr1 _ hI1 hcl.out hs1).mono ?_; rintro e W3 ⟨rfl, h3, b3, k3⟩))
                go_roundw
                case rel =>
                  obtain ⟨hal, hl4, hf, hdw⟩ := HL.out
                  refine ⟨i + n, g, acc ++ enc r, by go_num, by omega, by omega, by omega, by rw [List.length_append]; omega, ?_, hbw.trans ((hb2.mono hsz).trans b3), hT0⟩
                  rw [Lib.byteCells_append, byteCells_enc]; exact Or.inr h3
                case measure => (have hdw := HL.out.2.2.2); simp [intOf]; omega
      · have hR1 : RES = none := by
          have : s.data.toList.drop i = [] := List.drop_eq_nil_of_le (by simp; omega)
          rw [hT0.out, this]
          cases f <;> rfl
        subst hR1
        clear hT0 HR
        go_wp2
        go_ret3
        exact ⟨rfl, hbw⟩
end Go.Proofs.YtgheejogpbhokaaDoor
