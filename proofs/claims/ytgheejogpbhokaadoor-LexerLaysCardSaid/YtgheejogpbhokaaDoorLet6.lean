/- The reference's Unquote. -/
import Derived.Test.YtgheejogpbhokaaDoorLet5
import Derived.Lib.AppendStr
import Derived.Laws.BytesArg
namespace Go.Proofs.YtgheejogpbhokaaDoor
set_option linter.unusedVariables false
set_option linter.unusedSimpArgs false
open Go.RowKit Go.Shelf
set_option maxRecDepth 1000000

theorem u8_info : (Tryd.prog.info? 5).map (fun i => (i.zero, i.size, i.bytes)) = some (some (.int .u8 0), 1, 1) := by kernel_rfl

/-- string(b) of a row of bytes. -/
theorem conv_bytes (w : World) (base : Nat) (A : Option Addr) (n c : Nat) (l : List UInt8) (hn : n = l.length) (h : w.ownsRow base 5 1 (.slice A n c) n (Lib.byteCells l)) :
    (convert 22 9 (.slice A n c)).run Tryd.prog w = .ok (.string ⟨l.toArray⟩) w := by
  subst hn
  rcases h.2 with ⟨hv, h0⟩ | ⟨g, cap, cur, hv, _, hg, hnc, hcm, hcs, ht⟩
  · injection hv with hA _ _
    subst hA
    have : l = [] := List.length_eq_zero_iff.1 h0
    subst this
    rw [run_convert_bytes_string w _ _ 5 none _ _ Tryd.underlying22 Tryd.underlying5 Tryd.underlying9]
    rfl
  · injection hv with hA _ hc
    subst hA
    refine run_convert_bytes_back w _ _ 5 _ _ l Tryd.underlying22 Tryd.underlying5 Tryd.underlying9 ?_
    intro j hj
    have h1 : (Lib.byteCells l)[j]? = some (.int .u8 (l[j].toNat : Int)) := by simp [Lib.byteCells, List.getElem?_eq_getElem hj]
    have h2 := World.ownsRow.cells h (g := g) rfl j _ h1
    exact h2

/-- what the reference's Unquote hands back. -/
def rest3 (o : Option (List UInt8 × Nat)) : Value := unqR o

set_option maxHeartbeats 4000000 in
theorem refUnquote_quote (s : ByteArray) (q : UInt8) (w : World) (hs : s.size ≤ 1099511627776) (h : 0 < s.size) (hq : s[0] = q) (hq2 : q = 39 ∨ q = 34) (RES : Option (List UInt8 × Nat))
    (HR : Hid (RES = comb [] 1 (unq s.size q (s.data.toList.drop 1)))) :
    Calls Tryd.prog 33 #[.string s] w fun e w' => e = .returned (unqR RES) ∧ Below w.heap.size w w' := by
  obtain ⟨i0, hi0, hz0, hz1, hz2⟩ := info_parts u8_info
  have hse : s.toList.isEmpty = false := by rw [Lib.toList_data, bytes_cons s h]; rfl
  have hd : (s[0].toNat = 39 ∨ s[0].toNat = 34) := by rcases hq2 with c | c <;> rw [hq, c] <;> simp
  obtain ⟨k, hk⟩ : ∃ k, s[0].toNat = k := ⟨_, rfl⟩
  rw [hk] at hd
  have hlz : s.data.toList.length = s.size := by simp
  rcases hd with hd | hd
  all_goals
    have HQ := Lib.hid hq
    have HQ2 := Lib.hid hq2
    clear hq hq2
    subst hd
    go_enter Tryd.func33, Tryd.ntmps33
    go_wp2
    go_loopw [5, 6] (fun vb v wr => ∃ (i f : Nat) (acc : List UInt8), v = .int .i64 i ∧ 1 ≤ i ∧ i ≤ s.size ∧ s.size < i + f ∧ acc.length ≤ 4 * i ∧ wr.ownsRow w.heap.size 5 1 vb acc.length (Lib.byteCells acc) ∧ Below w.heap.size w wr ∧ Hid (RES = comb acc i (unq f q (s.data.toList.drop i)))) (fun _ v _ => s.size - (intOf v).toNat)
    case atStart =>
      exact ⟨1, s.size, [], rfl, Nat.le_refl _, h, by omega, by simp, World.ownsRow_nil w w.heap.size 5 1, Below.refl _ w, HR⟩
    case round =>
      obtain ⟨i, f, acc, rfl, h1, h2, hf, hal, hI, hbw, hT0⟩ := hrel
      have hsz := hbw.size
      obtain ⟨A, cp, rfl, _, _, _⟩ := own_form hI
      by_cases hp : i < s.size
      · obtain ⟨g, rfl⟩ : ∃ g, f = g + 1 := ⟨f - 1, by omega⟩
        have hla := bytes_at s i hp
        by_cases hc : s[i] = q
        · rw [hla, hc, unq_hit] at hT0
          have hR1 : RES = some (acc, i + 1) := by rw [hT0.out]; simp [comb]
          have hck : s[i].toNat = s[0].toNat := by rw [hc, HQ.out]
          rw [hk] at hck
          subst hR1
          have hcv := fun m => conv_bytes (wr.drewN m) w.heap.size A acc.length cp acc rfl (ownsRow_later hI (below_drewN (Below.refl _ _) m))
          clear hT0 hla HR hc
          go_wp2
          go_quiet (fail)
          go_wp2
          go_ret3
          exact ⟨rfl, below_drewN hbw nq⟩
        · have hck : s[i].toNat ≠ s[0].toNat := fun e => hc (by rw [← HQ.out]; exact UInt8.toNat_inj.1 e)
          rw [hk] at hck
          have h92q : (92 : UInt8) ≠ q := by rcases HQ2.out with c | c <;> rw [c] <;> decide
          by_cases h92 : s[i] = 92
          · have hn : s[i].toNat = 92 := by rw [h92]; rfl
            rw [hla, h92, unq_esc _ _ _ h92q] at hT0
            have hec := fun wx => refEscape_ok s (i + 1) wx hs (by omega)
            rw [show ((i + 1 : Nat) : Int) = (i : Int) + 1 by omega] at hec
            cases hx : esc (s.data.toList.drop (i + 1)) with
            | none =>
              rw [hx] at hT0 hec
              have hR1 : RES = none := by rw [hT0.out]; rfl
              subst hR1
              simp only [rescR] at hec
              clear hT0 hla HR hx h92 hc hck h92q
              go_wp2
              go_quiet (fail)
              go_wp2_with (go_at_call 47; refine (hec _).mono ?_; rintro e W2 ⟨rfl, rfl⟩)
              go_ret3
              exact ⟨rfl, below_drewN hbw nq⟩
            | some x =>
              obtain ⟨r, n⟩ := x
              rw [hx] at hT0 hec
              obtain ⟨hsc, hn1, hn2⟩ := esc_ok _ _ _ hx
              rw [List.length_drop] at hn2
              have hn2' : i + 1 + n ≤ s.size := by omega
              simp only [List.drop_drop] at hT0
              rw [comb_comb] at hT0
              simp only [rescR] at hec
              have hl4 := (enc_len r).2
              have hel : (Utf8.encode (r : Int)).size = (enc r).length := by simp [enc]
              obtain ⟨X, hX⟩ : ∃ X, Utf8.encode (r : Int) = X := ⟨_, rfl⟩
              have hXl := Lib.hid (show X.data.toList = enc r by rw [← hX]; rfl)
              rw [hX] at hec hel
              clear hX
              have x0 : ((n : Int) == 0) = false := beqI (b := 0) (by omega)
              have HA := Lib.hid (show acc.length + X.size ≤ 140737488355328 by rw [hel]; omega)
              have HM := Lib.hid (show acc.length + X.size ≤ maxLen by unfold maxLen; rw [hel]; omega)
              have HL := Lib.hid (And.intro hal (And.intro hl4 (And.intro hf (And.intro hn1 hel))))
              clear hla HR hx h92 hc hck h92q hsc hn2 hal hl4 hf hn1 hel hlz
              go_wp2
              go_quiet (fail)
              have hI2 := ownsRow_later hI (below_drewN (Below.refl _ _) nq)
              have hbw2 := below_drewN hbw nq
              have hsz2 : w.heap.size ≤ (wr.drewN nq).heap.size := hbw2.size
              go_wp2_with (first | (go_at_call 47; refine (hec _).mono ?_; rintro e W2 ⟨rfl, rfl⟩) | (at_builtin; refine Lib.wpList_append_own_string _ rfl (.tmp 49) (.tmp 50) 22 9 rfl w.heap.size 5 i0 Tryd.underlying22 Tryd.underlying9 hi0 hz0 hz1 hz2 _ acc.length _ rfl hI2 X rfl HM.out HA.out hsz2 ?_; intro v1 w1 hown1 hg1 _))
              go_roundw
              case rel =>
                obtain ⟨hal, hl4, hf, hn1, hel⟩ := HL.out
                refine ⟨i + (1 + n), g, acc ++ enc r, by go_num, by omega, by omega, by omega, by rw [List.length_append]; omega, ?_, hbw2.grown hg1 hsz2 (own_base hI2), ?_⟩
                · rw [List.length_append, ← hel, Lib.byteCells_append, ← hXl.out]; exact hown1
                · have : i + 1 + n = i + (1 + n) := by omega
                  rw [this] at hT0; exact hT0
              case measure => (have hn1 := HL.out.2.2.2.1); simp [intOf]; omega
          · have hwd := fun wx => width_ok s i (by omega) wx hs
            obtain ⟨Wd, hWd⟩ : ∃ Wd, widthV (s.data.toList.drop i) = Wd := ⟨_, rfl⟩
            simp only [hWd] at hwd
            have hne92 : s[i].toNat ≠ 92 := fun e => h92 (UInt8.toNat_inj.1 e)
            have hdh := dec_head s[i] (s.data.toList.drop (i + 1))
            have hne : s.data.toList.drop i ≠ [] := by rw [hla]; simp
            by_cases hbad : Bad (s.data.toList.drop i) ∨ (Lib.decodeL (s.data.toList.drop i)).1 < 32 ∨ (Lib.decodeL (s.data.toList.drop i)).1 = 127
            · have hR1 : RES = none := by
                rw [hT0.out, hla, unq_bad _ _ _ _ hc h92 (by rw [← hla]; exact hbad)]; rfl
              subst hR1
              have hcase : (s[i].toNat < 32) ∨ (32 ≤ s[i].toNat ∧ s[i].toNat = 127) ∨ (32 ≤ s[i].toNat ∧ s[i].toNat ≠ 127 ∧ Wd = 0) := by
                rw [hla] at hbad
                rw [hla] at hWd
                rcases hdh with ⟨a1, a2⟩ | ⟨a1, a2⟩
                · rcases hbad with hb | hb | hb
                  · have := hb.1; rw [a2] at this; simp only at this; omega
                  · rw [a2] at hb; exact Or.inl hb
                  · rw [a2] at hb; simp only at hb; exact Or.inr (Or.inl ⟨by omega, hb⟩)
                · rcases hbad with hb | hb | hb
                  · exact Or.inr (Or.inr ⟨by omega, by omega, by rw [← hWd, widthV, if_pos (Or.inr hb)]⟩)
                  · omega
                  · omega
              obtain ⟨c, hcc⟩ : ∃ c, s[i].toNat = c := ⟨_, rfl⟩
              rw [hcc] at hck hcase hne92
              first | have b1 : ((c : Int) == 39) = false := beqI (b := 39) hck | have b1 : ((c : Int) == 34) = false := beqI (b := 34) hck
              have b2 : ((c : Int) == 92) = false := beqI (b := 92) hne92
              clear hT0 HR hla hbad hc h92 h92q hdh hne hWd hck hne92
              rcases hcase with hlt | ⟨h32, rfl⟩ | ⟨h32, h127, rfl⟩
              · have x1 : (c : Int) < 32 := by omega
                clear hlt
                go_wp2
                go_quiet (fail)
                go_wp2_with (go_at_call 48; refine (hwd _).mono ?_; rintro e W2 ⟨rfl, hb2⟩)
                have hb3 := (below_drewN hbw nq).trans (hb2.mono (below_drewN hbw nq).size)
                all_goals go_ret3
                all_goals exact ⟨rfl, hb3⟩
              · go_wp2
                go_quiet (fail)
                go_wp2_with (go_at_call 48; refine (hwd _).mono ?_; rintro e W2 ⟨rfl, hb2⟩)
                have hb3 := (below_drewN hbw nq).trans (hb2.mono (below_drewN hbw nq).size)
                all_goals go_ret3
                all_goals exact ⟨rfl, hb3⟩
              · have x1 : 32 ≤ (c : Int) := by omega
                have x2 : ((c : Int) == 127) = false := beqI (b := 127) h127
                clear h32 h127
                go_wp2
                go_quiet (fail)
                go_wp2_with (go_at_call 48; refine (hwd _).mono ?_; rintro e W2 ⟨rfl, hb2⟩)
                have hb3 := (below_drewN hbw nq).trans (hb2.mono (below_drewN hbw nq).size)
                all_goals go_ret3
                all_goals exact ⟨rfl, hb3⟩
            · have hbad3 : ¬ Bad (s.data.toList.drop i) ∧ 32 ≤ (Lib.decodeL (s.data.toList.drop i)).1 ∧ (Lib.decodeL (s.data.toList.drop i)).1 ≠ 127 :=
                ⟨fun e => hbad (Or.inl e), Nat.not_lt.1 fun e => hbad (Or.inr (Or.inl e)), fun e => hbad (Or.inr (Or.inr e))⟩
              rw [hla, unq_rune _ _ _ _ hc h92 (by rw [← hla]; exact hbad), ← hla, List.drop_drop, comb_comb] at hT0
              have hc32 : 32 ≤ s[i].toNat ∧ s[i].toNat ≠ 127 := by
                obtain ⟨_, q1, q2⟩ := hbad3
                rw [hla] at q1 q2
                rcases hdh with ⟨a1, a2⟩ | ⟨a1, a2⟩
                · rw [a2] at q1 q2; exact ⟨q1, q2⟩
                · omega
              have hWe : Wd = (Lib.decodeL (s.data.toList.drop i)).2 := by rw [← hWd, widthV, if_neg (by rintro (e | e); exact hne e; exact hbad3.1 e)]
              have hen := enc_dec (s.data.toList.drop i) hne hbad3.1
              have hle := Lib.decodeL_le (s.data.toList.drop i) hne
              have hw1 := Lib.decodeL_width (s.data.toList.drop i)
              have hl4 := (enc_len (Lib.decodeL (s.data.toList.drop i)).1).2
              rw [List.length_drop] at hle
              rw [← hWe] at hen hle hw1 hT0
              obtain ⟨r, hr⟩ : ∃ r, (Lib.decodeL (s.data.toList.drop i)).1 = r := ⟨_, rfl⟩
              rw [hr] at hen hl4 hT0
              have hin : i + Wd ≤ s.size := by omega
              have hXl := Lib.hid (show (s.extract i (i + Wd)).data.toList = enc r by rw [ext_take, hen])
              have hXs : (s.extract i (i + Wd)).size = (enc r).length := by rw [← hXl.out]; rfl
              obtain ⟨c, hcc⟩ : ∃ c, s[i].toNat = c := ⟨_, rfl⟩
              rw [hcc] at hck hne92 hc32
              first | have b1 : ((c : Int) == 39) = false := beqI (b := 39) hck | have b1 : ((c : Int) == 34) = false := beqI (b := 34) hck
              have b2 : ((c : Int) == 92) = false := beqI (b := 92) hne92
              have x1 : 32 ≤ (c : Int) := by omega
              have x2 : ((c : Int) == 127) = false := beqI (b := 127) hc32.2
              have x3 : ((Wd : Int) == 0) = false := beqI (b := 0) (by omega)
              have HA := Lib.hid (show acc.length + (s.extract i (i + Wd)).size ≤ 140737488355328 by rw [hXs]; omega)
              have HM := Lib.hid (show acc.length + (s.extract i (i + Wd)).size ≤ maxLen by unfold maxLen; rw [hXs]; omega)
              have HL := Lib.hid (And.intro hal (And.intro hl4 (And.intro hf (And.intro hw1 hXs))))
              clear HR hla hbad hc h92 h92q hdh hne hWd hck hne92 hbad3 hc32 hWe hen hle hw1 hl4 hr hXs hal hf hlz
              go_wp2
              go_quiet (fail)
              have hbw2 := below_drewN hbw nq
              go_wp2_with (first | (go_at_call 48; refine (hwd _).mono ?_; rintro e W2 ⟨rfl, hb2⟩; have hI2 := ownsRow_later (ownsRow_later hI (below_drewN (Below.refl _ _) nq)) hb2; have hb3 := hbw2.trans (hb2.mono hbw2.size); have hsz2 : w.heap.size ≤ W2.heap.size := hb3.size) | (at_builtin; refine Lib.wpList_append_own_string _ rfl (.tmp 73) (.tmp 79) 22 9 rfl w.heap.size 5 i0 Tryd.underlying22 Tryd.underlying9 hi0 hz0 hz1 hz2 _ acc.length _ rfl hI2 (s.extract i (i + Wd)) rfl HM.out HA.out hsz2 ?_; intro v1 w1 hown1 hg1 _))
              go_roundw
              case rel =>
                obtain ⟨hal, hl4, hf, hw1, hXs⟩ := HL.out
                refine ⟨i + Wd, g, acc ++ enc r, by go_num, by omega, by omega, by omega, by rw [List.length_append]; omega, ?_, hb3.grown hg1 hsz2 (own_base hI2), hT0⟩
                rw [List.length_append, ← hXs, Lib.byteCells_append, ← hXl.out]; exact hown1
              case measure => (have hw1 := HL.out.2.2.2.1); simp [intOf]; omega
      · have hR1 : RES = none := by
          have : s.data.toList.drop i = [] := List.drop_eq_nil_of_le (by simp; omega)
          rw [hT0.out, this]
          cases f <;> rfl
        subst hR1
        clear hT0 HR
        go_wp2
        go_ret3
        exact ⟨rfl, hbw⟩
end Go.Proofs.YtgheejogpbhokaaDoor
