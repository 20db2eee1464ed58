/- LexerShape: a round at a name, a word, a number, a sign. -/
import Derived.Test.YtgheejogpbhokaaDoorShP
namespace Go.Proofs.YtgheejogpbhokaaDoor
set_option linter.unusedVariables false
set_option linter.unusedSimpArgs false
open Go.RowKit
set_option maxRecDepth 1000000

set_option maxHeartbeats 64000000 in
theorem shape_1 {body : Code} (hbody : firstLoop (Tryd.f6.body.getD .skip) = some body) {w : World} {s : ByteArray} {A : Option Addr} {c : Nat} {l : List Tk} {g C3 k : Nat} {a : Act} {wr : World} {P : Act → World → Prop} {Q : Exit → Act → World → Prop} (hI : SInv w s A c l g C3 k a wr) (hlt : k < l.length) (hm3 : l.length ≤ C3 ∧ C3 ≤ 9223372036854775807) (hl : s.size ≤ c) (hm : c ≤ 9223372036854775807) (hs7 : s.size ≤ 70000) (HS : Hid (Shp s.data.toList l)) (h9e : ∀ t, l[k]? = some t → t.kind = 9 → k + 1 = l.length) {t : Tk} (ht : l[k]? = some t) (hK0 : t.kind = 1) (hP : ∀ a' w', SInv w s A c l g C3 (k + 1) a' w' → P a' w') :
    Code.wp Tryd.prog body (Exit.then P Q) a wr := by
  have hbd : firstLoop (Tryd.f6.body.getD .skip) = some body := hbody
  simp only [Tryd.f6, Option.getD_some, firstLoop] at hbd
  injection hbd with hbd
  subst hbd
  clear hbody
  cases a with
  | mk tm df =>
    have hdf : df = [] := hI.df
    subst hdf
    obtain ⟨f, hf⟩ := shape_frame tm hI.sz hI.t0 hI.t3 hI.t5 hI.t6
    subst hf
    have hbr := hI.hb
    have HT4 := Lib.hid hI.tk
    have HR4 := Lib.hid hI.bs
    have hsz : s.data.toList.length = s.size := by simp
    have hgd := HS.out.good k t ht
    obtain ⟨g', hge, x0, x1, x2⟩ := HT4.out k t ht
    injection hge with hge
    injection hge with hge
    subst hge
    have hdp : dep (l.take (k + 1)) = dep (l.take k) + delta t := by
      rw [List.take_add_one, ht, dep_app]
      show _ + dep [t] = _
      rw [dep_one]
    have hd1 := HS.out.deep (k + 1) (by omega)
    have hd0 := HS.out.deep k (by omega)
    have h9 := h9e t ht
    have hp1 := hgd.at_
    rw [hsz] at hp1
    clear hI h9e
    obtain ⟨hm4, hm5⟩ := hm3
    have hmono := hgd.mono
    have hbare := hgd.bare
    have hhere := hgd.here
    have hname := hgd.name
    have hword := hgd.word
    obtain ⟨kd, hkd⟩ : ∃ kd, t.kind = kd := ⟨_, rfl⟩
    have hlo := hgd.lo
    have hhi := hgd.hi
    rw [hkd] at x0 hbare hhere hname hword h9 hlo hhi
    have hdl : delta t = if kd = 7 then 1 else if kd = 8 then -1 else 0 := by rw [← hkd]; rfl
    rw [hdl] at hdp
    have hTl : (⟨t.text.toArray⟩ : ByteArray).data.toList = t.text := rfl
    obtain ⟨T, hTe⟩ : ∃ T : ByteArray, (⟨t.text.toArray⟩ : ByteArray) = T := ⟨_, rfl⟩
    rw [hTe] at x1 hTl
    obtain ⟨ps, hps⟩ : ∃ ps, t.pos = ps := ⟨_, rfl⟩
    rw [hps] at x2 hp1 hhere hmono
    have n1 : (k : Int) < (l.length : Int) := by omega
    have n2 : decide ((ps : Int) < 0) = false := decide_eq_false (by omega)
    have n3 : decide ((s.size : Int) < (ps : Int)) = false := decide_eq_false (by omega)
    have n3' : decide (s.size < ps) = false := decide_eq_false (by omega)
    rw [hdp] at hd1
    obtain ⟨dd, hdd⟩ : ∃ dd, dep (l.take k) = dd := ⟨_, rfl⟩
    rw [hdd] at hd0 hd1 ⊢
    have HX := Lib.hid (show dep (l.take (k + 1)) = dd + (if kd = 7 then 1 else if kd = 8 then -1 else 0) by rw [hdp, hdd])
    have hdl1 : dd ≤ k := by rw [← hdd]; have := dep_le (l.take k); rw [List.length_take] at this; omega
    clear hdl hdp hdd hTe hgd
    have hK : kd = 1 := by rw [← hkd]; exact hK0
    clear hK0
    subst hK
    obtain ⟨hh1, hh2, hh3, hh4⟩ := hhere (by omega)
    have hTn : T.size = t.text.length := by rw [← hTl]; simp
    rw [hsz, ← hTn] at hh2
    rw [← hTn] at hh3
    have HE := Lib.hid (show s.extract ps (ps + T.size) = T by
      have h5 : (s.extract ps (ps + T.size)).data.toList = T.data.toList := by rw [ext_list, Nat.add_sub_cancel_left, hh3, hTl]
      have h6 := (text_eq (x := T.data.toList) (s := s.extract ps (ps + T.size))).2 h5.symm
      exact h6.symm.trans ((text_eq (x := T.data.toList) (s := T)).2 rfl))
    have hTpos : 1 ≤ T.size := by rw [hTn]; cases ht1 : t.text with | nil => exact absurd ht1 hh1 | cons a b => simp
    have e0 := ne_lit hTl hh1
    have e0' : T.toList.isEmpty = false := by rw [Lib.toList_data, hTl]; cases ht1 : t.text with | nil => exact absurd ht1 hh1 | cons a b => rfl
    have x9 : (T.toList != T.toList) = false := by simp
    have iw : IntKind.i64.wrap ((ps : Int) + (T.size : Int)) = (ps : Int) + (T.size : Int) := by rw [IntKind.wrap_i64]; omega
    have p1 : decide ((s.size : Int) < (ps : Int) + (T.size : Int)) = false := decide_eq_false (by omega)
    have p2 : decide (s.size < ps + T.size) = false := decide_eq_false (by omega)
    have p3 : (0 : Int) ≤ (ps : Int) := by omega
    have p4 : (ps : Int) ≤ (ps : Int) + (T.size : Int) := by omega
    have p5 : (ps : Int) + (T.size : Int) ≤ (c : Int) := by omega
    have p6 : ps + T.size ≤ c := by omega
    have p7 : ¬ (ps = c) := by omega
    have hwb : wordB T.data.toList = false := by rw [hTl]; exact hname rfl
    have hW : ∀ W, Calls Tryd.prog 14 #[.string T] W fun e w' => e = .returned (.bool false) ∧ w' = W := fun W => (lxWord_ok T W).mono fun e w' h => ⟨by rw [h.1, hwb], h.2.symm⟩
    by_cases hk0 : k = 0
    · subst hk0
      clear hh4 hhere
      clear hmono hname hword hbare h9 hlo hhi hTn hTl hh1 hh3
      go_wp2_with fail
      have hba : Below wr.heap.size wr (wr.alloc (.cells #[.int .i64 1, .string T, .int .i64 ps] 35)) := (Below.refl _ _).alloc (Nat.le_refl _) _
      have b0 : (wr.alloc (.cells #[.int .i64 1, .string T, .int .i64 ps] 35)).cell? ⟨wr.heap.size, 0, none⟩ = some (.int .i64 1) := by simp
      have b1 : (wr.alloc (.cells #[.int .i64 1, .string T, .int .i64 ps] 35)).cell? ⟨wr.heap.size, 1, none⟩ = some (.string T) := by simp
      have b2 : (wr.alloc (.cells #[.int .i64 1, .string T, .int .i64 ps] 35)).cell? ⟨wr.heap.size, 2, none⟩ = some (.int .i64 ps) := by simp
      have HT5 := Lib.hid (HT4.out.later hba)
      have HR5 := Lib.hid (HR4.out.later hba)
      have hbr1 := hbr.trans (hba.mono hbr.size)
      generalize wr.alloc (.cells #[.int .i64 1, .string T, .int .i64 ps] 35) = w1 at *
      clear hba x0 x1 x2 HT4 HR4
      go_big_quiet (fail)
      obtain ⟨w2, hv, hbv⟩ : ∃ v, v = w1.drewN nq ∧ Below w1.heap.size w1 v := ⟨_, rfl, below_draws _ _⟩
      rw [← hv]
      clear hv
      replace b0 := cell_later hbv b0
      replace b1 := cell_later hbv b1
      replace b2 := cell_later hbv b2
      replace HT5 := Lib.hid (HT5.out.later hbv)
      replace HR5 := Lib.hid (HR5.out.later hbv)
      replace hbr1 := hbr1.trans (hbv.mono hbr1.size)
      obtain ⟨b, off, rfl⟩ := HR5.out.some (by omega)
      have hcv := fun n => conv_sub (HR5.out.later (below_draws w2 n)) ps (ps + T.size) T.size (c - ps) hh2 (by omega)
      rw [HE.out] at hcv
      go_wp2_with fail
      go_big_quiet (fail)
      clear hcv
      obtain ⟨w3, hv, hbv⟩ : ∃ v, v = w2.drewN nq ∧ Below w2.heap.size w2 v := ⟨_, rfl, below_draws _ _⟩
      rw [← hv]
      clear hv
      replace b0 := cell_later hbv b0
      replace b1 := cell_later hbv b1
      replace b2 := cell_later hbv b2
      replace HT5 := Lib.hid (HT5.out.later hbv)
      replace HR5 := Lib.hid (HR5.out.later hbv)
      replace hbr1 := hbr1.trans (hbv.mono hbr1.size)
      go_wp2_with fail
      go_big_quiet (first | (go_at_call 14; refine Calls.quiet_of_same (hW _)) | fail)
      obtain ⟨w4, hv, hbv⟩ : ∃ v, v = w3.drewN nq ∧ Below w3.heap.size w3 v := ⟨_, rfl, below_draws _ _⟩
      rw [← hv]
      clear hv
      replace b0 := cell_later hbv b0
      replace b1 := cell_later hbv b1
      replace b2 := cell_later hbv b2
      replace HT5 := Lib.hid (HT5.out.later hbv)
      replace HR5 := Lib.hid (HR5.out.later hbv)
      replace hbr1 := hbr1.trans (hbv.mono hbr1.size)
      go_wp2
      exact ⟨rfl, rfl, rfl, by rw [HX.out]; first | rfl | simp, rfl, rfl, by omega, hbr1, HT5.out, HR5.out⟩
    · obtain ⟨q, hq⟩ : ∃ q, l[k - 1]? = some q := ⟨_, List.getElem?_eq_getElem (by omega)⟩
      have hqp : prevOf l k = some q := by unfold prevOf; rw [if_neg hk0]; exact hq
      have m1 := hmono q hqp
      obtain ⟨g2, hge2, y0, y1, y2⟩ := HT4.out (k - 1) q hq
      injection hge2 with hge2
      injection hge2 with hge2
      subst hge2
      obtain ⟨pp, hpp⟩ : ∃ pp, q.pos = pp := ⟨_, rfl⟩
      obtain ⟨pk, hpk⟩ : ∃ pk, q.kind = pk := ⟨_, rfl⟩
      rw [hpp] at m1 y2
      rw [hpk] at y0
      have n7 : decide ((ps : Int) < (pp : Int)) = false := decide_eq_false (by omega)
      have n7' : decide (ps < pp) = false := decide_eq_false (by omega)
      have n8' : decide (0 < k) = true := decide_eq_true (by omega)
      have n8 : decide (0 < (k : Int)) = true := decide_eq_true (by omega)
      have n9 : (k : Int) - 1 = ((k - 1 : Nat) : Int) := by omega
      have n10 : (0 : Int) ≤ ((k - 1 : Nat) : Int) := by omega
      have n11 : ((k - 1 : Nat) : Int) < (l.length : Int) := by omega
      have n12 : ((k - 1 : Nat) : Int) < (l.length : Int) := by omega
      have m2 := hh4 q hqp
      rw [hpp, hpk] at m2
      clear hmono hname hword hbare h9 hlo hhi hTn hTl hh1 hh3 hh4 hhere hqp hq hpp hpk
      by_cases hpp2 : pp = ps
      · rcases m2 with m2 | m2 | m2
        · omega
        · subst m2
          rw [hpp2] at y2
          have y9 : ((ps : Int) == (ps : Int)) = true := by simp
          go_wp2_with fail
          have hba : Below wr.heap.size wr (wr.alloc (.cells #[.int .i64 1, .string T, .int .i64 ps] 35)) := (Below.refl _ _).alloc (Nat.le_refl _) _
          have b0 : (wr.alloc (.cells #[.int .i64 1, .string T, .int .i64 ps] 35)).cell? ⟨wr.heap.size, 0, none⟩ = some (.int .i64 1) := by simp
          have b1 : (wr.alloc (.cells #[.int .i64 1, .string T, .int .i64 ps] 35)).cell? ⟨wr.heap.size, 1, none⟩ = some (.string T) := by simp
          have b2 : (wr.alloc (.cells #[.int .i64 1, .string T, .int .i64 ps] 35)).cell? ⟨wr.heap.size, 2, none⟩ = some (.int .i64 ps) := by simp
          replace y0 := cell_later hba y0
          replace y2 := cell_later hba y2
          have HT5 := Lib.hid (HT4.out.later hba)
          have HR5 := Lib.hid (HR4.out.later hba)
          have hbr1 := hbr.trans (hba.mono hbr.size)
          generalize wr.alloc (.cells #[.int .i64 1, .string T, .int .i64 ps] 35) = w1 at *
          clear hba x0 x1 x2 HT4 HR4
          go_big_quiet (fail)
          obtain ⟨w2, hv, hbv⟩ : ∃ v, v = w1.drewN nq ∧ Below w1.heap.size w1 v := ⟨_, rfl, below_draws _ _⟩
          rw [← hv]
          clear hv
          replace b0 := cell_later hbv b0
          replace b1 := cell_later hbv b1
          replace b2 := cell_later hbv b2
          replace y0 := cell_later hbv y0
          replace y2 := cell_later hbv y2
          replace HT5 := Lib.hid (HT5.out.later hbv)
          replace HR5 := Lib.hid (HR5.out.later hbv)
          replace hbr1 := hbr1.trans (hbv.mono hbr1.size)
          obtain ⟨b, off, rfl⟩ := HR5.out.some (by omega)
          have hcv := fun n => conv_sub (HR5.out.later (below_draws w2 n)) ps (ps + T.size) T.size (c - ps) hh2 (by omega)
          rw [HE.out] at hcv
          go_wp2_with fail
          go_big_quiet (fail)
          clear hcv
          obtain ⟨w3, hv, hbv⟩ : ∃ v, v = w2.drewN nq ∧ Below w2.heap.size w2 v := ⟨_, rfl, below_draws _ _⟩
          rw [← hv]
          clear hv
          replace b0 := cell_later hbv b0
          replace b1 := cell_later hbv b1
          replace b2 := cell_later hbv b2
          replace y0 := cell_later hbv y0
          replace y2 := cell_later hbv y2
          replace HT5 := Lib.hid (HT5.out.later hbv)
          replace HR5 := Lib.hid (HR5.out.later hbv)
          replace hbr1 := hbr1.trans (hbv.mono hbr1.size)
          go_wp2_with fail
          go_big_quiet (first | (go_at_call 14; refine Calls.quiet_of_same (hW _)) | fail)
          obtain ⟨w4, hv, hbv⟩ : ∃ v, v = w3.drewN nq ∧ Below w3.heap.size w3 v := ⟨_, rfl, below_draws _ _⟩
          rw [← hv]
          clear hv
          replace b0 := cell_later hbv b0
          replace b1 := cell_later hbv b1
          replace b2 := cell_later hbv b2
          replace y0 := cell_later hbv y0
          replace y2 := cell_later hbv y2
          replace HT5 := Lib.hid (HT5.out.later hbv)
          replace HR5 := Lib.hid (HR5.out.later hbv)
          replace hbr1 := hbr1.trans (hbv.mono hbr1.size)
          go_wp2
          exact ⟨rfl, rfl, rfl, by rw [HX.out]; first | rfl | simp, rfl, rfl, by omega, hbr1, HT5.out, HR5.out⟩
        · subst m2
          rw [hpp2] at y2
          have y9 : ((ps : Int) == (ps : Int)) = true := by simp
          go_wp2_with fail
          have hba : Below wr.heap.size wr (wr.alloc (.cells #[.int .i64 1, .string T, .int .i64 ps] 35)) := (Below.refl _ _).alloc (Nat.le_refl _) _
          have b0 : (wr.alloc (.cells #[.int .i64 1, .string T, .int .i64 ps] 35)).cell? ⟨wr.heap.size, 0, none⟩ = some (.int .i64 1) := by simp
          have b1 : (wr.alloc (.cells #[.int .i64 1, .string T, .int .i64 ps] 35)).cell? ⟨wr.heap.size, 1, none⟩ = some (.string T) := by simp
          have b2 : (wr.alloc (.cells #[.int .i64 1, .string T, .int .i64 ps] 35)).cell? ⟨wr.heap.size, 2, none⟩ = some (.int .i64 ps) := by simp
          replace y0 := cell_later hba y0
          replace y2 := cell_later hba y2
          have HT5 := Lib.hid (HT4.out.later hba)
          have HR5 := Lib.hid (HR4.out.later hba)
          have hbr1 := hbr.trans (hba.mono hbr.size)
          generalize wr.alloc (.cells #[.int .i64 1, .string T, .int .i64 ps] 35) = w1 at *
          clear hba x0 x1 x2 HT4 HR4
          go_big_quiet (fail)
          obtain ⟨w2, hv, hbv⟩ : ∃ v, v = w1.drewN nq ∧ Below w1.heap.size w1 v := ⟨_, rfl, below_draws _ _⟩
          rw [← hv]
          clear hv
          replace b0 := cell_later hbv b0
          replace b1 := cell_later hbv b1
          replace b2 := cell_later hbv b2
          replace y0 := cell_later hbv y0
          replace y2 := cell_later hbv y2
          replace HT5 := Lib.hid (HT5.out.later hbv)
          replace HR5 := Lib.hid (HR5.out.later hbv)
          replace hbr1 := hbr1.trans (hbv.mono hbr1.size)
          obtain ⟨b, off, rfl⟩ := HR5.out.some (by omega)
          have hcv := fun n => conv_sub (HR5.out.later (below_draws w2 n)) ps (ps + T.size) T.size (c - ps) hh2 (by omega)
          rw [HE.out] at hcv
          go_wp2_with fail
          go_big_quiet (fail)
          clear hcv
          obtain ⟨w3, hv, hbv⟩ : ∃ v, v = w2.drewN nq ∧ Below w2.heap.size w2 v := ⟨_, rfl, below_draws _ _⟩
          rw [← hv]
          clear hv
          replace b0 := cell_later hbv b0
          replace b1 := cell_later hbv b1
          replace b2 := cell_later hbv b2
          replace y0 := cell_later hbv y0
          replace y2 := cell_later hbv y2
          replace HT5 := Lib.hid (HT5.out.later hbv)
          replace HR5 := Lib.hid (HR5.out.later hbv)
          replace hbr1 := hbr1.trans (hbv.mono hbr1.size)
          go_wp2_with fail
          go_big_quiet (first | (go_at_call 14; refine Calls.quiet_of_same (hW _)) | fail)
          obtain ⟨w4, hv, hbv⟩ : ∃ v, v = w3.drewN nq ∧ Below w3.heap.size w3 v := ⟨_, rfl, below_draws _ _⟩
          rw [← hv]
          clear hv
          replace b0 := cell_later hbv b0
          replace b1 := cell_later hbv b1
          replace b2 := cell_later hbv b2
          replace y0 := cell_later hbv y0
          replace y2 := cell_later hbv y2
          replace HT5 := Lib.hid (HT5.out.later hbv)
          replace HR5 := Lib.hid (HR5.out.later hbv)
          replace hbr1 := hbr1.trans (hbv.mono hbr1.size)
          go_wp2
          exact ⟨rfl, rfl, rfl, by rw [HX.out]; first | rfl | simp, rfl, rfl, by omega, hbr1, HT5.out, HR5.out⟩
      · have y9 : ((pp : Int) == (ps : Int)) = false := by rw [beq_eq_false_iff_ne]; omega
        have y8 : (pp == ps) = false := by rw [beq_eq_false_iff_ne]; exact hpp2
        clear m2
        go_wp2_with fail
        have hba : Below wr.heap.size wr (wr.alloc (.cells #[.int .i64 1, .string T, .int .i64 ps] 35)) := (Below.refl _ _).alloc (Nat.le_refl _) _
        have b0 : (wr.alloc (.cells #[.int .i64 1, .string T, .int .i64 ps] 35)).cell? ⟨wr.heap.size, 0, none⟩ = some (.int .i64 1) := by simp
        have b1 : (wr.alloc (.cells #[.int .i64 1, .string T, .int .i64 ps] 35)).cell? ⟨wr.heap.size, 1, none⟩ = some (.string T) := by simp
        have b2 : (wr.alloc (.cells #[.int .i64 1, .string T, .int .i64 ps] 35)).cell? ⟨wr.heap.size, 2, none⟩ = some (.int .i64 ps) := by simp
        replace y0 := cell_later hba y0
        replace y2 := cell_later hba y2
        have HT5 := Lib.hid (HT4.out.later hba)
        have HR5 := Lib.hid (HR4.out.later hba)
        have hbr1 := hbr.trans (hba.mono hbr.size)
        generalize wr.alloc (.cells #[.int .i64 1, .string T, .int .i64 ps] 35) = w1 at *
        clear hba x0 x1 x2 HT4 HR4
        go_big_quiet (fail)
        obtain ⟨w2, hv, hbv⟩ : ∃ v, v = w1.drewN nq ∧ Below w1.heap.size w1 v := ⟨_, rfl, below_draws _ _⟩
        rw [← hv]
        clear hv
        replace b0 := cell_later hbv b0
        replace b1 := cell_later hbv b1
        replace b2 := cell_later hbv b2
        replace y0 := cell_later hbv y0
        replace y2 := cell_later hbv y2
        replace HT5 := Lib.hid (HT5.out.later hbv)
        replace HR5 := Lib.hid (HR5.out.later hbv)
        replace hbr1 := hbr1.trans (hbv.mono hbr1.size)
        obtain ⟨b, off, rfl⟩ := HR5.out.some (by omega)
        have hcv := fun n => conv_sub (HR5.out.later (below_draws w2 n)) ps (ps + T.size) T.size (c - ps) hh2 (by omega)
        rw [HE.out] at hcv
        go_wp2_with fail
        go_big_quiet (fail)
        clear hcv
        obtain ⟨w3, hv, hbv⟩ : ∃ v, v = w2.drewN nq ∧ Below w2.heap.size w2 v := ⟨_, rfl, below_draws _ _⟩
        rw [← hv]
        clear hv
        replace b0 := cell_later hbv b0
        replace b1 := cell_later hbv b1
        replace b2 := cell_later hbv b2
        replace y0 := cell_later hbv y0
        replace y2 := cell_later hbv y2
        replace HT5 := Lib.hid (HT5.out.later hbv)
        replace HR5 := Lib.hid (HR5.out.later hbv)
        replace hbr1 := hbr1.trans (hbv.mono hbr1.size)
        go_wp2_with fail
        go_big_quiet (first | (go_at_call 14; refine Calls.quiet_of_same (hW _)) | fail)
        obtain ⟨w4, hv, hbv⟩ : ∃ v, v = w3.drewN nq ∧ Below w3.heap.size w3 v := ⟨_, rfl, below_draws _ _⟩
        rw [← hv]
        clear hv
        replace b0 := cell_later hbv b0
        replace b1 := cell_later hbv b1
        replace b2 := cell_later hbv b2
        replace y0 := cell_later hbv y0
        replace y2 := cell_later hbv y2
        replace HT5 := Lib.hid (HT5.out.later hbv)
        replace HR5 := Lib.hid (HR5.out.later hbv)
        replace hbr1 := hbr1.trans (hbv.mono hbr1.size)
        go_wp2
        exact ⟨rfl, rfl, rfl, by rw [HX.out]; first | rfl | simp, rfl, rfl, by omega, hbr1, HT5.out, HR5.out⟩

set_option maxHeartbeats 64000000 in
theorem shape_2 {body : Code} (hbody : firstLoop (Tryd.f6.body.getD .skip) = some body) {w : World} {s : ByteArray} {A : Option Addr} {c : Nat} {l : List Tk} {g C3 k : Nat} {a : Act} {wr : World} {P : Act → World → Prop} {Q : Exit → Act → World → Prop} (hI : SInv w s A c l g C3 k a wr) (hlt : k < l.length) (hm3 : l.length ≤ C3 ∧ C3 ≤ 9223372036854775807) (hl : s.size ≤ c) (hm : c ≤ 9223372036854775807) (hs7 : s.size ≤ 70000) (HS : Hid (Shp s.data.toList l)) (h9e : ∀ t, l[k]? = some t → t.kind = 9 → k + 1 = l.length) {t : Tk} (ht : l[k]? = some t) (hK0 : t.kind = 2) (hP : ∀ a' w', SInv w s A c l g C3 (k + 1) a' w' → P a' w') :
    Code.wp Tryd.prog body (Exit.then P Q) a wr := by
  have hbd : firstLoop (Tryd.f6.body.getD .skip) = some body := hbody
  simp only [Tryd.f6, Option.getD_some, firstLoop] at hbd
  injection hbd with hbd
  subst hbd
  clear hbody
  cases a with
  | mk tm df =>
    have hdf : df = [] := hI.df
    subst hdf
    obtain ⟨f, hf⟩ := shape_frame tm hI.sz hI.t0 hI.t3 hI.t5 hI.t6
    subst hf
    have hbr := hI.hb
    have HT4 := Lib.hid hI.tk
    have HR4 := Lib.hid hI.bs
    have hsz : s.data.toList.length = s.size := by simp
    have hgd := HS.out.good k t ht
    obtain ⟨g', hge, x0, x1, x2⟩ := HT4.out k t ht
    injection hge with hge
    injection hge with hge
    subst hge
    have hdp : dep (l.take (k + 1)) = dep (l.take k) + delta t := by
      rw [List.take_add_one, ht, dep_app]
      show _ + dep [t] = _
      rw [dep_one]
    have hd1 := HS.out.deep (k + 1) (by omega)
    have hd0 := HS.out.deep k (by omega)
    have h9 := h9e t ht
    have hp1 := hgd.at_
    rw [hsz] at hp1
    clear hI h9e
    obtain ⟨hm4, hm5⟩ := hm3
    have hmono := hgd.mono
    have hbare := hgd.bare
    have hhere := hgd.here
    have hname := hgd.name
    have hword := hgd.word
    obtain ⟨kd, hkd⟩ : ∃ kd, t.kind = kd := ⟨_, rfl⟩
    have hlo := hgd.lo
    have hhi := hgd.hi
    rw [hkd] at x0 hbare hhere hname hword h9 hlo hhi
    have hdl : delta t = if kd = 7 then 1 else if kd = 8 then -1 else 0 := by rw [← hkd]; rfl
    rw [hdl] at hdp
    have hTl : (⟨t.text.toArray⟩ : ByteArray).data.toList = t.text := rfl
    obtain ⟨T, hTe⟩ : ∃ T : ByteArray, (⟨t.text.toArray⟩ : ByteArray) = T := ⟨_, rfl⟩
    rw [hTe] at x1 hTl
    obtain ⟨ps, hps⟩ : ∃ ps, t.pos = ps := ⟨_, rfl⟩
    rw [hps] at x2 hp1 hhere hmono
    have n1 : (k : Int) < (l.length : Int) := by omega
    have n2 : decide ((ps : Int) < 0) = false := decide_eq_false (by omega)
    have n3 : decide ((s.size : Int) < (ps : Int)) = false := decide_eq_false (by omega)
    have n3' : decide (s.size < ps) = false := decide_eq_false (by omega)
    rw [hdp] at hd1
    obtain ⟨dd, hdd⟩ : ∃ dd, dep (l.take k) = dd := ⟨_, rfl⟩
    rw [hdd] at hd0 hd1 ⊢
    have HX := Lib.hid (show dep (l.take (k + 1)) = dd + (if kd = 7 then 1 else if kd = 8 then -1 else 0) by rw [hdp, hdd])
    have hdl1 : dd ≤ k := by rw [← hdd]; have := dep_le (l.take k); rw [List.length_take] at this; omega
    clear hdl hdp hdd hTe hgd
    have hK : kd = 2 := by rw [← hkd]; exact hK0
    clear hK0
    subst hK
    obtain ⟨hh1, hh2, hh3, hh4⟩ := hhere (by omega)
    have hTn : T.size = t.text.length := by rw [← hTl]; simp
    rw [hsz, ← hTn] at hh2
    rw [← hTn] at hh3
    have HE := Lib.hid (show s.extract ps (ps + T.size) = T by
      have h5 : (s.extract ps (ps + T.size)).data.toList = T.data.toList := by rw [ext_list, Nat.add_sub_cancel_left, hh3, hTl]
      have h6 := (text_eq (x := T.data.toList) (s := s.extract ps (ps + T.size))).2 h5.symm
      exact h6.symm.trans ((text_eq (x := T.data.toList) (s := T)).2 rfl))
    have hTpos : 1 ≤ T.size := by rw [hTn]; cases ht1 : t.text with | nil => exact absurd ht1 hh1 | cons a b => simp
    have e0 := ne_lit hTl hh1
    have e0' : T.toList.isEmpty = false := by rw [Lib.toList_data, hTl]; cases ht1 : t.text with | nil => exact absurd ht1 hh1 | cons a b => rfl
    have x9 : (T.toList != T.toList) = false := by simp
    have iw : IntKind.i64.wrap ((ps : Int) + (T.size : Int)) = (ps : Int) + (T.size : Int) := by rw [IntKind.wrap_i64]; omega
    have p1 : decide ((s.size : Int) < (ps : Int) + (T.size : Int)) = false := decide_eq_false (by omega)
    have p2 : decide (s.size < ps + T.size) = false := decide_eq_false (by omega)
    have p3 : (0 : Int) ≤ (ps : Int) := by omega
    have p4 : (ps : Int) ≤ (ps : Int) + (T.size : Int) := by omega
    have p5 : (ps : Int) + (T.size : Int) ≤ (c : Int) := by omega
    have p6 : ps + T.size ≤ c := by omega
    have p7 : ¬ (ps = c) := by omega
    have hwb : wordB T.data.toList = true := by rw [hTl]; exact hword rfl
    have hW : ∀ W, Calls Tryd.prog 14 #[.string T] W fun e w' => e = .returned (.bool true) ∧ w' = W := fun W => (lxWord_ok T W).mono fun e w' h => ⟨by rw [h.1, hwb], h.2.symm⟩
    by_cases hk0 : k = 0
    · subst hk0
      clear hh4 hhere
      clear hmono hname hword hbare h9 hlo hhi hTn hTl hh1 hh3
      go_wp2_with fail
      have hba : Below wr.heap.size wr (wr.alloc (.cells #[.int .i64 2, .string T, .int .i64 ps] 35)) := (Below.refl _ _).alloc (Nat.le_refl _) _
      have b0 : (wr.alloc (.cells #[.int .i64 2, .string T, .int .i64 ps] 35)).cell? ⟨wr.heap.size, 0, none⟩ = some (.int .i64 2) := by simp
      have b1 : (wr.alloc (.cells #[.int .i64 2, .string T, .int .i64 ps] 35)).cell? ⟨wr.heap.size, 1, none⟩ = some (.string T) := by simp
      have b2 : (wr.alloc (.cells #[.int .i64 2, .string T, .int .i64 ps] 35)).cell? ⟨wr.heap.size, 2, none⟩ = some (.int .i64 ps) := by simp
      have HT5 := Lib.hid (HT4.out.later hba)
      have HR5 := Lib.hid (HR4.out.later hba)
      have hbr1 := hbr.trans (hba.mono hbr.size)
      generalize wr.alloc (.cells #[.int .i64 2, .string T, .int .i64 ps] 35) = w1 at *
      clear hba x0 x1 x2 HT4 HR4
      go_big_quiet (fail)
      obtain ⟨w2, hv, hbv⟩ : ∃ v, v = w1.drewN nq ∧ Below w1.heap.size w1 v := ⟨_, rfl, below_draws _ _⟩
      rw [← hv]
      clear hv
      replace b0 := cell_later hbv b0
      replace b1 := cell_later hbv b1
      replace b2 := cell_later hbv b2
      replace HT5 := Lib.hid (HT5.out.later hbv)
      replace HR5 := Lib.hid (HR5.out.later hbv)
      replace hbr1 := hbr1.trans (hbv.mono hbr1.size)
      obtain ⟨b, off, rfl⟩ := HR5.out.some (by omega)
      have hcv := fun n => conv_sub (HR5.out.later (below_draws w2 n)) ps (ps + T.size) T.size (c - ps) hh2 (by omega)
      rw [HE.out] at hcv
      go_wp2_with fail
      go_big_quiet (fail)
      clear hcv
      obtain ⟨w3, hv, hbv⟩ : ∃ v, v = w2.drewN nq ∧ Below w2.heap.size w2 v := ⟨_, rfl, below_draws _ _⟩
      rw [← hv]
      clear hv
      replace b0 := cell_later hbv b0
      replace b1 := cell_later hbv b1
      replace b2 := cell_later hbv b2
      replace HT5 := Lib.hid (HT5.out.later hbv)
      replace HR5 := Lib.hid (HR5.out.later hbv)
      replace hbr1 := hbr1.trans (hbv.mono hbr1.size)
      go_wp2_with fail
      go_big_quiet (first | (go_at_call 14; refine Calls.quiet_of_same (hW _)) | fail)
      obtain ⟨w4, hv, hbv⟩ : ∃ v, v = w3.drewN nq ∧ Below w3.heap.size w3 v := ⟨_, rfl, below_draws _ _⟩
      rw [← hv]
      clear hv
      replace b0 := cell_later hbv b0
      replace b1 := cell_later hbv b1
      replace b2 := cell_later hbv b2
      replace HT5 := Lib.hid (HT5.out.later hbv)
      replace HR5 := Lib.hid (HR5.out.later hbv)
      replace hbr1 := hbr1.trans (hbv.mono hbr1.size)
      go_wp2
      exact ⟨rfl, rfl, rfl, by rw [HX.out]; first | rfl | simp, rfl, rfl, by omega, hbr1, HT5.out, HR5.out⟩
    · obtain ⟨q, hq⟩ : ∃ q, l[k - 1]? = some q := ⟨_, List.getElem?_eq_getElem (by omega)⟩
      have hqp : prevOf l k = some q := by unfold prevOf; rw [if_neg hk0]; exact hq
      have m1 := hmono q hqp
      obtain ⟨g2, hge2, y0, y1, y2⟩ := HT4.out (k - 1) q hq
      injection hge2 with hge2
      injection hge2 with hge2
      subst hge2
      obtain ⟨pp, hpp⟩ : ∃ pp, q.pos = pp := ⟨_, rfl⟩
      obtain ⟨pk, hpk⟩ : ∃ pk, q.kind = pk := ⟨_, rfl⟩
      rw [hpp] at m1 y2
      rw [hpk] at y0
      have n7 : decide ((ps : Int) < (pp : Int)) = false := decide_eq_false (by omega)
      have n7' : decide (ps < pp) = false := decide_eq_false (by omega)
      have n8' : decide (0 < k) = true := decide_eq_true (by omega)
      have n8 : decide (0 < (k : Int)) = true := decide_eq_true (by omega)
      have n9 : (k : Int) - 1 = ((k - 1 : Nat) : Int) := by omega
      have n10 : (0 : Int) ≤ ((k - 1 : Nat) : Int) := by omega
      have n11 : ((k - 1 : Nat) : Int) < (l.length : Int) := by omega
      have n12 : ((k - 1 : Nat) : Int) < (l.length : Int) := by omega
      have m2 := hh4 q hqp
      rw [hpp, hpk] at m2
      clear hmono hname hword hbare h9 hlo hhi hTn hTl hh1 hh3 hh4 hhere hqp hq hpp hpk
      by_cases hpp2 : pp = ps
      · rcases m2 with m2 | m2 | m2
        · omega
        · subst m2
          rw [hpp2] at y2
          have y9 : ((ps : Int) == (ps : Int)) = true := by simp
          go_wp2_with fail
          have hba : Below wr.heap.size wr (wr.alloc (.cells #[.int .i64 2, .string T, .int .i64 ps] 35)) := (Below.refl _ _).alloc (Nat.le_refl _) _
          have b0 : (wr.alloc (.cells #[.int .i64 2, .string T, .int .i64 ps] 35)).cell? ⟨wr.heap.size, 0, none⟩ = some (.int .i64 2) := by simp
          have b1 : (wr.alloc (.cells #[.int .i64 2, .string T, .int .i64 ps] 35)).cell? ⟨wr.heap.size, 1, none⟩ = some (.string T) := by simp
          have b2 : (wr.alloc (.cells #[.int .i64 2, .string T, .int .i64 ps] 35)).cell? ⟨wr.heap.size, 2, none⟩ = some (.int .i64 ps) := by simp
          replace y0 := cell_later hba y0
          replace y2 := cell_later hba y2
          have HT5 := Lib.hid (HT4.out.later hba)
          have HR5 := Lib.hid (HR4.out.later hba)
          have hbr1 := hbr.trans (hba.mono hbr.size)
          generalize wr.alloc (.cells #[.int .i64 2, .string T, .int .i64 ps] 35) = w1 at *
          clear hba x0 x1 x2 HT4 HR4
          go_big_quiet (fail)
          obtain ⟨w2, hv, hbv⟩ : ∃ v, v = w1.drewN nq ∧ Below w1.heap.size w1 v := ⟨_, rfl, below_draws _ _⟩
          rw [← hv]
          clear hv
          replace b0 := cell_later hbv b0
          replace b1 := cell_later hbv b1
          replace b2 := cell_later hbv b2
          replace y0 := cell_later hbv y0
          replace y2 := cell_later hbv y2
          replace HT5 := Lib.hid (HT5.out.later hbv)
          replace HR5 := Lib.hid (HR5.out.later hbv)
          replace hbr1 := hbr1.trans (hbv.mono hbr1.size)
          obtain ⟨b, off, rfl⟩ := HR5.out.some (by omega)
          have hcv := fun n => conv_sub (HR5.out.later (below_draws w2 n)) ps (ps + T.size) T.size (c - ps) hh2 (by omega)
          rw [HE.out] at hcv
          go_wp2_with fail
          go_big_quiet (fail)
          clear hcv
          obtain ⟨w3, hv, hbv⟩ : ∃ v, v = w2.drewN nq ∧ Below w2.heap.size w2 v := ⟨_, rfl, below_draws _ _⟩
          rw [← hv]
          clear hv
          replace b0 := cell_later hbv b0
          replace b1 := cell_later hbv b1
          replace b2 := cell_later hbv b2
          replace y0 := cell_later hbv y0
          replace y2 := cell_later hbv y2
          replace HT5 := Lib.hid (HT5.out.later hbv)
          replace HR5 := Lib.hid (HR5.out.later hbv)
          replace hbr1 := hbr1.trans (hbv.mono hbr1.size)
          go_wp2_with fail
          go_big_quiet (first | (go_at_call 14; refine Calls.quiet_of_same (hW _)) | fail)
          obtain ⟨w4, hv, hbv⟩ : ∃ v, v = w3.drewN nq ∧ Below w3.heap.size w3 v := ⟨_, rfl, below_draws _ _⟩
          rw [← hv]
          clear hv
          replace b0 := cell_later hbv b0
          replace b1 := cell_later hbv b1
          replace b2 := cell_later hbv b2
          replace y0 := cell_later hbv y0
          replace y2 := cell_later hbv y2
          replace HT5 := Lib.hid (HT5.out.later hbv)
          replace HR5 := Lib.hid (HR5.out.later hbv)
          replace hbr1 := hbr1.trans (hbv.mono hbr1.size)
          go_wp2
          exact ⟨rfl, rfl, rfl, by rw [HX.out]; first | rfl | simp, rfl, rfl, by omega, hbr1, HT5.out, HR5.out⟩
        · subst m2
          rw [hpp2] at y2
          have y9 : ((ps : Int) == (ps : Int)) = true := by simp
          go_wp2_with fail
          have hba : Below wr.heap.size wr (wr.alloc (.cells #[.int .i64 2, .string T, .int .i64 ps] 35)) := (Below.refl _ _).alloc (Nat.le_refl _) _
          have b0 : (wr.alloc (.cells #[.int .i64 2, .string T, .int .i64 ps] 35)).cell? ⟨wr.heap.size, 0, none⟩ = some (.int .i64 2) := by simp
          have b1 : (wr.alloc (.cells #[.int .i64 2, .string T, .int .i64 ps] 35)).cell? ⟨wr.heap.size, 1, none⟩ = some (.string T) := by simp
          have b2 : (wr.alloc (.cells #[.int .i64 2, .string T, .int .i64 ps] 35)).cell? ⟨wr.heap.size, 2, none⟩ = some (.int .i64 ps) := by simp
          replace y0 := cell_later hba y0
          replace y2 := cell_later hba y2
          have HT5 := Lib.hid (HT4.out.later hba)
          have HR5 := Lib.hid (HR4.out.later hba)
          have hbr1 := hbr.trans (hba.mono hbr.size)
          generalize wr.alloc (.cells #[.int .i64 2, .string T, .int .i64 ps] 35) = w1 at *
          clear hba x0 x1 x2 HT4 HR4
          go_big_quiet (fail)
          obtain ⟨w2, hv, hbv⟩ : ∃ v, v = w1.drewN nq ∧ Below w1.heap.size w1 v := ⟨_, rfl, below_draws _ _⟩
          rw [← hv]
          clear hv
          replace b0 := cell_later hbv b0
          replace b1 := cell_later hbv b1
          replace b2 := cell_later hbv b2
          replace y0 := cell_later hbv y0
          replace y2 := cell_later hbv y2
          replace HT5 := Lib.hid (HT5.out.later hbv)
          replace HR5 := Lib.hid (HR5.out.later hbv)
          replace hbr1 := hbr1.trans (hbv.mono hbr1.size)
          obtain ⟨b, off, rfl⟩ := HR5.out.some (by omega)
          have hcv := fun n => conv_sub (HR5.out.later (below_draws w2 n)) ps (ps + T.size) T.size (c - ps) hh2 (by omega)
          rw [HE.out] at hcv
          go_wp2_with fail
          go_big_quiet (fail)
          clear hcv
          obtain ⟨w3, hv, hbv⟩ : ∃ v, v = w2.drewN nq ∧ Below w2.heap.size w2 v := ⟨_, rfl, below_draws _ _⟩
          rw [← hv]
          clear hv
          replace b0 := cell_later hbv b0
          replace b1 := cell_later hbv b1
          replace b2 := cell_later hbv b2
          replace y0 := cell_later hbv y0
          replace y2 := cell_later hbv y2
          replace HT5 := Lib.hid (HT5.out.later hbv)
          replace HR5 := Lib.hid (HR5.out.later hbv)
          replace hbr1 := hbr1.trans (hbv.mono hbr1.size)
          go_wp2_with fail
          go_big_quiet (first | (go_at_call 14; refine Calls.quiet_of_same (hW _)) | fail)
          obtain ⟨w4, hv, hbv⟩ : ∃ v, v = w3.drewN nq ∧ Below w3.heap.size w3 v := ⟨_, rfl, below_draws _ _⟩
          rw [← hv]
          clear hv
          replace b0 := cell_later hbv b0
          replace b1 := cell_later hbv b1
          replace b2 := cell_later hbv b2
          replace y0 := cell_later hbv y0
          replace y2 := cell_later hbv y2
          replace HT5 := Lib.hid (HT5.out.later hbv)
          replace HR5 := Lib.hid (HR5.out.later hbv)
          replace hbr1 := hbr1.trans (hbv.mono hbr1.size)
          go_wp2
          exact ⟨rfl, rfl, rfl, by rw [HX.out]; first | rfl | simp, rfl, rfl, by omega, hbr1, HT5.out, HR5.out⟩
      · have y9 : ((pp : Int) == (ps : Int)) = false := by rw [beq_eq_false_iff_ne]; omega
        have y8 : (pp == ps) = false := by rw [beq_eq_false_iff_ne]; exact hpp2
        clear m2
        go_wp2_with fail
        have hba : Below wr.heap.size wr (wr.alloc (.cells #[.int .i64 2, .string T, .int .i64 ps] 35)) := (Below.refl _ _).alloc (Nat.le_refl _) _
        have b0 : (wr.alloc (.cells #[.int .i64 2, .string T, .int .i64 ps] 35)).cell? ⟨wr.heap.size, 0, none⟩ = some (.int .i64 2) := by simp
        have b1 : (wr.alloc (.cells #[.int .i64 2, .string T, .int .i64 ps] 35)).cell? ⟨wr.heap.size, 1, none⟩ = some (.string T) := by simp
        have b2 : (wr.alloc (.cells #[.int .i64 2, .string T, .int .i64 ps] 35)).cell? ⟨wr.heap.size, 2, none⟩ = some (.int .i64 ps) := by simp
        replace y0 := cell_later hba y0
        replace y2 := cell_later hba y2
        have HT5 := Lib.hid (HT4.out.later hba)
        have HR5 := Lib.hid (HR4.out.later hba)
        have hbr1 := hbr.trans (hba.mono hbr.size)
        generalize wr.alloc (.cells #[.int .i64 2, .string T, .int .i64 ps] 35) = w1 at *
        clear hba x0 x1 x2 HT4 HR4
        go_big_quiet (fail)
        obtain ⟨w2, hv, hbv⟩ : ∃ v, v = w1.drewN nq ∧ Below w1.heap.size w1 v := ⟨_, rfl, below_draws _ _⟩
        rw [← hv]
        clear hv
        replace b0 := cell_later hbv b0
        replace b1 := cell_later hbv b1
        replace b2 := cell_later hbv b2
        replace y0 := cell_later hbv y0
        replace y2 := cell_later hbv y2
        replace HT5 := Lib.hid (HT5.out.later hbv)
        replace HR5 := Lib.hid (HR5.out.later hbv)
        replace hbr1 := hbr1.trans (hbv.mono hbr1.size)
        obtain ⟨b, off, rfl⟩ := HR5.out.some (by omega)
        have hcv := fun n => conv_sub (HR5.out.later (below_draws w2 n)) ps (ps + T.size) T.size (c - ps) hh2 (by omega)
        rw [HE.out] at hcv
        go_wp2_with fail
        go_big_quiet (fail)
        clear hcv
        obtain ⟨w3, hv, hbv⟩ : ∃ v, v = w2.drewN nq ∧ Below w2.heap.size w2 v := ⟨_, rfl, below_draws _ _⟩
        rw [← hv]
        clear hv
        replace b0 := cell_later hbv b0
        replace b1 := cell_later hbv b1
        replace b2 := cell_later hbv b2
        replace y0 := cell_later hbv y0
        replace y2 := cell_later hbv y2
        replace HT5 := Lib.hid (HT5.out.later hbv)
        replace HR5 := Lib.hid (HR5.out.later hbv)
        replace hbr1 := hbr1.trans (hbv.mono hbr1.size)
        go_wp2_with fail
        go_big_quiet (first | (go_at_call 14; refine Calls.quiet_of_same (hW _)) | fail)
        obtain ⟨w4, hv, hbv⟩ : ∃ v, v = w3.drewN nq ∧ Below w3.heap.size w3 v := ⟨_, rfl, below_draws _ _⟩
        rw [← hv]
        clear hv
        replace b0 := cell_later hbv b0
        replace b1 := cell_later hbv b1
        replace b2 := cell_later hbv b2
        replace y0 := cell_later hbv y0
        replace y2 := cell_later hbv y2
        replace HT5 := Lib.hid (HT5.out.later hbv)
        replace HR5 := Lib.hid (HR5.out.later hbv)
        replace hbr1 := hbr1.trans (hbv.mono hbr1.size)
        go_wp2
        exact ⟨rfl, rfl, rfl, by rw [HX.out]; first | rfl | simp, rfl, rfl, by omega, hbr1, HT5.out, HR5.out⟩

set_option maxHeartbeats 64000000 in
theorem shape_3 {body : Code} (hbody : firstLoop (Tryd.f6.body.getD .skip) = some body) {w : World} {s : ByteArray} {A : Option Addr} {c : Nat} {l : List Tk} {g C3 k : Nat} {a : Act} {wr : World} {P : Act → World → Prop} {Q : Exit → Act → World → Prop} (hI : SInv w s A c l g C3 k a wr) (hlt : k < l.length) (hm3 : l.length ≤ C3 ∧ C3 ≤ 9223372036854775807) (hl : s.size ≤ c) (hm : c ≤ 9223372036854775807) (hs7 : s.size ≤ 70000) (HS : Hid (Shp s.data.toList l)) (h9e : ∀ t, l[k]? = some t → t.kind = 9 → k + 1 = l.length) {t : Tk} (ht : l[k]? = some t) (hK0 : t.kind = 3) (hP : ∀ a' w', SInv w s A c l g C3 (k + 1) a' w' → P a' w') :
    Code.wp Tryd.prog body (Exit.then P Q) a wr := by
  have hbd : firstLoop (Tryd.f6.body.getD .skip) = some body := hbody
  simp only [Tryd.f6, Option.getD_some, firstLoop] at hbd
  injection hbd with hbd
  subst hbd
  clear hbody
  cases a with
  | mk tm df =>
    have hdf : df = [] := hI.df
    subst hdf
    obtain ⟨f, hf⟩ := shape_frame tm hI.sz hI.t0 hI.t3 hI.t5 hI.t6
    subst hf
    have hbr := hI.hb
    have HT4 := Lib.hid hI.tk
    have HR4 := Lib.hid hI.bs
    have hsz : s.data.toList.length = s.size := by simp
    have hgd := HS.out.good k t ht
    obtain ⟨g', hge, x0, x1, x2⟩ := HT4.out k t ht
    injection hge with hge
    injection hge with hge
    subst hge
    have hdp : dep (l.take (k + 1)) = dep (l.take k) + delta t := by
      rw [List.take_add_one, ht, dep_app]
      show _ + dep [t] = _
      rw [dep_one]
    have hd1 := HS.out.deep (k + 1) (by omega)
    have hd0 := HS.out.deep k (by omega)
    have h9 := h9e t ht
    have hp1 := hgd.at_
    rw [hsz] at hp1
    clear hI h9e
    obtain ⟨hm4, hm5⟩ := hm3
    have hmono := hgd.mono
    have hbare := hgd.bare
    have hhere := hgd.here
    have hname := hgd.name
    have hword := hgd.word
    obtain ⟨kd, hkd⟩ : ∃ kd, t.kind = kd := ⟨_, rfl⟩
    have hlo := hgd.lo
    have hhi := hgd.hi
    rw [hkd] at x0 hbare hhere hname hword h9 hlo hhi
    have hdl : delta t = if kd = 7 then 1 else if kd = 8 then -1 else 0 := by rw [← hkd]; rfl
    rw [hdl] at hdp
    have hTl : (⟨t.text.toArray⟩ : ByteArray).data.toList = t.text := rfl
    obtain ⟨T, hTe⟩ : ∃ T : ByteArray, (⟨t.text.toArray⟩ : ByteArray) = T := ⟨_, rfl⟩
    rw [hTe] at x1 hTl
    obtain ⟨ps, hps⟩ : ∃ ps, t.pos = ps := ⟨_, rfl⟩
    rw [hps] at x2 hp1 hhere hmono
    have n1 : (k : Int) < (l.length : Int) := by omega
    have n2 : decide ((ps : Int) < 0) = false := decide_eq_false (by omega)
    have n3 : decide ((s.size : Int) < (ps : Int)) = false := decide_eq_false (by omega)
    have n3' : decide (s.size < ps) = false := decide_eq_false (by omega)
    rw [hdp] at hd1
    obtain ⟨dd, hdd⟩ : ∃ dd, dep (l.take k) = dd := ⟨_, rfl⟩
    rw [hdd] at hd0 hd1 ⊢
    have HX := Lib.hid (show dep (l.take (k + 1)) = dd + (if kd = 7 then 1 else if kd = 8 then -1 else 0) by rw [hdp, hdd])
    have hdl1 : dd ≤ k := by rw [← hdd]; have := dep_le (l.take k); rw [List.length_take] at this; omega
    clear hdl hdp hdd hTe hgd
    have hK : kd = 3 := by rw [← hkd]; exact hK0
    clear hK0
    subst hK
    obtain ⟨hh1, hh2, hh3, hh4⟩ := hhere (by omega)
    have hTn : T.size = t.text.length := by rw [← hTl]; simp
    rw [hsz, ← hTn] at hh2
    rw [← hTn] at hh3
    have HE := Lib.hid (show s.extract ps (ps + T.size) = T by
      have h5 : (s.extract ps (ps + T.size)).data.toList = T.data.toList := by rw [ext_list, Nat.add_sub_cancel_left, hh3, hTl]
      have h6 := (text_eq (x := T.data.toList) (s := s.extract ps (ps + T.size))).2 h5.symm
      exact h6.symm.trans ((text_eq (x := T.data.toList) (s := T)).2 rfl))
    have hTpos : 1 ≤ T.size := by rw [hTn]; cases ht1 : t.text with | nil => exact absurd ht1 hh1 | cons a b => simp
    have e0 := ne_lit hTl hh1
    have e0' : T.toList.isEmpty = false := by rw [Lib.toList_data, hTl]; cases ht1 : t.text with | nil => exact absurd ht1 hh1 | cons a b => rfl
    have x9 : (T.toList != T.toList) = false := by simp
    have iw : IntKind.i64.wrap ((ps : Int) + (T.size : Int)) = (ps : Int) + (T.size : Int) := by rw [IntKind.wrap_i64]; omega
    have p1 : decide ((s.size : Int) < (ps : Int) + (T.size : Int)) = false := decide_eq_false (by omega)
    have p2 : decide (s.size < ps + T.size) = false := decide_eq_false (by omega)
    have p3 : (0 : Int) ≤ (ps : Int) := by omega
    have p4 : (ps : Int) ≤ (ps : Int) + (T.size : Int) := by omega
    have p5 : (ps : Int) + (T.size : Int) ≤ (c : Int) := by omega
    have p6 : ps + T.size ≤ c := by omega
    have p7 : ¬ (ps = c) := by omega
    have hW : ∀ W, Calls Tryd.prog 14 #[.string T] W fun e w' => e = .returned (.bool (wordB T.data.toList)) ∧ w' = W := fun W => (lxWord_ok T W).mono fun e w' h => ⟨h.1, h.2.symm⟩
    by_cases hk0 : k = 0
    · subst hk0
      clear hh4 hhere
      clear hmono hname hword hbare h9 hlo hhi hTn hTl hh1 hh3
      go_wp2_with fail
      have hba : Below wr.heap.size wr (wr.alloc (.cells #[.int .i64 3, .string T, .int .i64 ps] 35)) := (Below.refl _ _).alloc (Nat.le_refl _) _
      have b0 : (wr.alloc (.cells #[.int .i64 3, .string T, .int .i64 ps] 35)).cell? ⟨wr.heap.size, 0, none⟩ = some (.int .i64 3) := by simp
      have b1 : (wr.alloc (.cells #[.int .i64 3, .string T, .int .i64 ps] 35)).cell? ⟨wr.heap.size, 1, none⟩ = some (.string T) := by simp
      have b2 : (wr.alloc (.cells #[.int .i64 3, .string T, .int .i64 ps] 35)).cell? ⟨wr.heap.size, 2, none⟩ = some (.int .i64 ps) := by simp
      have HT5 := Lib.hid (HT4.out.later hba)
      have HR5 := Lib.hid (HR4.out.later hba)
      have hbr1 := hbr.trans (hba.mono hbr.size)
      generalize wr.alloc (.cells #[.int .i64 3, .string T, .int .i64 ps] 35) = w1 at *
      clear hba x0 x1 x2 HT4 HR4
      go_big_quiet (fail)
      obtain ⟨w2, hv, hbv⟩ : ∃ v, v = w1.drewN nq ∧ Below w1.heap.size w1 v := ⟨_, rfl, below_draws _ _⟩
      rw [← hv]
      clear hv
      replace b0 := cell_later hbv b0
      replace b1 := cell_later hbv b1
      replace b2 := cell_later hbv b2
      replace HT5 := Lib.hid (HT5.out.later hbv)
      replace HR5 := Lib.hid (HR5.out.later hbv)
      replace hbr1 := hbr1.trans (hbv.mono hbr1.size)
      obtain ⟨b, off, rfl⟩ := HR5.out.some (by omega)
      have hcv := fun n => conv_sub (HR5.out.later (below_draws w2 n)) ps (ps + T.size) T.size (c - ps) hh2 (by omega)
      rw [HE.out] at hcv
      go_wp2_with fail
      go_big_quiet (fail)
      clear hcv
      obtain ⟨w3, hv, hbv⟩ : ∃ v, v = w2.drewN nq ∧ Below w2.heap.size w2 v := ⟨_, rfl, below_draws _ _⟩
      rw [← hv]
      clear hv
      replace b0 := cell_later hbv b0
      replace b1 := cell_later hbv b1
      replace b2 := cell_later hbv b2
      replace HT5 := Lib.hid (HT5.out.later hbv)
      replace HR5 := Lib.hid (HR5.out.later hbv)
      replace hbr1 := hbr1.trans (hbv.mono hbr1.size)
      go_wp2_with fail
      go_big_quiet (first | (go_at_call 14; refine Calls.quiet_of_same (hW _)) | fail)
      obtain ⟨w4, hv, hbv⟩ : ∃ v, v = w3.drewN nq ∧ Below w3.heap.size w3 v := ⟨_, rfl, below_draws _ _⟩
      rw [← hv]
      clear hv
      replace b0 := cell_later hbv b0
      replace b1 := cell_later hbv b1
      replace b2 := cell_later hbv b2
      replace HT5 := Lib.hid (HT5.out.later hbv)
      replace HR5 := Lib.hid (HR5.out.later hbv)
      replace hbr1 := hbr1.trans (hbv.mono hbr1.size)
      go_wp2
      exact ⟨rfl, rfl, rfl, by rw [HX.out]; first | rfl | simp, rfl, rfl, by omega, hbr1, HT5.out, HR5.out⟩
    · obtain ⟨q, hq⟩ : ∃ q, l[k - 1]? = some q := ⟨_, List.getElem?_eq_getElem (by omega)⟩
      have hqp : prevOf l k = some q := by unfold prevOf; rw [if_neg hk0]; exact hq
      have m1 := hmono q hqp
      obtain ⟨g2, hge2, y0, y1, y2⟩ := HT4.out (k - 1) q hq
      injection hge2 with hge2
      injection hge2 with hge2
      subst hge2
      obtain ⟨pp, hpp⟩ : ∃ pp, q.pos = pp := ⟨_, rfl⟩
      obtain ⟨pk, hpk⟩ : ∃ pk, q.kind = pk := ⟨_, rfl⟩
      rw [hpp] at m1 y2
      rw [hpk] at y0
      have n7 : decide ((ps : Int) < (pp : Int)) = false := decide_eq_false (by omega)
      have n7' : decide (ps < pp) = false := decide_eq_false (by omega)
      have n8' : decide (0 < k) = true := decide_eq_true (by omega)
      have n8 : decide (0 < (k : Int)) = true := decide_eq_true (by omega)
      have n9 : (k : Int) - 1 = ((k - 1 : Nat) : Int) := by omega
      have n10 : (0 : Int) ≤ ((k - 1 : Nat) : Int) := by omega
      have n11 : ((k - 1 : Nat) : Int) < (l.length : Int) := by omega
      have n12 : ((k - 1 : Nat) : Int) < (l.length : Int) := by omega
      have m2 := hh4 q hqp
      rw [hpp, hpk] at m2
      clear hmono hname hword hbare h9 hlo hhi hTn hTl hh1 hh3 hh4 hhere hqp hq hpp hpk
      by_cases hpp2 : pp = ps
      · rcases m2 with m2 | m2 | m2
        · omega
        · subst m2
          rw [hpp2] at y2
          have y9 : ((ps : Int) == (ps : Int)) = true := by simp
          go_wp2_with fail
          have hba : Below wr.heap.size wr (wr.alloc (.cells #[.int .i64 3, .string T, .int .i64 ps] 35)) := (Below.refl _ _).alloc (Nat.le_refl _) _
          have b0 : (wr.alloc (.cells #[.int .i64 3, .string T, .int .i64 ps] 35)).cell? ⟨wr.heap.size, 0, none⟩ = some (.int .i64 3) := by simp
          have b1 : (wr.alloc (.cells #[.int .i64 3, .string T, .int .i64 ps] 35)).cell? ⟨wr.heap.size, 1, none⟩ = some (.string T) := by simp
          have b2 : (wr.alloc (.cells #[.int .i64 3, .string T, .int .i64 ps] 35)).cell? ⟨wr.heap.size, 2, none⟩ = some (.int .i64 ps) := by simp
          replace y0 := cell_later hba y0
          replace y2 := cell_later hba y2
          have HT5 := Lib.hid (HT4.out.later hba)
          have HR5 := Lib.hid (HR4.out.later hba)
          have hbr1 := hbr.trans (hba.mono hbr.size)
          generalize wr.alloc (.cells #[.int .i64 3, .string T, .int .i64 ps] 35) = w1 at *
          clear hba x0 x1 x2 HT4 HR4
          go_big_quiet (fail)
          obtain ⟨w2, hv, hbv⟩ : ∃ v, v = w1.drewN nq ∧ Below w1.heap.size w1 v := ⟨_, rfl, below_draws _ _⟩
          rw [← hv]
          clear hv
          replace b0 := cell_later hbv b0
          replace b1 := cell_later hbv b1
          replace b2 := cell_later hbv b2
          replace y0 := cell_later hbv y0
          replace y2 := cell_later hbv y2
          replace HT5 := Lib.hid (HT5.out.later hbv)
          replace HR5 := Lib.hid (HR5.out.later hbv)
          replace hbr1 := hbr1.trans (hbv.mono hbr1.size)
          obtain ⟨b, off, rfl⟩ := HR5.out.some (by omega)
          have hcv := fun n => conv_sub (HR5.out.later (below_draws w2 n)) ps (ps + T.size) T.size (c - ps) hh2 (by omega)
          rw [HE.out] at hcv
          go_wp2_with fail
          go_big_quiet (fail)
          clear hcv
          obtain ⟨w3, hv, hbv⟩ : ∃ v, v = w2.drewN nq ∧ Below w2.heap.size w2 v := ⟨_, rfl, below_draws _ _⟩
          rw [← hv]
          clear hv
          replace b0 := cell_later hbv b0
          replace b1 := cell_later hbv b1
          replace b2 := cell_later hbv b2
          replace y0 := cell_later hbv y0
          replace y2 := cell_later hbv y2
          replace HT5 := Lib.hid (HT5.out.later hbv)
          replace HR5 := Lib.hid (HR5.out.later hbv)
          replace hbr1 := hbr1.trans (hbv.mono hbr1.size)
          go_wp2_with fail
          go_big_quiet (first | (go_at_call 14; refine Calls.quiet_of_same (hW _)) | fail)
          obtain ⟨w4, hv, hbv⟩ : ∃ v, v = w3.drewN nq ∧ Below w3.heap.size w3 v := ⟨_, rfl, below_draws _ _⟩
          rw [← hv]
          clear hv
          replace b0 := cell_later hbv b0
          replace b1 := cell_later hbv b1
          replace b2 := cell_later hbv b2
          replace y0 := cell_later hbv y0
          replace y2 := cell_later hbv y2
          replace HT5 := Lib.hid (HT5.out.later hbv)
          replace HR5 := Lib.hid (HR5.out.later hbv)
          replace hbr1 := hbr1.trans (hbv.mono hbr1.size)
          go_wp2
          exact ⟨rfl, rfl, rfl, by rw [HX.out]; first | rfl | simp, rfl, rfl, by omega, hbr1, HT5.out, HR5.out⟩
        · subst m2
          rw [hpp2] at y2
          have y9 : ((ps : Int) == (ps : Int)) = true := by simp
          go_wp2_with fail
          have hba : Below wr.heap.size wr (wr.alloc (.cells #[.int .i64 3, .string T, .int .i64 ps] 35)) := (Below.refl _ _).alloc (Nat.le_refl _) _
          have b0 : (wr.alloc (.cells #[.int .i64 3, .string T, .int .i64 ps] 35)).cell? ⟨wr.heap.size, 0, none⟩ = some (.int .i64 3) := by simp
          have b1 : (wr.alloc (.cells #[.int .i64 3, .string T, .int .i64 ps] 35)).cell? ⟨wr.heap.size, 1, none⟩ = some (.string T) := by simp
          have b2 : (wr.alloc (.cells #[.int .i64 3, .string T, .int .i64 ps] 35)).cell? ⟨wr.heap.size, 2, none⟩ = some (.int .i64 ps) := by simp
          replace y0 := cell_later hba y0
          replace y2 := cell_later hba y2
          have HT5 := Lib.hid (HT4.out.later hba)
          have HR5 := Lib.hid (HR4.out.later hba)
          have hbr1 := hbr.trans (hba.mono hbr.size)
          generalize wr.alloc (.cells #[.int .i64 3, .string T, .int .i64 ps] 35) = w1 at *
          clear hba x0 x1 x2 HT4 HR4
          go_big_quiet (fail)
          obtain ⟨w2, hv, hbv⟩ : ∃ v, v = w1.drewN nq ∧ Below w1.heap.size w1 v := ⟨_, rfl, below_draws _ _⟩
          rw [← hv]
          clear hv
          replace b0 := cell_later hbv b0
          replace b1 := cell_later hbv b1
          replace b2 := cell_later hbv b2
          replace y0 := cell_later hbv y0
          replace y2 := cell_later hbv y2
          replace HT5 := Lib.hid (HT5.out.later hbv)
          replace HR5 := Lib.hid (HR5.out.later hbv)
          replace hbr1 := hbr1.trans (hbv.mono hbr1.size)
          obtain ⟨b, off, rfl⟩ := HR5.out.some (by omega)
          have hcv := fun n => conv_sub (HR5.out.later (below_draws w2 n)) ps (ps + T.size) T.size (c - ps) hh2 (by omega)
          rw [HE.out] at hcv
          go_wp2_with fail
          go_big_quiet (fail)
          clear hcv
          obtain ⟨w3, hv, hbv⟩ : ∃ v, v = w2.drewN nq ∧ Below w2.heap.size w2 v := ⟨_, rfl, below_draws _ _⟩
          rw [← hv]
          clear hv
          replace b0 := cell_later hbv b0
          replace b1 := cell_later hbv b1
          replace b2 := cell_later hbv b2
          replace y0 := cell_later hbv y0
          replace y2 := cell_later hbv y2
          replace HT5 := Lib.hid (HT5.out.later hbv)
          replace HR5 := Lib.hid (HR5.out.later hbv)
          replace hbr1 := hbr1.trans (hbv.mono hbr1.size)
          go_wp2_with fail
          go_big_quiet (first | (go_at_call 14; refine Calls.quiet_of_same (hW _)) | fail)
          obtain ⟨w4, hv, hbv⟩ : ∃ v, v = w3.drewN nq ∧ Below w3.heap.size w3 v := ⟨_, rfl, below_draws _ _⟩
          rw [← hv]
          clear hv
          replace b0 := cell_later hbv b0
          replace b1 := cell_later hbv b1
          replace b2 := cell_later hbv b2
          replace y0 := cell_later hbv y0
          replace y2 := cell_later hbv y2
          replace HT5 := Lib.hid (HT5.out.later hbv)
          replace HR5 := Lib.hid (HR5.out.later hbv)
          replace hbr1 := hbr1.trans (hbv.mono hbr1.size)
          go_wp2
          exact ⟨rfl, rfl, rfl, by rw [HX.out]; first | rfl | simp, rfl, rfl, by omega, hbr1, HT5.out, HR5.out⟩
      · have y9 : ((pp : Int) == (ps : Int)) = false := by rw [beq_eq_false_iff_ne]; omega
        have y8 : (pp == ps) = false := by rw [beq_eq_false_iff_ne]; exact hpp2
        clear m2
        go_wp2_with fail
        have hba : Below wr.heap.size wr (wr.alloc (.cells #[.int .i64 3, .string T, .int .i64 ps] 35)) := (Below.refl _ _).alloc (Nat.le_refl _) _
        have b0 : (wr.alloc (.cells #[.int .i64 3, .string T, .int .i64 ps] 35)).cell? ⟨wr.heap.size, 0, none⟩ = some (.int .i64 3) := by simp
        have b1 : (wr.alloc (.cells #[.int .i64 3, .string T, .int .i64 ps] 35)).cell? ⟨wr.heap.size, 1, none⟩ = some (.string T) := by simp
        have b2 : (wr.alloc (.cells #[.int .i64 3, .string T, .int .i64 ps] 35)).cell? ⟨wr.heap.size, 2, none⟩ = some (.int .i64 ps) := by simp
        replace y0 := cell_later hba y0
        replace y2 := cell_later hba y2
        have HT5 := Lib.hid (HT4.out.later hba)
        have HR5 := Lib.hid (HR4.out.later hba)
        have hbr1 := hbr.trans (hba.mono hbr.size)
        generalize wr.alloc (.cells #[.int .i64 3, .string T, .int .i64 ps] 35) = w1 at *
        clear hba x0 x1 x2 HT4 HR4
        go_big_quiet (fail)
        obtain ⟨w2, hv, hbv⟩ : ∃ v, v = w1.drewN nq ∧ Below w1.heap.size w1 v := ⟨_, rfl, below_draws _ _⟩
        rw [← hv]
        clear hv
        replace b0 := cell_later hbv b0
        replace b1 := cell_later hbv b1
        replace b2 := cell_later hbv b2
        replace y0 := cell_later hbv y0
        replace y2 := cell_later hbv y2
        replace HT5 := Lib.hid (HT5.out.later hbv)
        replace HR5 := Lib.hid (HR5.out.later hbv)
        replace hbr1 := hbr1.trans (hbv.mono hbr1.size)
        obtain ⟨b, off, rfl⟩ := HR5.out.some (by omega)
        have hcv := fun n => conv_sub (HR5.out.later (below_draws w2 n)) ps (ps + T.size) T.size (c - ps) hh2 (by omega)
        rw [HE.out] at hcv
        go_wp2_with fail
        go_big_quiet (fail)
        clear hcv
        obtain ⟨w3, hv, hbv⟩ : ∃ v, v = w2.drewN nq ∧ Below w2.heap.size w2 v := ⟨_, rfl, below_draws _ _⟩
        rw [← hv]
        clear hv
        replace b0 := cell_later hbv b0
        replace b1 := cell_later hbv b1
        replace b2 := cell_later hbv b2
        replace y0 := cell_later hbv y0
        replace y2 := cell_later hbv y2
        replace HT5 := Lib.hid (HT5.out.later hbv)
        replace HR5 := Lib.hid (HR5.out.later hbv)
        replace hbr1 := hbr1.trans (hbv.mono hbr1.size)
        go_wp2_with fail
        go_big_quiet (first | (go_at_call 14; refine Calls.quiet_of_same (hW _)) | fail)
        obtain ⟨w4, hv, hbv⟩ : ∃ v, v = w3.drewN nq ∧ Below w3.heap.size w3 v := ⟨_, rfl, below_draws _ _⟩
        rw [← hv]
        clear hv
        replace b0 := cell_later hbv b0
        replace b1 := cell_later hbv b1
        replace b2 := cell_later hbv b2
        replace y0 := cell_later hbv y0
        replace y2 := cell_later hbv y2
        replace HT5 := Lib.hid (HT5.out.later hbv)
        replace HR5 := Lib.hid (HR5.out.later hbv)
        replace hbr1 := hbr1.trans (hbv.mono hbr1.size)
        go_wp2
        exact ⟨rfl, rfl, rfl, by rw [HX.out]; first | rfl | simp, rfl, rfl, by omega, hbr1, HT5.out, HR5.out⟩

set_option maxHeartbeats 64000000 in
theorem shape_5 {body : Code} (hbody : firstLoop (Tryd.f6.body.getD .skip) = some body) {w : World} {s : ByteArray} {A : Option Addr} {c : Nat} {l : List Tk} {g C3 k : Nat} {a : Act} {wr : World} {P : Act → World → Prop} {Q : Exit → Act → World → Prop} (hI : SInv w s A c l g C3 k a wr) (hlt : k < l.length) (hm3 : l.length ≤ C3 ∧ C3 ≤ 9223372036854775807) (hl : s.size ≤ c) (hm : c ≤ 9223372036854775807) (hs7 : s.size ≤ 70000) (HS : Hid (Shp s.data.toList l)) (h9e : ∀ t, l[k]? = some t → t.kind = 9 → k + 1 = l.length) {t : Tk} (ht : l[k]? = some t) (hK0 : t.kind = 5) (hP : ∀ a' w', SInv w s A c l g C3 (k + 1) a' w' → P a' w') :
    Code.wp Tryd.prog body (Exit.then P Q) a wr := by
  have hbd : firstLoop (Tryd.f6.body.getD .skip) = some body := hbody
  simp only [Tryd.f6, Option.getD_some, firstLoop] at hbd
  injection hbd with hbd
  subst hbd
  clear hbody
  cases a with
  | mk tm df =>
    have hdf : df = [] := hI.df
    subst hdf
    obtain ⟨f, hf⟩ := shape_frame tm hI.sz hI.t0 hI.t3 hI.t5 hI.t6
    subst hf
    have hbr := hI.hb
    have HT4 := Lib.hid hI.tk
    have HR4 := Lib.hid hI.bs
    have hsz : s.data.toList.length = s.size := by simp
    have hgd := HS.out.good k t ht
    obtain ⟨g', hge, x0, x1, x2⟩ := HT4.out k t ht
    injection hge with hge
    injection hge with hge
    subst hge
    have hdp : dep (l.take (k + 1)) = dep (l.take k) + delta t := by
      rw [List.take_add_one, ht, dep_app]
      show _ + dep [t] = _
      rw [dep_one]
    have hd1 := HS.out.deep (k + 1) (by omega)
    have hd0 := HS.out.deep k (by omega)
    have h9 := h9e t ht
    have hp1 := hgd.at_
    rw [hsz] at hp1
    clear hI h9e
    obtain ⟨hm4, hm5⟩ := hm3
    have hmono := hgd.mono
    have hbare := hgd.bare
    have hhere := hgd.here
    have hname := hgd.name
    have hword := hgd.word
    obtain ⟨kd, hkd⟩ : ∃ kd, t.kind = kd := ⟨_, rfl⟩
    have hlo := hgd.lo
    have hhi := hgd.hi
    rw [hkd] at x0 hbare hhere hname hword h9 hlo hhi
    have hdl : delta t = if kd = 7 then 1 else if kd = 8 then -1 else 0 := by rw [← hkd]; rfl
    rw [hdl] at hdp
    have hTl : (⟨t.text.toArray⟩ : ByteArray).data.toList = t.text := rfl
    obtain ⟨T, hTe⟩ : ∃ T : ByteArray, (⟨t.text.toArray⟩ : ByteArray) = T := ⟨_, rfl⟩
    rw [hTe] at x1 hTl
    obtain ⟨ps, hps⟩ : ∃ ps, t.pos = ps := ⟨_, rfl⟩
    rw [hps] at x2 hp1 hhere hmono
    have n1 : (k : Int) < (l.length : Int) := by omega
    have n2 : decide ((ps : Int) < 0) = false := decide_eq_false (by omega)
    have n3 : decide ((s.size : Int) < (ps : Int)) = false := decide_eq_false (by omega)
    have n3' : decide (s.size < ps) = false := decide_eq_false (by omega)
    rw [hdp] at hd1
    obtain ⟨dd, hdd⟩ : ∃ dd, dep (l.take k) = dd := ⟨_, rfl⟩
    rw [hdd] at hd0 hd1 ⊢
    have HX := Lib.hid (show dep (l.take (k + 1)) = dd + (if kd = 7 then 1 else if kd = 8 then -1 else 0) by rw [hdp, hdd])
    have hdl1 : dd ≤ k := by rw [← hdd]; have := dep_le (l.take k); rw [List.length_take] at this; omega
    clear hdl hdp hdd hTe hgd
    have hK : kd = 5 := by rw [← hkd]; exact hK0
    clear hK0
    subst hK
    obtain ⟨hh1, hh2, hh3, hh4⟩ := hhere (by omega)
    have hTn : T.size = t.text.length := by rw [← hTl]; simp
    rw [hsz, ← hTn] at hh2
    rw [← hTn] at hh3
    have HE := Lib.hid (show s.extract ps (ps + T.size) = T by
      have h5 : (s.extract ps (ps + T.size)).data.toList = T.data.toList := by rw [ext_list, Nat.add_sub_cancel_left, hh3, hTl]
      have h6 := (text_eq (x := T.data.toList) (s := s.extract ps (ps + T.size))).2 h5.symm
      exact h6.symm.trans ((text_eq (x := T.data.toList) (s := T)).2 rfl))
    have hTpos : 1 ≤ T.size := by rw [hTn]; cases ht1 : t.text with | nil => exact absurd ht1 hh1 | cons a b => simp
    have e0 := ne_lit hTl hh1
    have e0' : T.toList.isEmpty = false := by rw [Lib.toList_data, hTl]; cases ht1 : t.text with | nil => exact absurd ht1 hh1 | cons a b => rfl
    have x9 : (T.toList != T.toList) = false := by simp
    have iw : IntKind.i64.wrap ((ps : Int) + (T.size : Int)) = (ps : Int) + (T.size : Int) := by rw [IntKind.wrap_i64]; omega
    have p1 : decide ((s.size : Int) < (ps : Int) + (T.size : Int)) = false := decide_eq_false (by omega)
    have p2 : decide (s.size < ps + T.size) = false := decide_eq_false (by omega)
    have p3 : (0 : Int) ≤ (ps : Int) := by omega
    have p4 : (ps : Int) ≤ (ps : Int) + (T.size : Int) := by omega
    have p5 : (ps : Int) + (T.size : Int) ≤ (c : Int) := by omega
    have p6 : ps + T.size ≤ c := by omega
    have p7 : ¬ (ps = c) := by omega
    have hW : ∀ W, Calls Tryd.prog 14 #[.string T] W fun e w' => e = .returned (.bool (wordB T.data.toList)) ∧ w' = W := fun W => (lxWord_ok T W).mono fun e w' h => ⟨h.1, h.2.symm⟩
    by_cases hk0 : k = 0
    · subst hk0
      clear hh4 hhere
      clear hmono hname hword hbare h9 hlo hhi hTn hTl hh1 hh3
      go_wp2_with fail
      have hba : Below wr.heap.size wr (wr.alloc (.cells #[.int .i64 5, .string T, .int .i64 ps] 35)) := (Below.refl _ _).alloc (Nat.le_refl _) _
      have b0 : (wr.alloc (.cells #[.int .i64 5, .string T, .int .i64 ps] 35)).cell? ⟨wr.heap.size, 0, none⟩ = some (.int .i64 5) := by simp
      have b1 : (wr.alloc (.cells #[.int .i64 5, .string T, .int .i64 ps] 35)).cell? ⟨wr.heap.size, 1, none⟩ = some (.string T) := by simp
      have b2 : (wr.alloc (.cells #[.int .i64 5, .string T, .int .i64 ps] 35)).cell? ⟨wr.heap.size, 2, none⟩ = some (.int .i64 ps) := by simp
      have HT5 := Lib.hid (HT4.out.later hba)
      have HR5 := Lib.hid (HR4.out.later hba)
      have hbr1 := hbr.trans (hba.mono hbr.size)
      generalize wr.alloc (.cells #[.int .i64 5, .string T, .int .i64 ps] 35) = w1 at *
      clear hba x0 x1 x2 HT4 HR4
      go_big_quiet (fail)
      obtain ⟨w2, hv, hbv⟩ : ∃ v, v = w1.drewN nq ∧ Below w1.heap.size w1 v := ⟨_, rfl, below_draws _ _⟩
      rw [← hv]
      clear hv
      replace b0 := cell_later hbv b0
      replace b1 := cell_later hbv b1
      replace b2 := cell_later hbv b2
      replace HT5 := Lib.hid (HT5.out.later hbv)
      replace HR5 := Lib.hid (HR5.out.later hbv)
      replace hbr1 := hbr1.trans (hbv.mono hbr1.size)
      obtain ⟨b, off, rfl⟩ := HR5.out.some (by omega)
      have hcv := fun n => conv_sub (HR5.out.later (below_draws w2 n)) ps (ps + T.size) T.size (c - ps) hh2 (by omega)
      rw [HE.out] at hcv
      go_wp2_with fail
      go_big_quiet (fail)
      clear hcv
      obtain ⟨w3, hv, hbv⟩ : ∃ v, v = w2.drewN nq ∧ Below w2.heap.size w2 v := ⟨_, rfl, below_draws _ _⟩
      rw [← hv]
      clear hv
      replace b0 := cell_later hbv b0
      replace b1 := cell_later hbv b1
      replace b2 := cell_later hbv b2
      replace HT5 := Lib.hid (HT5.out.later hbv)
      replace HR5 := Lib.hid (HR5.out.later hbv)
      replace hbr1 := hbr1.trans (hbv.mono hbr1.size)
      go_wp2_with fail
      go_big_quiet (first | (go_at_call 14; refine Calls.quiet_of_same (hW _)) | fail)
      obtain ⟨w4, hv, hbv⟩ : ∃ v, v = w3.drewN nq ∧ Below w3.heap.size w3 v := ⟨_, rfl, below_draws _ _⟩
      rw [← hv]
      clear hv
      replace b0 := cell_later hbv b0
      replace b1 := cell_later hbv b1
      replace b2 := cell_later hbv b2
      replace HT5 := Lib.hid (HT5.out.later hbv)
      replace HR5 := Lib.hid (HR5.out.later hbv)
      replace hbr1 := hbr1.trans (hbv.mono hbr1.size)
      go_wp2
      exact ⟨rfl, rfl, rfl, by rw [HX.out]; first | rfl | simp, rfl, rfl, by omega, hbr1, HT5.out, HR5.out⟩
    · obtain ⟨q, hq⟩ : ∃ q, l[k - 1]? = some q := ⟨_, List.getElem?_eq_getElem (by omega)⟩
      have hqp : prevOf l k = some q := by unfold prevOf; rw [if_neg hk0]; exact hq
      have m1 := hmono q hqp
      obtain ⟨g2, hge2, y0, y1, y2⟩ := HT4.out (k - 1) q hq
      injection hge2 with hge2
      injection hge2 with hge2
      subst hge2
      obtain ⟨pp, hpp⟩ : ∃ pp, q.pos = pp := ⟨_, rfl⟩
      obtain ⟨pk, hpk⟩ : ∃ pk, q.kind = pk := ⟨_, rfl⟩
      rw [hpp] at m1 y2
      rw [hpk] at y0
      have n7 : decide ((ps : Int) < (pp : Int)) = false := decide_eq_false (by omega)
      have n7' : decide (ps < pp) = false := decide_eq_false (by omega)
      have n8' : decide (0 < k) = true := decide_eq_true (by omega)
      have n8 : decide (0 < (k : Int)) = true := decide_eq_true (by omega)
      have n9 : (k : Int) - 1 = ((k - 1 : Nat) : Int) := by omega
      have n10 : (0 : Int) ≤ ((k - 1 : Nat) : Int) := by omega
      have n11 : ((k - 1 : Nat) : Int) < (l.length : Int) := by omega
      have n12 : ((k - 1 : Nat) : Int) < (l.length : Int) := by omega
      have m2 := hh4 q hqp
      rw [hpp, hpk] at m2
      clear hmono hname hword hbare h9 hlo hhi hTn hTl hh1 hh3 hh4 hhere hqp hq hpp hpk
      by_cases hpp2 : pp = ps
      · rcases m2 with m2 | m2 | m2
        · omega
        · subst m2
          rw [hpp2] at y2
          have y9 : ((ps : Int) == (ps : Int)) = true := by simp
          go_wp2_with fail
          have hba : Below wr.heap.size wr (wr.alloc (.cells #[.int .i64 5, .string T, .int .i64 ps] 35)) := (Below.refl _ _).alloc (Nat.le_refl _) _
          have b0 : (wr.alloc (.cells #[.int .i64 5, .string T, .int .i64 ps] 35)).cell? ⟨wr.heap.size, 0, none⟩ = some (.int .i64 5) := by simp
          have b1 : (wr.alloc (.cells #[.int .i64 5, .string T, .int .i64 ps] 35)).cell? ⟨wr.heap.size, 1, none⟩ = some (.string T) := by simp
          have b2 : (wr.alloc (.cells #[.int .i64 5, .string T, .int .i64 ps] 35)).cell? ⟨wr.heap.size, 2, none⟩ = some (.int .i64 ps) := by simp
          replace y0 := cell_later hba y0
          replace y2 := cell_later hba y2
          have HT5 := Lib.hid (HT4.out.later hba)
          have HR5 := Lib.hid (HR4.out.later hba)
          have hbr1 := hbr.trans (hba.mono hbr.size)
          generalize wr.alloc (.cells #[.int .i64 5, .string T, .int .i64 ps] 35) = w1 at *
          clear hba x0 x1 x2 HT4 HR4
          go_big_quiet (fail)
          obtain ⟨w2, hv, hbv⟩ : ∃ v, v = w1.drewN nq ∧ Below w1.heap.size w1 v := ⟨_, rfl, below_draws _ _⟩
          rw [← hv]
          clear hv
          replace b0 := cell_later hbv b0
          replace b1 := cell_later hbv b1
          replace b2 := cell_later hbv b2
          replace y0 := cell_later hbv y0
          replace y2 := cell_later hbv y2
          replace HT5 := Lib.hid (HT5.out.later hbv)
          replace HR5 := Lib.hid (HR5.out.later hbv)
          replace hbr1 := hbr1.trans (hbv.mono hbr1.size)
          obtain ⟨b, off, rfl⟩ := HR5.out.some (by omega)
          have hcv := fun n => conv_sub (HR5.out.later (below_draws w2 n)) ps (ps + T.size) T.size (c - ps) hh2 (by omega)
          rw [HE.out] at hcv
          go_wp2_with fail
          go_big_quiet (fail)
          clear hcv
          obtain ⟨w3, hv, hbv⟩ : ∃ v, v = w2.drewN nq ∧ Below w2.heap.size w2 v := ⟨_, rfl, below_draws _ _⟩
          rw [← hv]
          clear hv
          replace b0 := cell_later hbv b0
          replace b1 := cell_later hbv b1
          replace b2 := cell_later hbv b2
          replace y0 := cell_later hbv y0
          replace y2 := cell_later hbv y2
          replace HT5 := Lib.hid (HT5.out.later hbv)
          replace HR5 := Lib.hid (HR5.out.later hbv)
          replace hbr1 := hbr1.trans (hbv.mono hbr1.size)
          go_wp2_with fail
          go_big_quiet (first | (go_at_call 14; refine Calls.quiet_of_same (hW _)) | fail)
          obtain ⟨w4, hv, hbv⟩ : ∃ v, v = w3.drewN nq ∧ Below w3.heap.size w3 v := ⟨_, rfl, below_draws _ _⟩
          rw [← hv]
          clear hv
          replace b0 := cell_later hbv b0
          replace b1 := cell_later hbv b1
          replace b2 := cell_later hbv b2
          replace y0 := cell_later hbv y0
          replace y2 := cell_later hbv y2
          replace HT5 := Lib.hid (HT5.out.later hbv)
          replace HR5 := Lib.hid (HR5.out.later hbv)
          replace hbr1 := hbr1.trans (hbv.mono hbr1.size)
          go_wp2
          exact ⟨rfl, rfl, rfl, by rw [HX.out]; first | rfl | simp, rfl, rfl, by omega, hbr1, HT5.out, HR5.out⟩
        · subst m2
          rw [hpp2] at y2
          have y9 : ((ps : Int) == (ps : Int)) = true := by simp
          go_wp2_with fail
          have hba : Below wr.heap.size wr (wr.alloc (.cells #[.int .i64 5, .string T, .int .i64 ps] 35)) := (Below.refl _ _).alloc (Nat.le_refl _) _
          have b0 : (wr.alloc (.cells #[.int .i64 5, .string T, .int .i64 ps] 35)).cell? ⟨wr.heap.size, 0, none⟩ = some (.int .i64 5) := by simp
          have b1 : (wr.alloc (.cells #[.int .i64 5, .string T, .int .i64 ps] 35)).cell? ⟨wr.heap.size, 1, none⟩ = some (.string T) := by simp
          have b2 : (wr.alloc (.cells #[.int .i64 5, .string T, .int .i64 ps] 35)).cell? ⟨wr.heap.size, 2, none⟩ = some (.int .i64 ps) := by simp
          replace y0 := cell_later hba y0
          replace y2 := cell_later hba y2
          have HT5 := Lib.hid (HT4.out.later hba)
          have HR5 := Lib.hid (HR4.out.later hba)
          have hbr1 := hbr.trans (hba.mono hbr.size)
          generalize wr.alloc (.cells #[.int .i64 5, .string T, .int .i64 ps] 35) = w1 at *
          clear hba x0 x1 x2 HT4 HR4
          go_big_quiet (fail)
          obtain ⟨w2, hv, hbv⟩ : ∃ v, v = w1.drewN nq ∧ Below w1.heap.size w1 v := ⟨_, rfl, below_draws _ _⟩
          rw [← hv]
          clear hv
          replace b0 := cell_later hbv b0
          replace b1 := cell_later hbv b1
          replace b2 := cell_later hbv b2
          replace y0 := cell_later hbv y0
          replace y2 := cell_later hbv y2
          replace HT5 := Lib.hid (HT5.out.later hbv)
          replace HR5 := Lib.hid (HR5.out.later hbv)
          replace hbr1 := hbr1.trans (hbv.mono hbr1.size)
          obtain ⟨b, off, rfl⟩ := HR5.out.some (by omega)
          have hcv := fun n => conv_sub (HR5.out.later (below_draws w2 n)) ps (ps + T.size) T.size (c - ps) hh2 (by omega)
          rw [HE.out] at hcv
          go_wp2_with fail
          go_big_quiet (fail)
          clear hcv
          obtain ⟨w3, hv, hbv⟩ : ∃ v, v = w2.drewN nq ∧ Below w2.heap.size w2 v := ⟨_, rfl, below_draws _ _⟩
          rw [← hv]
          clear hv
          replace b0 := cell_later hbv b0
          replace b1 := cell_later hbv b1
          replace b2 := cell_later hbv b2
          replace y0 := cell_later hbv y0
          replace y2 := cell_later hbv y2
          replace HT5 := Lib.hid (HT5.out.later hbv)
          replace HR5 := Lib.hid (HR5.out.later hbv)
          replace hbr1 := hbr1.trans (hbv.mono hbr1.size)
          go_wp2_with fail
          go_big_quiet (first | (go_at_call 14; refine Calls.quiet_of_same (hW _)) | fail)
          obtain ⟨w4, hv, hbv⟩ : ∃ v, v = w3.drewN nq ∧ Below w3.heap.size w3 v := ⟨_, rfl, below_draws _ _⟩
          rw [← hv]
          clear hv
          replace b0 := cell_later hbv b0
          replace b1 := cell_later hbv b1
          replace b2 := cell_later hbv b2
          replace y0 := cell_later hbv y0
          replace y2 := cell_later hbv y2
          replace HT5 := Lib.hid (HT5.out.later hbv)
          replace HR5 := Lib.hid (HR5.out.later hbv)
          replace hbr1 := hbr1.trans (hbv.mono hbr1.size)
          go_wp2
          exact ⟨rfl, rfl, rfl, by rw [HX.out]; first | rfl | simp, rfl, rfl, by omega, hbr1, HT5.out, HR5.out⟩
      · have y9 : ((pp : Int) == (ps : Int)) = false := by rw [beq_eq_false_iff_ne]; omega
        have y8 : (pp == ps) = false := by rw [beq_eq_false_iff_ne]; exact hpp2
        clear m2
        go_wp2_with fail
        have hba : Below wr.heap.size wr (wr.alloc (.cells #[.int .i64 5, .string T, .int .i64 ps] 35)) := (Below.refl _ _).alloc (Nat.le_refl _) _
        have b0 : (wr.alloc (.cells #[.int .i64 5, .string T, .int .i64 ps] 35)).cell? ⟨wr.heap.size, 0, none⟩ = some (.int .i64 5) := by simp
        have b1 : (wr.alloc (.cells #[.int .i64 5, .string T, .int .i64 ps] 35)).cell? ⟨wr.heap.size, 1, none⟩ = some (.string T) := by simp
        have b2 : (wr.alloc (.cells #[.int .i64 5, .string T, .int .i64 ps] 35)).cell? ⟨wr.heap.size, 2, none⟩ = some (.int .i64 ps) := by simp
        replace y0 := cell_later hba y0
        replace y2 := cell_later hba y2
        have HT5 := Lib.hid (HT4.out.later hba)
        have HR5 := Lib.hid (HR4.out.later hba)
        have hbr1 := hbr.trans (hba.mono hbr.size)
        generalize wr.alloc (.cells #[.int .i64 5, .string T, .int .i64 ps] 35) = w1 at *
        clear hba x0 x1 x2 HT4 HR4
        go_big_quiet (fail)
        obtain ⟨w2, hv, hbv⟩ : ∃ v, v = w1.drewN nq ∧ Below w1.heap.size w1 v := ⟨_, rfl, below_draws _ _⟩
        rw [← hv]
        clear hv
        replace b0 := cell_later hbv b0
        replace b1 := cell_later hbv b1
        replace b2 := cell_later hbv b2
        replace y0 := cell_later hbv y0
        replace y2 := cell_later hbv y2
        replace HT5 := Lib.hid (HT5.out.later hbv)
        replace HR5 := Lib.hid (HR5.out.later hbv)
        replace hbr1 := hbr1.trans (hbv.mono hbr1.size)
        obtain ⟨b, off, rfl⟩ := HR5.out.some (by omega)
        have hcv := fun n => conv_sub (HR5.out.later (below_draws w2 n)) ps (ps + T.size) T.size (c - ps) hh2 (by omega)
        rw [HE.out] at hcv
        go_wp2_with fail
        go_big_quiet (fail)
        clear hcv
        obtain ⟨w3, hv, hbv⟩ : ∃ v, v = w2.drewN nq ∧ Below w2.heap.size w2 v := ⟨_, rfl, below_draws _ _⟩
        rw [← hv]
        clear hv
        replace b0 := cell_later hbv b0
        replace b1 := cell_later hbv b1
        replace b2 := cell_later hbv b2
        replace y0 := cell_later hbv y0
        replace y2 := cell_later hbv y2
        replace HT5 := Lib.hid (HT5.out.later hbv)
        replace HR5 := Lib.hid (HR5.out.later hbv)
        replace hbr1 := hbr1.trans (hbv.mono hbr1.size)
        go_wp2_with fail
        go_big_quiet (first | (go_at_call 14; refine Calls.quiet_of_same (hW _)) | fail)
        obtain ⟨w4, hv, hbv⟩ : ∃ v, v = w3.drewN nq ∧ Below w3.heap.size w3 v := ⟨_, rfl, below_draws _ _⟩
        rw [← hv]
        clear hv
        replace b0 := cell_later hbv b0
        replace b1 := cell_later hbv b1
        replace b2 := cell_later hbv b2
        replace y0 := cell_later hbv y0
        replace y2 := cell_later hbv y2
        replace HT5 := Lib.hid (HT5.out.later hbv)
        replace HR5 := Lib.hid (HR5.out.later hbv)
        replace hbr1 := hbr1.trans (hbv.mono hbr1.size)
        go_wp2
        exact ⟨rfl, rfl, rfl, by rw [HX.out]; first | rfl | simp, rfl, rfl, by omega, hbr1, HT5.out, HR5.out⟩
end Go.Proofs.YtgheejogpbhokaaDoor
