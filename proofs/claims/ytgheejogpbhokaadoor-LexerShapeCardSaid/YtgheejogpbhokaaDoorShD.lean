/- LexerShape: a round at a text and at the bare tokens. -/
import Derived.Test.YtgheejogpbhokaaDoorShP
namespace Go.Proofs.YtgheejogpbhokaaDoor
set_option linter.unusedVariables false
set_option linter.unusedSimpArgs false
open Go.RowKit
set_option maxRecDepth 1000000

set_option maxHeartbeats 64000000 in
theorem shape_4 {body : Code} (hbody : firstLoop (Tryd.f6.body.getD .skip) = some body) {w : World} {s : ByteArray} {A : Option Addr} {c : Nat} {l : List Tk} {g C3 k : Nat} {a : Act} {wr : World} {P : Act → World → Prop} {Q : Exit → Act → World → Prop} (hI : SInv w s A c l g C3 k a wr) (hlt : k < l.length) (hm3 : l.length ≤ C3 ∧ C3 ≤ 9223372036854775807) (hl : s.size ≤ c) (hm : c ≤ 9223372036854775807) (hs7 : s.size ≤ 70000) (HS : Hid (Shp s.data.toList l)) (h9e : ∀ t, l[k]? = some t → t.kind = 9 → k + 1 = l.length) {t : Tk} (ht : l[k]? = some t) (hK0 : t.kind = 4) (hP : ∀ a' w', SInv w s A c l g C3 (k + 1) a' w' → P a' w') :
    Code.wp Tryd.prog body (Exit.then P Q) a wr := by
  have hbd : firstLoop (Tryd.f6.body.getD .skip) = some body := hbody
  simp only [Tryd.f6, Option.getD_some, firstLoop] at hbd
  injection hbd with hbd
  subst hbd
  clear hbody
  cases a with
  | mk tm df =>
    have hdf : df = [] := hI.df
    subst hdf
    obtain ⟨f, hf⟩ := shape_frame tm hI.sz hI.t0 hI.t3 hI.t5 hI.t6
    subst hf
    have hbr := hI.hb
    have HT4 := Lib.hid hI.tk
    have HR4 := Lib.hid hI.bs
    have hsz : s.data.toList.length = s.size := by simp
    have hgd := HS.out.good k t ht
    obtain ⟨g', hge, x0, x1, x2⟩ := HT4.out k t ht
    injection hge with hge
    injection hge with hge
    subst hge
    have hdp : dep (l.take (k + 1)) = dep (l.take k) + delta t := by
      rw [List.take_add_one, ht, dep_app]
      show _ + dep [t] = _
      rw [dep_one]
    have hd1 := HS.out.deep (k + 1) (by omega)
    have hd0 := HS.out.deep k (by omega)
    have h9 := h9e t ht
    have hp1 := hgd.at_
    rw [hsz] at hp1
    clear hI h9e
    obtain ⟨hm4, hm5⟩ := hm3
    have hmono := hgd.mono
    have hbare := hgd.bare
    have hhere := hgd.here
    have hname := hgd.name
    have hword := hgd.word
    obtain ⟨kd, hkd⟩ : ∃ kd, t.kind = kd := ⟨_, rfl⟩
    have hlo := hgd.lo
    have hhi := hgd.hi
    rw [hkd] at x0 hbare hhere hname hword h9 hlo hhi
    have hdl : delta t = if kd = 7 then 1 else if kd = 8 then -1 else 0 := by rw [← hkd]; rfl
    rw [hdl] at hdp
    have hTl : (⟨t.text.toArray⟩ : ByteArray).data.toList = t.text := rfl
    obtain ⟨T, hTe⟩ : ∃ T : ByteArray, (⟨t.text.toArray⟩ : ByteArray) = T := ⟨_, rfl⟩
    rw [hTe] at x1 hTl
    obtain ⟨ps, hps⟩ : ∃ ps, t.pos = ps := ⟨_, rfl⟩
    rw [hps] at x2 hp1 hhere hmono
    have n1 : (k : Int) < (l.length : Int) := by omega
    have n2 : decide ((ps : Int) < 0) = false := decide_eq_false (by omega)
    have n3 : decide ((s.size : Int) < (ps : Int)) = false := decide_eq_false (by omega)
    have n3' : decide (s.size < ps) = false := decide_eq_false (by omega)
    rw [hdp] at hd1
    obtain ⟨dd, hdd⟩ : ∃ dd, dep (l.take k) = dd := ⟨_, rfl⟩
    rw [hdd] at hd0 hd1 ⊢
    have HX := Lib.hid (show dep (l.take (k + 1)) = dd + (if kd = 7 then 1 else if kd = 8 then -1 else 0) by rw [hdp, hdd])
    have hdl1 : dd ≤ k := by rw [← hdd]; have := dep_le (l.take k); rw [List.length_take] at this; omega
    clear hdl hdp hdd hTe hgd
    have hK : kd = 4 := by rw [← hkd]; exact hK0
    clear hK0
    subst hK
    by_cases hk0 : k = 0
    · subst hk0
      clear hhere hmono hname hword hbare h9 hlo hhi hTl
      go_wp2_with fail
      have hba : Below wr.heap.size wr (wr.alloc (.cells #[.int .i64 4, .string T, .int .i64 ps] 35)) := (Below.refl _ _).alloc (Nat.le_refl _) _
      have b0 : (wr.alloc (.cells #[.int .i64 4, .string T, .int .i64 ps] 35)).cell? ⟨wr.heap.size, 0, none⟩ = some (.int .i64 4) := by simp
      have b1 : (wr.alloc (.cells #[.int .i64 4, .string T, .int .i64 ps] 35)).cell? ⟨wr.heap.size, 1, none⟩ = some (.string T) := by simp
      have b2 : (wr.alloc (.cells #[.int .i64 4, .string T, .int .i64 ps] 35)).cell? ⟨wr.heap.size, 2, none⟩ = some (.int .i64 ps) := by simp
      have HT5 := Lib.hid (HT4.out.later hba)
      have HR5 := Lib.hid (HR4.out.later hba)
      have hbr1 := hbr.trans (hba.mono hbr.size)
      generalize wr.alloc (.cells #[.int .i64 4, .string T, .int .i64 ps] 35) = w1 at *
      clear hba x0 x1 x2 HT4 HR4
      go_big_quiet (fail)
      obtain ⟨w2, hv, hbv⟩ : ∃ v, v = w1.drewN nq ∧ Below w1.heap.size w1 v := ⟨_, rfl, below_draws _ _⟩
      rw [← hv]
      clear hv
      replace b0 := cell_later hbv b0
      replace b1 := cell_later hbv b1
      replace b2 := cell_later hbv b2
      replace HT5 := Lib.hid (HT5.out.later hbv)
      replace HR5 := Lib.hid (HR5.out.later hbv)
      replace hbr1 := hbr1.trans (hbv.mono hbr1.size)
      go_wp2
      exact ⟨rfl, rfl, rfl, by rw [HX.out]; first | rfl | simp, rfl, rfl, by omega, hbr1, HT5.out, HR5.out⟩
    · obtain ⟨q, hq⟩ : ∃ q, l[k - 1]? = some q := ⟨_, List.getElem?_eq_getElem (by omega)⟩
      have hqp : prevOf l k = some q := by unfold prevOf; rw [if_neg hk0]; exact hq
      have m1 := hmono q hqp
      obtain ⟨g2, hge2, y0, y1, y2⟩ := HT4.out (k - 1) q hq
      injection hge2 with hge2
      injection hge2 with hge2
      subst hge2
      obtain ⟨pp, hpp⟩ : ∃ pp, q.pos = pp := ⟨_, rfl⟩
      obtain ⟨pk, hpk⟩ : ∃ pk, q.kind = pk := ⟨_, rfl⟩
      rw [hpp] at m1 y2
      rw [hpk] at y0
      have n7 : decide ((ps : Int) < (pp : Int)) = false := decide_eq_false (by omega)
      have n7' : decide (ps < pp) = false := decide_eq_false (by omega)
      have n8' : decide (0 < k) = true := decide_eq_true (by omega)
      have n8 : decide (0 < (k : Int)) = true := decide_eq_true (by omega)
      have n9 : (k : Int) - 1 = ((k - 1 : Nat) : Int) := by omega
      have n10 : (0 : Int) ≤ ((k - 1 : Nat) : Int) := by omega
      have n11 : ((k - 1 : Nat) : Int) < (l.length : Int) := by omega
      have n12 : ((k - 1 : Nat) : Int) < (l.length : Int) := by omega
      clear hhere hmono hname hword hbare h9 hlo hhi hqp hq hpp hpk hTl
      go_wp2_with fail
      have hba : Below wr.heap.size wr (wr.alloc (.cells #[.int .i64 4, .string T, .int .i64 ps] 35)) := (Below.refl _ _).alloc (Nat.le_refl _) _
      have b0 : (wr.alloc (.cells #[.int .i64 4, .string T, .int .i64 ps] 35)).cell? ⟨wr.heap.size, 0, none⟩ = some (.int .i64 4) := by simp
      have b1 : (wr.alloc (.cells #[.int .i64 4, .string T, .int .i64 ps] 35)).cell? ⟨wr.heap.size, 1, none⟩ = some (.string T) := by simp
      have b2 : (wr.alloc (.cells #[.int .i64 4, .string T, .int .i64 ps] 35)).cell? ⟨wr.heap.size, 2, none⟩ = some (.int .i64 ps) := by simp
      replace y0 := cell_later hba y0
      replace y2 := cell_later hba y2
      have HT5 := Lib.hid (HT4.out.later hba)
      have HR5 := Lib.hid (HR4.out.later hba)
      have hbr1 := hbr.trans (hba.mono hbr.size)
      generalize wr.alloc (.cells #[.int .i64 4, .string T, .int .i64 ps] 35) = w1 at *
      clear hba x0 x1 x2 HT4 HR4
      go_big_quiet (fail)
      obtain ⟨w2, hv, hbv⟩ : ∃ v, v = w1.drewN nq ∧ Below w1.heap.size w1 v := ⟨_, rfl, below_draws _ _⟩
      rw [← hv]
      clear hv
      replace b0 := cell_later hbv b0
      replace b1 := cell_later hbv b1
      replace b2 := cell_later hbv b2
      replace y0 := cell_later hbv y0
      replace y2 := cell_later hbv y2
      replace HT5 := Lib.hid (HT5.out.later hbv)
      replace HR5 := Lib.hid (HR5.out.later hbv)
      replace hbr1 := hbr1.trans (hbv.mono hbr1.size)
      go_wp2
      exact ⟨rfl, rfl, rfl, by rw [HX.out]; first | rfl | simp, rfl, rfl, by omega, hbr1, HT5.out, HR5.out⟩

set_option maxHeartbeats 64000000 in
theorem shape_6 {body : Code} (hbody : firstLoop (Tryd.f6.body.getD .skip) = some body) {w : World} {s : ByteArray} {A : Option Addr} {c : Nat} {l : List Tk} {g C3 k : Nat} {a : Act} {wr : World} {P : Act → World → Prop} {Q : Exit → Act → World → Prop} (hI : SInv w s A c l g C3 k a wr) (hlt : k < l.length) (hm3 : l.length ≤ C3 ∧ C3 ≤ 9223372036854775807) (hl : s.size ≤ c) (hm : c ≤ 9223372036854775807) (hs7 : s.size ≤ 70000) (HS : Hid (Shp s.data.toList l)) (h9e : ∀ t, l[k]? = some t → t.kind = 9 → k + 1 = l.length) {t : Tk} (ht : l[k]? = some t) (hK0 : t.kind = 6) (hP : ∀ a' w', SInv w s A c l g C3 (k + 1) a' w' → P a' w') :
    Code.wp Tryd.prog body (Exit.then P Q) a wr := by
  have hbd : firstLoop (Tryd.f6.body.getD .skip) = some body := hbody
  simp only [Tryd.f6, Option.getD_some, firstLoop] at hbd
  injection hbd with hbd
  subst hbd
  clear hbody
  cases a with
  | mk tm df =>
    have hdf : df = [] := hI.df
    subst hdf
    obtain ⟨f, hf⟩ := shape_frame tm hI.sz hI.t0 hI.t3 hI.t5 hI.t6
    subst hf
    have hbr := hI.hb
    have HT4 := Lib.hid hI.tk
    have HR4 := Lib.hid hI.bs
    have hsz : s.data.toList.length = s.size := by simp
    have hgd := HS.out.good k t ht
    obtain ⟨g', hge, x0, x1, x2⟩ := HT4.out k t ht
    injection hge with hge
    injection hge with hge
    subst hge
    have hdp : dep (l.take (k + 1)) = dep (l.take k) + delta t := by
      rw [List.take_add_one, ht, dep_app]
      show _ + dep [t] = _
      rw [dep_one]
    have hd1 := HS.out.deep (k + 1) (by omega)
    have hd0 := HS.out.deep k (by omega)
    have h9 := h9e t ht
    have hp1 := hgd.at_
    rw [hsz] at hp1
    clear hI h9e
    obtain ⟨hm4, hm5⟩ := hm3
    have hmono := hgd.mono
    have hbare := hgd.bare
    have hhere := hgd.here
    have hname := hgd.name
    have hword := hgd.word
    obtain ⟨kd, hkd⟩ : ∃ kd, t.kind = kd := ⟨_, rfl⟩
    have hlo := hgd.lo
    have hhi := hgd.hi
    rw [hkd] at x0 hbare hhere hname hword h9 hlo hhi
    have hdl : delta t = if kd = 7 then 1 else if kd = 8 then -1 else 0 := by rw [← hkd]; rfl
    rw [hdl] at hdp
    have hTl : (⟨t.text.toArray⟩ : ByteArray).data.toList = t.text := rfl
    obtain ⟨T, hTe⟩ : ∃ T : ByteArray, (⟨t.text.toArray⟩ : ByteArray) = T := ⟨_, rfl⟩
    rw [hTe] at x1 hTl
    obtain ⟨ps, hps⟩ : ∃ ps, t.pos = ps := ⟨_, rfl⟩
    rw [hps] at x2 hp1 hhere hmono
    have n1 : (k : Int) < (l.length : Int) := by omega
    have n2 : decide ((ps : Int) < 0) = false := decide_eq_false (by omega)
    have n3 : decide ((s.size : Int) < (ps : Int)) = false := decide_eq_false (by omega)
    have n3' : decide (s.size < ps) = false := decide_eq_false (by omega)
    rw [hdp] at hd1
    obtain ⟨dd, hdd⟩ : ∃ dd, dep (l.take k) = dd := ⟨_, rfl⟩
    rw [hdd] at hd0 hd1 ⊢
    have HX := Lib.hid (show dep (l.take (k + 1)) = dd + (if kd = 7 then 1 else if kd = 8 then -1 else 0) by rw [hdp, hdd])
    have hdl1 : dd ≤ k := by rw [← hdd]; have := dep_le (l.take k); rw [List.length_take] at this; omega
    clear hdl hdp hdd hTe hgd
    have hK : kd = 6 := by rw [← hkd]; exact hK0
    clear hK0
    subst hK
    have hTn : T = ⟨#[]⟩ := lit_nil (by rw [hTl, hbare (by decide)])
    subst hTn
    by_cases hk0 : k = 0
    · subst hk0
      clear hhere hmono hname hword hbare h9 hlo hhi hTl
      go_wp2_with fail
      have hba : Below wr.heap.size wr (wr.alloc (.cells #[.int .i64 6, .string ⟨#[]⟩, .int .i64 ps] 35)) := (Below.refl _ _).alloc (Nat.le_refl _) _
      have b0 : (wr.alloc (.cells #[.int .i64 6, .string ⟨#[]⟩, .int .i64 ps] 35)).cell? ⟨wr.heap.size, 0, none⟩ = some (.int .i64 6) := by simp
      have b1 : (wr.alloc (.cells #[.int .i64 6, .string ⟨#[]⟩, .int .i64 ps] 35)).cell? ⟨wr.heap.size, 1, none⟩ = some (.string ⟨#[]⟩) := by simp
      have b2 : (wr.alloc (.cells #[.int .i64 6, .string ⟨#[]⟩, .int .i64 ps] 35)).cell? ⟨wr.heap.size, 2, none⟩ = some (.int .i64 ps) := by simp
      have HT5 := Lib.hid (HT4.out.later hba)
      have HR5 := Lib.hid (HR4.out.later hba)
      have hbr1 := hbr.trans (hba.mono hbr.size)
      generalize wr.alloc (.cells #[.int .i64 6, .string ⟨#[]⟩, .int .i64 ps] 35) = w1 at *
      clear hba x0 x1 x2 HT4 HR4
      go_big_quiet (fail)
      obtain ⟨w2, hv, hbv⟩ : ∃ v, v = w1.drewN nq ∧ Below w1.heap.size w1 v := ⟨_, rfl, below_draws _ _⟩
      rw [← hv]
      clear hv
      replace b0 := cell_later hbv b0
      replace b1 := cell_later hbv b1
      replace b2 := cell_later hbv b2
      replace HT5 := Lib.hid (HT5.out.later hbv)
      replace HR5 := Lib.hid (HR5.out.later hbv)
      replace hbr1 := hbr1.trans (hbv.mono hbr1.size)
      go_wp2
      exact ⟨rfl, rfl, rfl, by rw [HX.out]; first | rfl | simp, rfl, rfl, by omega, hbr1, HT5.out, HR5.out⟩
    · obtain ⟨q, hq⟩ : ∃ q, l[k - 1]? = some q := ⟨_, List.getElem?_eq_getElem (by omega)⟩
      have hqp : prevOf l k = some q := by unfold prevOf; rw [if_neg hk0]; exact hq
      have m1 := hmono q hqp
      obtain ⟨g2, hge2, y0, y1, y2⟩ := HT4.out (k - 1) q hq
      injection hge2 with hge2
      injection hge2 with hge2
      subst hge2
      obtain ⟨pp, hpp⟩ : ∃ pp, q.pos = pp := ⟨_, rfl⟩
      obtain ⟨pk, hpk⟩ : ∃ pk, q.kind = pk := ⟨_, rfl⟩
      rw [hpp] at m1 y2
      rw [hpk] at y0
      have n7 : decide ((ps : Int) < (pp : Int)) = false := decide_eq_false (by omega)
      have n7' : decide (ps < pp) = false := decide_eq_false (by omega)
      have n8' : decide (0 < k) = true := decide_eq_true (by omega)
      have n8 : decide (0 < (k : Int)) = true := decide_eq_true (by omega)
      have n9 : (k : Int) - 1 = ((k - 1 : Nat) : Int) := by omega
      have n10 : (0 : Int) ≤ ((k - 1 : Nat) : Int) := by omega
      have n11 : ((k - 1 : Nat) : Int) < (l.length : Int) := by omega
      have n12 : ((k - 1 : Nat) : Int) < (l.length : Int) := by omega
      clear hhere hmono hname hword hbare h9 hlo hhi hqp hq hpp hpk hTl
      go_wp2_with fail
      have hba : Below wr.heap.size wr (wr.alloc (.cells #[.int .i64 6, .string ⟨#[]⟩, .int .i64 ps] 35)) := (Below.refl _ _).alloc (Nat.le_refl _) _
      have b0 : (wr.alloc (.cells #[.int .i64 6, .string ⟨#[]⟩, .int .i64 ps] 35)).cell? ⟨wr.heap.size, 0, none⟩ = some (.int .i64 6) := by simp
      have b1 : (wr.alloc (.cells #[.int .i64 6, .string ⟨#[]⟩, .int .i64 ps] 35)).cell? ⟨wr.heap.size, 1, none⟩ = some (.string ⟨#[]⟩) := by simp
      have b2 : (wr.alloc (.cells #[.int .i64 6, .string ⟨#[]⟩, .int .i64 ps] 35)).cell? ⟨wr.heap.size, 2, none⟩ = some (.int .i64 ps) := by simp
      replace y0 := cell_later hba y0
      replace y2 := cell_later hba y2
      have HT5 := Lib.hid (HT4.out.later hba)
      have HR5 := Lib.hid (HR4.out.later hba)
      have hbr1 := hbr.trans (hba.mono hbr.size)
      generalize wr.alloc (.cells #[.int .i64 6, .string ⟨#[]⟩, .int .i64 ps] 35) = w1 at *
      clear hba x0 x1 x2 HT4 HR4
      go_big_quiet (fail)
      obtain ⟨w2, hv, hbv⟩ : ∃ v, v = w1.drewN nq ∧ Below w1.heap.size w1 v := ⟨_, rfl, below_draws _ _⟩
      rw [← hv]
      clear hv
      replace b0 := cell_later hbv b0
      replace b1 := cell_later hbv b1
      replace b2 := cell_later hbv b2
      replace y0 := cell_later hbv y0
      replace y2 := cell_later hbv y2
      replace HT5 := Lib.hid (HT5.out.later hbv)
      replace HR5 := Lib.hid (HR5.out.later hbv)
      replace hbr1 := hbr1.trans (hbv.mono hbr1.size)
      go_wp2
      exact ⟨rfl, rfl, rfl, by rw [HX.out]; first | rfl | simp, rfl, rfl, by omega, hbr1, HT5.out, HR5.out⟩

set_option maxHeartbeats 64000000 in
theorem shape_7 {body : Code} (hbody : firstLoop (Tryd.f6.body.getD .skip) = some body) {w : World} {s : ByteArray} {A : Option Addr} {c : Nat} {l : List Tk} {g C3 k : Nat} {a : Act} {wr : World} {P : Act → World → Prop} {Q : Exit → Act → World → Prop} (hI : SInv w s A c l g C3 k a wr) (hlt : k < l.length) (hm3 : l.length ≤ C3 ∧ C3 ≤ 9223372036854775807) (hl : s.size ≤ c) (hm : c ≤ 9223372036854775807) (hs7 : s.size ≤ 70000) (HS : Hid (Shp s.data.toList l)) (h9e : ∀ t, l[k]? = some t → t.kind = 9 → k + 1 = l.length) {t : Tk} (ht : l[k]? = some t) (hK0 : t.kind = 7) (hP : ∀ a' w', SInv w s A c l g C3 (k + 1) a' w' → P a' w') :
    Code.wp Tryd.prog body (Exit.then P Q) a wr := by
  have hbd : firstLoop (Tryd.f6.body.getD .skip) = some body := hbody
  simp only [Tryd.f6, Option.getD_some, firstLoop] at hbd
  injection hbd with hbd
  subst hbd
  clear hbody
  cases a with
  | mk tm df =>
    have hdf : df = [] := hI.df
    subst hdf
    obtain ⟨f, hf⟩ := shape_frame tm hI.sz hI.t0 hI.t3 hI.t5 hI.t6
    subst hf
    have hbr := hI.hb
    have HT4 := Lib.hid hI.tk
    have HR4 := Lib.hid hI.bs
    have hsz : s.data.toList.length = s.size := by simp
    have hgd := HS.out.good k t ht
    obtain ⟨g', hge, x0, x1, x2⟩ := HT4.out k t ht
    injection hge with hge
    injection hge with hge
    subst hge
    have hdp : dep (l.take (k + 1)) = dep (l.take k) + delta t := by
      rw [List.take_add_one, ht, dep_app]
      show _ + dep [t] = _
      rw [dep_one]
    have hd1 := HS.out.deep (k + 1) (by omega)
    have hd0 := HS.out.deep k (by omega)
    have h9 := h9e t ht
    have hp1 := hgd.at_
    rw [hsz] at hp1
    clear hI h9e
    obtain ⟨hm4, hm5⟩ := hm3
    have hmono := hgd.mono
    have hbare := hgd.bare
    have hhere := hgd.here
    have hname := hgd.name
    have hword := hgd.word
    obtain ⟨kd, hkd⟩ : ∃ kd, t.kind = kd := ⟨_, rfl⟩
    have hlo := hgd.lo
    have hhi := hgd.hi
    rw [hkd] at x0 hbare hhere hname hword h9 hlo hhi
    have hdl : delta t = if kd = 7 then 1 else if kd = 8 then -1 else 0 := by rw [← hkd]; rfl
    rw [hdl] at hdp
    have hTl : (⟨t.text.toArray⟩ : ByteArray).data.toList = t.text := rfl
    obtain ⟨T, hTe⟩ : ∃ T : ByteArray, (⟨t.text.toArray⟩ : ByteArray) = T := ⟨_, rfl⟩
    rw [hTe] at x1 hTl
    obtain ⟨ps, hps⟩ : ∃ ps, t.pos = ps := ⟨_, rfl⟩
    rw [hps] at x2 hp1 hhere hmono
    have n1 : (k : Int) < (l.length : Int) := by omega
    have n2 : decide ((ps : Int) < 0) = false := decide_eq_false (by omega)
    have n3 : decide ((s.size : Int) < (ps : Int)) = false := decide_eq_false (by omega)
    have n3' : decide (s.size < ps) = false := decide_eq_false (by omega)
    rw [hdp] at hd1
    obtain ⟨dd, hdd⟩ : ∃ dd, dep (l.take k) = dd := ⟨_, rfl⟩
    rw [hdd] at hd0 hd1 ⊢
    have HX := Lib.hid (show dep (l.take (k + 1)) = dd + (if kd = 7 then 1 else if kd = 8 then -1 else 0) by rw [hdp, hdd])
    have hdl1 : dd ≤ k := by rw [← hdd]; have := dep_le (l.take k); rw [List.length_take] at this; omega
    clear hdl hdp hdd hTe hgd
    have hK : kd = 7 := by rw [← hkd]; exact hK0
    clear hK0
    subst hK
    have hTn : T = ⟨#[]⟩ := lit_nil (by rw [hTl, hbare (by decide)])
    subst hTn
    by_cases hk0 : k = 0
    · subst hk0
      clear hhere hmono hname hword hbare h9 hlo hhi hTl
      go_wp2_with fail
      have hba : Below wr.heap.size wr (wr.alloc (.cells #[.int .i64 7, .string ⟨#[]⟩, .int .i64 ps] 35)) := (Below.refl _ _).alloc (Nat.le_refl _) _
      have b0 : (wr.alloc (.cells #[.int .i64 7, .string ⟨#[]⟩, .int .i64 ps] 35)).cell? ⟨wr.heap.size, 0, none⟩ = some (.int .i64 7) := by simp
      have b1 : (wr.alloc (.cells #[.int .i64 7, .string ⟨#[]⟩, .int .i64 ps] 35)).cell? ⟨wr.heap.size, 1, none⟩ = some (.string ⟨#[]⟩) := by simp
      have b2 : (wr.alloc (.cells #[.int .i64 7, .string ⟨#[]⟩, .int .i64 ps] 35)).cell? ⟨wr.heap.size, 2, none⟩ = some (.int .i64 ps) := by simp
      have HT5 := Lib.hid (HT4.out.later hba)
      have HR5 := Lib.hid (HR4.out.later hba)
      have hbr1 := hbr.trans (hba.mono hbr.size)
      generalize wr.alloc (.cells #[.int .i64 7, .string ⟨#[]⟩, .int .i64 ps] 35) = w1 at *
      clear hba x0 x1 x2 HT4 HR4
      go_big_quiet (fail)
      obtain ⟨w2, hv, hbv⟩ : ∃ v, v = w1.drewN nq ∧ Below w1.heap.size w1 v := ⟨_, rfl, below_draws _ _⟩
      rw [← hv]
      clear hv
      replace b0 := cell_later hbv b0
      replace b1 := cell_later hbv b1
      replace b2 := cell_later hbv b2
      replace HT5 := Lib.hid (HT5.out.later hbv)
      replace HR5 := Lib.hid (HR5.out.later hbv)
      replace hbr1 := hbr1.trans (hbv.mono hbr1.size)
      go_wp2
      exact ⟨rfl, rfl, rfl, by rw [HX.out]; rfl, rfl, rfl, by omega, hbr1, HT5.out, HR5.out⟩
    · obtain ⟨q, hq⟩ : ∃ q, l[k - 1]? = some q := ⟨_, List.getElem?_eq_getElem (by omega)⟩
      have hqp : prevOf l k = some q := by unfold prevOf; rw [if_neg hk0]; exact hq
      have m1 := hmono q hqp
      obtain ⟨g2, hge2, y0, y1, y2⟩ := HT4.out (k - 1) q hq
      injection hge2 with hge2
      injection hge2 with hge2
      subst hge2
      obtain ⟨pp, hpp⟩ : ∃ pp, q.pos = pp := ⟨_, rfl⟩
      obtain ⟨pk, hpk⟩ : ∃ pk, q.kind = pk := ⟨_, rfl⟩
      rw [hpp] at m1 y2
      rw [hpk] at y0
      have n7 : decide ((ps : Int) < (pp : Int)) = false := decide_eq_false (by omega)
      have n7' : decide (ps < pp) = false := decide_eq_false (by omega)
      have n8' : decide (0 < k) = true := decide_eq_true (by omega)
      have n8 : decide (0 < (k : Int)) = true := decide_eq_true (by omega)
      have n9 : (k : Int) - 1 = ((k - 1 : Nat) : Int) := by omega
      have n10 : (0 : Int) ≤ ((k - 1 : Nat) : Int) := by omega
      have n11 : ((k - 1 : Nat) : Int) < (l.length : Int) := by omega
      have n12 : ((k - 1 : Nat) : Int) < (l.length : Int) := by omega
      clear hhere hmono hname hword hbare h9 hlo hhi hqp hq hpp hpk hTl
      go_wp2_with fail
      have hba : Below wr.heap.size wr (wr.alloc (.cells #[.int .i64 7, .string ⟨#[]⟩, .int .i64 ps] 35)) := (Below.refl _ _).alloc (Nat.le_refl _) _
      have b0 : (wr.alloc (.cells #[.int .i64 7, .string ⟨#[]⟩, .int .i64 ps] 35)).cell? ⟨wr.heap.size, 0, none⟩ = some (.int .i64 7) := by simp
      have b1 : (wr.alloc (.cells #[.int .i64 7, .string ⟨#[]⟩, .int .i64 ps] 35)).cell? ⟨wr.heap.size, 1, none⟩ = some (.string ⟨#[]⟩) := by simp
      have b2 : (wr.alloc (.cells #[.int .i64 7, .string ⟨#[]⟩, .int .i64 ps] 35)).cell? ⟨wr.heap.size, 2, none⟩ = some (.int .i64 ps) := by simp
      replace y0 := cell_later hba y0
      replace y2 := cell_later hba y2
      have HT5 := Lib.hid (HT4.out.later hba)
      have HR5 := Lib.hid (HR4.out.later hba)
      have hbr1 := hbr.trans (hba.mono hbr.size)
      generalize wr.alloc (.cells #[.int .i64 7, .string ⟨#[]⟩, .int .i64 ps] 35) = w1 at *
      clear hba x0 x1 x2 HT4 HR4
      go_big_quiet (fail)
      obtain ⟨w2, hv, hbv⟩ : ∃ v, v = w1.drewN nq ∧ Below w1.heap.size w1 v := ⟨_, rfl, below_draws _ _⟩
      rw [← hv]
      clear hv
      replace b0 := cell_later hbv b0
      replace b1 := cell_later hbv b1
      replace b2 := cell_later hbv b2
      replace y0 := cell_later hbv y0
      replace y2 := cell_later hbv y2
      replace HT5 := Lib.hid (HT5.out.later hbv)
      replace HR5 := Lib.hid (HR5.out.later hbv)
      replace hbr1 := hbr1.trans (hbv.mono hbr1.size)
      go_wp2
      exact ⟨rfl, rfl, rfl, by rw [HX.out]; rfl, rfl, rfl, by omega, hbr1, HT5.out, HR5.out⟩

set_option maxHeartbeats 64000000 in
theorem shape_8 {body : Code} (hbody : firstLoop (Tryd.f6.body.getD .skip) = some body) {w : World} {s : ByteArray} {A : Option Addr} {c : Nat} {l : List Tk} {g C3 k : Nat} {a : Act} {wr : World} {P : Act → World → Prop} {Q : Exit → Act → World → Prop} (hI : SInv w s A c l g C3 k a wr) (hlt : k < l.length) (hm3 : l.length ≤ C3 ∧ C3 ≤ 9223372036854775807) (hl : s.size ≤ c) (hm : c ≤ 9223372036854775807) (hs7 : s.size ≤ 70000) (HS : Hid (Shp s.data.toList l)) (h9e : ∀ t, l[k]? = some t → t.kind = 9 → k + 1 = l.length) {t : Tk} (ht : l[k]? = some t) (hK0 : t.kind = 8) (hP : ∀ a' w', SInv w s A c l g C3 (k + 1) a' w' → P a' w') :
    Code.wp Tryd.prog body (Exit.then P Q) a wr := by
  have hbd : firstLoop (Tryd.f6.body.getD .skip) = some body := hbody
  simp only [Tryd.f6, Option.getD_some, firstLoop] at hbd
  injection hbd with hbd
  subst hbd
  clear hbody
  cases a with
  | mk tm df =>
    have hdf : df = [] := hI.df
    subst hdf
    obtain ⟨f, hf⟩ := shape_frame tm hI.sz hI.t0 hI.t3 hI.t5 hI.t6
    subst hf
    have hbr := hI.hb
    have HT4 := Lib.hid hI.tk
    have HR4 := Lib.hid hI.bs
    have hsz : s.data.toList.length = s.size := by simp
    have hgd := HS.out.good k t ht
    obtain ⟨g', hge, x0, x1, x2⟩ := HT4.out k t ht
    injection hge with hge
    injection hge with hge
    subst hge
    have hdp : dep (l.take (k + 1)) = dep (l.take k) + delta t := by
      rw [List.take_add_one, ht, dep_app]
      show _ + dep [t] = _
      rw [dep_one]
    have hd1 := HS.out.deep (k + 1) (by omega)
    have hd0 := HS.out.deep k (by omega)
    have h9 := h9e t ht
    have hp1 := hgd.at_
    rw [hsz] at hp1
    clear hI h9e
    obtain ⟨hm4, hm5⟩ := hm3
    have hmono := hgd.mono
    have hbare := hgd.bare
    have hhere := hgd.here
    have hname := hgd.name
    have hword := hgd.word
    obtain ⟨kd, hkd⟩ : ∃ kd, t.kind = kd := ⟨_, rfl⟩
    have hlo := hgd.lo
    have hhi := hgd.hi
    rw [hkd] at x0 hbare hhere hname hword h9 hlo hhi
    have hdl : delta t = if kd = 7 then 1 else if kd = 8 then -1 else 0 := by rw [← hkd]; rfl
    rw [hdl] at hdp
    have hTl : (⟨t.text.toArray⟩ : ByteArray).data.toList = t.text := rfl
    obtain ⟨T, hTe⟩ : ∃ T : ByteArray, (⟨t.text.toArray⟩ : ByteArray) = T := ⟨_, rfl⟩
    rw [hTe] at x1 hTl
    obtain ⟨ps, hps⟩ : ∃ ps, t.pos = ps := ⟨_, rfl⟩
    rw [hps] at x2 hp1 hhere hmono
    have n1 : (k : Int) < (l.length : Int) := by omega
    have n2 : decide ((ps : Int) < 0) = false := decide_eq_false (by omega)
    have n3 : decide ((s.size : Int) < (ps : Int)) = false := decide_eq_false (by omega)
    have n3' : decide (s.size < ps) = false := decide_eq_false (by omega)
    rw [hdp] at hd1
    obtain ⟨dd, hdd⟩ : ∃ dd, dep (l.take k) = dd := ⟨_, rfl⟩
    rw [hdd] at hd0 hd1 ⊢
    have HX := Lib.hid (show dep (l.take (k + 1)) = dd + (if kd = 7 then 1 else if kd = 8 then -1 else 0) by rw [hdp, hdd])
    have hdl1 : dd ≤ k := by rw [← hdd]; have := dep_le (l.take k); rw [List.length_take] at this; omega
    clear hdl hdp hdd hTe hgd
    have hK : kd = 8 := by rw [← hkd]; exact hK0
    clear hK0
    subst hK
    have hTn : T = ⟨#[]⟩ := lit_nil (by rw [hTl, hbare (by decide)])
    subst hTn
    rw [if_neg (by decide), if_pos rfl] at hd1
    have n20 : decide (dd - 1 < 0) = false := decide_eq_false (by omega)
    have n21 : decide (dd + -1 < 0) = false := decide_eq_false (by omega)
    have n22 : decide (dd < 1) = false := decide_eq_false (by omega)
    by_cases hk0 : k = 0
    · subst hk0
      exfalso
      omega
    · obtain ⟨q, hq⟩ : ∃ q, l[k - 1]? = some q := ⟨_, List.getElem?_eq_getElem (by omega)⟩
      have hqp : prevOf l k = some q := by unfold prevOf; rw [if_neg hk0]; exact hq
      have m1 := hmono q hqp
      obtain ⟨g2, hge2, y0, y1, y2⟩ := HT4.out (k - 1) q hq
      injection hge2 with hge2
      injection hge2 with hge2
      subst hge2
      obtain ⟨pp, hpp⟩ : ∃ pp, q.pos = pp := ⟨_, rfl⟩
      obtain ⟨pk, hpk⟩ : ∃ pk, q.kind = pk := ⟨_, rfl⟩
      rw [hpp] at m1 y2
      rw [hpk] at y0
      have n7 : decide ((ps : Int) < (pp : Int)) = false := decide_eq_false (by omega)
      have n7' : decide (ps < pp) = false := decide_eq_false (by omega)
      have n8' : decide (0 < k) = true := decide_eq_true (by omega)
      have n8 : decide (0 < (k : Int)) = true := decide_eq_true (by omega)
      have n9 : (k : Int) - 1 = ((k - 1 : Nat) : Int) := by omega
      have n10 : (0 : Int) ≤ ((k - 1 : Nat) : Int) := by omega
      have n11 : ((k - 1 : Nat) : Int) < (l.length : Int) := by omega
      have n12 : ((k - 1 : Nat) : Int) < (l.length : Int) := by omega
      clear hhere hmono hname hword hbare h9 hlo hhi hqp hq hpp hpk hTl
      go_wp2_with fail
      have hba : Below wr.heap.size wr (wr.alloc (.cells #[.int .i64 8, .string ⟨#[]⟩, .int .i64 ps] 35)) := (Below.refl _ _).alloc (Nat.le_refl _) _
      have b0 : (wr.alloc (.cells #[.int .i64 8, .string ⟨#[]⟩, .int .i64 ps] 35)).cell? ⟨wr.heap.size, 0, none⟩ = some (.int .i64 8) := by simp
      have b1 : (wr.alloc (.cells #[.int .i64 8, .string ⟨#[]⟩, .int .i64 ps] 35)).cell? ⟨wr.heap.size, 1, none⟩ = some (.string ⟨#[]⟩) := by simp
      have b2 : (wr.alloc (.cells #[.int .i64 8, .string ⟨#[]⟩, .int .i64 ps] 35)).cell? ⟨wr.heap.size, 2, none⟩ = some (.int .i64 ps) := by simp
      replace y0 := cell_later hba y0
      replace y2 := cell_later hba y2
      have HT5 := Lib.hid (HT4.out.later hba)
      have HR5 := Lib.hid (HR4.out.later hba)
      have hbr1 := hbr.trans (hba.mono hbr.size)
      generalize wr.alloc (.cells #[.int .i64 8, .string ⟨#[]⟩, .int .i64 ps] 35) = w1 at *
      clear hba x0 x1 x2 HT4 HR4
      go_big_quiet (fail)
      obtain ⟨w2, hv, hbv⟩ : ∃ v, v = w1.drewN nq ∧ Below w1.heap.size w1 v := ⟨_, rfl, below_draws _ _⟩
      rw [← hv]
      clear hv
      replace b0 := cell_later hbv b0
      replace b1 := cell_later hbv b1
      replace b2 := cell_later hbv b2
      replace y0 := cell_later hbv y0
      replace y2 := cell_later hbv y2
      replace HT5 := Lib.hid (HT5.out.later hbv)
      replace HR5 := Lib.hid (HR5.out.later hbv)
      replace hbr1 := hbr1.trans (hbv.mono hbr1.size)
      go_wp2
      exact ⟨rfl, rfl, rfl, by rw [HX.out]; rfl, rfl, rfl, by omega, hbr1, HT5.out, HR5.out⟩

set_option maxHeartbeats 64000000 in
theorem shape_9 {body : Code} (hbody : firstLoop (Tryd.f6.body.getD .skip) = some body) {w : World} {s : ByteArray} {A : Option Addr} {c : Nat} {l : List Tk} {g C3 k : Nat} {a : Act} {wr : World} {P : Act → World → Prop} {Q : Exit → Act → World → Prop} (hI : SInv w s A c l g C3 k a wr) (hlt : k < l.length) (hm3 : l.length ≤ C3 ∧ C3 ≤ 9223372036854775807) (hl : s.size ≤ c) (hm : c ≤ 9223372036854775807) (hs7 : s.size ≤ 70000) (HS : Hid (Shp s.data.toList l)) (h9e : ∀ t, l[k]? = some t → t.kind = 9 → k + 1 = l.length) {t : Tk} (ht : l[k]? = some t) (hK0 : t.kind = 9) (hP : ∀ a' w', SInv w s A c l g C3 (k + 1) a' w' → P a' w') :
    Code.wp Tryd.prog body (Exit.then P Q) a wr := by
  have hbd : firstLoop (Tryd.f6.body.getD .skip) = some body := hbody
  simp only [Tryd.f6, Option.getD_some, firstLoop] at hbd
  injection hbd with hbd
  subst hbd
  clear hbody
  cases a with
  | mk tm df =>
    have hdf : df = [] := hI.df
    subst hdf
    obtain ⟨f, hf⟩ := shape_frame tm hI.sz hI.t0 hI.t3 hI.t5 hI.t6
    subst hf
    have hbr := hI.hb
    have HT4 := Lib.hid hI.tk
    have HR4 := Lib.hid hI.bs
    have hsz : s.data.toList.length = s.size := by simp
    have hgd := HS.out.good k t ht
    obtain ⟨g', hge, x0, x1, x2⟩ := HT4.out k t ht
    injection hge with hge
    injection hge with hge
    subst hge
    have hdp : dep (l.take (k + 1)) = dep (l.take k) + delta t := by
      rw [List.take_add_one, ht, dep_app]
      show _ + dep [t] = _
      rw [dep_one]
    have hd1 := HS.out.deep (k + 1) (by omega)
    have hd0 := HS.out.deep k (by omega)
    have h9 := h9e t ht
    have hp1 := hgd.at_
    rw [hsz] at hp1
    clear hI h9e
    obtain ⟨hm4, hm5⟩ := hm3
    have hmono := hgd.mono
    have hbare := hgd.bare
    have hhere := hgd.here
    have hname := hgd.name
    have hword := hgd.word
    obtain ⟨kd, hkd⟩ : ∃ kd, t.kind = kd := ⟨_, rfl⟩
    have hlo := hgd.lo
    have hhi := hgd.hi
    rw [hkd] at x0 hbare hhere hname hword h9 hlo hhi
    have hdl : delta t = if kd = 7 then 1 else if kd = 8 then -1 else 0 := by rw [← hkd]; rfl
    rw [hdl] at hdp
    have hTl : (⟨t.text.toArray⟩ : ByteArray).data.toList = t.text := rfl
    obtain ⟨T, hTe⟩ : ∃ T : ByteArray, (⟨t.text.toArray⟩ : ByteArray) = T := ⟨_, rfl⟩
    rw [hTe] at x1 hTl
    obtain ⟨ps, hps⟩ : ∃ ps, t.pos = ps := ⟨_, rfl⟩
    rw [hps] at x2 hp1 hhere hmono
    have n1 : (k : Int) < (l.length : Int) := by omega
    have n2 : decide ((ps : Int) < 0) = false := decide_eq_false (by omega)
    have n3 : decide ((s.size : Int) < (ps : Int)) = false := decide_eq_false (by omega)
    have n3' : decide (s.size < ps) = false := decide_eq_false (by omega)
    rw [hdp] at hd1
    obtain ⟨dd, hdd⟩ : ∃ dd, dep (l.take k) = dd := ⟨_, rfl⟩
    rw [hdd] at hd0 hd1 ⊢
    have HX := Lib.hid (show dep (l.take (k + 1)) = dd + (if kd = 7 then 1 else if kd = 8 then -1 else 0) by rw [hdp, hdd])
    have hdl1 : dd ≤ k := by rw [← hdd]; have := dep_le (l.take k); rw [List.length_take] at this; omega
    clear hdl hdp hdd hTe hgd
    have hK : kd = 9 := by rw [← hkd]; exact hK0
    clear hK0
    subst hK
    have hTn : T = ⟨#[]⟩ := lit_nil (by rw [hTl, hbare (by decide)])
    subst hTn
    have hke := h9 rfl
    have n13 : decide (k + 1 < l.length) = false := decide_eq_false (by omega)
    have n15 : decide (k + 1 < l.length) = false := decide_eq_false (by omega)
    have n5 : decide ((k : Int) + 1 < (l.length : Int)) = false := decide_eq_false (by omega)
    have n6 : decide ((k : Int) + 1 < (l.length : Int)) = false := decide_eq_false (by omega)
    clear hke
    by_cases hk0 : k = 0
    · subst hk0
      clear hhere hmono hname hword hbare h9 hlo hhi hTl
      have n16 : decide (0 + 1 < l.length) = false := n13
      have n17 : decide (1 < l.length) = false := decide_eq_false (by have := of_decide_eq_false n13; omega)
      have n18 : decide ((1 : Int) < (l.length : Int)) = false := decide_eq_false (by have := of_decide_eq_false n13; omega)
      go_wp2_with fail
      have hba : Below wr.heap.size wr (wr.alloc (.cells #[.int .i64 9, .string ⟨#[]⟩, .int .i64 ps] 35)) := (Below.refl _ _).alloc (Nat.le_refl _) _
      have b0 : (wr.alloc (.cells #[.int .i64 9, .string ⟨#[]⟩, .int .i64 ps] 35)).cell? ⟨wr.heap.size, 0, none⟩ = some (.int .i64 9) := by simp
      have b1 : (wr.alloc (.cells #[.int .i64 9, .string ⟨#[]⟩, .int .i64 ps] 35)).cell? ⟨wr.heap.size, 1, none⟩ = some (.string ⟨#[]⟩) := by simp
      have b2 : (wr.alloc (.cells #[.int .i64 9, .string ⟨#[]⟩, .int .i64 ps] 35)).cell? ⟨wr.heap.size, 2, none⟩ = some (.int .i64 ps) := by simp
      have HT5 := Lib.hid (HT4.out.later hba)
      have HR5 := Lib.hid (HR4.out.later hba)
      have hbr1 := hbr.trans (hba.mono hbr.size)
      generalize wr.alloc (.cells #[.int .i64 9, .string ⟨#[]⟩, .int .i64 ps] 35) = w1 at *
      clear hba x0 x1 x2 HT4 HR4
      go_big_quiet (fail)
      obtain ⟨w2, hv, hbv⟩ : ∃ v, v = w1.drewN nq ∧ Below w1.heap.size w1 v := ⟨_, rfl, below_draws _ _⟩
      rw [← hv]
      clear hv
      replace b0 := cell_later hbv b0
      replace b1 := cell_later hbv b1
      replace b2 := cell_later hbv b2
      replace HT5 := Lib.hid (HT5.out.later hbv)
      replace HR5 := Lib.hid (HR5.out.later hbv)
      replace hbr1 := hbr1.trans (hbv.mono hbr1.size)
      go_wp2
      exact ⟨rfl, rfl, rfl, by rw [HX.out]; first | rfl | simp, rfl, rfl, by omega, hbr1, HT5.out, HR5.out⟩
    · obtain ⟨q, hq⟩ : ∃ q, l[k - 1]? = some q := ⟨_, List.getElem?_eq_getElem (by omega)⟩
      have hqp : prevOf l k = some q := by unfold prevOf; rw [if_neg hk0]; exact hq
      have m1 := hmono q hqp
      obtain ⟨g2, hge2, y0, y1, y2⟩ := HT4.out (k - 1) q hq
      injection hge2 with hge2
      injection hge2 with hge2
      subst hge2
      obtain ⟨pp, hpp⟩ : ∃ pp, q.pos = pp := ⟨_, rfl⟩
      obtain ⟨pk, hpk⟩ : ∃ pk, q.kind = pk := ⟨_, rfl⟩
      rw [hpp] at m1 y2
      rw [hpk] at y0
      have n7 : decide ((ps : Int) < (pp : Int)) = false := decide_eq_false (by omega)
      have n7' : decide (ps < pp) = false := decide_eq_false (by omega)
      have n8' : decide (0 < k) = true := decide_eq_true (by omega)
      have n8 : decide (0 < (k : Int)) = true := decide_eq_true (by omega)
      have n9 : (k : Int) - 1 = ((k - 1 : Nat) : Int) := by omega
      have n10 : (0 : Int) ≤ ((k - 1 : Nat) : Int) := by omega
      have n11 : ((k - 1 : Nat) : Int) < (l.length : Int) := by omega
      have n12 : ((k - 1 : Nat) : Int) < (l.length : Int) := by omega
      clear hhere hmono hname hword hbare h9 hlo hhi hqp hq hpp hpk hTl
      go_wp2_with fail
      have hba : Below wr.heap.size wr (wr.alloc (.cells #[.int .i64 9, .string ⟨#[]⟩, .int .i64 ps] 35)) := (Below.refl _ _).alloc (Nat.le_refl _) _
      have b0 : (wr.alloc (.cells #[.int .i64 9, .string ⟨#[]⟩, .int .i64 ps] 35)).cell? ⟨wr.heap.size, 0, none⟩ = some (.int .i64 9) := by simp
      have b1 : (wr.alloc (.cells #[.int .i64 9, .string ⟨#[]⟩, .int .i64 ps] 35)).cell? ⟨wr.heap.size, 1, none⟩ = some (.string ⟨#[]⟩) := by simp
      have b2 : (wr.alloc (.cells #[.int .i64 9, .string ⟨#[]⟩, .int .i64 ps] 35)).cell? ⟨wr.heap.size, 2, none⟩ = some (.int .i64 ps) := by simp
      replace y0 := cell_later hba y0
      replace y2 := cell_later hba y2
      have HT5 := Lib.hid (HT4.out.later hba)
      have HR5 := Lib.hid (HR4.out.later hba)
      have hbr1 := hbr.trans (hba.mono hbr.size)
      generalize wr.alloc (.cells #[.int .i64 9, .string ⟨#[]⟩, .int .i64 ps] 35) = w1 at *
      clear hba x0 x1 x2 HT4 HR4
      go_big_quiet (fail)
      obtain ⟨w2, hv, hbv⟩ : ∃ v, v = w1.drewN nq ∧ Below w1.heap.size w1 v := ⟨_, rfl, below_draws _ _⟩
      rw [← hv]
      clear hv
      replace b0 := cell_later hbv b0
      replace b1 := cell_later hbv b1
      replace b2 := cell_later hbv b2
      replace y0 := cell_later hbv y0
      replace y2 := cell_later hbv y2
      replace HT5 := Lib.hid (HT5.out.later hbv)
      replace HR5 := Lib.hid (HR5.out.later hbv)
      replace hbr1 := hbr1.trans (hbv.mono hbr1.size)
      go_wp2
      exact ⟨rfl, rfl, rfl, by rw [HX.out]; first | rfl | simp, rfl, rfl, by omega, hbr1, HT5.out, HR5.out⟩
end Go.Proofs.YtgheejogpbhokaaDoor
