/- Joined by a program: W1, R2, W3, W5, W7, W8, W11, Can, R6, M2, LawHelp. -/
import Derived.Test.YtjndbcnmmnkilaaGreatDoorPF42
namespace Go.Proofs.YtjndbcnmmnkilaaGreatDoor
set_option linter.unusedVariables false
set_option linter.unusedSimpArgs false
set_option maxRecDepth 1000000
set_option maxHeartbeats 16000000
section
open Go.RowKit
open List (length_append length_cons length_nil length_singleton)
def intV (neg : Bool) (A : Option Addr) (c : Nat) (ts : List Int) : Value := if ts = [] then .agg #[.bool false, .slice none 0 0] else .agg #[.bool neg, .slice A ts.length c]
section
variable (neg : Bool) (A : Option Addr) (c : Nat) (zs : List Int) (w : World) (hr : RdI w .u32 A zs) (hl : zs.length ≤ c) (hc : c ≤ 9223372036854775807)
include neg A c zs w hr hl hc
theorem wform_ok :
  Calls Tryz.prog 317 #[.bool neg, .slice A zs.length c] w fun e w' => e = .returned (intV neg A c (trimN zs)) ∧ Below w.heap.size w w' := by
 have HC := Lh (fun W (hb : Below w.heap.size w W) => trim_any A c zs W (hr.later hb) hl hc)
 have hl2 := trimN_le zs
 obtain ⟨ts, hts⟩ : ∃ ts, trimN zs = ts := ⟨_, rfl⟩
 rw [hts] at HC hl2 ⊢
 clear hts
 by_cases h0 : ts = []
 ·rw [intV, if_pos h0]; have hln : ts.length = 0 := by rw [h0]; rfl
  rw [hln] at HC; clear h0 hln hl2; go_enter Tryz.func317, Tryz.ntmps317; go_wp2_with (go_at_call 269; refine (HC.out _ ((Below.refl _ _).alloc (Nat.le_refl _) _)).mono ?_; rintro e w' ⟨rfl, rfl⟩); exact bodyPost_ret (v := .agg #[.bool false, .slice none 0 0]) (by simp [results, Tryz.results317, go_sem]) rfl ⟨rfl, (Below.refl _ w).alloc (Nat.le_refl _) _⟩
 ·rw [intV, if_neg h0]; have hln : 0 < ts.length := List.length_pos_iff.2 h0
  generalize ts.length = n at *
  clear h0; go_enter Tryz.func317, Tryz.ntmps317; go_wp2_with (go_at_call 269; refine (HC.out _ ((Below.refl _ _).alloc (Nat.le_refl _) _)).mono ?_; rintro e w' ⟨rfl, rfl⟩); exact bodyPost_ret (v := .agg #[.bool neg, .slice A n c]) (by simp [results, Tryz.results317, go_sem]) rfl ⟨rfl, (Below.refl _ w).alloc (Nat.le_refl _) _⟩
theorem wlong_ok :
  Calls Tryz.prog 331 #[.agg #[.bool neg, .slice A zs.length c]] w fun e w' => e = .returned (.bool (decide (256 < (trimN zs).length))) ∧ Below w.heap.size w w' := by
 have HC := Lh (fun W (hb : Below w.heap.size w W) => trim_any A c zs W (hr.later hb) hl hc)
 have hl2 := trimN_le zs
 generalize (trimN zs).length = n at *
 obtain ⟨b, hb⟩ : ∃ b, decide (256 < n) = b := ⟨_, rfl⟩
 have hb2 : decide ((256 : Int) < (n : Int)) = b := by rw [← hb]; simp; omega
 rw [hb]
 clear hb
 go_enter Tryz.func331, Tryz.ntmps331
 go_wp2_with (go_at_call 269; refine (HC.out _ ((Below.refl _ _).alloc (Nat.le_refl _) _)).mono ?_; rintro e w' ⟨rfl, rfl⟩)
 go_ret
 exact ⟨rfl, (Below.refl _ w).alloc (Nat.le_refl _) _⟩
end

theorem news_one (w : World) (v : Value) (t : TypeId) : ∀ j u, [v][j]? = some u → (w.alloc (.cells #[v] t)).cell? ((⟨w.heap.size, 0, none⟩ : Addr).add j) = some u := by
 intro j u h
 match j with
 | 0 =>
  simp only [List.getElem?_cons_zero, Option.some.injEq] at h; subst h; rw [Addr.add_lit, World.cell?_alloc_at _ _ _ _ rfl]; rfl
 | j + 1 => simp at h
theorem own_base {base : Nat} {e : TypeId} {size : Nat} {v : Value} {n : Nat} {xs : List Value} {w : World} (h : w.ownsRow base e size v n xs) : ∀ k, v.ownBlock = some k → base ≤ k := fun k hk => (h.lt k hk).1
def IntAt (w : World) (base : Nat) (X : Int) (v : Value) : Prop :=
 ∃ b A c zs, v = .agg #[.bool b, .slice A zs.length c] ∧ zs.length ≤ c ∧ c ≤ 9223372036854775807 ∧ FrI w base .u32 A zs ∧ W32 zs ∧ NT zs ∧ valI b zs = X ∧ (b = true → zs ≠ [])
theorem IntAt.later {w w' : World} {base : Nat} {X : Int} {v : Value} (h : IntAt w base X v) (hb : Below w.heap.size w w') : IntAt w' base X v := by
 obtain ⟨b, A, c, zs, h1, h2, h3, h4, h5⟩ := h
 exact ⟨b, A, c, zs, h1, h2, h3, h4.later hb, h5⟩
theorem IntAt.mono {w : World} {base base' : Nat} {X : Int} {v : Value} (h : IntAt w base X v) (hb : base' ≤ base) : IntAt w base' X v := by
 obtain ⟨b, A, c, zs, h1, h2, h3, h4, h5⟩ := h
 exact ⟨b, A, c, zs, h1, h2, h3, h4.mono hb, h5⟩
theorem intV_at {w : World} {base : Nat} {neg : Bool} {A : Option Addr} {c : Nat} {zs : List Int} (hW : W32 zs) (hl : zs.length ≤ c) (hc : c ≤ 9223372036854775807) (hf : FrI w base .u32 A zs) : IntAt w base (valI neg zs) (intV neg A c (trimN zs)) := by
 unfold intV
 have h0 := nt_zero (trimN_w32 hW) (trimN_nt zs)
 rw [val_trimN] at h0
 by_cases h : trimN zs = []
 ·rw [if_pos h]
  refine ⟨false, none, 0, [], rfl, Nat.le_refl _, by omega, ?_, W32.nil, trivial, ?_, by simp⟩
  ·intro i hi; simp at hi
  ·rw [valI, valI, h0.2 h]; cases neg <;> simp [val]
 ·rw [if_neg h]
  refine ⟨neg, A, c, trimN zs, rfl, Nat.le_trans (trimN_le zs) hl, hc, ?_, trimN_w32 hW, trimN_nt zs, by rw [valI, valI, val_trimN], fun _ => h⟩
  intro i hi; have hi2 : i < zs.length := Nat.lt_of_lt_of_le hi (trimN_le zs); obtain ⟨b, off, z, hA, hB, hz, hc, hf⟩ := hf i hi2
  refine ⟨b, off, z, hA, hB, ?_, hc, hf⟩
  rw [trimN, List.getElem?_take_of_lt (by rw [← trimN_length]; exact hi)]; exact hz
theorem val_take_get (zs : List Int) (k : Nat) : val (zs.take (k + 1)) = val (zs.take k) + 4294967296 ^ k * (zs[k]?.getD 0) := by
 by_cases h : k < zs.length
 ·rw [val_take_succ zs k h, List.getElem?_eq_getElem h]; rfl
 ·rw [List.take_of_length_le lq17, List.take_of_length_le lq17, List.getElem?_eq_none lq17]; simp
theorem val_set_take (fs : List Int) (k : Nat) (z : Int) (h : k < fs.length) : val ((fs.set k z).take (k + 1)) = val (fs.take k) + 4294967296 ^ k * z := by
 rw [val_take_succ _ k (by rw [List.length_set]; exact h), List.take_set_of_le (Nat.le_refl k), List.getElem_set_self]
theorem W32.set {fs : List Int} (h : W32 fs) (k : Nat) (z : Int) (h0 : 0 ≤ z) (h1 : z ≤ 4294967295) : W32 (fs.set k z) := by
 intro x hx
 rcases List.mem_or_eq_of_mem_set hx with hx | rfl
 ·exact h x hx
 ·exact ⟨h0, h1⟩
theorem W32.getD {fs : List Int} (h : W32 fs) (k : Nat) : 0 ≤ fs[k]?.getD 0 ∧ fs[k]?.getD 0 ≤ 4294967295 := by
 by_cases hk : k < fs.length
 ·rw [List.getElem?_eq_getElem hk]; exact h.get k hk
 ·rw [List.getElem?_eq_none lq17]; simp
theorem hown_lt {w : World} {base : Nat} {e : TypeId} {g n c : Nat} {xs : List Value} (h : w.ownsRow base e 1 (.slice (some ⟨g, 0, none⟩) n c) n xs) : g < w.heap.size := by
 rcases h.2 with ⟨hv, _⟩ | ⟨g', cap, cur, hv, _, hg, _⟩
 ·cases hv
 ·injection hv with hA _ _
  injection hA with hA
  injection hA with hA _ _
  rw [hA]; exact (Array.getElem?_eq_some_iff.1 hg).1
def none3 : Value := .tuple #[.agg #[.bool false, .slice none 0 0], .int .i64 3]
theorem wfits_ok (b : Bool) (A : Option Addr) (c : Nat) (zs : List Int) (w : World) (hW : W32 zs) (hr : RdI w .u32 A zs) (hl : zs.length ≤ c) (hc : c ≤ 9223372036854775807) :
  Calls Tryz.prog 316 #[.agg #[.bool b, .slice A zs.length c]] w fun e w' => e = .returned (if BIG ≤ val zs then none3 else .tuple #[.agg #[.bool b, .slice A zs.length c], .int .i64 0]) ∧ Below w.heap.size w w' := by
 have HC := Lh (fun W (hb : Below w.heap.size w W) => wlong_ok b A c zs W (hr.later hb) hl hc)
 rw [show decide (256 < (trimN zs).length) = decide (BIG ≤ val zs) from by rw [Bool.eq_iff_iff]; simp only [decide_eq_true_eq]; exact long_iff hW] at HC
 by_cases hb : BIG ≤ val zs
 ·rw [if_pos hb, none3]; rw [dTr hb] at HC; clear hb; go_enter Tryz.func316, Tryz.ntmps316; go_wp2_with fail
  go_at_call 331
  refine (HC.out _ (((Below.refl _ w).alloc (Nat.le_refl _) _).alloc lq18 _)).mono ?_
  rintro e w1 ⟨rfl, hbl⟩; obtain ⟨ko, kf⟩ := oldCells hbl; have hsz : w.heap.size + 1 + 1 ≤ w1.heap.size := by have := hbl.size; simpa using this
  have hB : Below w.heap.size w w1 := (((Below.refl _ w).alloc (Nat.le_refl _) _).alloc lq18 _).trans (hbl.mono (by simp; omega)); go_wp2; exact bodyPost_ret (v := none3) (by simp [results, none3, Tryz.results316, go_sem, ko, hsz]) rfl ⟨rfl, (hB.setCell (p := ⟨w.heap.size + 1, 0, none⟩) lq18 _).setCell (p := ⟨w.heap.size + 1, 1, none⟩) lq18 _⟩
 ·rw [if_neg hb]; rw [dFa hb] at HC; clear hb; go_enter Tryz.func316, Tryz.ntmps316; go_wp2_with fail
  go_at_call 331
  refine (HC.out _ (((Below.refl _ w).alloc (Nat.le_refl _) _).alloc lq18 _)).mono ?_
  rintro e w1 ⟨rfl, hbl⟩; obtain ⟨ko, kf⟩ := oldCells hbl; have hsz : w.heap.size + 1 + 1 ≤ w1.heap.size := by have := hbl.size; simpa using this
  have hB : Below w.heap.size w w1 := (((Below.refl _ w).alloc (Nat.le_refl _) _).alloc lq18 _).trans (hbl.mono (by simp; omega)); go_wp2; exact bodyPost_ret (v := .tuple #[.agg #[.bool b, .slice A zs.length c], .int .i64 0]) (by simp [results, Tryz.results316, go_sem, ko, hsz]) rfl ⟨rfl, (hB.setCell (p := ⟨w.heap.size + 1, 0, none⟩) lq18 _).setCell (p := ⟨w.heap.size + 1, 1, none⟩) lq18 _⟩
def big (X : Int) : Bool := decide (BIG ≤ (X.natAbs : Int))
theorem big_valI {b : Bool} {zs : List Int} (h : W32 zs) : big (valI b zs) = decide (BIG ≤ val zs) := by rw [big, valI_abs h]
theorem form_int (neg : Bool) (A : Option Addr) (c : Nat) (zs : List Int) (base : Nat) (w : World) (hW : W32 zs) (hf : FrI w base .u32 A zs) (hl : zs.length ≤ c) (hc : c ≤ 9223372036854775807) (S : Int) (hS : valI neg zs = S) :
  Calls Tryz.prog 317 #[.bool neg, .slice A zs.length c] w fun e w' => ∃ b' A' n' c', e = .returned (.agg #[.bool b', .slice A' n' c']) ∧ IntAt w' base S (.agg #[.bool b', .slice A' n' c']) ∧ Below w.heap.size w w' := by
 subst hS
 refine (wform_ok neg A c zs w hf.rd hl hc).mono ?_
 rintro e w' ⟨rfl, hb⟩
 have h := intV_at (neg := neg) hW hl hc (hf.later hb)
 obtain ⟨b', A', c', zs', hv, rest⟩ := h
 rw [hv]
 exact ⟨b', A', zs'.length, c', rfl, ⟨b', A', c', zs', rfl, rest⟩, hb⟩
theorem fits_int {S : Int} {v : Value} {base : Nat} {w : World} (h : IntAt w base S v) :
  Calls Tryz.prog 316 #[v] w fun e w' => e = .returned (if big S then none3 else .tuple #[v, .int .i64 0]) ∧ Below w.heap.size w w' := by
 obtain ⟨b, A, c, zs, rfl, h2, h3, h4, h5, h6, h7, h8⟩ := h
 have := wfits_ok b A c zs w h5 h4.rd h2 h3
 rw [← h7, big_valI h5]
 by_cases hb : BIG ≤ val zs
 ·rw [if_pos hb] at this; rw [dTr hb]; exact this
 ·rw [if_neg hb] at this; rw [dFa hb]; exact this
theorem IntAt.setCell {S : Int} {v : Value} {base : Nat} {w : World} (h : IntAt w base S v) {p : Addr} (hp : p.block < base) (u : Value) : IntAt (w.setCell p u) base S v := by
 obtain ⟨b, A, c, zs, h1, h2, h3, h4, h5⟩ := h
 exact ⟨b, A, c, zs, h1, h2, h3, h4.setCell hp u, h5⟩
theorem IntAt.form {w : World} {base : Nat} {X : Int} {v : Value} (h : IntAt w base X v) : ∃ b A n c, v = .agg #[.bool b, .slice A n c] := by
 obtain ⟨b', A', c', zs, hv, rest⟩ := h
 exact ⟨_, _, _, _, hv⟩
def wdsF : Nat → Nat → List Int
 | 0, _ => []
 | f + 1, n => if n = 0 then [] else ((n % 4294967296 : Nat) : Int) :: wdsF f (n / 4294967296)
def wds (n : Nat) : List Int := wdsF n n
theorem wdsF_ok : ∀ (f n : Nat), n ≤ f → W32 (wdsF f n) ∧ NT (wdsF f n) ∧ val (wdsF f n) = (n : Int)
 | 0, n, h => by
  have : n = 0 := by omega
  subst this; exact ⟨W32.nil, trivial, rfl⟩
 | f + 1, n, h => by
  rw [wdsF]
  by_cases h0 : n = 0
  ·rw [if_pos h0, h0]; exact ⟨W32.nil, trivial, rfl⟩
  ·rw [if_neg h0]; obtain ⟨h1, h2, h3⟩ := wdsF_ok f (n / 4294967296) lq17
   refine ⟨W32.cons lq17 lq17 h1, ?_, ?_⟩
   ·cases hw : wdsF f (n / 4294967296) with
    | nil =>
     rw [hw] at h3; have : n / 4294967296 = 0 := by simp [val] at h3; omega
     show ((n % 4294967296 : Nat) : Int) ≠ 0
     omega
    | cons y ys => rw [hw] at h2; exact h2
   ·rw [val, h3]; omega
theorem wds_w32 (n : Nat) : W32 (wds n) := (wdsF_ok n n (Nat.le_refl _)).1
theorem wds_nt (n : Nat) : NT (wds n) := (wdsF_ok n n (Nat.le_refl _)).2.1
theorem val_wds (n : Nat) : val (wds n) = (n : Int) := (wdsF_ok n n (Nat.le_refl _)).2.2
def cb : Option Int → Bool
 | none => false
 | some S => decide (S < 0)
def cz : Option Int → List Int
 | none => []
 | some S => wds S.natAbs
def ce : Option Int → Int
 | none => 3
 | some _ => 0
theorem cz_w32 (O : Option Int) : W32 (cz O) := by cases O with | none => exact W32.nil | some S => exact wds_w32 _
theorem cz_nt (O : Option Int) : NT (cz O) := by cases O with | none => trivial | some S => exact wds_nt _
theorem valI_c (S : Int) : valI (cb (some S)) (cz (some S)) = S := by
 rw [valI, cb, cz, val_wds]
 by_cases h : S < 0
 ·rw [dTr h, if_pos rfl]; omega
 ·rw [dFa h, if_neg lq16]; omega
def CanAt (w : World) (base : Nat) (O : Option Int) (A : Option Addr) (c : Nat) : Prop := (cz O).length ≤ c ∧ c ≤ 9223372036854775807 ∧ FrI w base .u32 A (cz O)
theorem CanAt.later {w w' : World} {base : Nat} {O : Option Int} {A : Option Addr} {c : Nat} (h : CanAt w base O A c) (hb : Below w.heap.size w w') : CanAt w' base O A c := ⟨h.1, h.2.1, h.2.2.later hb⟩
theorem CanAt.mono {w : World} {base base' : Nat} {O : Option Int} {A : Option Addr} {c : Nat} (h : CanAt w base O A c) (hb : base' ≤ base) : CanAt w base' O A c := ⟨h.1, h.2.1, h.2.2.mono hb⟩
theorem CanAt.at {w : World} {base : Nat} {S : Int} {A : Option Addr} {c : Nat} (h : CanAt w base (some S) A c) : IntAt w base S (.agg #[.bool (cb (some S)), .slice A (cz (some S)).length c]) := by
 refine ⟨_, A, c, cz (some S), rfl, h.1, h.2.1, h.2.2, cz_w32 _, cz_nt _, valI_c S, ?_⟩
 intro hb e
 have h1 := val_wds S.natAbs
 rw [cz] at e
 rw [e, val] at h1
 simp only [cb, decide_eq_true_eq] at hb
 omega
theorem IntAt.can {w : World} {base : Nat} {S : Int} {v : Value} (h : IntAt w base S v) : ∃ A c, v = .agg #[.bool (cb (some S)), .slice A (cz (some S)).length c] ∧ CanAt w base (some S) A c := by
 obtain ⟨b, A, c, zs, rfl, h1, h2, h3, h4, h5, h6, h7⟩ := h
 have hv := val_nn h4
 have ha := valI_abs (b := b) h4
 rw [h6] at ha
 have hz : zs = cz (some S) := by
  refine canon h4 (cz_w32 _) h5 (cz_nt _) ?_
  rw [cz, val_wds]; omega
 have hb : b = cb (some S) := by
  have h0 := nt_zero h4 h5; rw [cb]
  cases b
  ·rw [valI, if_neg lq16] at h6; rw [dFa]; omega
  ·have := h7 rfl; rw [valI, if_pos rfl] at h6; have hne : val zs ≠ 0 := fun e => this (h0.1 e)
   rw [dTr]; omega
 subst hb
 rw [hz] at h1 h3 ⊢
 exact ⟨A, c, rfl, h1, h2, h3⟩
def RetO (w : World) (O : Option Int) (e : Ending) (w' : World) : Prop :=
 ∃ A c, e = .returned (.tuple #[.agg #[.bool (cb O), .slice A (cz O).length c], .int .i64 (ce O)]) ∧ CanAt w' w.heap.size O A c ∧ Below w.heap.size w w'
def keepO (S : Int) : Option Int := if big S then none else some S
def RetB (w : World) (base : Nat) (O : Option Int) (e : Ending) (w' : World) : Prop :=
 ∃ A c, e = .returned (.tuple #[.agg #[.bool (cb O), .slice A (cz O).length c], .int .i64 (ce O)]) ∧ CanAt w' base O A c ∧ Below w.heap.size w w'
theorem can_none (w : World) (base : Nat) : CanAt w base none none 0 := ⟨Nat.le_refl _, by omega, fun i hi => by simp [cz] at hi⟩
theorem CanAt.setCell {w : World} {base : Nat} {O : Option Int} {A : Option Addr} {c : Nat} (h : CanAt w base O A c) {p : Addr} (hp : p.block < base) (u : Value) : CanAt (w.setCell p u) base O A c := ⟨h.1, h.2.1, h.2.2.setCell hp u⟩
theorem fits_can {S : Int} {A : Option Addr} {c : Nat} {base : Nat} {w : World} (h : CanAt w base (some S) A c) :
  Calls Tryz.prog 316 #[.agg #[.bool (cb (some S)), .slice A (cz (some S)).length c]] w (RetB w base (keepO S)) := by
 refine (fits_int h.at).mono ?_
 rintro e w' ⟨rfl, hb⟩
 unfold keepO
 cases hS : big S
 ·exact ⟨A, c, rfl, h.later hb, hb⟩
 ·exact ⟨none, 0, rfl, can_none _ _, hb⟩
theorem form_can (neg : Bool) (A : Option Addr) (c : Nat) (zs : List Int) (base : Nat) (w : World) (hW : W32 zs) (hf : FrI w base .u32 A zs) (hl : zs.length ≤ c) (hc : c ≤ 9223372036854775807) (S : Int) (hS : valI neg zs = S) :
  Calls Tryz.prog 317 #[.bool neg, .slice A zs.length c] w fun e w' => ∃ A c, e = .returned (.agg #[.bool (cb (some S)), .slice A (cz (some S)).length c]) ∧ CanAt w' base (some S) A c ∧ Below w.heap.size w w' := by
 refine (form_int neg A c zs base w hW hf hl hc S hS).mono ?_
 rintro e w' ⟨b', A', n', c', rfl, hv, hb⟩
 obtain ⟨A2, c2, hv2, hc2⟩ := hv.can
 exact ⟨A2, c2, by rw [hv2], hc2, hb⟩
theorem FrI.set {w : World} {base : Nat} {k : IntKind} {b off : Nat} {zs : List Int} (h : FrI w base k (some ⟨b, off, none⟩) zs) (i : Nat) (hi : i < zs.length) (z : Int) : FrI (w.setCell ⟨b, off + i, none⟩ (.int k z)) base k (some ⟨b, off, none⟩) (zs.set i z) := fun j hj => by
 rw [List.length_set] at hj
 obtain ⟨b', off', z', hA, hB, hz, hc, hf⟩ := h j hj
 injection hA with hA
 injection hA with e1 e2 _
 subst e1 e2
 by_cases hij : j = i
 ·subst hij
  refine ⟨b, off, z, rfl, hB, by rw [List.getElem?_set_self hj], World.cell?_setCell_same' _ _ _ (by rw [hc]; rfl), by rw [World.frozen?_setCell]; exact hf⟩
 ·refine ⟨b, off, z', rfl, hB, by rw [List.getElem?_set_ne lq17]; exact hz, ?_, by rw [World.frozen?_setCell]; exact hf⟩
  rw [World.cell?_setCell_other _ _ _ _ (fun e => by injection e; omega)]; exact hc
theorem own_some {w : World} {base : Nat} {e : TypeId} {v : Value} {n : Nat} {xs : List Value} (h : w.ownsRow base e 1 v n xs) (hn : 0 < n) : ∃ g c, v = .slice (some ⟨g, 0, none⟩) n c ∧ n ≤ c ∧ c ≤ maxLen := by
 obtain ⟨A, c, rfl, h1, h2, _⟩ := own_form h
 rcases h.2 with ⟨hv, hn0⟩ | ⟨g, cap, cur, hv, _⟩
 ·omega
 ·injection hv with hv _ _
  exact ⟨g, c, by rw [hv], h1, h2⟩
end
end Go.Proofs.YtjndbcnmmnkilaaGreatDoor
