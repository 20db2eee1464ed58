/- Joined by a program: Par, Dp, CopyCheck, Txt2. -/
import Derived.Test.YtjndbcnmmnkilaaGreatDoorPF43
namespace Go.Proofs.YtjndbcnmmnkilaaGreatDoor
set_option linter.unusedVariables false
set_option linter.unusedSimpArgs false
set_option maxRecDepth 1000000
set_option maxHeartbeats 16000000
section
open Go.RowKit Go.Shelf
open List (length_append length_cons length_nil length_singleton)
attribute [local go_sem] Oper.semAt_some
def restS (s : ByteArray) : ByteArray := ⟨(Lib.trimPrefix s.data.toList [45]).toArray⟩
def negS (s : ByteArray) : Bool := Lib.hasPrefix s.data.toList [45]
def okS (s : ByteArray) : Bool := decide (restS s ≠ ⟨#[]⟩) && (restS s).data.toList.all isD && !(decide ((restS s).data.toList.head? = some 48) && decide (s ≠ ⟨#[48]⟩))
def valS (s : ByteArray) : Int := if negS s then -(decVal (restS s).data.toList : Int) else (decVal (restS s).data.toList : Int)
def parO (s : ByteArray) : Option Int := if okS s then keepO (valS s) else none
def parE (s : ByteArray) : Int := if okS s then ce (keepO (valS s)) else 4
def RetP (w : World) (s : ByteArray) (e : Ending) (w' : World) : Prop :=
 ∃ A c, e = .returned (.tuple #[.agg #[.bool (cb (parO s)), .slice A (cz (parO s)).length c], .int .i64 (parE s)]) ∧ CanAt w' w.heap.size (parO s) A c ∧ Below w.heap.size w w'
theorem par_bad {s : ByteArray} (h : okS s = false) : parO s = none ∧ parE s = 4 := by rw [parO, parE, h]; exact ⟨rfl, rfl⟩
theorem par_good {s : ByteArray} (h : okS s = true) : parO s = keepO (valS s) ∧ parE s = ce (keepO (valS s)) := by rw [parO, parE, h]; exact ⟨rfl, rfl⟩
theorem retP_bad {w w' : World} {s : ByteArray} {A : Option Addr} (h : okS s = false) (hb : Below w.heap.size w w') : RetP w s (.returned (.tuple #[.agg #[.bool false, .slice none 0 0], .int .i64 4])) w' := by
 obtain ⟨h1, h2⟩ := par_bad h
 refine ⟨none, 0, ?_, ?_, hb⟩
 ·rw [h1, h2]; rfl
 ·rw [h1]; exact can_none _ _
theorem okS_empty {s : ByteArray} (h : restS s = ⟨#[]⟩) : okS s = false := by rw [okS, dFa (by simpa using h)]; rfl
theorem okS_sign {s : ByteArray} (i : Nat) (hi : i < (restS s).size) (h : isD (restS s)[i] = false) : okS s = false := by
 have : (restS s).data.toList.all isD = false := by
  rw [List.all_eq_false]; exact ⟨(restS s)[i], by simp [ByteArray.getElem_eq_getElem_data], by simp [h]⟩
 rw [okS, this, Bool.and_false]; rfl
theorem okS_nought {s : ByteArray} (hi : 0 < (restS s).size) (h : (restS s)[0] = 48) (hs : s ≠ ⟨#[48]⟩) : okS s = false := by
 have : (restS s).data.toList.head? = some 48 := by
  rw [List.head?_eq_getElem?, List.getElem?_eq_getElem (by simpa using hi)]; exact congrArg some h
 rw [okS, dTr this, dTr hs, Bool.and_true, Bool.not_true, Bool.and_false]
theorem okS_yes {s : ByteArray} (h1 : 0 < (restS s).size) (h2 : ∀ i (h : i < (restS s).size), isD (restS s)[i] = true) (h3 : (restS s)[0] ≠ 48 ∨ s = ⟨#[48]⟩) : okS s = true := by
 have e1 : restS s ≠ ⟨#[]⟩ := fun e => by rw [e] at h1; exact absurd h1 lq16
 have e2 : (restS s).data.toList.all isD = true := by
  rw [List.all_eq_true]; intro c hc; obtain ⟨i, hi, rfl⟩ := List.getElem_of_mem hc; exact h2 i (by simpa using hi)
 have e3 : (decide ((restS s).data.toList.head? = some 48) && decide (s ≠ ⟨#[48]⟩)) = false := by
  rw [Bool.and_eq_false_iff, decide_eq_false_iff_not, decide_eq_false_iff_not]
  rcases h3 with h3 | h3
  ·left
   rw [List.head?_eq_getElem?, List.getElem?_eq_getElem (by simpa using h1)]; intro e; injection e with e
   exact h3 e
  ·right; simpa using h3
 rw [okS, dTr e1, e2, e3]; rfl
set_option exponentiation.threshold 3000 in
theorem dec_big (d : List UInt8) (h0 : d.head? ≠ some 48) (hd : ∀ c ∈ d, isD c = true) (hl : 2467 < d.length) : BIG ≤ (decVal d : Int) := by
 cases d with
 | nil => simp at hl
 | cons c d =>
  have hc := hd c (List.mem_cons_self ..); simp only [isD, decide_eq_true_eq] at hc; have hne : c.toNat ≠ 48 := fun e => h0 (by rw [List.head?_cons]; exact congrArg some (UInt8.toNat_inj.1 e))
  rw [decVal_cons]; rw [length_cons] at hl; have h1 : 1 * 10 ^ d.length ≤ (c.toNat - 48) * 10 ^ d.length := Nat.mul_le_mul_right _ lq17; have h2 : (10 : Nat) ^ 2467 ≤ 10 ^ d.length := Nat.pow_le_pow_right lq16 lq17; have h3 : (4294967296 : Nat) ^ 256 ≤ 10 ^ 2467 := by decide +kernel
  have h4 : BIG = ((4294967296 ^ 256 : Nat) : Int) := by rw [BIG, Int.natCast_pow]; rfl
  rw [h4]
  generalize (4294967296 : Nat) ^ 256 = P at *
  generalize (10 : Nat) ^ 2467 = Q at *
  generalize 10 ^ d.length = R at *
  omega
def DigJ (ms : List Int) (x : Nat) (j : Nat) (cr : Int) (fs : List Int) : Prop :=
 fs.length = ms.length ∧ W32 fs ∧ val (fs.take j) + 4294967296 ^ j * cr = 10 * val (ms.take j) + (x : Int) ∧ fs.drop j = ms.drop j
theorem digJ_step {ms fs : List Int} {x j : Nat} {cr z sm c2 : Int} (h : DigJ ms x j cr fs) (hj : j < ms.length) (hz : fs[j]? = some z) (he : sm + 4294967296 * c2 = cr + z * 10) (h0 : 0 ≤ sm) (h1 : sm ≤ 4294967295) : DigJ ms x (j + 1) c2 (fs.set j sm) := by
 obtain ⟨g1, g2, g3, g4⟩ := h
 have hjf : j < fs.length := by omega
 have hmz : ms[j]?.getD 0 = z := by
  have e1 : (fs.drop j)[0]? = (ms.drop j)[0]? := by rw [g4]
  rw [List.getElem?_drop, List.getElem?_drop, Nat.add_zero] at e1; rw [← e1, hz]; rfl
 refine ⟨by rw [List.length_set]; exact g1, g2.set j sm h0 h1, ?_, ?_⟩
 ·rw [val_set_take fs j sm hjf, val_take_get ms j, hmz, Int.pow_succ]
  generalize (4294967296 : Int) ^ j = P at *
  have : P * (sm + 4294967296 * c2) = P * (cr + z * 10) := by rw [he]
  grind
 ·rw [List.drop_set_of_lt lq17]; have e1 : (fs.drop j).drop 1 = (ms.drop j).drop 1 := by rw [g4]
  rwa [List.drop_drop, List.drop_drop] at e1
theorem wParse_ok (s : ByteArray) (w : World) (hs : s.size ≤ 1000000000) :
  Calls Tryz.prog 284 #[.string s] w (RetP w s) := by
 have hcut := fun wx => Tryz.strings_CutPrefix s ⟨#[45]⟩ wx
 change ∀ wx, Calls Tryz.prog 315 #[.string s, .string ⟨#[45]⟩] wx fun e w' => e = .returned (.tuple #[.string (restS s), .bool (negS s)]) ∧ w' = wx at hcut
 have hBad := fun w' => retP_bad (w := w) (w' := w') (s := s) (A := none)
 have hE := okS_empty (s := s)
 have hSg := okS_sign (s := s)
 have hN := okS_nought (s := s)
 have hY := okS_yes (s := s)
 have hG := par_good (s := s)
 have hds : (restS s).size ≤ s.size := by
  show (Lib.trimPrefix s.data.toList [45]).toArray.size ≤ _
  rw [List.size_toArray, Lib.trimPrefix]
  split <;> simp
 obtain ⟨d, hd⟩ : ∃ d, restS s = d := ⟨_, rfl⟩
 obtain ⟨ng, hng⟩ : ∃ ng, negS s = ng := ⟨_, rfl⟩
 have hV : valS s = if ng then -(decVal d.data.toList : Int) else (decVal d.data.toList : Int) := by rw [valS, hng, hd]
 rw [hd] at hE hN hY hds hSg
 simp only [hd, hng] at hcut
 clear hd hng
 go_enter Tryz.func284, Tryz.ntmps284
 go_wp2_with (go_at_call 315; refine (hcut _).mono ?_; rintro e w' ⟨rfl, rfl⟩)
 go_loop [19] (fun v => ∃ i : Nat, v = .int .i64 i ∧ i ≤ d.size ∧ Hid (∀ j (h : j < d.size), j < i → isD d[j] = true)) (fun v => d.size - (intOf v).toNat)
 case atStart => exact ⟨0, rfl, Nat.zero_le _, Lh (fun j h h0 => absurd h0 lq17)⟩
 case round =>
  obtain ⟨i, rfl, hi, hT⟩ := hrel
  by_cases hp : i < d.size
  ·cases hx : isD d[i] with
   | false =>
    have hb := hBad (w.alloc (.cells #[.bool false, .slice none 0 0] 26)) (hSg i hp hx) ((Below.refl _ _).alloc (Nat.le_refl _) _); simp only [isD, decide_eq_false_iff_not] at hx; have hlt : d[i].toNat < 48 ∨ 48 ≤ d[i].toNat ∧ 57 < d[i].toNat := by omega
    rcases hlt with g0 | ⟨g0, g1⟩
    ·have g2 : (d[i].toNat : Int) < 48 := by omega
     exact lv46
    ·have g2 : (48 : Int) ≤ (d[i].toNat : Int) := by omega
     have g3 : (57 : Int) < (d[i].toNat : Int) := by omega
     exact lv46
   | true =>
    have hT2 : Hid (∀ j (h : j < d.size), j < i + 1 → isD d[j] = true) := Lh (fun j h hj => by
     by_cases e : j = i
     ·subst e; exact hx
     ·exact hT.out j h lq17)
    simp only [isD, decide_eq_true_eq] at hx; have g2 : (48 : Int) ≤ (d[i].toNat : Int) := by omega
    have g3 : (d[i].toNat : Int) ≤ 57 := by omega
    clear hcut hBad hE hSg hN hY hG hV hT hx; go_wp2
    go_round
    case rel => exact ⟨i + 1, by go_num, by omega, hT2⟩
    case measure => simp [intOf]; omega
  ·have hall : ∀ j (h : j < d.size), isD d[j] = true := fun j h => hT.out j h lq17
   clear hT
   by_cases h0 : d = ⟨#[]⟩
   ·have hb := hBad (w.alloc (.cells #[.bool false, .slice none 0 0] 26)) (hE h0) ((Below.refl _ _).alloc (Nat.le_refl _) _); exact lv47
   ·have hpos : 0 < d.size := by
     rcases Nat.eq_zero_or_pos d.size with e | e
     ·exact absurd (ByteArray.ext (Array.eq_empty_of_size_eq_zero e)) h0
     ·exact e
    have hl1 : ¬ d.toList = [] := by
     rw [Lib.toList_data]; intro e; have : d.size = 0 := by
      show d.data.size = 0
      rw [← Array.length_toList, e]; rfl
     omega
    have hl2 : d.toList.isEmpty = false := by simpa using hl1
    by_cases h48 : d[0] = 48 ∧ s ≠ ⟨#[48]⟩
    ·obtain ⟨h48, hs0⟩ := h48; have hb := hBad (w.alloc (.cells #[.bool false, .slice none 0 0] 26)) (hN hpos h48 hs0) ((Below.refl _ _).alloc (Nat.le_refl _) _); have g1 : (d[0].toNat : Int) = 48 := by rw [h48]; rfl
     have g2 : (s.toList == [48]) = false := by
      rw [Lib.toList_data, beq_eq_false_iff_ne]; intro e; exact hs0 (ByteArray.ext (Array.ext' e))
     exact lv47
    ·have h49 : d[0] ≠ 48 ∨ s = ⟨#[48]⟩ := by
      by_cases h : d[0] = 48
      ·right
       exact Classical.byContradiction fun e => h48 ⟨h, e⟩
      ·exact .inl h
     obtain ⟨hG1, hG2⟩ := hG (hY hpos hall h49); have hR : ∀ e w', RetP w s e w' ↔ RetO w (keepO (valS s)) e w' := fun e w' => by rw [RetP, RetO, hG1, hG2]
     by_cases hbig : 2467 < d.size
     ·have h50 : d[0] ≠ 48 := by
       rcases h49 with h | h
       ·exact h
       ·subst h; have : (⟨#[48]⟩ : ByteArray).size = 1 := rfl
        omega
      have hk : keepO (valS s) = none := by
       have h1 := dec_big d.data.toList (by
        rw [List.head?_eq_getElem?, List.getElem?_eq_getElem (by simpa using hpos)]; intro e; injection e with e; exact h50 e) (fun c hc => by
        obtain ⟨i, hi, rfl⟩ := List.getElem_of_mem hc
        exact hall i (by simpa using hi)) (by simpa using hbig)
       rw [keepO, big, dTr, if_pos rfl]; rw [hV]; generalize (decVal d.data.toList : Int) = D at *; split <;> omega
      have hb : RetP w s (.returned (.tuple #[.agg #[.bool false, .slice none 0 0], .int .i64 3])) (w.alloc (.cells #[.bool false, .slice none 0 0] 26)) := by
       rw [hR, hk]; exact ⟨none, 0, rfl, can_none _ _, (Below.refl _ _).alloc (Nat.le_refl _) _⟩
      have g1 : ¬ (d[0].toNat : Int) = 48 := fun e => h50 (UInt8.toNat_inj.1 (by show _ = 48; omega))
      clear hcut hBad hE hSg hN hY hG hV hall hG1 hG2 hR hk; go_wp2; exact bodyPost_ret (v := .tuple #[.agg #[.bool false, .slice none 0 0], .int .i64 3]) (by simp [results, Tryz.results284, go_sem]) rfl hb
     ·have HF := Lh (fun (A : Option Addr) (cc base : Nat) (W : World) (h : CanAt W base (some (valS s)) A cc) => fits_can h); have hg : (d[0].toNat : Int) = 48 ∧ (s.toList == [48]) = true ∨ ¬ (d[0].toNat : Int) = 48 := by
       by_cases h : d[0] = 48
       ·left
        refine ⟨by rw [h]; rfl, ?_⟩
        rcases h49 with h2 | h2
        ·exact absurd h h2
        ·rw [h2, Lib.toList_data]; rfl
       ·right
        exact fun e => h (UInt8.toNat_inj.1 (by show _ = 48; omega))
      have hR2 := fun e w' => (hR e w').2
      have HV := Lh hV; have HA := Lh hall
      generalize RetP w s = RR at *
      generalize keepO (valS s) = O at *
      generalize valS s = X at *
      clear hcut hBad hE hSg hN hY hG hV hall hG1 hG2 hR h48 h49; have hb2 : decide ((2467 : Int) < (d.size : Int)) = false := dFo; have hg2 : ((d[0].toNat : Int) == 48) = true ∧ (s.toList == [48]) = true ∨ ((d[0].toNat : Int) == 48) = false ∧ ¬ (d[0].toNat : Int) = 48 := by
       rcases hg with ⟨h1, h2⟩ | h1
       ·exact .inl ⟨by simpa using h1, h2⟩
       ·exact .inr ⟨by simpa using h1, h1⟩
      obtain ⟨i0, hi0, hz0, hz1, hz2⟩ := info_parts u32_info; have hw0 : Below (w.heap.size + 1) (w.alloc (.cells #[.bool false, .slice none 0 0] 26)) (w.alloc (.cells #[.bool false, .slice none 0 0] 26)) := Below.refl _ _; clear hg
      rcases hg2 with ⟨g1, g2⟩ | ⟨g1, g2⟩
      all_goals
       go_wp2
       go_loopw [7, 54] (fun v7 v54 wr => ∃ (k : Nat) (ms : List Int), v54 = .int .i64 k ∧ k ≤ d.size ∧ wr.ownsRow (w.heap.size + 1) 52 1 v7 ms.length (ms.map (Value.int .u32)) ∧ Below (w.heap.size + 1) (w.alloc (.cells #[.bool false, .slice none 0 0] 26)) wr ∧ ms.length ≤ k ∧ Hid (W32 ms ∧ val ms = (decVal (d.data.toList.take k) : Int))) (fun _ v54 _ => d.size - (intOf v54).toNat)
       case atStart => exact ⟨0, [], rfl, Nat.zero_le _, World.ownsRow_nil _ _ _ _, hw0, Nat.le_refl _, Lh ⟨W32.nil, rfl⟩⟩
       case round =>
        obtain ⟨k, ms, rfl, hk, hown, hbw, hml, hT⟩ := hrel; obtain ⟨B, cB, rfl, lB, mB, _⟩ := own_form hown
        by_cases hp : k < d.size
        ·have hx := HA.out k hp; simp only [isD, decide_eq_true_eq] at hx; obtain ⟨x, hxx⟩ : ∃ x, d[k].toNat - 48 = x := ⟨_, rfl⟩; have hdk : ((d[k].toNat : Int) - 48) % 256 = (x : Int) := by omega
         have hx9 : x ≤ 9 := by omega
         have hT2 : Hid (W32 ms ∧ 10 * val ms + (x : Int) = (decVal (d.data.toList.take (k + 1)) : Int)) := Lh (by
          refine ⟨hT.out.1, ?_⟩
          have h1 : d.data.toList.take (k + 1) = d.data.toList.take k ++ [d[k]] := by
           rw [List.take_succ_eq_append_getElem (by simpa using hp)]; rfl
          rw [h1, decVal_snoc, hT.out.2, hxx]; omega)
         clear hT hx hxx; go_wp2
         go_loopw [9, 64] (fun v9 v64 wr2 => ∃ (j : Nat) (cr : Int) (fs : List Int), v9 = .int .u64 cr ∧ v64 = .int .i64 j ∧ j ≤ ms.length ∧ 0 ≤ cr ∧ cr ≤ 9 ∧ wr2.ownsRow (w.heap.size + 1) 52 1 (.slice B ms.length cB) ms.length (fs.map (Value.int .u32)) ∧ Below (w.heap.size + 1) (w.alloc (.cells #[.bool false, .slice none 0 0] 26)) wr2 ∧ Hid (DigJ ms x j cr fs)) (fun _ v64 _ => ms.length - (intOf v64).toNat)
         case atStart => exact ⟨0, x, ms, rfl, rfl, Nat.zero_le _, by omega, by omega, hown, hbw, Lh ⟨rfl, hT2.out.1, by simp [val], rfl⟩⟩
         case round =>
          obtain ⟨j, cr, fs, rfl, rfl, hj, hc0, hc1, hown, hbw, hJ⟩ := hrel; have hfl := hJ.out.1
          by_cases hq : j < ms.length
          ·obtain ⟨g, c2, hB, -, -⟩ := own_some hown lq17; injection hB with hB _ hcc
           subst hB hcc; obtain ⟨z, hz⟩ : ∃ z, fs[j]? = some z := ⟨_, gEo⟩; have hzb := hJ.out.2.1.getD j; rw [hz] at hzb; simp only [Option.getD_some] at hzb; have hcl : wr.cell? ⟨g, j, none⟩ = some (.int .u32 z) := by
            rw [hown.cellAt j lq17, List.getElem?_map, hz]; rfl
           have hfr : wr.frozen? ⟨g, j, none⟩ = false := hown.frozenAt j; have hgw : g < wr.heap.size := hown_lt hown; have hgB : w.heap.size + 1 ≤ g := own_base hown g rfl; obtain ⟨sm, hsm⟩ : ∃ sm, (cr + z * 10) % 4294967296 = sm := ⟨_, rfl⟩; obtain ⟨c2, hc2⟩ : ∃ c2, (cr + z * 10) / 4294967296 = c2 := ⟨_, rfl⟩; have ew : IntKind.u32.wrap (cr + z * 10) = sm := by rw [wrapU32]; exact hsm
           have hr1 : 0 ≤ sm ∧ sm ≤ 4294967295 ∧ 0 ≤ c2 ∧ c2 ≤ 9 := by omega
           have HJ := Lh (digJ_step hJ.out hq hz (sm := sm) (c2 := c2) lq17 hr1.1 hr1.2.1); have HR := Lh hr1; clear hJ hr1 hsm hz; go_wp2
           go_roundw
           case rel =>
            refine ⟨j + 1, c2, fs.set j sm, rfl, by go_num, by omega, HR.out.2.2.1, HR.out.2.2.2, by rw [List.map_set]; exact (hown.stored j (.int .u32 sm)).1, hbw.setCell (p := ⟨g, j, none⟩) hgB _, HJ⟩
           case measure => simp [intOf]; omega
          ·have hk2 : j = ms.length := by omega
           subst hk2; obtain ⟨j1, j2, j3, -⟩ := hJ.out; rw [List.take_of_length_le lq17, List.take_of_length_le (Nat.le_refl _), hT2.out.2] at j3; have HJ := Lh (And.intro j2 j3); clear hJ j2 j3 hT2
           rcases Int.lt_or_eq_of_le hc0 with h0 | h0
           ·have ew : IntKind.u32.wrap cr = cr := by rw [wrapU32]; omega
            have HS := Lh (show (ms.length + 1) * 4 ≤ 140737488355328 by omega); have hsz := hbw.size
            simp at hsz
            have hbw2 : Below (w.heap.size + 1) (w.alloc (.cells #[.bool false, .slice none 0 0] 26)) (wr.alloc (.cells #[.int .u32 cr] 52)) := hbw.alloc lq17 _; have hown2 := hown.alloc (.cells #[.int .u32 cr] 52); go_wp2_with (at_builtin; refine wpList_append_own _ rfl _ _ 24 rfl (w.heap.size + 1) 52 i0 _ 1 4 Tryz.underlying24 hi0 hz0 hz1 hz2 rfl lq16 _ ms.length _ rfl hown2 _ 1 1 [.int .u32 cr] rfl rfl (news_one _ _ _) (by simp [Value.oneCell']) lq13 HS.out (by simp; omega) ?_; intro v3 w3 hown3 hg3 _)
            have hg4 : (wr.alloc (.cells #[.int .u32 cr] 52)).grownBy w3 (Value.slice B ms.length cB).ownBlock := hg3
            go_roundw
            case rel =>
             refine ⟨k + 1, fs ++ [cr], by go_num, by omega, by rw [length_append, j1, List.map_append]; exact hown3, hbw2.grown hg4 (by simp; omega) (own_base hown2), by rw [length_append, j1]; simp; omega, Lh ⟨HJ.out.1.append (W32.cons hc0 lq17 W32.nil), ?_⟩⟩
             rw [val_snoc, j1]; exact HJ.out.2
            case measure => simp [intOf]; omega
           ·subst h0; go_wp2
            go_roundw
            case rel =>
             refine ⟨k + 1, fs, by go_num, by omega, by rw [j1]; exact hown, hbw, by omega, Lh ⟨HJ.out.1, ?_⟩⟩
             have := HJ.out.2; rw [Int.mul_zero, Int.add_zero] at this; exact this
            case measure => simp [intOf]; omega
        ·have hf : FrI wr (w.heap.size + 1) .u32 B ms := FrI.of_own (n := ms.length) (c := cB) (e := 52) hown; have hv : valI ng ms = X := by
          have h1 := hT.out.2; rw [List.take_of_length_le (by simp; omega)] at h1; rw [HV.out, valI, h1]
         have hFm := form_can ng B cB ms (w.heap.size + 1) wr hT.out.1 hf lB (by unfold maxLen at mB; omega) X hv; clear hT hf hv; have hsz := hbw.size
         simp at hsz
         have hBr : Below w.heap.size w wr := ((Below.refl _ _).alloc (Nat.le_refl _) _).trans (hbw.mono lq17); go_wp2_with fail
         go_at_call 317
         refine hFm.mono ?_
         rintro e w4 ⟨A4, c4, rfl, hc4, b4⟩; go_wp2_with fail
         go_at_call 316
         refine (HF.out _ _ _ _ hc4).mono ?_
         rintro e w6 ⟨A6, c6, rfl, hc6, b6⟩; have b5 := b4.trans (b6.mono b4.size); have b7 := hbw.trans (b5.mono (by have := hbw.size; simp at this ⊢; omega)); have hB6 := hBr.trans (b5.mono hBr.size); have k0 := (b7.cell (p := ⟨w.heap.size, 0, none⟩) lq18).trans (show _ = some (.bool false) by simp [go_sem]); have k1 := (b7.cell (p := ⟨w.heap.size, 1, none⟩) lq18).trans (show _ = some (.slice none 0 0) by simp [go_sem]); have f0 := (b7.frozen (p := ⟨w.heap.size, 0, none⟩) lq18).trans (show _ = false by simp [go_sem])
         have f1 := (b7.frozen (p := ⟨w.heap.size, 1, none⟩) lq18).trans (show _ = false by simp [go_sem]); have hs6 := b7.size
         simp at hs6
         go_wp2; exact bodyPost_ret (v := .tuple #[.agg #[.bool (cb O), .slice A6 (cz O).length c6], .int .i64 (ce O)]) (by simp [results, Tryz.results284, go_sem, k0, k1, f0, f1, hs6]) rfl (hR2 _ _ ⟨_, _, rfl, ((hc6.setCell (p := ⟨w.heap.size, 0, none⟩) lq18 _).setCell (p := ⟨w.heap.size, 1, none⟩) lq18 _).mono lq17, (hB6.setCell (p := ⟨w.heap.size, 0, none⟩) lq18 _).setCell (p := ⟨w.heap.size, 1, none⟩) lq18 _⟩)
end
section
open Go.RowKit
open List (length_append length_cons length_nil length_singleton)
def wOf (s : ByteArray) : Bool := wordB s.data.toList
def nOf (s : ByteArray) : Bool := nameB s.data.toList
def mOf (s : ByteArray) : Option (List Int) := if parE s = 0 ∧ negS s = false then some (cz (parO s)) else none
theorem cst : Cst wOf := by
 have h1 : wordsC.all wOf = true := by decide
 have h2 : signsC.all (fun s => !wOf s) = true := by decide
 exact ⟨fun i s h => List.all_eq_true.1 h1 s (mog h), fun i s h => by have := List.all_eq_true.1 h2 s (mog h); simpa using this⟩
theorem name_ok2 (s : ByteArray) (w : World) (hs : s.size ≤ 65536) : Calls Tryz.prog 245 #[.string s] w fun e w' => e = .returned (.bool (nOf s)) ∧ Below w.heap.size w w' := by
 have H := Lh (isName_ok s w lq17)
 go_enter Tryz.func245, Tryz.ntmps245
 go_wp2_with fail
 go_at_call 148
 refine H.out.mono ?_
 rintro e w1 ⟨rfl, hb⟩
 go_wp2_with fail
 go_ret
 exact ⟨rfl, hb⟩
theorem neg_iff {s : ByteArray} : (negS s = true ∧ ∃ h : 0 < s.size, s[0] = 45) ∨ (negS s = false ∧ ∀ h : 0 < s.size, s[0] ≠ 45) := by
 cases hl : s.data.toList with
 | nil =>
  right
  have hz0 : s.data.toList.length = s.size := by simp
  have hz : s.size = 0 := by rw [hl] at hz0; exact hz0.symm
  exact ⟨by unfold negS; rw [hl]; rfl, fun h => absurd h lq17⟩
 | cons c r =>
  have hz0 : s.data.toList.length = s.size := by simp
  have hz : 0 < s.size := by rw [hl] at hz0; simp at hz0; omega
  have h0 : s[0] = c := by
   obtain ⟨⟨a⟩⟩ := s; have hl : a = c :: r := hl; subst hl
   rfl
  have hn : negS s = (c == 45) := by
   unfold negS; rw [hl]
   show (((45 : UInt8) == c) && true) = (c == 45)
   rw [Bool.and_true, Bool.eq_iff_iff, beq_iff_eq, beq_iff_eq]; exact eq_comm
  rw [hn]
  by_cases hc : c = 45
  ·left; exact ⟨by simp [hc], hz, by rw [h0]; exact hc⟩
  ·right; exact ⟨by simp [hc], fun _ => by rw [h0]; exact hc⟩
theorem num_ok (s : ByteArray) (w : World) (hs : s.size ≤ 65536) : Calls Tryz.prog 284 #[.string s] w fun e w' => ∃ (A : Option Addr) (n c : Nat) (neg : Bool) (er : Int), e = .returned (.tuple #[.agg #[.bool neg, .slice A n c], .int .i64 er]) ∧ Below w.heap.size w w' ∧
  match mOf s with
  | some m => er = 0 ∧ (∃ h : 0 < s.size, s[0] ≠ 45) ∧ neg = false ∧ n = m.length ∧ n ≤ c ∧ c ≤ maxLen ∧ (∀ z ∈ m, 0 ≤ z ∧ z < 4294967296) ∧ ∀ W : World, (∀ k, w.heap.size ≤ k → k < w'.heap.size → W.heap[k]? = w'.heap[k]?) → RdI W .u32 A m
  | none => er ≠ 0 ∨ (er = 0 ∧ ∃ h : 0 < s.size, s[0] = 45) := by
 refine (wParse_ok s w lq17).mono ?_
 rintro e w' ⟨A, c, rfl, ⟨hc1, hc2, hf⟩, hb⟩
 refine ⟨A, _, c, _, _, rfl, hb, ?_⟩
 unfold mOf
 by_cases h1 : parE s = 0
 ·rcases neg_iff (s := s) with ⟨h2, h3⟩ | ⟨h2, h3⟩
  ·rw [if_neg (fun h => by rw [h2] at h; exact absurd h.2 lq16)]; exact .inr ⟨h1, h3⟩
  ·rw [if_pos ⟨h1, h2⟩]; have hok : okS s = true := by
    cases h : okS s with
    | true => rfl
    | false => rw [(par_bad h).2] at h1; exact absurd h1 lq16
   have hpos : 0 < s.size := by
    rcases Nat.eq_zero_or_pos s.size with h | h
    ·exfalso
     have hl : s.data.toList = [] := by
      apply List.eq_nil_of_length_eq_zero
      have : s.data.toList.length = s.size := by simp
      omega
     have : restS s = ⟨#[]⟩ := by unfold restS; rw [hl]; rfl
     rw [okS_empty this] at hok
     cases hok
    ·exact h
   have hcb : cb (parO s) = false := by
    rw [(par_good hok).1]; have hv : 0 ≤ valS s := by unfold valS; rw [h2]; simp
    cases hk : keepO (valS s) with
    | none => rfl
    | some S =>
     have : S = valS s := by
      unfold keepO at hk
      split at hk
      ·cases hk
      ·cases hk; rfl
     subst this; exact dFo
   refine ⟨h1, ⟨hpos, h3 hpos⟩, hcb, rfl, hc1, by unfold maxLen; omega, fun z hz => by have := cz_w32 _ z hz; omega, fun W hW i hi => ?_⟩
   obtain ⟨b, off, z, hA, hbb, hz, hcell, _⟩ := hf i hi; exact ⟨b, off, z, hA, hz, (World.cell?_of_block (hW b hbb (blt hcell))).trans hcell⟩
 ·rw [if_neg (fun h => h1 h.1)]; exact .inl h1
theorem deps : Deps wOf nOf goodB mOf where
 word := fun s w => (lxWord_ok s w).mono fun e w' h => ⟨h.1, by have := h.2; subst this; exact Below.refl _ _⟩
 name := name_ok2
 good := fun s w hs hT => good_ok s w lq17 hT
 num := num_ok
end
end Go.Proofs.YtjndbcnmmnkilaaGreatDoor
namespace Go.Proofs
set_option linter.unusedVariables false
set_option linter.unusedSimpArgs false
set_option maxRecDepth 1000000
set_option maxHeartbeats 16000000
section
open Go.Shelf
theorem Tryz.x72 : Builder.X72 Tryz.prog Tryz.layz240_ren := { sizeBuilder := by kernel_rfl, liesBuilder := by kernel_rfl }
end
end Go.Proofs
namespace Go.Proofs.YtjndbcnmmnkilaaGreatDoor
set_option linter.unusedVariables false
set_option linter.unusedSimpArgs false
set_option maxRecDepth 1000000
set_option maxHeartbeats 16000000
section
open Go.RowKit
open List (length_append length_cons length_nil length_singleton)
theorem noText_ok (s : ByteArray) (w : World) : Calls Tryz.prog 137 #[.string s] w fun e w' => e = .returned (.bool (s.size == 0)) ∧ Below w.heap.size w w' := by
 have HT := Lh (text_empty s)
 cases hq : s.size == 0 with
 | true =>
  have e1 : s.toList.isEmpty = true := by rw [HT.out, hq]
  go_enter Tryz.func137, Tryz.ntmps137; go_wp2; go_ret; exact ⟨rfl, Below.refl _ _⟩
 | false =>
  have e1 : s.toList.isEmpty = false := by rw [HT.out, hq]
  go_enter Tryz.func137, Tryz.ntmps137; go_wp2; go_ret; exact ⟨rfl, Below.refl _ _⟩
def StrsAt (w : World) (A : Option Addr) (L : List ByteArray) : Prop := ∀ i s, L[i]? = some s → ∃ b off, A = some ⟨b, off, none⟩ ∧ w.cell? ⟨b, off + i, none⟩ = some (.string s)
theorem strsAt_new (w : World) (L : List ByteArray) (t : TypeId) (cs : Array Value) (hc : cs = (L.map Value.string).toArray) : StrsAt (w.alloc (.cells cs t)) (some ⟨w.heap.size, 0, none⟩) L := fun i s hi => by
 refine ⟨w.heap.size, 0, rfl, ?_⟩
 rw [Nat.zero_add, cell_of_row _ _ i cs t (0, 0) (heap_alloc_new w _), hc]
 simp [hi]
theorem StrsAt.later {w w' : World} {A : Option Addr} {L : List ByteArray} (h : StrsAt w A L) (hb : Below w.heap.size w w') : StrsAt w' A L := fun i s hi => by
 obtain ⟨b, off, hA, hc⟩ := h i s hi
 exact ⟨b, off, hA, cLt hb hc⟩
theorem containsS_eq (L : List (List UInt8)) (x : ByteArray) : Lib.containsS (L.map fun l => (⟨l.toArray⟩ : ByteArray)) x = L.contains x.data.toList := by
 rw [Bool.eq_iff_iff, Lib.containsS_iff, List.contains_iff_mem, List.mem_map]
 constructor
 ·rintro ⟨l, hl, rfl⟩
  simpa using hl
 ·intro h
  refine ⟨_, h, ?_⟩
  cases x
  simp
theorem text1_ok (L : List ByteArray) (m c X : Nat) (A : Option Addr) (s : ByteArray) (w : World) (hm : L.length = m) (h0 : 0 < m) (hL : StrsAt w A L) (hm2 : m ≤ 1000) (hX : w.cell? ⟨X, 0, none⟩ = some (.slice A m c)) :
  Calls Tryz.prog 206 #[.string s, .pointer (some ⟨X, 0, none⟩)] w fun e w' => e = .returned (.bool (Lib.containsS L s)) ∧ Below w.heap.size w w' := by
 obtain ⟨b, off, hA, _⟩ := hL 0 L[0] (gEo)
 subst hA
 have hI := Tryz.slices_Contains_string b off m c L s w lq17 lq17 (fun j hj => by
  obtain ⟨b', off', e, hc⟩ := hL j L[j] (List.getElem?_eq_getElem hj); injection e with e
  injection e with e1 e2
  subst e1 e2
  rw [hc]; simp [List.getD, List.getElem?_eq_getElem hj])
 rw [List.take_of_length_le lq17] at hI
 have HI := Lh hI
 have hXl := World.block_lt_of_cell? w _ hX
 clear hI hL
 go_enter Tryz.func206, Tryz.ntmps206
 go_wp2_with (go_at_call 207; refine HI.out.mono ?_; rintro e w3 ⟨rfl, rfl⟩)
 go_ret
 exact ⟨rfl, Below.refl _ _⟩
end
end Go.Proofs.YtjndbcnmmnkilaaGreatDoor
