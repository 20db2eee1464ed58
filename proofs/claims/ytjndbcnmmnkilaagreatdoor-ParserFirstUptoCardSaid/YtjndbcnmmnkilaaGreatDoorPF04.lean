/- Joined by a program: Pd1, Pd2. -/
import Derived.Test.YtjndbcnmmnkilaaGreatDoorPF03
namespace Go.Proofs.YtjndbcnmmnkilaaGreatDoor
set_option linter.unusedVariables false
set_option linter.unusedSimpArgs false
set_option maxRecDepth 1000000
set_option maxHeartbeats 16000000
section
open Go.RowKit
open List (length_append length_cons length_nil length_singleton)
structure Deps (wB nB gB : ByteArray → Bool) (nO : ByteArray → Option (List Int)) : Prop where
 word : ∀ (s : ByteArray) (w : World), Calls Tryz.prog 217 #[.string s] w fun e w' => e = .returned (.bool (wB s)) ∧ Below w.heap.size w w'
 name : ∀ (s : ByteArray) (w : World), s.size ≤ 65536 → Calls Tryz.prog 245 #[.string s] w fun e w' => e = .returned (.bool (nB s)) ∧ Below w.heap.size w w'
 good : ∀ (s : ByteArray) (w : World), s.size ≤ 65536 → Lib.Utf8Tabs 0 1 w → Calls Tryz.prog 219 #[.string s] w fun e w' => e = .returned (.bool (gB s)) ∧ Below w.heap.size w w'
 num : ∀ (s : ByteArray) (w : World), s.size ≤ 65536 → Calls Tryz.prog 284 #[.string s] w fun e w' => ∃ (A : Option Addr) (n c : Nat) (neg : Bool) (er : Int), e = .returned (.tuple #[.agg #[.bool neg, .slice A n c], .int .i64 er]) ∧ Below w.heap.size w w' ∧
  match nO s with
  | some m => er = 0 ∧ (∃ h : 0 < s.size, s[0] ≠ 45) ∧ neg = false ∧ n = m.length ∧ n ≤ c ∧ c ≤ maxLen ∧ (∀ z ∈ m, 0 ≤ z ∧ z < 4294967296) ∧ ∀ W : World, (∀ k, w.heap.size ≤ k → k < w'.heap.size → W.heap[k]? = w'.heap[k]?) → RdI W .u32 A m
  | none => er ≠ 0 ∨ (er = 0 ∧ ∃ h : 0 < s.size, s[0] = 45)
theorem bytes_beq (a b : ByteArray) : (a.toList == b.toList) = (a == b) := by
 rw [ByteArray.toList_eq, ByteArray.toList_eq]
 cases a with | mk a => cases b with | mk b =>
 rw [show (ByteArray.mk a == ByteArray.mk b) = (a == b) from rfl, Bool.eq_iff_iff, beq_iff_eq, beq_iff_eq, Array.toList_inj]
def sameB (wB : ByteArray → Bool) (t : Tok) (s : ByteArray) : Bool := (t.kind == if wB s then 2 else 5) && t.text == s
section
variable {wB nB gB : ByteArray → Bool} {nO : ByteArray → Option (List Int)}
theorem same_ok (hD : Deps wB nB gB nO) (t : Tok) (s : ByteArray) (w : World) (ht : OkT t) :
  Calls Tryz.prog 240 #[tokA t, .string s] w fun E w' => E = .returned (.bool (sameB wB t s)) ∧ Below w.heap.size w w' := by
 have HW := Lh (fun W => hD.word s W)
 obtain ⟨⟨hk1, hk2⟩, _, _⟩ := ht
 have hb1 := (Below.refl w.heap.size w).alloc (Nat.le_refl _) (.cells #[.int .i64 t.kind, .string t.text, .int .i64 t.pos] 39)
 obtain ⟨k0, k1, k2⟩ := box3 w (.int .i64 t.kind) (.string t.text) (.int .i64 t.pos) 39
 unfold tokA
 cases hw : wB s with
 | true =>
  rw [hw] at HW; have hv : sameB wB t s = ((t.kind == 2) && t.text == s) := by unfold sameB; rw [hw]; rfl
  rw [hv]; clear hv hw hD
  by_cases h1 : t.kind = 2
  ·have o1 : (t.kind == 2) = true := by simpa using h1
   exact lv31
  ·have o1 : (t.kind == 2) = false := by simpa using h1
   exact lv31
 | false =>
  rw [hw] at HW; have hv : sameB wB t s = ((t.kind == 5) && t.text == s) := by unfold sameB; rw [hw]; rfl
  rw [hv]; clear hv hw hD
  by_cases h1 : t.kind = 5
  ·have o1 : (t.kind == 5) = true := by simpa using h1
   exact lv31
  ·have o1 : (t.kind == 5) = false := by simpa using h1
   exact lv31
theorem is1_ok (hD : Deps wB nB gB nO) {e : Int} {w : World} {X Y : Nat} {l : List Tok} (hP : Pz e w X l) (hY : w.cell? ⟨Y, 0, none⟩ = some (.pointer (some ⟨X, 0, none⟩))) (s : ByteArray) :
  Calls Tryz.prog 239 #[.string s, .pointer (some ⟨Y, 0, none⟩)] w fun E w' => E = .returned (.bool (sameB wB (hd e l) s)) ∧ Below w.heap.size w w' := by
 have HA := Lh (next_ok hP)
 have HS := Lh (fun W => same_ok hD (hd e l) s W hP.hd)
 clear hP
 unfold tokA at HA HS
 generalize hd e l = t at *
 go_enter Tryz.func239, Tryz.ntmps239
 go_wp2_with fail
 go_at_call 55
 refine HA.out.mono ?_
 rintro E w2 ⟨rfl, hb2⟩
 go_wp2_with fail
 go_at_call 240
 refine (HS.out _).mono ?_
 rintro E w3 ⟨rfl, hb3⟩
 go_wp2_with fail
 go_ret
 exact ⟨rfl, hb2.trans (hb3.mono hb2.size)⟩
def StAt (w : World) (A : Option Addr) (L : List ByteArray) : Prop := ∀ i s, L[i]? = some s → ∃ b off, A = some ⟨b, off, none⟩ ∧ w.cell? ⟨b, off + i, none⟩ = some (.string s)
theorem StAt.later {w w' : World} {A : Option Addr} {L : List ByteArray} (h : StAt w A L) (hb : Below w.heap.size w w') : StAt w' A L := fun i s hi => by
 obtain ⟨b, off, e, hc⟩ := h i s hi
 exact ⟨b, off, e, cLt hb hc⟩
theorem stAt_new (w : World) (cs : Array Value) (L : List ByteArray) (t : TypeId) (h : cs.toList = L.map Value.string) : StAt (w.alloc (.cells cs t)) (some ⟨w.heap.size, 0, none⟩) L := fun i s hi => by
 refine ⟨_, 0, rfl, ?_⟩
 rw [Nat.zero_add]
 exact cell_of_row _ _ i _ _ _ (heap_alloc_new w _) |>.trans (by rw [← Array.getElem?_toList, h, List.getElem?_map, hi]; rfl)
theorem any_takeS {wB : ByteArray → Bool} {t : Tok} {L : List ByteArray} {k : Nat} {s : ByteArray} (h : L[k]? = some s) : (L.take (k + 1)).any (sameB wB t) = ((L.take k).any (sameB wB t) || sameB wB t s) := by
 rw [List.take_succ_eq_append_getElem (List.getElem?_eq_some_iff.1 h).1, List.any_append]
 simp [(List.getElem?_eq_some_iff.1 h).2]
theorem any_leS {p : ByteArray → Bool} {L : List ByteArray} {k : Nat} (h : (L.take k).any p = true) : L.any p = true := by
 rw [List.any_eq_true] at h ⊢
 obtain ⟨q, hp, h⟩ := h
 exact ⟨q, List.mem_of_mem_take hp, h⟩
theorem idxIs_ok (hD : Deps wB nB gB nO) {e : Int} {w : World} {X Y : Nat} {l : List Tok} (hP : Pz e w X l) (hY : w.cell? ⟨Y, 0, none⟩ = some (.pointer (some ⟨X, 0, none⟩))) (L : List ByteArray) (m : Nat) (A : Option Addr) (hm : L.length = m) (hmc : m ≤ 1000) (hL : StAt w A L) :
  Calls Tryz.prog 282 #[.slice A m m, .func (.func 239) #[] #[.pointer (some ⟨Y, 0, none⟩)]] w fun E w' => (∃ r : Int, E = .returned (.int .i64 r) ∧ ((0 ≤ r ∧ L.any (sameB wB (hd e l)) = true) ∨ (r = -1 ∧ L.any (sameB wB (hd e l)) = false))) ∧ Below w.heap.size w w' := by
 have HL := Lh hL
 have HM := Lh hm
 have HI := Lh (fun W (hb : Below w.heap.size w W) s => is1_ok hD (hP.later hb) (cLt hb hY) s)
 clear hL hm hP hY hD
 generalize hd e l = t at *
 go_enter Tryz.func282, Tryz.ntmps282
 go_wp2_with fail
 go_loopw [8] (fun iv wr => ∃ k : Nat, iv = .int .i64 k ∧ k ≤ m ∧ Hid ((L.take k).any (sameB wB t) = false) ∧ Below w.heap.size w wr) (fun iv _ => m - (intOf iv).toNat)
 case atStart => exact ⟨0, rfl, Nat.zero_le _, Lh rfl, Below.refl _ _⟩
 case round =>
  obtain ⟨k, rfl, hk, hR, hbr⟩ := hrel
  by_cases hkl : k < m
  ·have o1 : decide ((k : Int) < (m : Int)) = true := dTo; have o2 : decide (k < m) = true := dTr hkl; obtain ⟨s, hs⟩ : ∃ s, L[k]? = some s := ⟨_, List.getElem?_eq_getElem (by rw [HM.out]; exact hkl)⟩; obtain ⟨b2, off2, hA, hv⟩ := HL.out k s hs; subst hA; have hv2 := cLt hbr hv; have hT1 := any_takeS (wB := wB) (t := t) hs; have HI2 := Lh (HI.out wr hbr s); have HT1 := Lh hT1; clear hT1 hs hv
   cases hpt : sameB wB t s with
   | true =>
    rw [hpt] at HI2 HT1; go_wp2_with fail
    go_at_call 239
    refine HI2.out.mono ?_
    rintro E w3 ⟨rfl, hb3⟩; go_wp2_with fail; go_ret; exact ⟨⟨k, rfl, .inl ⟨by omega, any_leS (HT1.out.trans lq18)⟩⟩, hbr.trans (hb3.mono hbr.size)⟩
   | false =>
    rw [hpt] at HI2 HT1; go_wp2_with fail
    go_at_call 239
    refine HI2.out.mono ?_
    exact lv37
  ·exact lv34
theorem hasIs_ok (hD : Deps wB nB gB nO) {e : Int} {w : World} {X Y : Nat} {l : List Tok} (hP : Pz e w X l) (hY : w.cell? ⟨Y, 0, none⟩ = some (.pointer (some ⟨X, 0, none⟩))) (L : List ByteArray) (m : Nat) (A : Option Addr) (hm : L.length = m) (hmc : m ≤ 1000) (hL : StAt w A L) :
  Calls Tryz.prog 238 #[.slice A m m, .func (.func 239) #[] #[.pointer (some ⟨Y, 0, none⟩)]] w fun E w' => E = .returned (.bool (L.any (sameB wB (hd e l)))) ∧ Below w.heap.size w w' := by
 have HI := Lh (idxIs_ok hD hP hY L m A hm hmc hL)
 clear hL hm hP hY hD
 go_enter Tryz.func238, Tryz.ntmps238
 go_wp2_with fail
 go_at_call 282
 refine HI.out.mono ?_
 rintro E w3 ⟨⟨r, rfl, hr⟩, hb3⟩
 go_wp2_with fail
 go_ret
 refine ⟨?_, hb3⟩
 show Ending.returned (.bool (decide (0 ≤ r))) = _
 rcases hr with ⟨h1, h2⟩ | ⟨h1, h2⟩
 ·rw [h2, dTr h1]
 ·rw [h2, h1]; rfl
theorem is_ok (hD : Deps wB nB gB nO) {e : Int} {w : World} {X : Nat} {l : List Tok} (hP : Pz e w X l) (L : List ByteArray) (m : Nat) (A : Option Addr) (hm : L.length = m) (hmc : m ≤ 1000) (hL : StAt w A L) :
  Calls Tryz.prog 176 #[.pointer (some ⟨X, 0, none⟩), .slice A m m] w fun E w' => E = .returned (.bool (L.any (sameB wB (hd e l)))) ∧ Below w.heap.size w w' := by
 have hb1 := (Below.refl w.heap.size w).alloc (Nat.le_refl _) (.cells #[.pointer (some ⟨X, 0, none⟩)] 56)
 have HI := Lh (hasIs_ok hD (hP.later hb1) (cell_of_row _ _ 0 _ _ _ (heap_alloc_new w _)) L m A hm hmc (hL.later hb1))
 have hmf : ∀ (fn : Fn) (first cap : Array Value) (w : World), (Instr.makeFunc fn first cap).run Tryz.prog w = .ok (.func fn first cap) w := fun _ _ _ _ => rfl
 clear hL hm hP hD
 go_enter Tryz.func176, Tryz.ntmps176
 go_wp2_with fail
 go_at_call 238
 refine HI.out.mono ?_
 rintro E w3 ⟨rfl, hb3⟩
 go_wp2_with fail
 go_ret
 exact ⟨rfl, hb1.trans (hb3.mono hb1.size)⟩
end
def wordsC : List ByteArray := [⟨#[105, 102]⟩, ⟨#[101, 108, 105, 102]⟩, ⟨#[101, 108, 115, 101]⟩, ⟨#[119, 104, 105, 108, 101]⟩, ⟨#[102, 111, 114]⟩, ⟨#[105, 110]⟩, ⟨#[100, 101, 102]⟩, ⟨#[99, 108, 97, 115, 115]⟩, ⟨#[116, 114, 121]⟩, ⟨#[101, 120, 99, 101, 112, 116]⟩, ⟨#[97, 115]⟩, ⟨#[112, 97, 115, 115]⟩, ⟨#[98, 114, 101, 97, 107]⟩, ⟨#[99, 111, 110, 116, 105, 110, 117, 101]⟩, ⟨#[114, 101, 116, 117, 114, 110]⟩, ⟨#[114, 97, 105, 115, 101]⟩, ⟨#[103, 108, 111, 98, 97, 108]⟩, ⟨#[110, 111, 110, 108, 111, 99, 97, 108]⟩, ⟨#[100, 101, 108]⟩, ⟨#[110, 111, 116]⟩, ⟨#[105, 115]⟩, ⟨#[97, 110, 100]⟩, ⟨#[111, 114]⟩, ⟨#[78, 111, 110, 101]⟩, ⟨#[84, 114, 117, 101]⟩, ⟨#[70, 97, 108, 115, 101]⟩]
def signsC : List ByteArray := [⟨#[40]⟩, ⟨#[41]⟩, ⟨#[91]⟩, ⟨#[93]⟩, ⟨#[123]⟩, ⟨#[125]⟩, ⟨#[58]⟩, ⟨#[44]⟩, ⟨#[46]⟩, ⟨#[61]⟩, ⟨#[42, 42]⟩, ⟨#[43, 61]⟩, ⟨#[45, 61]⟩, ⟨#[42, 61]⟩, ⟨#[47, 47, 61]⟩, ⟨#[37, 61]⟩, ⟨#[38, 61]⟩, ⟨#[124, 61]⟩, ⟨#[94, 61]⟩, ⟨#[61, 61]⟩, ⟨#[33, 61]⟩, ⟨#[60]⟩, ⟨#[60, 61]⟩, ⟨#[62]⟩, ⟨#[62, 61]⟩, ⟨#[45]⟩, ⟨#[43]⟩, ⟨#[42]⟩, ⟨#[47, 47]⟩, ⟨#[37]⟩, ⟨#[38]⟩, ⟨#[124]⟩, ⟨#[94]⟩]
structure Cst (wB : ByteArray → Bool) : Prop where
 kw : ∀ (i : Nat) (s : ByteArray), wordsC[i]? = some s → wB s = true
 sg : ∀ (i : Nat) (s : ByteArray), signsC[i]? = some s → wB s = false
section
variable {wB nB gB : ByteArray → Bool} {nO : ByteArray → Option (List Int)}
theorem Cst.w_if (h : Cst wB) : wB ⟨#[105, 102]⟩ = true := h.kw 0 _ rfl
theorem Cst.w_elif (h : Cst wB) : wB ⟨#[101, 108, 105, 102]⟩ = true := h.kw 1 _ rfl
theorem Cst.w_else (h : Cst wB) : wB ⟨#[101, 108, 115, 101]⟩ = true := h.kw 2 _ rfl
theorem Cst.w_while (h : Cst wB) : wB ⟨#[119, 104, 105, 108, 101]⟩ = true := h.kw 3 _ rfl
theorem Cst.w_for (h : Cst wB) : wB ⟨#[102, 111, 114]⟩ = true := h.kw 4 _ rfl
theorem Cst.w_in (h : Cst wB) : wB ⟨#[105, 110]⟩ = true := h.kw 5 _ rfl
theorem Cst.w_def (h : Cst wB) : wB ⟨#[100, 101, 102]⟩ = true := h.kw 6 _ rfl
theorem Cst.w_class (h : Cst wB) : wB ⟨#[99, 108, 97, 115, 115]⟩ = true := h.kw 7 _ rfl
theorem Cst.w_try (h : Cst wB) : wB ⟨#[116, 114, 121]⟩ = true := h.kw 8 _ rfl
theorem Cst.w_except (h : Cst wB) : wB ⟨#[101, 120, 99, 101, 112, 116]⟩ = true := h.kw 9 _ rfl
theorem Cst.w_as (h : Cst wB) : wB ⟨#[97, 115]⟩ = true := h.kw 10 _ rfl
theorem Cst.w_pass (h : Cst wB) : wB ⟨#[112, 97, 115, 115]⟩ = true := h.kw 11 _ rfl
theorem Cst.w_break (h : Cst wB) : wB ⟨#[98, 114, 101, 97, 107]⟩ = true := h.kw 12 _ rfl
theorem Cst.w_continue (h : Cst wB) : wB ⟨#[99, 111, 110, 116, 105, 110, 117, 101]⟩ = true := h.kw 13 _ rfl
theorem Cst.w_return (h : Cst wB) : wB ⟨#[114, 101, 116, 117, 114, 110]⟩ = true := h.kw 14 _ rfl
theorem Cst.w_raise (h : Cst wB) : wB ⟨#[114, 97, 105, 115, 101]⟩ = true := h.kw 15 _ rfl
theorem Cst.w_global (h : Cst wB) : wB ⟨#[103, 108, 111, 98, 97, 108]⟩ = true := h.kw 16 _ rfl
theorem Cst.w_nonlocal (h : Cst wB) : wB ⟨#[110, 111, 110, 108, 111, 99, 97, 108]⟩ = true := h.kw 17 _ rfl
theorem Cst.w_del (h : Cst wB) : wB ⟨#[100, 101, 108]⟩ = true := h.kw 18 _ rfl
theorem Cst.w_not (h : Cst wB) : wB ⟨#[110, 111, 116]⟩ = true := h.kw 19 _ rfl
theorem Cst.w_is (h : Cst wB) : wB ⟨#[105, 115]⟩ = true := h.kw 20 _ rfl
theorem Cst.w_and (h : Cst wB) : wB ⟨#[97, 110, 100]⟩ = true := h.kw 21 _ rfl
theorem Cst.w_or (h : Cst wB) : wB ⟨#[111, 114]⟩ = true := h.kw 22 _ rfl
theorem Cst.w_None (h : Cst wB) : wB ⟨#[78, 111, 110, 101]⟩ = true := h.kw 23 _ rfl
theorem Cst.w_True (h : Cst wB) : wB ⟨#[84, 114, 117, 101]⟩ = true := h.kw 24 _ rfl
theorem Cst.w_False (h : Cst wB) : wB ⟨#[70, 97, 108, 115, 101]⟩ = true := h.kw 25 _ rfl
theorem Cst.s_28 (h : Cst wB) : wB ⟨#[40]⟩ = false := h.sg 0 _ rfl
theorem Cst.s_29 (h : Cst wB) : wB ⟨#[41]⟩ = false := h.sg 1 _ rfl
theorem Cst.s_5b (h : Cst wB) : wB ⟨#[91]⟩ = false := h.sg 2 _ rfl
theorem Cst.s_5d (h : Cst wB) : wB ⟨#[93]⟩ = false := h.sg 3 _ rfl
theorem Cst.s_7b (h : Cst wB) : wB ⟨#[123]⟩ = false := h.sg 4 _ rfl
theorem Cst.s_7d (h : Cst wB) : wB ⟨#[125]⟩ = false := h.sg 5 _ rfl
theorem Cst.s_3a (h : Cst wB) : wB ⟨#[58]⟩ = false := h.sg 6 _ rfl
theorem Cst.s_2c (h : Cst wB) : wB ⟨#[44]⟩ = false := h.sg 7 _ rfl
theorem Cst.s_2e (h : Cst wB) : wB ⟨#[46]⟩ = false := h.sg 8 _ rfl
theorem Cst.s_3d (h : Cst wB) : wB ⟨#[61]⟩ = false := h.sg 9 _ rfl
theorem Cst.s_2a2a (h : Cst wB) : wB ⟨#[42, 42]⟩ = false := h.sg 10 _ rfl
theorem Cst.s_2b3d (h : Cst wB) : wB ⟨#[43, 61]⟩ = false := h.sg 11 _ rfl
theorem Cst.s_2d3d (h : Cst wB) : wB ⟨#[45, 61]⟩ = false := h.sg 12 _ rfl
theorem Cst.s_2a3d (h : Cst wB) : wB ⟨#[42, 61]⟩ = false := h.sg 13 _ rfl
theorem Cst.s_2f2f3d (h : Cst wB) : wB ⟨#[47, 47, 61]⟩ = false := h.sg 14 _ rfl
theorem Cst.s_253d (h : Cst wB) : wB ⟨#[37, 61]⟩ = false := h.sg 15 _ rfl
theorem Cst.s_263d (h : Cst wB) : wB ⟨#[38, 61]⟩ = false := h.sg 16 _ rfl
theorem Cst.s_7c3d (h : Cst wB) : wB ⟨#[124, 61]⟩ = false := h.sg 17 _ rfl
theorem Cst.s_5e3d (h : Cst wB) : wB ⟨#[94, 61]⟩ = false := h.sg 18 _ rfl
theorem Cst.s_3d3d (h : Cst wB) : wB ⟨#[61, 61]⟩ = false := h.sg 19 _ rfl
theorem Cst.s_213d (h : Cst wB) : wB ⟨#[33, 61]⟩ = false := h.sg 20 _ rfl
theorem Cst.s_3c (h : Cst wB) : wB ⟨#[60]⟩ = false := h.sg 21 _ rfl
theorem Cst.s_3c3d (h : Cst wB) : wB ⟨#[60, 61]⟩ = false := h.sg 22 _ rfl
theorem Cst.s_3e (h : Cst wB) : wB ⟨#[62]⟩ = false := h.sg 23 _ rfl
theorem Cst.s_3e3d (h : Cst wB) : wB ⟨#[62, 61]⟩ = false := h.sg 24 _ rfl
theorem Cst.s_2d (h : Cst wB) : wB ⟨#[45]⟩ = false := h.sg 25 _ rfl
theorem Cst.s_2b (h : Cst wB) : wB ⟨#[43]⟩ = false := h.sg 26 _ rfl
theorem Cst.s_2a (h : Cst wB) : wB ⟨#[42]⟩ = false := h.sg 27 _ rfl
theorem Cst.s_2f2f (h : Cst wB) : wB ⟨#[47, 47]⟩ = false := h.sg 28 _ rfl
theorem Cst.s_25 (h : Cst wB) : wB ⟨#[37]⟩ = false := h.sg 29 _ rfl
theorem Cst.s_26 (h : Cst wB) : wB ⟨#[38]⟩ = false := h.sg 30 _ rfl
theorem Cst.s_7c (h : Cst wB) : wB ⟨#[124]⟩ = false := h.sg 31 _ rfl
theorem Cst.s_5e (h : Cst wB) : wB ⟨#[94]⟩ = false := h.sg 32 _ rfl
theorem sameW {s : ByteArray} (h : wB s = true) (e : Int) (l : List Tok) : sameB wB (hd e l) s = isW e s l := by unfold sameB isW; rw [h]; rfl
theorem sameS {s : ByteArray} (h : wB s = false) (e : Int) (l : List Tok) : sameB wB (hd e l) s = isS e s l := by unfold sameB isS; rw [h]; rfl
theorem PzA.pass {e : Int} {w : World} {X : Nat} {t : Tok} {r : List Tok} {b off C : Nat} (h : PzA e w X (t :: r) (some ⟨b, off, none⟩) C) {A' : Option Addr} (hA : C ≠ 1 → A' = some ⟨b, off + 3, none⟩) : PzA e (w.setCell ⟨X, 0, none⟩ (.slice A' r.length (C - 1))) X r A' (C - 1) := by
 have hs : ∀ {i : Nat} {v : Value}, w.cell? ⟨X, i, none⟩ = some v → i ≠ 0 → (w.setCell ⟨X, 0, none⟩ (.slice A' r.length (C - 1))).cell? ⟨X, i, none⟩ = some v := fun hc hi => by
  rw [World.cell?_setCell_other _ _ _ _ (fun e => hi (by injection e with _ e; exact e.symm))]; exact hc
 have hne : b < X := by
  obtain ⟨b', off', e, hb, _⟩ := h.tk 0 t rfl; injection e with e; injection e with e1 e2; subst e1; omega
 have hle := h.le
 simp only [length_cons] at hle
 refine ⟨World.cell?_setCell_same' _ _ _ (by rw [h.c0]; rfl), hs h.c1 lq16, hs h.c2 lq16, hs h.c3 lq16, by rw [World.frozen?_setCell]; exact h.f0, fun i t' hi => ?_, by omega, by have := h.lm; omega, fun t' ht => h.ok t' (List.mem_cons_of_mem _ ht), h.ie, by have := h.ln; simp only [length_cons] at this; omega, fun W hW => h.tb W fun k hk => (hW k hk).trans (Below.heap_setCell _ _ _ _ (fun e => by simp at e; omega))⟩
 have hil := (List.getElem?_eq_some_iff.1 hi).1
 obtain ⟨b', off', e, hb, h1, h2, h3⟩ := h.tk (i + 1) t' hi
 injection e with e; injection e with e1 e2
 subst e1 e2
 have hk : (w.setCell ⟨X, 0, none⟩ (.slice A' r.length (C - 1))).heap[b]? = w.heap[b]? := Below.heap_setCell _ _ _ _ (fun e => by simp at e; omega)
 refine ⟨b, off + 3, hA lq17, hb, ?_, ?_, ?_⟩
 ·rw [show off + 3 + i * 3 = off + (i + 1) * 3 by omega]; exact (World.cell?_of_block hk).trans h1
 ·rw [show off + 3 + i * 3 + 1 = off + (i + 1) * 3 + 1 by omega]; exact (World.cell?_of_block hk).trans h2
 ·rw [show off + 3 + i * 3 + 2 = off + (i + 1) * 3 + 2 by omega]; exact (World.cell?_of_block hk).trans h3
theorem Kp.set3 {B X b : Nat} {w w' : World} (h : Kp B X w w') (hb : B ≤ b) (u0 u1 u2 : Value) : Kp B X w (((w'.setCell ⟨b, 0, none⟩ u0).setCell ⟨b, 1, none⟩ u1).setCell ⟨b, 2, none⟩ u2) :=
 ((h.set b 0 u0 (.inl hb)).set b 1 u1 (.inl hb)).set b 2 u2 (.inl hb)
theorem Pz.set3 {e : Int} {w : World} {X b : Nat} {l : List Tok} (h : Pz e w X l) (hb : X < b) (u0 u1 u2 : Value) : Pz e (((w.setCell ⟨b, 0, none⟩ u0).setCell ⟨b, 1, none⟩ u1).setCell ⟨b, 2, none⟩ u2) X l := ((h.set hb 0 u0).set hb 1 u1).set hb 2 u2
theorem res3 {w : World} {b : Nat} {u0 u1 u2 v0 v1 v2 : Value} (h0 : w.cell? ⟨b, 0, none⟩ = some v0) (h1 : w.cell? ⟨b, 1, none⟩ = some v1) (h2 : w.cell? ⟨b, 2, none⟩ = some v2) :
  (((w.setCell ⟨b, 0, none⟩ u0).setCell ⟨b, 1, none⟩ u1).setCell ⟨b, 2, none⟩ u2).cell? ⟨b, 0, none⟩ = some u0 ∧ (((w.setCell ⟨b, 0, none⟩ u0).setCell ⟨b, 1, none⟩ u1).setCell ⟨b, 2, none⟩ u2).cell? ⟨b, 1, none⟩ = some u1 ∧ (((w.setCell ⟨b, 0, none⟩ u0).setCell ⟨b, 1, none⟩ u1).setCell ⟨b, 2, none⟩ u2).cell? ⟨b, 2, none⟩ = some u2 := by
 refine ⟨?_, ?_, ?_⟩ <;> simp [go_sem, h0, h1, h2]
theorem pass_ok {e : Int} {w : World} {X : Nat} {l : List Tok} (hP : Pz e w X l) :
  Calls Tryz.prog 177 #[.pointer (some ⟨X, 0, none⟩)] w fun E w' => E = .returned (tokA (hd e l)) ∧ Pz e w' X l.tail ∧ Kp w.heap.size X w w' := by
 have hXl := hP.lt
 have hb1 := (Below.refl w.heap.size w).alloc (Nat.le_refl _) (.cells #[.int .i64 0, .string ⟨#[]⟩, .int .i64 0] 39)
 have HA := Lh (next_ok (hP.later hb1))
 have HP := Lh (hP.later hb1)
 have hx1 := heap_alloc_new w (.cells #[.int .i64 0, .string ⟨#[]⟩, .int .i64 0] 39)
 have hs1 : (w.alloc (.cells #[.int .i64 0, .string ⟨#[]⟩, .int .i64 0] 39)).heap.size = w.heap.size + 1 := by simp
 unfold tokA at HA ⊢
 obtain ⟨t, ht⟩ : ∃ t, hd e l = t := ⟨_, rfl⟩
 rw [ht] at HA ⊢
 clear hP
 go_enter Tryz.func177, Tryz.ntmps177
 go_wp2_with fail
 go_at_call 55
 refine HA.out.mono ?_
 rintro E w2 ⟨rfl, hb2⟩
 generalize w.alloc (.cells #[.int .i64 0, .string ⟨#[]⟩, .int .i64 0] 39) = w1 at *
 have hs2 := hb2.size
 have hw2 := hb1.trans (hb2.mono lq17)
 have hx2 := (hb2.5 w.heap.size lq17).trans hx1
 have hP2 := HP.out.later hb2
 have hb3 := (Below.refl w2.heap.size w2).alloc (Nat.le_refl _) (.cells #[.int .i64 t.kind, .string t.text, .int .i64 t.pos] 39)
 have hx3 := (hb3.5 w.heap.size lq17).trans hx2
 have hy3 := heap_alloc_new w2 (.cells #[.int .i64 t.kind, .string t.text, .int .i64 t.pos] 39)
 have hP3 := hP2.later hb3
 go_upto_region 2 with fail
 generalize w2.alloc (.cells #[.int .i64 t.kind, .string t.text, .int .i64 t.pos] 39) = w3 at *
 have hw3 := hw2.trans (hb3.mono lq17)
 clear hb3 hb2 hx2 hx1 hP2 hb1 hw2 HP HA
 have hs3 := hw3.size
 obtain ⟨A, C, hP3⟩ := hP3
 have c0 := hP3.c0
 have f0 := hP3.f0
 have hle := hP3.le
 have hlm := hP3.lm
 unfold maxLen at hlm
 have HP3 := Lh hP3
 cases l with
 | nil =>
  clear hP3
  go_upto_region 4 with fail
  have k0 := cell_of_row w3 _ 0 _ _ _ hx3; have k1 := cell_of_row w3 _ 1 _ _ _ hx3; have k2 := cell_of_row w3 _ 2 _ _ _ hx3; have z := Lib.frozen_of_heap hx3; have t0 := cell_of_row w3 _ 0 _ _ _ hy3; have t1 := cell_of_row w3 _ 1 _ _ _ hy3; have t2 := cell_of_row w3 _ 2 _ _ _ hy3; go_wp2_with fail; obtain ⟨r0, r1, r2⟩ := res3 (u0 := .int .i64 t.kind) (u1 := .string t.text) (u2 := .int .i64 t.pos) k0 k1 k2
  refine bodyPost_ret (v := .agg #[.int .i64 t.kind, .string t.text, .int .i64 t.pos]) (by simp [results, Tryz.results177, go_sem, r0, r1, r2]) rfl ?_
  exact ⟨rfl, Pz.set3 (l := []) ⟨A, C, HP3.out⟩ hXl _ _ _, (Kp.of_below hw3 X).set3 (Nat.le_refl _) _ _ _⟩
 | cons t' r =>
  obtain ⟨b, off, hA, hbX, _⟩ := hP3.tk 0 t' rfl; subst hA; simp only [length_cons] at hle c0; clear hP3; have i1 : (0 : Int) < ((r.length + 1 : Nat) : Int) := by omega
  have i2 : 1 ≤ r.length + 1 := by omega
  go_upto_region 4 with fail
  have hA' : C ≠ 1 → (if C = 1 then some (⟨b, off, none⟩ : Addr) else some ⟨b, off + 3, none⟩) = some ⟨b, off + 3, none⟩ := fun h => if_neg h
  generalize (if C = 1 then some (⟨b, off, none⟩ : Addr) else some ⟨b, off + 3, none⟩) = A' at *
  have hP4 := HP3.out.pass hA'; have hk4 := (Kp.of_below hw3 X).set X 0 (.slice A' r.length (C - 1)) (.inr rfl); have hx4 : (w3.setCell ⟨X, 0, none⟩ (.slice A' r.length (C - 1))).heap[w.heap.size]? = _ := (Below.heap_setCell w3 _ _ _ (fun e => by simp at e; omega)).trans hx3; have hy4 : (w3.setCell ⟨X, 0, none⟩ (.slice A' r.length (C - 1))).heap[w2.heap.size]? = _ := (Below.heap_setCell w3 _ _ _ (fun e => by simp at e; omega)).trans hy3
  generalize w3.setCell ⟨X, 0, none⟩ (.slice A' r.length (C - 1)) = w4 at *
  have k0 := cell_of_row w4 _ 0 _ _ _ hx4; have k1 := cell_of_row w4 _ 1 _ _ _ hx4; have k2 := cell_of_row w4 _ 2 _ _ _ hx4; have z := Lib.frozen_of_heap hx4; have t0 := cell_of_row w4 _ 0 _ _ _ hy4; have t1 := cell_of_row w4 _ 1 _ _ _ hy4; have t2 := cell_of_row w4 _ 2 _ _ _ hy4; have HP4 := Lh hP4; clear hP4 HP3 hx3 hy3 c0 f0; go_wp2_with fail; obtain ⟨r0, r1, r2⟩ := res3 (u0 := .int .i64 t.kind) (u1 := .string t.text) (u2 := .int .i64 t.pos) k0 k1 k2
  refine bodyPost_ret (v := .agg #[.int .i64 t.kind, .string t.text, .int .i64 t.pos]) (by simp [results, Tryz.results177, go_sem, r0, r1, r2]) rfl ?_
  exact ⟨rfl, Pz.set3 (l := r) ⟨A', C - 1, HP4.out⟩ hXl _ _ _, hk4.set3 (Nat.le_refl _) _ _ _⟩
end
end
end Go.Proofs.YtjndbcnmmnkilaaGreatDoor
