/- Joined by a program: Shp, Shp2, Utf, LxP, QPlain, Let2, Let3, Let5, Let6, Numb. -/
import Derived.Test.YtjefhdlncikhmaaGreatDoorPT02
namespace Go.Proofs.YtjefhdlncikhmaaGreatDoor
set_option linter.unusedVariables false
set_option linter.unusedSimpArgs false
set_option maxRecDepth 1000000
set_option maxHeartbeats 16000000
section
open Go.RowKit
open List (length_append length_cons length_nil length_singleton)
def ShapeOk (D : Nat) (w : World) (v : Value) (p : Nd → Bool) : Prop :=
 ∃ f caps, v = .func (.func f) #[] caps ∧ (∀ args W, (callFunc f args).run Tryz.prog W = .ok (.enter f args) W) ∧ ∀ W, Below w.heap.size w W → ∀ (T : Nd) (A : Option Addr) (c : Nat) (K : Option Addr) (d : Nat), T.depth ≤ D → T.weight ≤ 1048576 → NodeAt W T A c K d →
  Calls Tryz.prog f (#[ndV T A c K d] ++ caps) W fun e w' => e = .returned (.bool (p T)) ∧ Below W.heap.size W w'
theorem ShapeOk.later {D : Nat} {w w' : World} {v : Value} {p : Nd → Bool} (h : ShapeOk D w v p) (hb : Below w.heap.size w w') : ShapeOk D w' v p := by
 obtain ⟨f, caps, hv, hrn, hf⟩ := h
 exact ⟨f, caps, hv, hrn, fun W hW => hf W (hb.trans (hW.mono hb.size))⟩
def ShapesAt (D : Nat) (w : World) (A : Option Addr) (L : List (Nd → Bool)) : Prop := ∀ i p, L[i]? = some p → ∃ b off v, A = some ⟨b, off, none⟩ ∧ w.cell? ⟨b, off + i, none⟩ = some v ∧ ShapeOk D w v p
theorem ShapesAt.later {D : Nat} {w w' : World} {A : Option Addr} {L : List (Nd → Bool)} (h : ShapesAt D w A L) (hb : Below w.heap.size w w') : ShapesAt D w' A L := fun i p hi => by
 obtain ⟨b, off, v, hA, hc, hs⟩ := h i p hi
 exact ⟨b, off, v, hA, cLt hb hc, hs.later hb⟩
def rowB : List Nd → List (Nd → Bool) → Bool
 | [], [] => true
 | t :: r, p :: q => p t && rowB r q
 | _, _ => false
theorem rowB_len : ∀ {l : List Nd} {L : List (Nd → Bool)}, l.length ≠ L.length → rowB l L = false
 | [], [], h => absurd rfl h
 | [], _ :: _, _ => rfl
 | _ :: _, [], _ => rfl
 | t :: r, p :: q, h => by rw [rowB, rowB_len (l := r) (L := q) (by simpa using h), Bool.and_false]
theorem rowB_drop {l : List Nd} {L : List (Nd → Bool)} {k : Nat} {t : Nd} {p : Nd → Bool} (ht : l[k]? = some t) (hp : L[k]? = some p) : rowB (l.drop k) (L.drop k) = (p t && rowB (l.drop (k + 1)) (L.drop (k + 1))) := by
 obtain ⟨h1, rfl⟩ := List.getElem?_eq_some_iff.1 ht
 obtain ⟨h2, rfl⟩ := List.getElem?_eq_some_iff.1 hp
 rw [List.drop_eq_getElem_cons h1, List.drop_eq_getElem_cons h2, rowB]
def Within (D : Nat) (l : List Nd) : Prop := ∀ t ∈ l, t.depth ≤ D ∧ t.weight ≤ 1048576
theorem row_ok (D : Nat) (l : List Nd) (n : Nat) (K : Option Addr) (d : Nat) (L : List (Nd → Bool)) (m : Nat) (A : Option Addr) (c : Nat) (w : World) (hn : l.length = n) (hl : KidsAt w l K 0) (hW : Within D l) (hm : L.length = m) (hL : ShapesAt D w A L) (hnd : n ≤ d) (hd : d ≤ maxLen) (hmc : m ≤ c) (hc : c ≤ maxLen) :
  Calls Tryz.prog 127 #[.slice K n d, .slice A m c] w fun e w' => e = .returned (.bool (rowB l L)) ∧ Below w.heap.size w w' := by
 unfold maxLen at hd hc
 have HK := Lh hl
 have HL := Lh hL
 have HW := Lh hW
 have HN := Lh hn
 have HM := Lh hm
 by_cases hnm : n = m
 ·subst hnm; have e1 : ((n : Int) != (n : Int)) = false := by simp
  clear hl hL hW hn hm; go_enter Tryz.func127, Tryz.ntmps127; go_wp2_with fail
  go_loopw [14] (fun iv wr => ∃ k : Nat, iv = .int .i64 k ∧ k ≤ n ∧ Hid (rowB l L = rowB (l.drop k) (L.drop k)) ∧ Below w.heap.size w wr) (fun iv _ => n - (intOf iv).toNat)
  case atStart => exact ⟨0, rfl, Nat.zero_le _, Lh lq30, Below.refl _ _⟩
  case round =>
   obtain ⟨k, rfl, hk, hR, hbr⟩ := hrel
   by_cases hkl : k < n
   ·have o1 : decide ((k : Int) < (n : Int)) = true := dTo; have o2 : decide (k < n) = true := dTr hkl; obtain ⟨t, ht⟩ : ∃ t, l[k]? = some t := ⟨_, List.getElem?_eq_getElem (by rw [HN.out]; exact hkl)⟩; obtain ⟨p, hp⟩ : ∃ p, L[k]? = some p := ⟨_, List.getElem?_eq_getElem (by rw [HM.out]; exact hkl)⟩; obtain ⟨b, off, A', c', K', d', hK, hC, hNt⟩ := HK.out.kid ht; rw [Nat.zero_add] at hC; subst hK; obtain ⟨b2, off2, v, hA, hv, f, caps, hvf, hrn, hf⟩ := HL.out k p hp; subst hA hvf; obtain ⟨n0, n1, n2, n3, n4, n5⟩ := hC.later hbr; have hv2 := cLt hbr hv; obtain ⟨hd1, hw1⟩ := HW.out t (mog ht)
    have hI := hf wr hbr t A' c' K' d' hd1 hw1 (hNt.later hbr); unfold ndV at hI; have hRD := Lh (rowB_drop ht hp); clear hC hNt ht hp hf hd1 hw1 hv; have HI := Lh hI; clear hI
    cases hpt : p t with
    | true =>
     rw [hpt] at HI; rw [hpt, Bool.true_and] at hRD; go_wp2_with (with_reducible refine HI.out.mono ?_; rintro e w3 ⟨rfl, hb3⟩)
     go_roundw
     case rel => exact ⟨k + 1, by go_num, by omega, Lh (hR.out.trans hRD.out), hbr.trans (hb3.mono hbr.size)⟩
     case measure => simp [intOf]; omega
    | false =>
     rw [hpt] at HI; rw [hpt, Bool.false_and] at hRD; go_wp2_with (with_reducible refine HI.out.mono ?_; rintro e w3 ⟨rfl, hb3⟩); go_ret; exact ⟨by rw [hR.out, hRD.out]; rfl, hbr.trans (hb3.mono hbr.size)⟩
   ·have o1 : decide ((k : Int) < (n : Int)) = false := dFo; have o2 : decide (k < n) = false := dFa hkl; have hR2 := hR.out; rw [List.drop_eq_nil_of_le (by have := HN.out; omega), List.drop_eq_nil_of_le (by have := HM.out; omega), rowB] at hR2; go_wp2_with fail; go_ret; exact ⟨by rw [hR2]; rfl, hbr⟩
 ·have e1 : ((n : Int) != (m : Int)) = true := by simp; omega
  have e2 : (n != m) = true := by simp; omega
  have hR2 : rowB l L = false := rowB_len lq29; rw [hR2]; clear hl hL hW hR2; go_enter Tryz.func127, Tryz.ntmps127; go_wp2_with fail; go_ret; exact ⟨rfl, Below.refl _ _⟩
theorem run_call (f : FuncId) (fn : Func) (h : Tryz.prog.funcs[f]? = some fn) (h1 : (fn.name == "runtime.NumGoroutine") = false) (h2 : fn.body.isNone = false) (args : Array Value) (W : World) : (callFunc f args).run Tryz.prog W = .ok (.enter f args) W := by
 have h1' : ¬ fn.name = "runtime.NumGoroutine" := by simpa using h1
 have h2' : ¬ fn.body = none := by intro e; rw [e] at h2; exact absurd h2 lq28
 unfold callFunc
 simp [h, h1', h2']
theorem box_one (w : World) (v : Value) (t : TypeId) : (w.alloc (.cells #[v] t)).cell? ⟨w.heap.size, 0, none⟩ = some v := cell_of_row _ _ 0 _ _ _ (heap_alloc_new w _)
theorem within_kids {D : Nat} {T : Nd} (hD : T.depth ≤ D + 1) (hW : T.weight ≤ 1048576) : Within D T.kids := fun t ht => by
 have h1 := Nd.depth_kid ht
 have h2 := Nd.weight_kid ht
 omega
theorem kids1_ok (D : Nat) (L : List (Nd → Bool)) (m c' X : Nat) (A' : Option Addr) (w : World) (hm : L.length = m) (hL : ShapesAt D w A' L) (hmc : m ≤ c') (hc : c' ≤ maxLen) (hX : w.cell? ⟨X, 0, none⟩ = some (.slice A' m c')) (T : Nd) (A : Option Addr) (c : Nat) (K : Option Addr) (d : Nat) (hD : T.depth ≤ D + 1) (hW : T.weight ≤ 1048576) (hN : NodeAt w T A c K d) :
  Calls Tryz.prog 126 #[ndV T A c K d, .pointer (some ⟨X, 0, none⟩)] w fun e w' => e = .returned (.bool (rowB T.kids L)) ∧ Below w.heap.size w w' := by
 have hWi := within_kids hD hW
 have hX2 := fun o => cLt ((Below.refl w.heap.size w).alloc (Nat.le_refl _) o) hX
 have hXl := World.block_lt_of_cell? w _ hX
 have hR := fun o => row_ok D T.kids T.kids.length K d L m A' c' (w.alloc o) rfl (hN.parts.2.2.2.2.2.2.2.2.2.later ((Below.refl w.heap.size w).alloc (Nat.le_refl _) o)) hWi hm (hL.later ((Below.refl w.heap.size w).alloc (Nat.le_refl _) o)) hN.parts.2.2.2.2.1 hN.parts.2.2.2.2.2.1 hmc hc
 have HR := Lh hR
 clear hR hL hWi
 obtain ⟨hm1, hm2, hrm, hw32, hk1, hk2, ⟨hk64a, hk64b⟩, ⟨ha64a, ha64b⟩, hts, hKs, HK⟩ := hN.hd
 obtain ⟨hb1, c0, c1, c2, c3, c4, c5⟩ := bxn w T A c K d
 have c6 := hX2 (bx T.kind T A c K d)
 clear hX hX2
 unfold ndV
 clear hKs hN
 go_enter Tryz.func126, Tryz.ntmps126
 go_wp2_with (go_at_call 127; refine (HR.out _).mono ?_; rintro e w3 ⟨rfl, hb3⟩)
 go_ret
 exact ⟨rfl, hb1.trans (hb3.mono hb1.size)⟩
end
section
open Go.Lib
open List (length_append length_cons length_nil length_singleton)
def enc (r : Nat) : List UInt8 := (Utf8.encode (r : Int)).data.toList
def Sc (r : Nat) : Prop := r < 55296 ∨ (57344 ≤ r ∧ r ≤ 1114111)
instance (r : Nat) : Decidable (Sc r) := by unfold Sc; infer_instance
theorem valid_of (r : Nat) (h : Sc r) : Utf8.valid (r : Int) = true := by
 unfold Sc at h; simp [Utf8.valid]; omega
theorem valid_not (r : Nat) (h : ¬ Sc r) : Utf8.valid (r : Int) = false := by
 unfold Sc at h; simp [Utf8.valid]; omega
theorem enc1 (r : Nat) (c1 : r < 128) : enc r = [UInt8.ofNat r] := by
 have v : Utf8.valid (r : Int) = true := valid_of r (by unfold Sc; omega)
 simp [enc, Utf8.encode, v, c1]
theorem enc2 (r : Nat) (c1 : ¬ r < 128) (c2 : r < 2048) : enc r = [UInt8.ofNat (192 + r / 64), UInt8.ofNat (128 + r % 64)] := by
 have v : Utf8.valid (r : Int) = true := valid_of r (by unfold Sc; omega)
 simp [enc, Utf8.encode, v, c1, c2]
theorem enc3 (r : Nat) (c2 : ¬ r < 2048) (c3 : r < 65536) (hv : Sc r) : enc r = [UInt8.ofNat (224 + r / 4096), UInt8.ofNat (128 + r / 64 % 64), UInt8.ofNat (128 + r % 64)] := by
 have v : Utf8.valid (r : Int) = true := valid_of r hv
 have c1 : ¬ r < 128 := by omega
 simp [enc, Utf8.encode, v, c1, c2, c3]
theorem enc4 (r : Nat) (c3 : ¬ r < 65536) (hv : Sc r) : enc r = [UInt8.ofNat (240 + r / 262144), UInt8.ofNat (128 + r / 4096 % 64), UInt8.ofNat (128 + r / 64 % 64), UInt8.ofNat (128 + r % 64)] := by
 have v : Utf8.valid (r : Int) = true := valid_of r hv
 have c1 : ¬ r < 128 := by omega
 have c2 : ¬ r < 2048 := by omega
 simp [enc, Utf8.encode, v, c1, c2, c3]
theorem encBad (r : Nat) (h : ¬ Sc r) : enc r = [239, 191, 189] := by
 simp [enc, Utf8.encode, valid_not r h, Utf8.runeError]
theorem enc_len (r : Nat) : 1 ≤ (enc r).length ∧ (enc r).length ≤ 4 := by
 by_cases hv : Sc r
 ·by_cases c1 : r < 128
  ·simp [enc1 r c1]
  by_cases c2 : r < 2048
  ·simp [enc2 r c1 c2]
  by_cases c3 : r < 65536
  ·simp [enc3 r c2 c3 hv]
  ·simp [enc4 r c3 hv]
 ·simp [encBad r hv]
theorem dec_sc (l : List UInt8) : Sc (decodeL l).1 := by
 rw [decodeL_N]
 have h0 := (l.getD 0 0).toNat_lt; have h1 := (l.getD 1 0).toNat_lt
 generalize (l.getD 0 0).toNat = a at *
 generalize (l.getD 1 0).toNat = b at *
 generalize (l.getD 2 0).toNat = c at *
 generalize (l.getD 3 0).toNat = d at *
 unfold decodeN Sc
 repeat' split
 all_goals simp only
 all_goals omega
def Bad (l : List UInt8) : Prop := (decodeL l).1 = 65533 ∧ (decodeL l).2 = 1
instance (l : List UInt8) : Decidable (Bad l) := by unfold Bad; infer_instance
theorem enc_Z (r : Nat) : enc r = encodeRune (r : Int) := by
 by_cases hv : Sc r
 ·by_cases c1 : r < 128
  ·rw [enc1 r c1, encodeRune, encodeRuneZ_one lq29 lq29]; simp
  by_cases c2 : r < 2048
  ·rw [enc2 r c1 c2, encodeRune, encodeRuneZ_two lq29 lq29]; simp only [List.map_cons, List.map_nil]
   congr 1
  by_cases c3 : r < 65536
  ·unfold Sc at hv; rw [enc3 r c2 c3 hv, encodeRune, encodeRuneZ_three lq29]; simp only [List.map_cons, List.map_nil]
   congr 1
  ·unfold Sc at hv; rw [enc4 r c3 hv, encodeRune, encodeRuneZ_four lq29 lq29]; simp only [List.map_cons, List.map_nil]
   congr 1
 ·rw [encBad r hv, encodeRune, encodeRuneZ_bad (by unfold Sc at hv; omega)]
  rfl
theorem enc_dec (l : List UInt8) (hne : l ≠ []) (hb : ¬ Bad l) : enc (decodeL l).1 = l.take (decodeL l).2 := by
 rw [enc_Z]; exact encode_decode l hne hb
theorem enc_fffd : enc 65533 = [239, 191, 189] := by rfl
def pc : Nat → List UInt8 → List Nat
 | 0, _ => []
 | f + 1, l => if l = [] then [] else (decodeL l).1 :: pc f (l.drop (decodeL l).2)
def pieces (l : List UInt8) : List Nat := pc l.length l
def encs (rs : List Nat) : List UInt8 := rs.flatMap enc
theorem pc_nil : ∀ f, pc f [] = [] := by intro f; cases f <;> simp [pc]
theorem pc_fuel : ∀ (f g : Nat) (l : List UInt8), l.length ≤ f → l.length ≤ g → pc f l = pc g l
 | 0, g, l, h, _ => by
  have : l = [] := List.length_eq_zero_iff.1 lq29; rw [this, pc_nil, pc_nil]
 | f + 1, 0, l, _, h => by
  have : l = [] := List.length_eq_zero_iff.1 lq29; rw [this, pc_nil, pc_nil]
 | f + 1, g + 1, l, hf, hg => by
  simp only [pc]
  by_cases hne : l = []
  ·simp [hne]
  ·have hw := decodeL_width l; rw [if_neg hne, if_neg hne, pc_fuel f g _ lq20 lq20]
theorem pieces_nil : pieces [] = [] := rfl
theorem pieces_step (l : List UInt8) (hne : l ≠ []) : pieces l = (decodeL l).1 :: pieces (l.drop (decodeL l).2) := by
 have hl : 0 < l.length := List.length_pos_iff.2 hne
 have hw := decodeL_width l
 obtain ⟨n, hn⟩ : ∃ n, l.length = n + 1 := ⟨l.length - 1, by omega⟩
 unfold pieces
 rw [hn]
 show (if l = [] then [] else _) = _
 rw [if_neg hne, pc_fuel n (l.drop (decodeL l).2).length _ lq20 (Nat.le_refl _)]
theorem encs_nil : encs [] = [] := rfl
theorem encs_cons (r : Nat) (rs : List Nat) : encs (r :: rs) = enc r ++ encs rs := rfl
theorem rune_ind {p : List UInt8 → Prop} (h0 : p []) (hs : ∀ l, l ≠ [] → p (l.drop (decodeL l).2) → p l) : ∀ l, p l := by
 have : ∀ (n : Nat) (l : List UInt8), l.length ≤ n → p l := by
  intro n
  induction n with
  | zero => intro l h; rw [List.length_eq_zero_iff.1 (by omega : l.length = 0)]; exact h0
  | succ n ih =>
   intro l h
   by_cases hne : l = []
   ·rw [hne]; exact h0
   ·have hw := decodeL_width l; have hl : 0 < l.length := List.length_pos_iff.2 hne; exact hs l hne (ih _ lq20)
 exact fun l => this l.length l (Nat.le_refl _)
theorem pieces_sc : ∀ l, ∀ r ∈ pieces l, Sc r := by
 apply rune_ind
 ·intro r h; simp [pieces_nil] at h
 ·intro l hne ih r h; rw [pieces_step l hne] at h
  rcases List.mem_cons.1 h with rfl | h
  ·exact dec_sc l
  ·exact ih r h
theorem pieces_len : ∀ l, (pieces l).length ≤ l.length := by
 apply rune_ind
 ·simp [pieces_nil]
 ·intro l hne ih; have hw := decodeL_width l; have hle := decodeL_le l hne; rw [List.length_drop] at ih; rw [pieces_step l hne, length_cons]
  omega
theorem encs_len : ∀ l, l.length ≤ (encs (pieces l)).length := by
 apply rune_ind
 ·simp
 ·intro l hne ih; have hle := decodeL_le l hne; rw [List.length_drop] at ih; rw [pieces_step l hne, encs_cons, length_append]
  by_cases hb : Bad l
  ·rw [hb.1, enc_fffd]; have := hb.2
   simp
   omega
  ·rw [enc_dec l hne hb, List.length_take]
   omega
theorem good_iff : ∀ l, (encs (pieces l) = l ↔ validD l = true) := by
 apply rune_ind
 ·simp [pieces_nil, encs_nil, validD_nil]
 ·intro l hne ih; have hle := decodeL_le l hne; rw [validD_step l hne, pieces_step l hne, encs_cons]
  by_cases hb : Bad l
  ·rw [if_pos (show (decodeL l).1 = 65533 ∧ (decodeL l).2 = 1 from hb)]
   constructor
   ·intro h
    exfalso
    have h1 := congrArg List.length h; have h2 := encs_len (l.drop (decodeL l).2); rw [List.length_drop] at h2; rw [hb.1, enc_fffd, length_append] at h1; have := hb.2
    simp at h1
    omega
   ·simp
  ·rw [if_neg (show ¬ ((decodeL l).1 = 65533 ∧ (decodeL l).2 = 1) from hb), ← ih]; rw [enc_dec l hne hb]
   constructor
   ·intro h; have : l.take (decodeL l).2 ++ encs (pieces (l.drop (decodeL l).2)) = l.take (decodeL l).2 ++ l.drop (decodeL l).2 := by rw [h, List.take_append_drop]
    exact List.append_cancel_left this
   ·intro h; rw [h, List.take_append_drop]
end
section
open List (length_append length_cons length_nil length_singleton)
def isDig (c : UInt8) : Bool := 48 ≤ c.toNat && c.toNat ≤ 57
def isLet (c : UInt8) : Bool := (97 ≤ c.toNat && c.toNat ≤ 122) || (65 ≤ c.toNat && c.toNat ≤ 90) || c.toNat == 95
def isWd (c : UInt8) : Bool := isLet c || isDig c
def wordsL : List (List UInt8) := [[97, 110, 100], [97, 115], [98, 114, 101, 97, 107], [99, 108, 97, 115, 115], [99, 111, 110, 116, 105, 110, 117, 101], [100, 101, 102], [100, 101, 108], [101, 108, 105, 102], [101, 108, 115, 101], [101, 120, 99, 101, 112, 116], [70, 97, 108, 115, 101], [102, 111, 114], [103, 108, 111, 98, 97, 108], [105, 102], [105, 110], [105, 115], [78, 111, 110, 101], [110, 111, 110, 108, 111, 99, 97, 108], [110, 111, 116], [111, 114], [112, 97, 115, 115], [114, 97, 105, 115, 101], [114, 101, 116, 117, 114, 110], [84, 114, 117, 101], [116, 114, 121], [119, 104, 105, 108, 101]]
def wordB (l : List UInt8) : Bool := wordsL.contains l
end
section
open Go.Lib
open List (length_append length_cons length_nil length_singleton)
def hexc (d : Nat) : UInt8 := UInt8.ofNat (if d < 10 then 48 + d else 87 + d)
def numb : Nat → Nat → List UInt8
 | _, 0 => []
 | r, n + 1 => numb (r / 16) n ++ [hexc (r % 16)]
theorem numb2 (r : Nat) : numb r 2 = [hexc (r / 16 % 16), hexc (r % 16)] := rfl
theorem numb4 (r : Nat) : numb r 4 = [hexc (r / 16 / 16 / 16 % 16), hexc (r / 16 / 16 % 16), hexc (r / 16 % 16), hexc (r % 16)] := rfl
theorem numb_len : ∀ (n r : Nat), (numb r n).length = n
 | 0, _ => rfl
 | n + 1, r => by simp [numb, numb_len n]
def Wide (r : Nat) : Prop := (128 ≤ r ∧ r ≤ 159) ∨ r = 8232 ∨ r = 8233 ∨ r = 65279
instance (r : Nat) : Decidable (Wide r) := by unfold Wide; infer_instance
def quotedL (r : Nat) : List UInt8 :=
 if r = 39 ∨ r = 92 then 92 :: enc r
 else if r = 10 then [92, 110]
 else if r = 9 then [92, 116]
 else if r < 32 ∨ r = 127 then 92 :: 120 :: numb r 2
 else if Wide r then 92 :: 117 :: numb r 4
 else enc r
def quoteL (rs : List Nat) : List UInt8 := 39 :: (rs.flatMap quotedL ++ [39])
theorem quotedL_len (r : Nat) : 1 ≤ (quotedL r).length ∧ (quotedL r).length ≤ 6 := by
 have h := enc_len r
 unfold quotedL
 split
 ·simp; omega
 split
 ·simp
 split
 ·simp
 split
 ·simp [numb_len]
 split
 ·simp [numb_len]
 ·omega
theorem quoteds_len : ∀ rs : List Nat, rs.length ≤ (rs.flatMap quotedL).length ∧ (rs.flatMap quotedL).length ≤ 6 * rs.length
 | [] => by simp
 | r :: rs => by
  have h := quotedL_len r; have h2 := quoteds_len rs; simp only [List.flatMap_cons, length_append, length_cons]
  omega
end
section
open Go.RowKit Go.Shelf
open List (length_append length_cons length_nil length_singleton)
theorem heap_later {w w' : World} (hb : Below w.heap.size w w') {k : Nat} {o : Obj} (h : w.heap[k]? = some o) : w'.heap[k]? = some o :=
 (hb.block k (Array.getElem?_eq_some_iff.1 h).1).trans h
theorem bAt_later {T e : TypeId} {B b : Nat} {p : Value} {bs : List Value} {w w' : World} (h : Lib.BuilderAtF T e B b p bs w) (hb : Below w.heap.size w w') : Lib.BuilderAtF T e B b p bs w' := by
 obtain ⟨hB, v, hbk, hown, hne⟩ := h
 refine ⟨hB, v, heap_later hb hbk, ⟨hown.1, ?_⟩, hne⟩
 rcases hown.2 with hn | ⟨g, cap, cur, fz, hv, hbg, hg, rest⟩
 ·exact .inl hn
 ·exact .inr ⟨g, cap, cur, fz, hv, hbg, heap_later hb hg, rest⟩
theorem beqI {a b : Nat} (h : a ≠ b) : ((a : Int) == (b : Int)) = false := by simp; omega
theorem below_drewN {B : Nat} {a w : World} (h : Below B a w) (n : Nat) : Below B a (w.drewN n) := h.trans ⟨rfl, rfl, rfl, Nat.le_refl _, fun _ _ => rfl⟩
theorem bytes_at (s : ByteArray) (i : Nat) (h : i < s.size) : s.data.toList.drop i = s[i] :: s.data.toList.drop (i + 1) := by
 rw [List.drop_eq_getElem_cons (by simpa using h)]; rfl
def nums (rs : List Nat) : List Int := rs.map Int.ofNat
theorem nums_length (rs : List Nat) : (nums rs).length = rs.length := by simp [nums]
section
variable {base : Nat} {e : TypeId} {size : Nat} {v : Value} {n : Nat} {xs : List Value}
include base e size v n xs
theorem ownsRow_iterAt {w : World} (h : w.ownsRow base e size v n xs) {k : Nat} {s : ByteArray} {pos : Nat} (hk : w.heap[k]? = some (.stringIter s pos)) (pos' : Nat) :
  (w.iterAt k s pos').ownsRow base e size v n xs := by
 refine ⟨h.1, ?_⟩
 rcases h.2 with hn | ⟨g, cap, cur, hv, hbg, hg, rest⟩
 ·exact .inl hn
 ·have hkg : g ≠ k := by
   intro e1; rw [e1, hk] at hg
   cases hg
  exact .inr ⟨g, cap, cur, hv, hbg, (Lib.iterAt_other w k g s pos' hkg).trans hg, rest⟩
theorem ownsRow_later {w w' : World} (h : w.ownsRow base e size v n xs) (hb : Below w.heap.size w w') : w'.ownsRow base e size v n xs := by
 refine ⟨h.1, ?_⟩
 rcases h.2 with hn | ⟨g, cap, cur, hv, hbg, hg, rest⟩
 ·exact .inl hn
 ·exact .inr ⟨g, cap, cur, hv, hbg, heap_later hb hg, rest⟩
theorem own_ne_iter {w : World} (h : w.ownsRow base e size v n xs) {k : Nat} {s : ByteArray} {pos : Nat} (hk : w.heap[k]? = some (.stringIter s pos)) : some k ≠ v.ownBlock := by
 rcases h.2 with ⟨rfl, _⟩ | ⟨g, cap, cur, rfl, _, hg, _⟩
 ·simp [Value.ownBlock]
 ·simp only [Value.ownBlock]; intro e1; injection e1 with e1
  rw [← e1, hk] at hg
  cases hg
theorem own_base {w : World} (h : w.ownsRow base e size v n xs) : ∀ k, v.ownBlock = some k → base ≤ k := by
 intro k hk
 rcases h.2 with ⟨rfl, _⟩ | ⟨g, cap, cur, rfl, hg, _⟩
 ·simp [Value.ownBlock] at hk
 ·simp only [Value.ownBlock] at hk; injection hk with hk; omega
end
theorem i32_info : (Tryz.prog.info? 21).map (fun i => (i.zero, i.size, i.bytes)) = some (some (.int .i32 0), 1, 4) := by kernel_rfl
def RetRunes (w : World) (rs : List Nat) (e : Ending) (w' : World) : Prop :=
 ∃ A c, e = .returned (.slice A rs.length c) ∧ rs.length ≤ c ∧ c ≤ 9223372036854775807 ∧ FrI w' w.heap.size .i32 A (nums rs) ∧ Below w.heap.size w w'
set_option maxRecDepth 100000 in
theorem pieces_ok (s : ByteArray) (w : World) (hs : s.size ≤ 1099511627776) :
  Calls Tryz.prog 195 #[.string s] w (RetRunes w (pieces s.data.toList)) := by
 obtain ⟨i0, hi0, hz0, hz1, hz2⟩ := info_parts i32_info
 go_enter Tryz.func195, Tryz.ntmps195
 go_wp2
 go_loopw [3] (fun v wr => ∃ (pos : Nat) (rs : List Nat), wr.ownsRow w.heap.size 21 1 v rs.length ((nums rs).map (Value.int .i32)) ∧ wr.heap[w.heap.size]? = some (.stringIter s pos) ∧ Below w.heap.size w wr ∧ rs.length ≤ pos ∧ Hid (rs ++ pieces (s.data.toList.drop pos) = pieces s.data.toList)) (fun _ wr => s.size - wr.iterPos w.heap.size)
 case atStart =>
  exact ⟨0, [], (World.ownsRow_nil w w.heap.size 21 1).alloc _, World.iter_heap w s 0, (Below.refl _ w).alloc (Nat.le_refl _) _, Nat.le_refl _, rfl⟩
 case round =>
  obtain ⟨pos, rs, hown, hit, hbw, hrl, hT⟩ := hrel; have hsz : w.heap.size < wr.heap.size := (Array.getElem?_eq_some_iff.1 hit).1; obtain ⟨A, c, rfl, hlc, hcm, _⟩ := own_form hown
  by_cases hp : pos < s.size
  ·have hnx : ∀ ty, (Instr.next (.pointer (some ⟨w.heap.size, 0, none⟩)) true ty).run Tryz.prog wr = _ := fun ty => Lib.run_next_any_at wr w.heap.size s pos ty hit hp
   have hla := bytes_at s pos hp; have hne : s.data.toList.drop pos ≠ [] := by rw [hla]; simp
   have hwd := Lib.decodeL_width (s.data.toList.drop pos); have hst := pieces_step _ hne; rw [Lib.decodeL_drop] at hwd hst; rw [List.drop_drop] at hst; have hown2 := ownsRow_iterAt hown hit (pos + (Utf8.decode s pos).2); have hne2 := own_ne_iter hown hit; have hit2 := Lib.iterAt_heap wr w.heap.size s pos (pos + (Utf8.decode s pos).2) hit; have hbw2 := Lib.below_iterAt hbw (k := w.heap.size) (Nat.le_refl _) s (pos + (Utf8.decode s pos).2); have hsz2 : w.heap.size < (wr.iterAt w.heap.size s (pos + (Utf8.decode s pos).2)).heap.size := by rw [Lib.iterAt_size]; exact hsz
   rw [hst] at hT; have HL := Lh (And.intro hrl (And.intro hwd hsz)); clear hla hne hst hrl hsz
   generalize (Utf8.decode s pos).1 = r at *
   generalize (Utf8.decode s pos).2 = n at *
   generalize hW2 : wr.iterAt w.heap.size s (pos + n) = W2 at *
   go_wp2_with (at_builtin; refine wpList_append_ints _ rfl (.tmp 11) (.tmp 13) _ rfl w.heap.size 21 i0 _ 4 .i32 Tryz.underlying154 hi0 hz0 hz1 hz2 rfl _ rs.length (nums rs) rfl (hown2.alloc _) _ _ _ [(r : Int)] rfl rfl (rdI_one _ _ _ _) (by unfold maxLen; have := HL.out; omega) (by have := HL.out; omega) lq26 ?_; intro v1 w1 hown1 hg1 _)
   go_roundw
   case rel =>
    have hg2 : (W2.alloc (.cells #[.int .i32 (r : Int)] 21)).grownBy w1 (Value.slice A rs.length c).ownBlock := hg1
    refine ⟨pos + n, rs ++ [r], by simpa [nums] using hown1, ?_, (hbw2.alloc (Nat.le_of_lt hsz2) _).grown hg2 lq26 (own_base hown2), ?_, ?_⟩
    ·rw [hg2.block _ lq26 hne2, heap_alloc_old _ _ hsz2]; exact hit2
    ·have := HL.out; simp; omega
    ·rw [List.append_assoc]; exact hT
   case measure =>
    have hg2 : (W2.alloc (.cells #[.int .i32 (r : Int)] 21)).grownBy w1 (Value.slice A rs.length c).ownBlock := hg1; have hi3 : w1.heap[w.heap.size]? = some (Obj.stringIter s (pos + n)) := by rw [hg2.block _ lq26 hne2, heap_alloc_old _ _ hsz2]; exact hit2
    simp only [World.iterPos, hi3, hit]
    omega
  ·have hnx : ∀ ty, (Instr.next (.pointer (some ⟨w.heap.size, 0, none⟩)) true ty).run Tryz.prog wr = _ := fun ty => Lib.run_next_end_at wr w.heap.size s pos ty hit hp
   have hT1 : rs = pieces s.data.toList := by
    have := hT.out; rw [List.drop_eq_nil_of_le lq26, pieces_nil, List.append_nil] at this; exact this
   clear hT; go_wp2; go_ret; rw [← hT1]; exact ⟨A, c, rfl, hlc, hcm, FrI.of_own hown, hbw⟩
def encsB (rs : List Nat) : ByteArray := ⟨(encs rs).toArray⟩
theorem encsB_list (rs : List Nat) : (encsB rs).data.toList = encs rs := by simp [encsB]
theorem runesBytes_eq (rs : List Nat) : runesBytes (nums rs) = encsB rs := by
 have h : ∀ (rs : List Nat) (b : ByteArray), ((nums rs).foldl (fun r n => r ++ Utf8.encode n) b).data.toList = b.data.toList ++ encs rs := by
  intro rs
  induction rs with
  | nil => intro b; simp [nums, encs]
  | cons r rs ih =>
   intro b; have := ih (b ++ Utf8.encode (r : Int)); simp only [nums, List.map_cons, List.foldl_cons] at this ⊢
   refine Eq.trans this ?_
   simp [encs, enc, ByteArray.data_append]
 have h2 := h rs ByteArray.empty
 refine ByteArray.ext (Array.ext' ?_)
 rw [encsB_list]
 simpa [runesBytes] using h2
theorem conv_runes (w : World) (A : Option Addr) (c : Nat) (rs : List Nat) (h : RdI w .i32 A (nums rs)) :
  (convert 154 9 (.slice A rs.length c)).run Tryz.prog w = .ok (.string (encsB rs)) w := by
 cases A with
 | none =>
  have hrs : rs = [] := by
   cases rs with
   | nil => rfl
   | cons r rs => obtain ⟨b, off, z, hA, _⟩ := h 0 (by simp [nums]); cases hA
  subst hrs; exact run_convert_runes_nil w _ _ _ _ _ Tryz.underlying154 Tryz.underlying21 Tryz.underlying9
 | some a =>
  have := run_convert_runes (P := Tryz.prog) w 154 9 21 a rs.length c (nums rs) (by rw [nums_length]; exact Nat.le_refl _) Tryz.underlying154 Tryz.underlying21 Tryz.underlying9 (by
   intro j hj; obtain ⟨b, off, z, hA, hz, hc⟩ := h j hj; injection hA with hA
   subst hA; rw [Addr.add_lit, hc]
   congr 2
   rw [List.getD_eq_getElem?_getD, hz]; rfl)
  rw [this, List.take_of_length_le (by rw [nums_length]; exact Nat.le_refl _), runesBytes_eq]
theorem u8_info : (Tryz.prog.info? 5).map (fun i => (i.zero, i.size, i.bytes)) = some (some (.int .u8 0), 1, 1) := by kernel_rfl
theorem conv_bytes (w : World) (base : Nat) (A : Option Addr) (n c : Nat) (l : List UInt8) (hn : n = l.length) (h : w.ownsRow base 5 1 (.slice A n c) n (Lib.byteCells l)) :
  (convert 40 9 (.slice A n c)).run Tryz.prog w = .ok (.string ⟨l.toArray⟩) w := by
 exact lv100
def numCell (r d i j : Nat) : Value := if j < d ∧ d - 1 - j < i then .int .u8 (hexc (r / 16 ^ (d - 1 - j) % 16)).toNat else .int .u8 0
def numCells (r d i : Nat) : Array Value := #[numCell r d i 0, numCell r d i 1, numCell r d i 2, numCell r d i 3]
theorem nat_and15 (q : Nat) : q &&& 15 = q % 16 := by
 have := Nat.and_two_pow_sub_one_eq_mod q 4
 simpa using this
theorem and15 (q : Nat) (hq : q ≤ 1114111) : bits BinOp.and IntKind.i32 (q : Int) 15 = ((q % 16 : Nat) : Int) := by
 show IntKind.i32.wrap ((BitVec.ofInt 32 (q : Int) &&& BitVec.ofInt 32 ((15 : Nat) : Int)).toNat : Int) = _
 rw [BitVec.toNat_and, ofInt_u32 q lq29, ofInt_u32 15 lq29, nat_and15]
 exact wrap_i32_small _ lq29 lq29
theorem hexAt (m : Nat) (h : m < 16) : (⟨#[48, 49, 50, 51, 52, 53, 54, 55, 56, 57, 97, 98, 99, 100, 101, 102]⟩ : ByteArray)[m]'(h) = hexc m := by
 have : ∀ m : Fin 16, (⟨#[48, 49, 50, 51, 52, 53, 54, 55, 56, 57, 97, 98, 99, 100, 101, 102]⟩ : ByteArray)[m.1]'(m.2) = hexc m.1 := by decide
 exact this ⟨m, h⟩
theorem conv_arr (w : World) (l : List UInt8) (cs : Array Value) (t : TypeId) (c : Nat) (hc : ∀ j (hj : j < l.length), cs[j]? = some (.int .u8 (l[j].toNat : Int))) :
  (convert 40 9 (.slice (some ⟨w.heap.size, 0, none⟩) l.length c)).run Tryz.prog (w.alloc (.cells cs t)) = .ok (.string ⟨l.toArray⟩) (w.alloc (.cells cs t)) := by
 refine run_convert_bytes_back _ _ _ 5 _ _ l Tryz.underlying40 Tryz.underlying5 Tryz.underlying9 ?_
 intro j hj
 have := hc j hj
 rw [Addr.add_lit, World.cell?_alloc_at _ _ _ _ (by rfl)]
 simpa using this
theorem numbered_ok (r d : Nat) (hd : d = 2 ∨ d = 4) (hr : r ≤ 1114111) (w : World) :
  Calls Tryz.prog 216 #[.int .i32 r, .int .i64 d] w fun e w' => e = .returned (.string ⟨(numb r d).toArray⟩) ∧ Below w.heap.size w w' := by
 have hcv : ∀ c, (convert 40 9 (.slice (some ⟨w.heap.size, 0, none⟩) d c)).run Tryz.prog (w.alloc (.cells (numCells r d d) 189)) = .ok (.string ⟨(numb r d).toArray⟩) (w.alloc (.cells (numCells r d d) 189)) := by
  intro c; have h := conv_arr w (numb r d) (numCells r d d) 189 c ?_
  ·rw [numb_len] at h; exact h
  ·intro j hj; rw [numb_len] at hj
   rcases hd with rfl | rfl
   ·have : j = 0 ∨ j = 1 := by omega
    rcases this with rfl | rfl <;> simp [numCells, numCell, numb2]
   ·have : j = 0 ∨ j = 1 ∨ j = 2 ∨ j = 3 := by omega
    rcases this with rfl | rfl | rfl | rfl <;> simp [numCells, numCell, numb4, Nat.div_div_eq_div_mul]
 obtain ⟨X, hX⟩ : ∃ X, (⟨(numb r d).toArray⟩ : ByteArray) = X := ⟨_, rfl⟩
 rw [hX]
 rw [hX] at hcv
 clear hX
 rcases hd with rfl | rfl
 ·rw [show ((2 : Nat) : Int) = 2 from rfl]; go_enter Tryz.func216, Tryz.ntmps216; go_wp2
  go_loopw [0, 6, 8] (fun v0 v6 v8 wr => ∃ i : Nat, v0 = .int .i32 (r / 16 ^ i : Nat) ∧ v8 = .int .i64 i ∧ i ≤ 2 ∧ wr = w.alloc (.cells (numCells r 2 i) 189)) (fun _ _ v8 _ => 2 - (intOf v8).toNat)
  case atStart => exact ⟨0, by simp, rfl, by omega, rfl⟩
  case round =>
   obtain ⟨i, rfl, rfl, hi, rfl⟩ := hrel; have hcase : i = 0 ∨ i = 1 ∨ i = 2 := by omega
   obtain ⟨q, hq⟩ : ∃ q, r / 16 ^ i = q := ⟨_, rfl⟩; have hql : q ≤ 1114111 := by rw [← hq]; exact Nat.le_trans (Nat.div_le_self _ _) hr
   have ha := and15 q hql; obtain ⟨m, hm⟩ : ∃ m, q % 16 = m := ⟨_, rfl⟩; have hml : m < 16 := by rw [← hm]; exact Nat.mod_lt _ lq28
   have hn : r / 16 ^ (i + 1) = q / 16 := by rw [← hq, Nat.pow_succ, Nat.div_div_eq_div_mul]
   rw [hm] at ha; rw [hq]; have HQ := Lh hq; have HM := Lh hm; have HN := Lh hn; clear hq hm hi hn
   rcases hcase with rfl | rfl | rfl
   ·exact lv166
   ·exact lv167
   ·go_wp2; go_ret; exact ⟨rfl, Below.alloc (Below.refl _ _) (Nat.le_refl _) _⟩
 ·rw [show ((4 : Nat) : Int) = 4 from rfl]; go_enter Tryz.func216, Tryz.ntmps216; go_wp2
  go_loopw [0, 6, 8] (fun v0 v6 v8 wr => ∃ i : Nat, v0 = .int .i32 (r / 16 ^ i : Nat) ∧ v8 = .int .i64 i ∧ i ≤ 4 ∧ wr = w.alloc (.cells (numCells r 4 i) 189)) (fun _ _ v8 _ => 4 - (intOf v8).toNat)
  case atStart => exact ⟨0, by simp, rfl, by omega, rfl⟩
  case round =>
   obtain ⟨i, rfl, rfl, hi, rfl⟩ := hrel; have hcase : i = 0 ∨ i = 1 ∨ i = 2 ∨ i = 3 ∨ i = 4 := by omega
   obtain ⟨q, hq⟩ : ∃ q, r / 16 ^ i = q := ⟨_, rfl⟩; have hql : q ≤ 1114111 := by rw [← hq]; exact Nat.le_trans (Nat.div_le_self _ _) hr
   have ha := and15 q hql; obtain ⟨m, hm⟩ : ∃ m, q % 16 = m := ⟨_, rfl⟩; have hml : m < 16 := by rw [← hm]; exact Nat.mod_lt _ lq28
   have hn : r / 16 ^ (i + 1) = q / 16 := by rw [← hq, Nat.pow_succ, Nat.div_div_eq_div_mul]
   rw [hm] at ha; rw [hq]; have HQ := Lh hq; have HM := Lh hm; have HN := Lh hn; clear hq hm hi hn
   rcases hcase with rfl | rfl | rfl | rfl | rfl
   ·exact lv166
   ·exact lv167
   ·simp only [numCells]; clear hcv; go_wp2
    go_roundw
    case rel => exact ⟨3, by rw [HN.out]; simp, rfl, by omega, by rw [hexAt m hml, ← HM.out, ← HQ.out]; simp [numCells, numCell]⟩
    case measure => simp [intOf]
   ·simp only [numCells]; clear hcv; go_wp2
    go_roundw
    case rel => exact ⟨4, by rw [HN.out]; simp, rfl, by omega, by rw [hexAt m hml, ← HM.out, ← HQ.out]; simp [numCells, numCell]⟩
    case measure => simp [intOf]
   ·go_wp2; go_ret; exact ⟨rfl, Below.alloc (Below.refl _ _) (Nat.le_refl _) _⟩
end
end Go.Proofs.YtjefhdlncikhmaaGreatDoor
