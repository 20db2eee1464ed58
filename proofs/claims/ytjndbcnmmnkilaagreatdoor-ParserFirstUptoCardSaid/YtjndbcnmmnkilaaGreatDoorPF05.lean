/- Joined by a program: Pd3, Z0. -/
import Derived.Test.YtjndbcnmmnkilaaGreatDoorPF04
namespace Go.Proofs.YtjndbcnmmnkilaaGreatDoor
set_option linter.unusedVariables false
set_option linter.unusedSimpArgs false
set_option maxRecDepth 1000000
set_option maxHeartbeats 16000000
section
open Go.RowKit
open List (length_append length_cons length_nil length_singleton)
def BoolR (b : Bool) (E : Ending) : Prop := (b = true ∧ E = .returned (.bool true)) ∨ (b = false ∧ E = .returned (.bool false))
theorem BoolR.of {b : Bool} {E : Ending} (h : E = .returned (.bool b)) : BoolR b E := by cases b; exact .inr ⟨rfl, h⟩; exact .inl ⟨rfl, h⟩
def TakeR (e : Int) (X : Nat) (l : List Tok) (w : World) (b : Bool) (E : Ending) (w' : World) : Prop :=
 (b = true ∧ E = .returned (.bool true) ∧ Pz e w' X l.tail ∧ Kp w.heap.size X w w') ∨ (b = false ∧ E = .returned (.bool false) ∧ Pz e w' X l ∧ Kp w.heap.size X w w')
def NeedR (e : Int) (X : Nat) (l : List Tok) (w : World) (b : Bool) (E : Ending) (w' : World) : Prop :=
 (b = true ∧ E = .returned (.tuple #[]) ∧ Pz e w' X l.tail ∧ Kp w.heap.size X w w') ∨ (b = false ∧ E = .panicked [{ v := stopP 106 (hd e l).pos, recovered := false }] ∧ Kp w.heap.size X w w')
def NameR (nB : ByteArray → Bool) (e : Int) (X : Nat) (l : List Tok) (w : World) (E : Ending) (w' : World) : Prop :=
 (tokN nB e l = .ok (hd e l) l.tail ∧ E = .returned (tokA (hd e l)) ∧ Pz e w' X l.tail ∧ Kp w.heap.size X w w') ∨ (tokN nB e l = .bad 106 (hd e l).pos ∧ E = .panicked [{ v := stopP 106 (hd e l).pos, recovered := false }] ∧ Kp w.heap.size X w w')
section
variable {wB nB gB : ByteArray → Bool} {nO : ByteArray → Option (List Int)}
theorem isL_ok (hD : Deps wB nB gB nO) {e : Int} {w : World} {X : Nat} {l : List Tok} (hP : Pz e w X l) (L : List ByteArray) (cs : Array Value) (m : Nat) (b : Bool) (hc : cs.toList = L.map Value.string) (hm : L.length = m) (hmc : m ≤ 1000) (hb : L.any (sameB wB (hd e l)) = b) :
  Calls Tryz.prog 176 #[.pointer (some ⟨X, 0, none⟩), .slice (some ⟨w.heap.size, 0, none⟩) m m] (w.alloc (.cells cs 9)) fun E w' => BoolR b E ∧ Pz e w' X l ∧ Kp w.heap.size X w w' := by
 have hb1 := (Below.refl w.heap.size w).alloc (Nat.le_refl _) (.cells cs 9)
 refine (is_ok hD (hP.later hb1) L m _ hm hmc (stAt_new w cs L _ hc)).mono ?_
 rintro E w' ⟨rfl, hb2⟩
 have hb3 := hb1.trans (hb2.mono hb1.size)
 exact ⟨.of (by rw [hb]), hP.later hb3, Kp.of_below hb3 X⟩
theorem is1W_ok (hD : Deps wB nB gB nO) {s : ByteArray} (hs : wB s = true) {e : Int} {w : World} {X : Nat} {l : List Tok} (hP : Pz e w X l) :
  Calls Tryz.prog 176 #[.pointer (some ⟨X, 0, none⟩), .slice (some ⟨w.heap.size, 0, none⟩) 1 1] (w.alloc (.cells #[.string s] 9)) fun E w' => BoolR (isW e s l) E ∧ Pz e w' X l ∧ Kp w.heap.size X w w' :=
 isL_ok hD hP [s] _ 1 _ rfl rfl lq16 (by simp [sameW hs])
theorem is1S_ok (hD : Deps wB nB gB nO) {s : ByteArray} (hs : wB s = false) {e : Int} {w : World} {X : Nat} {l : List Tok} (hP : Pz e w X l) :
  Calls Tryz.prog 176 #[.pointer (some ⟨X, 0, none⟩), .slice (some ⟨w.heap.size, 0, none⟩) 1 1] (w.alloc (.cells #[.string s] 9)) fun E w' => BoolR (isS e s l) E ∧ Pz e w' X l ∧ Kp w.heap.size X w w' :=
 isL_ok hD hP [s] _ 1 _ rfl rfl lq16 (by simp [sameS hs])
theorem take_ok (hD : Deps wB nB gB nO) {e : Int} {w : World} {X : Nat} {l : List Tok} (hP : Pz e w X l) (s : ByteArray) (b : Bool) (hb : sameB wB (hd e l) s = b) :
  Calls Tryz.prog 98 #[.pointer (some ⟨X, 0, none⟩), .string s] w (TakeR e X l w b) := by
 have HI := Lh (isL_ok hD hP [s] #[.string s] 1 b rfl rfl lq16 (by simp [hb]))
 clear hP hD hb
 go_enter Tryz.func98, Tryz.ntmps98
 go_wp2_with fail
 go_at_call 176
 refine HI.out.mono ?_
 rintro E w2 ⟨hE, hP2, hk2⟩
 clear HI
 rcases hE with ⟨rfl, rfl⟩ | ⟨rfl, rfl⟩
 ·go_wp2_with fail
  go_at_call 177
  refine (pass_ok hP2).mono ?_
  rintro E w3 ⟨rfl, hP3, hk3⟩; unfold tokA; go_wp2_with fail; go_ret; exact .inl ⟨rfl, rfl, hP3, hk2.call (Nat.le_refl _) hk3⟩
 ·go_wp2_with fail; go_ret; exact .inr ⟨rfl, rfl, hP2, hk2⟩
theorem takeW_ok (hD : Deps wB nB gB nO) {s : ByteArray} (hs : wB s = true) {e : Int} {w : World} {X : Nat} {l : List Tok} (hP : Pz e w X l) :
  Calls Tryz.prog 98 #[.pointer (some ⟨X, 0, none⟩), .string s] w (TakeR e X l w (isW e s l)) := take_ok hD hP s _ (sameW hs e l)
theorem takeS_ok (hD : Deps wB nB gB nO) {s : ByteArray} (hs : wB s = false) {e : Int} {w : World} {X : Nat} {l : List Tok} (hP : Pz e w X l) :
  Calls Tryz.prog 98 #[.pointer (some ⟨X, 0, none⟩), .string s] w (TakeR e X l w (isS e s l)) := take_ok hD hP s _ (sameS hs e l)
theorem need_ok (hD : Deps wB nB gB nO) {e : Int} {w : World} {X : Nat} {l : List Tok} (hP : Pz e w X l) (s : ByteArray) (b : Bool) (hb : sameB wB (hd e l) s = b) :
  Calls Tryz.prog 103 #[.pointer (some ⟨X, 0, none⟩), .string s] w (NeedR e X l w b) := by
 have HI := Lh (take_ok hD hP s b hb)
 clear hP hD hb
 go_enter Tryz.func103, Tryz.ntmps103
 go_wp2_with fail
 go_at_call 98
 refine HI.out.mono ?_
 rintro E w2 hE
 clear HI
 rcases hE with ⟨rfl, rfl, hP2, hk2⟩ | ⟨rfl, rfl, hP2, hk2⟩
 ·go_wp2_with fail
  go_end0
  exact .inl ⟨rfl, rfl, hP2, hk2⟩
 ·go_wp2_with fail
  go_at_call 182
  refine (wrong_ok hP2).mono ?_
  rintro E w3 ⟨rfl, hb3⟩; go_wp2_with fail; exact ⟨rfl, .inr ⟨rfl, rfl, hk2.below (Nat.le_refl _) hb3⟩⟩
theorem needW_ok (hD : Deps wB nB gB nO) {s : ByteArray} (hs : wB s = true) {e : Int} {w : World} {X : Nat} {l : List Tok} (hP : Pz e w X l) :
  Calls Tryz.prog 103 #[.pointer (some ⟨X, 0, none⟩), .string s] w (NeedR e X l w (isW e s l)) := need_ok hD hP s _ (sameW hs e l)
theorem needS_ok (hD : Deps wB nB gB nO) {s : ByteArray} (hs : wB s = false) {e : Int} {w : World} {X : Nat} {l : List Tok} (hP : Pz e w X l) :
  Calls Tryz.prog 103 #[.pointer (some ⟨X, 0, none⟩), .string s] w (NeedR e X l w (isS e s l)) := need_ok hD hP s _ (sameS hs e l)
theorem kind_ok {e : Int} {w : World} {X : Nat} {l : List Tok} (hP : Pz e w X l) (k : Int) :
  Calls Tryz.prog 109 #[.pointer (some ⟨X, 0, none⟩), .int .i64 k] w (NeedR e X l w ((hd e l).kind == k)) := by
 have HA := Lh (next_ok hP)
 have HP := Lh (fun W (hb : Below w.heap.size w W) => hP.later hb)
 unfold tokA at HA
 have F0 := tfield0 (hd e l).kind (hd e l).text (hd e l).pos
 have hW := fun W (hP : Pz e W X l) => wrong_ok hP
 by_cases h : (hd e l).kind = k
 ·have o1 : ((hd e l).kind == k) = true := by simpa using h
  have o2 : ((hd e l).kind != k) = false := by simp [h]
  rw [o1]
  generalize hd e l = t at HA o1 o2 F0
  clear hP h hW; go_enter Tryz.func109, Tryz.ntmps109; go_wp2_with fail
  go_at_call 55
  refine HA.out.mono ?_
  rintro E w2 ⟨rfl, hb2⟩; have hP2 := HP.out w2 hb2; go_wp2_with fail
  go_at_call 177
  refine (pass_ok hP2).mono ?_
  rintro E w3 ⟨rfl, hP3, hk3⟩; unfold tokA; go_wp2_with fail
  go_end0
  exact .inl ⟨rfl, rfl, hP3, (Kp.of_below hb2 X).call (Nat.le_refl _) hk3⟩
 ·have o1 : ((hd e l).kind == k) = false := by simpa using h
  have o2 : ((hd e l).kind != k) = true := by simp [h]
  rw [o1]; have HW := Lh hW
  generalize hd e l = t at HA o1 o2 F0
  clear hP h hW; go_enter Tryz.func109, Tryz.ntmps109; go_wp2_with fail
  go_at_call 55
  refine HA.out.mono ?_
  rintro E w2 ⟨rfl, hb2⟩; have hP2 := HP.out w2 hb2; go_wp2_with fail
  go_at_call 182
  refine (HW.out _ hP2).mono ?_
  rintro E w3 ⟨rfl, hb3⟩; go_wp2_with fail; exact ⟨rfl, .inr ⟨rfl, rfl, (Kp.of_below hb2 X).below (Nat.le_refl _) hb3⟩⟩
theorem none_ok (a : Int) (w : World) :
  Calls Tryz.prog 178 #[.int .i64 a] w fun E w' => E = .returned (ndV (.mk 0 a ⟨#[]⟩ false [] []) none 0 none 0) ∧ Below w.heap.size w w' := by
 go_enter Tryz.func178, Tryz.ntmps178
 go_wp2_with fail
 refine bodyPost_ret (v := .agg #[.int .i64 0, .int .i64 a, .string ⟨#[]⟩, .bool false, .slice none 0 0, .slice none 0 0]) (by simp [results, Tryz.results178, go_sem]) rfl ?_
 exact ⟨rfl, (Below.refl w.heap.size w).alloc (Nat.le_refl _) _⟩
theorem any8 (p : ByteArray → Bool) (a b c d f g h i : ByteArray) : [a, b, c, d, f, g, h, i].any p = (p a || p b || p c || p d || p f || p g || p h || p i) := by simp [Bool.or_assoc]
theorem begins_ok (hD : Deps wB nB gB nO) (hC : Cst wB) {e : Int} {w : World} {X : Nat} {l : List Tok} (hP : Pz e w X l) :
  Calls Tryz.prog 186 #[.pointer (some ⟨X, 0, none⟩)] w fun E w' => BoolR (begins e l) E ∧ Pz e w' X l ∧ Kp w.heap.size X w w' := by
 have HA := Lh (next_ok hP)
 have HP := Lh (fun W (hb : Below w.heap.size w W) => hP.later hb)
 have HI := Lh (fun W (hP : Pz e W X l) => isL_ok hD hP [⟨#[78, 111, 110, 101]⟩, ⟨#[84, 114, 117, 101]⟩, ⟨#[70, 97, 108, 115, 101]⟩, ⟨#[40]⟩, ⟨#[91]⟩, ⟨#[123]⟩, ⟨#[45]⟩, ⟨#[110, 111, 116]⟩] #[.string ⟨#[78, 111, 110, 101]⟩, .string ⟨#[84, 114, 117, 101]⟩, .string ⟨#[70, 97, 108, 115, 101]⟩, .string ⟨#[40]⟩, .string ⟨#[91]⟩, .string ⟨#[123]⟩, .string ⟨#[45]⟩, .string ⟨#[110, 111, 116]⟩] 8 _ rfl rfl lq16 ((any8 _ _ _ _ _ _ _ _ _).trans (by rw [sameW hC.w_None, sameW hC.w_True, sameW hC.w_False, sameS hC.s_28, sameS hC.s_5b, sameS hC.s_7b, sameS hC.s_2d, sameW hC.w_not])))
 unfold tokA at HA
 have F0 := tfield0 (hd e l).kind (hd e l).text (hd e l).pos
 have hv : begins e l = ((hd e l).kind == 1 || (hd e l).kind == 3 || (hd e l).kind == 4 || (isW e ⟨#[78, 111, 110, 101]⟩ l || isW e ⟨#[84, 114, 117, 101]⟩ l || isW e ⟨#[70, 97, 108, 115, 101]⟩ l || isS e ⟨#[40]⟩ l || isS e ⟨#[91]⟩ l || isS e ⟨#[123]⟩ l || isS e ⟨#[45]⟩ l || isW e ⟨#[110, 111, 116]⟩ l)) := by unfold begins; simp only [Bool.or_assoc]
 rw [hv]
 generalize (isW e ⟨#[78, 111, 110, 101]⟩ l || isW e ⟨#[84, 114, 117, 101]⟩ l || isW e ⟨#[70, 97, 108, 115, 101]⟩ l || isS e ⟨#[40]⟩ l || isS e ⟨#[91]⟩ l || isS e ⟨#[123]⟩ l || isS e ⟨#[45]⟩ l || isW e ⟨#[110, 111, 116]⟩ l) = b at *
 generalize hd e l = t at HA F0 ⊢
 clear hP hv hD hC
 by_cases h1 : t.kind = 1
 ·have o1 : (t.kind == 1) = true := by simpa using h1
  rw [o1]; clear h1; exact lv40
 ·have o1 : (t.kind == 1) = false := by simpa using h1
  rw [o1]
  by_cases h3 : t.kind = 3
  ·have o3 : (t.kind == 3) = true := by simpa using h3
   rw [o3]; clear h1 h3; exact lv40
  ·have o3 : (t.kind == 3) = false := by simpa using h3
   rw [o3]
   by_cases h4 : t.kind = 4
   ·have o4 : (t.kind == 4) = true := by simpa using h4
    rw [o4]; clear h1 h3 h4; exact lv40
   ·have o4 : (t.kind == 4) = false := by simpa using h4
    rw [o4]; clear h1 h3 h4; go_enter Tryz.func186, Tryz.ntmps186; go_wp2_with fail
    go_at_call 55
    refine HA.out.mono ?_
    rintro E w2 ⟨rfl, hb2⟩; have hP2 := HP.out _ hb2; go_wp2_with fail
    go_at_call 176
    refine (HI.out _ hP2).mono ?_
    rintro E w3 ⟨hE, hP3, hk3⟩; have hk := (Kp.of_below hb2 X).call (Nat.le_refl _) hk3
    rcases hE with ⟨rfl, rfl⟩ | ⟨rfl, rfl⟩
    ·go_wp2_with fail; go_ret; exact ⟨.inl ⟨rfl, rfl⟩, hP3, hk⟩
    ·go_wp2_with fail; go_ret; exact ⟨.inr ⟨rfl, rfl⟩, hP3, hk⟩
theorem name_ok (hD : Deps wB nB gB nO) {e : Int} {w : World} {X : Nat} {l : List Tok} (hP : Pz e w X l) :
  Calls Tryz.prog 184 #[.pointer (some ⟨X, 0, none⟩)] w (NameR nB e X l w) := by
 have hXl := hP.lt
 have hx1 := heap_alloc_new w (.cells #[.int .i64 0, .string ⟨#[]⟩, .int .i64 0] 39)
 have hb1 := (Below.refl w.heap.size w).alloc (Nat.le_refl _) (.cells #[.int .i64 0, .string ⟨#[]⟩, .int .i64 0] 39)
 have hs1 : (w.alloc (.cells #[.int .i64 0, .string ⟨#[]⟩, .int .i64 0] 39)).heap.size = w.heap.size + 1 := by simp
 have HP := Lh (hP.later hb1)
 have hok := hP.hd
 obtain ⟨hk64, hp64, hts⟩ := hok
 have HNm := Lh (fun W => hD.name (hd e l).text W hts)
 have hW := fun W (hP : Pz e W X l) => wrong_ok hP
 have hPs := fun W (hP : Pz e W X l) => pass_ok hP
 have hNx := fun W (hP : Pz e W X l) => next_ok hP
 have hv : ((hd e l).kind = 1 ∧ nB (hd e l).text = true ∧ tokN nB e l = .ok (hd e l) l.tail) ∨ ((hd e l).kind = 1 ∧ nB (hd e l).text = false ∧ tokN nB e l = .bad 106 (hd e l).pos) ∨ ((hd e l).kind ≠ 1 ∧ tokN nB e l = .bad 106 (hd e l).pos) := by
  unfold tokN
  by_cases h1 : (hd e l).kind = 1
  ·cases h2 : nB (hd e l).text with
   | true => exact .inl ⟨h1, rfl, if_pos ⟨h1, rfl⟩⟩
   | false => exact .inr (.inl ⟨h1, rfl, if_neg fun h => absurd h.2 lq16⟩)
  ·exact .inr (.inr ⟨h1, if_neg fun h => h1 h.1⟩)
 unfold tokA at hPs hNx
 obtain ⟨t, ht⟩ : ∃ t, hd e l = t := ⟨_, rfl⟩
 rw [ht] at hv hPs hNx HNm hW hk64 hp64 hts
 have HT := Lh ht
 obtain ⟨hk64a, hk64b⟩ := hk64
 have HPs := Lh hPs
 have HW := Lh hW
 have HNx := Lh hNx
 clear hPs hW hNx hP hD ht
 go_enter Tryz.func184, Tryz.ntmps184
 go_wp2_with fail
 go_at_call 55
 refine (HNx.out _ HP.out).mono ?_
 rintro E w2 ⟨rfl, hb2⟩
 generalize w.alloc (.cells #[.int .i64 0, .string ⟨#[]⟩, .int .i64 0] 39) = w1 at *
 have hs2 := hb2.size
 have hw2 := hb1.trans (hb2.mono lq17)
 have hx2 := (hb2.5 w.heap.size lq17).trans hx1
 have hP2 := HP.out.later hb2
 have hb3 := (Below.refl w2.heap.size w2).alloc (Nat.le_refl _) (.cells #[.int .i64 t.kind, .string t.text, .int .i64 t.pos] 39)
 have hx3 := (hb3.5 w.heap.size lq17).trans hx2
 have hy3 := heap_alloc_new w2 (.cells #[.int .i64 t.kind, .string t.text, .int .i64 t.pos] 39)
 have hP3 := hP2.later hb3
 go_upto_region 2 with fail
 generalize w2.alloc (.cells #[.int .i64 t.kind, .string t.text, .int .i64 t.pos] 39) = w3 at *
 have hw3 := hw2.trans (hb3.mono lq17)
 have hs32 := hb3.size
 have hs23 : w2.heap.size < w3.heap.size := World.block_lt_of_cell? w3 _ (cell_of_row w3 _ 0 _ _ _ hy3)
 clear hb3 hb2 hx2 hx1 hP2 hb1 hw2 HP HNx
 have hs3 := hw3.size
 have t0 := cell_of_row w3 _ 0 _ _ _ hy3
 have t1 := cell_of_row w3 _ 1 _ _ _ hy3
 have HX3 := Lh hx3
 have HP3 := Lh hP3
 clear hx3 hP3
 have hend : ∀ (w4 : World), Below w3.heap.size w3 w4 → Pz e w4 X l ∧ w4.heap[w.heap.size]? = _ ∧ Kp w.heap.size X w w4 := fun w4 hb => ⟨HP3.out.later hb, (hb.5 w.heap.size lq17).trans HX3.out, (Kp.of_below hw3 X).below (Nat.le_refl _) hb⟩
 have HE := Lh hend
 clear hend hy3
 rcases hv with ⟨h1, h2, hv⟩ | ⟨h1, h2, hv⟩ | ⟨h1, hv⟩
 ·have o1 : (t.kind == 1) = true := by simpa using h1
  have o2 : (t.kind != 1) = false := by simp [h1]
  rw [h2] at HNm; have HV := Lh hv; clear h1 h2 hv; go_wp2_with fail
  go_at_call 245
  refine (HNm.out _).mono ?_
  rintro E w4 ⟨rfl, hb4⟩; obtain ⟨hP4, hx4, hk4⟩ := HE.out w4 hb4; clear t0 t1; go_wp2_with fail
  go_at_call 177
  refine (HPs.out _ hP4).mono ?_
  rintro E w5 ⟨rfl, hP5, hk5⟩; have hx5 := (hk5.block w.heap.size (by have := hk4.size; have := hb4.size; have := hw3.size; omega) lq17).trans hx4; have k0 := cell_of_row w5 _ 0 _ _ _ hx5; have k1 := cell_of_row w5 _ 1 _ _ _ hx5; have k2 := cell_of_row w5 _ 2 _ _ _ hx5; have z := Lib.frozen_of_heap hx5; have HP5 := Lh hP5; clear hP5 hP4 hx4 hx5; go_wp2_with fail; obtain ⟨r0, r1, r2⟩ := res3 (u0 := .int .i64 t.kind) (u1 := .string t.text) (u2 := .int .i64 t.pos) k0 k1 k2
  refine bodyPost_ret (v := .agg #[.int .i64 t.kind, .string t.text, .int .i64 t.pos]) (by simp [results, Tryz.results184, go_sem, r0, r1, r2]) rfl ?_
  exact .inl ⟨by rw [HV.out, HT.out], by rw [HT.out]; rfl, HP5.out.set3 hXl _ _ _, (hk4.call (Nat.le_refl _) hk5).set3 (Nat.le_refl _) _ _ _⟩
 ·have o1 : (t.kind == 1) = true := by simpa using h1
  have o2 : (t.kind != 1) = false := by simp [h1]
  rw [h2] at HNm; have HV := Lh hv; clear h1 h2 hv; go_wp2_with fail
  go_at_call 245
  refine (HNm.out _).mono ?_
  rintro E w4 ⟨rfl, hb4⟩; obtain ⟨hP4, hx4, hk4⟩ := HE.out w4 hb4; clear t0 t1 hx4; exact lv41
 ·have o1 : (t.kind == 1) = false := by simpa using h1
  have o2 : (t.kind != 1) = true := by simp [h1]
  have HV := Lh hv; clear h1 hv; obtain ⟨hP4, hx4, hk4⟩ := HE.out w3 (Below.refl _ _); clear hx4; exact lv41
end
end
section
open Go
open List (length_append length_cons length_nil length_singleton)
section
variable {P : Program} {md : Region.Mode} {ops : Array Oper} {Q : Exit → Act → World → Prop} {S : World → Prop} {z : Nat}
def anyZ (P : Program) (md : Region.Mode) (ops : Array Oper) (Q : Exit → Act → World → Prop) (S : World → Prop) (z : Nat) : Nat → Array Bool → Act → World → Prop
 | 0, done, a, w => Region.ready md ops done = [] ∧ Q .normal a w
 | n + 1, done, a, w => (Region.ready md ops done = [] → Q .normal a w) ∧ ∀ k ∈ Region.ready md ops done, wpOp P ops Q k (fun b u => (k ≠ z → S u) ∧ anyZ P md ops Q S z n (done.setIfInBounds k true) b u) a w
theorem anyZ_any : ∀ (n : Nat) (done : Array Bool) (a : Act) (w : World), anyZ P md ops Q S z n done a w → wpAny P md ops Q n done a w
 | 0, _, _, _, h => h
 | n + 1, _, _, _, h => ⟨h.1, fun k hk => wpOp_mono (fun b u hb => anyZ_any n _ b u hb.2) (h.2 k hk)⟩
def waitsFor (md : Region.Mode) (ops : Array Oper) (z i : Nat) : Bool :=
 match ops[z]? with
 | some o => o.after.any fun e => Region.binds md e && e.on == i
 | none => false
theorem anyZ_step {i : Nat} {o : Oper} {v : Value} (ho : ops[i]? = some o) (hq : ∀ c a w, Q (.panic c) (a.put o.dst v) w → Q (.panic c) a w) (hn : Region.noSelect ops = true) (hw : waitsFor md ops z i = true) :
  ∀ (n : Nat) (done : Array Bool) (a : Act) (w : World), (∀ j p, ops[j]? = some p → j ≠ i → done.getD j true = false → (∀ e ∈ p.after, Region.binds md e = true → e.on ≠ i) → o.apart ops p = true) →
   i ∈ Region.ready md ops done → YieldsIf P ops S o v a → S w → anyZ P md ops Q S z n (done.setIfInBounds i true) (a.put o.dst v) w → anyZ P md ops Q S z (n + 1) done a w := by
 have hsel := Region.noSelect_spec hn
 intro n
 induction n with
 | zero =>
  intro done a w _ hr hy hS h
  refine ⟨(fun he => by rw [he] at hr; cases hr), fun j hj => ?_⟩
  rcases Classical.em (j = i) with e | e
  ·subst e; exact hy.wpOp ho hS ⟨fun _ => hS, h⟩
  ·have hj2 := ready_mono hj e; rw [h.1] at hj2
   cases hj2
 | succ n ih =>
  intro done a w hf hr hy hS h
  refine ⟨(fun he => by rw [he] at hr; cases hr), fun j hj => ?_⟩
  rcases Classical.em (j = i) with e | e
  ·subst e; exact hy.wpOp ho hS ⟨fun _ => hS, h⟩
  obtain ⟨hun, p, hp, hall⟩ := mem_ready.1 hj; have hi0 := (mem_ready.1 hr).1; have hno : ∀ e ∈ p.after, Region.binds md e = true → e.on ≠ i := by
   intro e he hb heq; have h1 := hall e he hb; rw [heq] at h1
   by_cases hlt : i < done.size
   ·simp [hlt] at hi0 h1
    rw [hi0] at h1
    cases h1
   ·simp [Array.getElem?_eq_none (Nat.le_of_not_lt hlt)] at h1
  have hjz : j ≠ z := by
   intro e; subst e; unfold waitsFor at hw; rw [hp] at hw; obtain ⟨e, he, hb⟩ := Array.any_eq_true'.1 hw; rw [Bool.and_eq_true, beq_iff_eq] at hb; exact hno e he hb.1 hb.2
  refine wpOp_mono (fun b u hb => ?_) (wpOp_putIf hp (hf j p hp e hun hno) (fun cs b => hsel i o cs b ho) (fun cs b => hsel j p cs b hp) hq hy (h.2 j (ready_mono hj e)))
  obtain ⟨hy2, hS2, h2⟩ := hb
  refine ⟨hS2, ih _ b u (fun k q hk hki hkn hkf => hf k q hk hki ?_ hkf) (ready_mono hr (Ne.symm e)) hy2 (hS2 hjz) ?_⟩
  ·rcases Classical.em (j = k) with e2 | e2
   ·subst e2; exact hun
   ·rw [getD_set_ne true e2] at hkn; exact hkn
  ·rw [Array.setIfInBounds_comm _ _ e]; exact h2
theorem anyZ_take {i : Nat} {o : Oper} {v : Value} {n : Nat} {done : Array Bool} {a : Act} {w : World} (ho : ops[i]? = some o) (hn : Region.noSelect ops = true) (hf : Region.free md ops done i = true) (hr : (Region.ready md ops done).contains i = true) (hw : waitsFor md ops z i = true)
  (hq : ∀ c a w, Q (.panic c) (a.put o.dst v) w → Q (.panic c) a w) (hy : YieldsIf P ops S o v a) (hS : S w) (h : anyZ P md ops Q S z n (done.setIfInBounds i true) (a.put o.dst v) w) : anyZ P md ops Q S z (n + 1) done a w :=
 anyZ_step ho hq hn hw n done a w (Region.free_spec ho hf) (by simpa using hr) hy hS h
theorem anyZ_one {k : Nat} {o : Oper} {n : Nat} {done : Array Bool} {a : Act} {w : World} (hr : Region.ready md ops done = [k]) (ho : ops[k]? = some o)
  (h : ∀ K : Act → World → Prop, Shut (∀ b u, (k ≠ z → S u) → anyZ P md ops Q S z n (done.setIfInBounds k true) b u → K b u) → if Region.wanted o (yielded ops a.tmps) = true then Oper.wp P o a w K Q else K (a.put o.dst undef) w) : anyZ P md ops Q S z (n + 1) done a w := by
 refine ⟨(fun he => by rw [hr] at he; cases he), fun j hj => ?_⟩
 rw [hr] at hj
 have e := List.mem_singleton.1 hj
 subst e
 exact wpOp_step ho fun K hK => h K fun b u hS hz => hK b u ⟨hS, hz⟩
theorem anyZ_two {k k' : Nat} {o o' : Oper} {n : Nat} {done : Array Bool} {a : Act} {w : World} (hr : Region.ready md ops done = [k, k']) (ho : ops[k]? = some o) (ho' : ops[k']? = some o')
  (h : ∀ K : Act → World → Prop, Shut (∀ b u, (k ≠ z → S u) → anyZ P md ops Q S z n (done.setIfInBounds k true) b u → K b u) → if Region.wanted o (yielded ops a.tmps) = true then Oper.wp P o a w K Q else K (a.put o.dst undef) w)
  (h' : ∀ K : Act → World → Prop, Shut (∀ b u, (k' ≠ z → S u) → anyZ P md ops Q S z n (done.setIfInBounds k' true) b u → K b u) → if Region.wanted o' (yielded ops a.tmps) = true then Oper.wp P o' a w K Q else K (a.put o'.dst undef) w) : anyZ P md ops Q S z (n + 1) done a w := by
 refine ⟨(fun he => by rw [hr] at he; cases he), fun j hj => ?_⟩
 rw [hr] at hj
 rcases List.mem_cons.1 hj with e | e
 ·subst e; exact wpOp_step ho fun K hK => h K fun b u hS hz => hK b u ⟨hS, hz⟩
 ·have e := List.mem_singleton.1 e; subst e; exact wpOp_step ho' fun K hK => h' K fun b u hS hz => hK b u ⟨hS, hz⟩
theorem anyZ_end {done : Array Bool} {a : Act} {w : World} (hr : Region.ready md ops done = []) (h : Q .normal a w) : ∀ n, anyZ P md ops Q S z n done a w
 | 0 => ⟨hr, h⟩
 | _ + 1 => ⟨fun _ => h, by rw [hr]; simp⟩
theorem region_anyZ {id : Nat} {a : Act} {w : World} (S : World → Prop) (z : Nat) (hm : P.follows .mixedOrders = true) (h : anyZ P .any ops Q S z ops.size (Array.replicate ops.size false) a w.drew) : (Code.region id ops true).wp P Q a w :=
 wp_region_any hm (anyZ_any _ _ _ _ h)
end
section
variable {P : Program} {md : Region.Mode} {ops : Array Oper} {Q : Exit → Act → World → Prop} {S : World → Prop} {z : Nat}
theorem zt (i : Nat) (v : Value) {o : Oper} {n : Nat} {done : Array Bool} {a : Act} {w : World} (ho : ops[i]? = some o) (hy : YieldsIf P ops S o v a) (hS : S w) (h : anyZ P md ops Q S z n (done.setIfInBounds i true) (a.put o.dst v) w) (hn : Region.noSelect ops = true := by kernel_rfl) (hf : Region.free md ops done i = true := by kernel_rfl) (hr : (Region.ready md ops done).contains i = true := by kernel_rfl) (hw : waitsFor md ops z i = true := by kernel_rfl)
  (hq : ∀ c a w, Q (.panic c) (a.put o.dst v) w → Q (.panic c) a w := by exact fun _ _ _ h => h) : anyZ P md ops Q S z (n + 1) done a w := anyZ_take ho hn hf hr hw hq hy hS h
theorem zo (k : Nat) {o : Oper} {n : Nat} {done : Array Bool} {a : Act} {w : World} (ho : ops[k]? = some o)
  (h : ∀ K : Act → World → Prop, Shut (∀ b u, (k ≠ z → S u) → anyZ P md ops Q S z n (done.setIfInBounds k true) b u → K b u) → if Region.wanted o (yielded ops a.tmps) = true then Oper.wp P o a w K Q else K (a.put o.dst undef) w) (hr : Region.ready md ops done = [k] := by kernel_rfl) : anyZ P md ops Q S z (n + 1) done a w := anyZ_one hr ho h
end

end
end Go.Proofs.YtjndbcnmmnkilaaGreatDoor
