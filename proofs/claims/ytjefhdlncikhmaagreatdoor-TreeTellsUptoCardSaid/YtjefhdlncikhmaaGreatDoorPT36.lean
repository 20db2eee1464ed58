/- Joined by a program: Wr8, TAw, SamP. -/
import Derived.Test.YtjefhdlncikhmaaGreatDoorPT35
namespace Go.Proofs.YtjefhdlncikhmaaGreatDoor
set_option linter.unusedVariables false
set_option linter.unusedSimpArgs false
set_option maxRecDepth 1000000
set_option maxHeartbeats 16000000
section
open Go.RowKit
open List (length_append length_cons length_nil length_singleton)
theorem wString_ok (B X dep : Nat) (l : List UInt8) (w : World) (h : WrT B X dep l w) (hBw : B ≤ w.heap.size) :
  Calls Tryz.prog 32 #[.pointer (some ⟨X, 0, none⟩)] w fun e w' => e = .returned (.string (ba l)) ∧ Below B w w' := by
 obtain ⟨p, hp, hB, v, hbk, hown, hne⟩ := h
 have hlt : X < w.heap.size := by
  rcases Nat.lt_or_ge X w.heap.size with h' | h'
  ·exact h'
  ·simp [Array.getElem?_eq_none h'] at hbk
 rw [Lib.byteCells_length] at hown
 have hsz : Tryz.prog.cellsOf 5 = 1 := by kernel_rfl
 have hb0 : Below B w w.drew := (Below.refl B w).drew
 cases l with
 | nil =>
  have hUS := fun (W : World) (q : Option Addr) => Lib.run_unsafeString_none (P := Tryz.prog) (w := W) 74 3 9 q
  rcases hown.2 with ⟨rfl, _⟩ | ⟨g, cap, cur, fz, rfl, hbg, hg, _, _, _, _, _⟩
  ·have c1 : w.drew.cell? ⟨X, 1, none⟩ = some (.slice none 0 0) := by
    have : w.drew.heap[X]? = some (.cells #[p, .slice none 0 0, .int .i64 ((dep : Nat) : Int)] 58 (0, 0)) := hbk; rw [Lib.cell_of_heap this]; rfl
   have hSD : (Builtin.unsafeSliceData_ #[40] 74 #[.slice none 0 0]).run Tryz.prog w.drew = .ok (.pointer none) w.drew := rfl; go_enter Tryz.func32, Tryz.ntmps32; go_wp2
   go_region_with (fail)
   all_goals (go_wp2; go_ret; exact ⟨rfl, hb0⟩)
  ·by_cases hc0 : cap = 0
   ·subst hc0; have c1 : w.drew.cell? ⟨X, 1, none⟩ = some (.slice (some ⟨g, 0, none⟩) 0 0) := by
     have : w.drew.heap[X]? = some (.cells #[p, .slice (some ⟨g, 0, none⟩) 0 0, .int .i64 ((dep : Nat) : Int)] 58 (0, 0)) := hbk; rw [Lib.cell_of_heap this]; rfl
    have hSD : (Builtin.unsafeSliceData_ #[40] 74 #[.slice (some ⟨g, 0, none⟩) 0 0]).run Tryz.prog w.drew = .ok (.pointer (some ⟨w.drew.heap.size, 0, none⟩)) (w.drew.alloc (.view ⟨g, 0, none⟩ 5)) :=
     Lib.run_unsafeSliceData_zero w.drew _ _ 5 Tryz.underlying74 ⟨g, 0, none⟩ 0 (5, cur.size) (by have hg' : w.drew.heap[g]? = some (.cells cur 5 fz) := hg; simp [World.shape?, hg'])
    have c2 : (w.drew.alloc (.view ⟨g, 0, none⟩ 5)).cell? ⟨X, 1, none⟩ = some (.slice (some ⟨g, 0, none⟩) 0 0) := by
     have : (w.drew.alloc (.view ⟨g, 0, none⟩ 5)).heap[X]? = _ := (Lib.alloc_old w.drew _ X hlt).trans hbk; rw [Lib.cell_of_heap this]; rfl
    have c3 : (w.alloc (.view ⟨g, 0, none⟩ 5)).drew.cell? ⟨X, 1, none⟩ = some (.slice (some ⟨g, 0, none⟩) 0 0) := c2; have c0 : w.cell? ⟨X, 1, none⟩ = some (.slice (some ⟨g, 0, none⟩) 0 0) := c1; go_enter Tryz.func32, Tryz.ntmps32; go_wp2
    go_region_with (fail)
    all_goals (go_wp2; go_ret; exact ⟨rfl, hb0.alloc hBw _⟩)
   ·have c1 : w.drew.cell? ⟨X, 1, none⟩ = some (.slice (some ⟨g, 0, none⟩) 0 cap) := by
     have : w.drew.heap[X]? = some (.cells #[p, .slice (some ⟨g, 0, none⟩) 0 cap, .int .i64 ((dep : Nat) : Int)] 58 (0, 0)) := hbk; rw [Lib.cell_of_heap this]; rfl
    have hSD : (Builtin.unsafeSliceData_ #[40] 74 #[.slice (some ⟨g, 0, none⟩) 0 cap]).run Tryz.prog w.drew = .ok (.pointer (some ⟨g, 0, none⟩)) w.drew :=
     Lib.run_unsafeSliceData_row _ _ _ _ _ _ hc0
    clear hc0; go_enter Tryz.func32, Tryz.ntmps32; go_wp2
    go_region_with (fail)
    all_goals (go_wp2; go_ret; exact ⟨rfl, hb0⟩)
 | cons x r =>
  generalize hxr : x :: r = l at *
  have h0 : l ≠ [] := by rw [← hxr]; simp
  have hl0 : l.length ≠ 0 := by simpa using h0
  obtain ⟨g, cap, cur, fz, rfl, hbg, hg, hfz, hnc, hcm, hcs, htake⟩ : ∃ g cap cur fz, v = .slice (some ⟨g, 0, none⟩) l.length cap ∧ B ≤ g ∧ w.heap[g]? = some (.cells cur 5 fz) ∧ fz.2 ≤ l.length * 1 ∧ l.length ≤ cap ∧ cap ≤ maxLen ∧ cur.size = cap * 1 ∧ cur.toList.take (l.length * 1) = Lib.byteCells l := by
   rcases hown.2 with ⟨_, hz⟩ | ⟨g, cap, cur, fz, hv, r⟩
   ·exact absurd hz hl0
   ·exact ⟨g, cap, cur, fz, hv, r⟩
  have c1 : w.drew.cell? ⟨X, 1, none⟩ = some (.slice (some ⟨g, 0, none⟩) l.length cap) := by
   have : w.drew.heap[X]? = some (.cells #[p, .slice (some ⟨g, 0, none⟩) l.length cap, .int .i64 ((dep : Nat) : Int)] 58 (0, 0)) := hbk; rw [Lib.cell_of_heap this]; rfl
  have hSD : (Builtin.unsafeSliceData_ #[40] 74 #[.slice (some ⟨g, 0, none⟩) l.length cap]).run Tryz.prog w.drew = .ok (.pointer (some ⟨g, 0, none⟩)) w.drew :=
   Lib.run_unsafeSliceData_row _ _ _ _ _ _ lq29
  have hUS : (Builtin.unsafeString_ #[74, 3] 9 #[.pointer (some ⟨g, 0, none⟩), .int .i64 l.length]).run Tryz.prog w.drew = .ok (.string ⟨l.toArray⟩) (w.drew.freeze ⟨g, 0, none⟩ l.length) := by
   refine Lib.run_unsafeString_row w.drew 74 3 9 5 Tryz.underlying74 hsz g cur.size (by have hg' : w.drew.heap[g]? = some (.cells cur 5 fz) := hg; simp [World.shape?, hg']) l h0 lq29 (by unfold maxLen at hcm; omega) ?_
   intro j x hx; exact hown.cells (g := g) rfl j (.int .u8 x.toNat) (by simp [Lib.byteCells, hx])
  have hFZ := Lib.below_freeze hb0 (p := ⟨g, 0, none⟩) hbg l.length; clear hxr hown; go_enter Tryz.func32, Tryz.ntmps32; go_wp2
  go_region_with (fail)
  all_goals (go_wp2; go_ret; exact ⟨rfl, hFZ⟩)
theorem nodeAt_okN {w : World} : ∀ (T : Nd) {A : Option Addr} {c : Nat} {K : Option Addr} {d : Nat}, NodeAt w T A c K d → okN T := by
 have hl : ∀ (l : List Nd), (∀ t ∈ l, okN t) → okNs l := by
  intro l
  induction l with
  | nil => intro _; trivial
  | cons a r ih => intro h; exact ⟨h a (List.mem_cons_self ..), ih (fun t ht => h t (List.mem_cons_of_mem _ ht))⟩
 intro T
 induction T using Nd.ind with
 | h T ih =>
  intro A c K d h; rw [okN_eq]
  refine ⟨h.parts.2.2.2.1, hl _ (fun t ht => ?_)⟩
  obtain ⟨i, hi⟩ := List.mem_iff_getElem?.1 ht; obtain ⟨_, _, _, _, _, _, _, _, hn⟩ := h.kid hi; exact ih t ht hn
def prt (T : Nd) : ByteArray := if chk T = 0 then ba (printL T) else ba []
theorem chk_zero {T : Nd} (h : chk T = 0) : T.depth ≤ 300 ∧ T.kind = 1 ∧ T.right = true := by
 unfold chk at h
 split at h
 ·assumption
 ·cases h
theorem mod_kid {T : Nd} (h : chk T = 0) : ∃ t0, T.kids = [t0] ∧ (Sh.of 2).ev Nd.right t0 = true := by
 obtain ⟨_, hk, hr⟩ := chk_zero h
 rw [right_at hk (tx := .non) (fm := .row [.of 2]) rfl lq28] at hr
 have hro : rowB T.kids [(Sh.of 2).ev Nd.right] = true := (Bool.and_eq_true _ _ ▸ hr).2
 obtain ⟨t0, hks⟩ := kids_1 (row_len hro)
 rw [hks] at hro
 simp only [rowB, Bool.and_true] at hro
 exact ⟨t0, hks, hro⟩
theorem tPrint_ok (T : Nd) (A : Option Addr) (c : Nat) (K : Option Addr) (d : Nat) (w : World) (hN : NodeAt w T A c K d) (hW : T.weight ≤ 1000000) (hT : Lib.Utf8Tabs 0 1 w) :
  Calls Tryz.prog 13 #[ndV T A c K d] w fun e w' => e = .returned (.string (prt T)) ∧ Below w.heap.size w w' := by
 have HCh := Lh (fun W (hb : Below w.heap.size w W) => by
  have := tCheck_ok T A c K d W (hN.later hb) lq29 (Utf8Tabs_below hT hb); unfold ndV at this
  exact this)
 clear hT
 by_cases hc : chk T = 0
 ·obtain ⟨t0, hks, h2⟩ := mod_kid hc; have hpr : prt T = ba (t0.lin 0) := by rw [prt, if_pos hc, printL, hks]; rfl
  have HPR := Lh hpr; have HCZ := Lh hc; have hdp := (chk_zero hc).1; have hg0 : T.kids[0]? = some t0 := by rw [hks]; rfl
  obtain ⟨b, off, A0, c0', K0, d0, hKe0, hC0, hN0⟩ := hN.kid hg0; rw [Nat.zero_mul, Nat.add_zero] at hC0; subst hKe0; have htd := Nd.depth_kid (mog hg0); have htw := Nd.weight_kid (mog hg0); have hlen : (t0.lin 0).length ≤ 1000000000000 := by
   exact lv176
  have HBK := Lh (fun (X : Nat) => wBlock_ok 300 w X 0 lq29 (wLine_ok w X 300) t0 h2 lq29 lq29); have HN0 := Lh hN0; have HLe := Lh hlen; have i0 : (0 : Int) < (T.kids.length : Int) := by rw [hks]; simp
  have i0' : 0 < T.kids.length := by rw [hks]; simp
  have hCq := hC0; have hbl : b < w.heap.size := blt hC0.1; clear hpr hc hdp hg0 htd htw hlen hN0 h2 hks; obtain ⟨hm1, hm2, hrm, hw32, hk1, hk2, ⟨hk64a, hk64b⟩, ⟨ha64a, ha64b⟩, hts, hKs, HK⟩ := hN.hd; obtain ⟨hb1, c0, c1, c2, c3, c4, c5⟩ := bxn w T A c (some ⟨b, off, none⟩) d; unfold ndV; clear hKs hN; go_enter Tryz.func13, Tryz.ntmps13; go_wp2_with fail
  go_at_call 10
  refine (HCh.out _ hb1).mono ?_
  rintro e w3 ⟨he3, hb3⟩; rw [HCZ.out] at he3; subst he3; have hw3 := hb1.trans (hb3.mono hb1.size); obtain ⟨n0, n1, n2, n3, n4, n5⟩ := hCq.later hw3; have d5 := cLt hb3 c5; have hl3 := blt d5; have hbl3 := blt n0; have hWz : WrT w.heap.size w3.heap.size 0 [] (w3.alloc (.cells #[.pointer none, .slice none 0 0, .int .i64 0] 58)) :=
   ⟨_, .inl rfl, hw3.size, .slice none 0 0, heap_alloc_new _ _, ⟨by simp, .inl ⟨rfl, rfl⟩⟩, by simp [Value.ownBlock]⟩
  have hBz : Below w.heap.size w (w3.alloc (.cells #[.pointer none, .slice none 0 0, .int .i64 0] 58)) := hw3.alloc hw3.size _; have hI := HBK.out w3.heap.size A0 c0' K0 d0 [] _ HN0.out hBz hWz (by have := HLe.out; simpa using this); unfold ndV at hI; go_wp2_with fail
  go_at_call 31
  refine hI.mono ?_
  rintro e w4 ⟨rfl, hw4, hk4⟩; clear hI; have hB4 := hBz.trans hk4.b; have hlX := WrT.lt hw4; have hS := wString_ok _ _ _ _ w4 hw4 (Nat.le_trans hBz.size hk4.b.size); rw [List.nil_append] at hS; go_wp2_with fail
  go_at_call 32
  refine hS.mono ?_
  rintro e w5 ⟨rfl, hb5⟩; clear hS; go_wp2_with fail; go_ret; exact ⟨by rw [HPR.out]; rfl, hB4.trans hb5⟩
 ·have HPR := Lh (show prt T = ba [] by rw [prt, if_neg hc]); have hc11 : chk T = 11 := by
   unfold chk at hc ⊢
   split
   ·rename_i h; rw [if_pos h] at hc; exact absurd rfl hc
   ·rfl
  have HCZ := Lh hc11; clear hc hc11; obtain ⟨hm1, hm2, hrm, hw32, hk1, hk2, ⟨hk64a, hk64b⟩, ⟨ha64a, ha64b⟩, hts, hKs, HK⟩ := hN.hd; obtain ⟨hb1, c0, c1, c2, c3, c4, c5⟩ := bxn w T A c K d; unfold ndV; clear hKs hN; go_enter Tryz.func13, Tryz.ntmps13; go_wp2_with fail
  go_at_call 10
  refine (HCh.out _ hb1).mono ?_
  rintro e w3 ⟨he3, hb3⟩; rw [HCZ.out] at he3; subst he3; go_wp2_with fail; go_ret; exact ⟨by rw [HPR.out]; rfl, hb1.trans (hb3.mono hb1.size)⟩
def awN : Nd := .mk 31 0 ⟨#[97]⟩ false [] []
def awE : Nd := .mk 3 0 ⟨#[]⟩ false [] [awN]
def awB : Nd := .mk 2 0 ⟨#[]⟩ false [] [awE]
def awT : Nd := .mk 1 0 ⟨#[]⟩ false [] [awB]
theorem aw_right : awT.right = true := by rfl
theorem aw_depth : awT.depth = 4 := by rfl
theorem aw_count : awT.count = 4 := by rfl
theorem aw_weight : awT.weight = 5 := by rfl
theorem aw_chk : chk awT = 0 := by
 unfold chk
 rw [if_pos ⟨by rw [aw_depth]; omega, rfl, aw_right⟩]
theorem aw_prt : prt awT = ⟨#[97, 10]⟩ := by
 unfold prt
 rw [if_pos aw_chk]
 rfl
theorem one_kid {w : World} {T t : Nd} {b : Nat} {A : Option Addr} {c : Nat} {K : Option Addr} {d : Nat} (hk : T.kids = [t]) (hm : T.mag = []) (h1 : I64 T.kind) (h2 : I64 T.pos) (h3 : T.text.size ≤ maxLen) (hc : CellsN w b 0 t A c K d) (hn : NodeAt w t A c K d) : NodeAt w T none 0 (some ⟨b, 0, none⟩) 1 := by
 refine NodeAt.of ⟨by rw [hm]; exact Nat.le_refl _, Nat.zero_le _, by rw [hm]; exact RdI.nil _ _ _, by rw [hm]; intro z hz; simp at hz, by rw [hk]; exact Nat.le_refl _, by unfold maxLen; omega, h1, h2, h3, ?_⟩
 rw [hk, KidsAt, KidsAt]
 exact ⟨⟨b, 0, A, c, K, d, rfl, hc, hn⟩, trivial⟩

theorem aw_at (w : World) : NodeAt ((((w.alloc (.cells #[.int .i64 31, .int .i64 0, .string ⟨#[97]⟩, .bool false, .slice none 0 0, .slice none 0 0] 27)).alloc (.cells #[.int .i64 3, .int .i64 0, .string ⟨#[]⟩, .bool false, .slice none 0 0, .slice (some ⟨w.heap.size, 0, none⟩) 1 1] 27)).alloc (.cells #[.int .i64 2, .int .i64 0, .string ⟨#[]⟩, .bool false, .slice none 0 0, .slice (some ⟨w.heap.size + 1, 0, none⟩) 1 1] 27)).alloc (.cells #[.int .i64 1, .int .i64 0, .string ⟨#[]⟩, .bool false, .slice none 0 0, .slice (some ⟨w.heap.size + 2, 0, none⟩) 1 1] 27)) awT none 0 (some ⟨w.heap.size + 2, 0, none⟩) 1 ∧ Below w.heap.size w ((((w.alloc (.cells #[.int .i64 31, .int .i64 0, .string ⟨#[97]⟩, .bool false, .slice none 0 0, .slice none 0 0] 27)).alloc (.cells #[.int .i64 3, .int .i64 0, .string ⟨#[]⟩, .bool false, .slice none 0 0, .slice (some ⟨w.heap.size, 0, none⟩) 1 1] 27)).alloc (.cells #[.int .i64 2, .int .i64 0, .string ⟨#[]⟩, .bool false, .slice none 0 0, .slice (some ⟨w.heap.size + 1, 0, none⟩) 1 1] 27)).alloc (.cells #[.int .i64 1, .int .i64 0, .string ⟨#[]⟩, .bool false, .slice none 0 0, .slice (some ⟨w.heap.size + 2, 0, none⟩) 1 1] 27)) := by
 have i1 : ∀ z : Int, -5 ≤ z → z ≤ 99 → I64 z := fun z h1 h2 => ⟨by omega, by omega⟩
 have s1 : (w.alloc (.cells #[.int .i64 31, .int .i64 0, .string ⟨#[97]⟩, .bool false, .slice none 0 0, .slice none 0 0] 27)).heap.size = w.heap.size + 1 := by simp
 have s2 : ((w.alloc (.cells #[.int .i64 31, .int .i64 0, .string ⟨#[97]⟩, .bool false, .slice none 0 0, .slice none 0 0] 27)).alloc (.cells #[.int .i64 3, .int .i64 0, .string ⟨#[]⟩, .bool false, .slice none 0 0, .slice (some ⟨w.heap.size, 0, none⟩) 1 1] 27)).heap.size = w.heap.size + 2 := by simp
 have s3 : (((w.alloc (.cells #[.int .i64 31, .int .i64 0, .string ⟨#[97]⟩, .bool false, .slice none 0 0, .slice none 0 0] 27)).alloc (.cells #[.int .i64 3, .int .i64 0, .string ⟨#[]⟩, .bool false, .slice none 0 0, .slice (some ⟨w.heap.size, 0, none⟩) 1 1] 27)).alloc (.cells #[.int .i64 2, .int .i64 0, .string ⟨#[]⟩, .bool false, .slice none 0 0, .slice (some ⟨w.heap.size + 1, 0, none⟩) 1 1] 27)).heap.size = w.heap.size + 3 := by simp
 have x1 := cellsN_new w awN none 0 none 0 27
 have x2 := cellsN_new (w.alloc (.cells #[.int .i64 31, .int .i64 0, .string ⟨#[97]⟩, .bool false, .slice none 0 0, .slice none 0 0] 27)) awE none 0 (some ⟨w.heap.size, 0, none⟩) 1 27
 have x3 := cellsN_new ((w.alloc (.cells #[.int .i64 31, .int .i64 0, .string ⟨#[97]⟩, .bool false, .slice none 0 0, .slice none 0 0] 27)).alloc (.cells #[.int .i64 3, .int .i64 0, .string ⟨#[]⟩, .bool false, .slice none 0 0, .slice (some ⟨w.heap.size, 0, none⟩) 1 1] 27)) awB none 0 (some ⟨w.heap.size + 1, 0, none⟩) 1 27
 rw [s1] at x2
 rw [s2] at x3
 have n1 : NodeAt (w.alloc (.cells #[.int .i64 31, .int .i64 0, .string ⟨#[97]⟩, .bool false, .slice none 0 0, .slice none 0 0] 27)) awN none 0 none 0 := NodeAt.of ⟨Nat.le_refl _, Nat.zero_le _, RdI.nil _ _ _, fun z (hz : z ∈ ([] : List Int)) => by simp at hz, Nat.le_refl _, Nat.zero_le _, i1 31 lq29 lq29, i1 0 lq29 lq29, (show 1 ≤ maxLen by unfold maxLen; omega), by show KidsAt _ [] _ _; rw [KidsAt]; trivial⟩
 have b1 := (Below.refl w.heap.size w).alloc (Nat.le_refl _) (.cells #[.int .i64 31, .int .i64 0, .string ⟨#[97]⟩, .bool false, .slice none 0 0, .slice none 0 0] 27)
 have b2 := (Below.refl (w.alloc (.cells #[.int .i64 31, .int .i64 0, .string ⟨#[97]⟩, .bool false, .slice none 0 0, .slice none 0 0] 27)).heap.size (w.alloc (.cells #[.int .i64 31, .int .i64 0, .string ⟨#[97]⟩, .bool false, .slice none 0 0, .slice none 0 0] 27))).alloc (Nat.le_refl _) (.cells #[.int .i64 3, .int .i64 0, .string ⟨#[]⟩, .bool false, .slice none 0 0, .slice (some ⟨w.heap.size, 0, none⟩) 1 1] 27)
 have b3 := (Below.refl ((w.alloc (.cells #[.int .i64 31, .int .i64 0, .string ⟨#[97]⟩, .bool false, .slice none 0 0, .slice none 0 0] 27)).alloc (.cells #[.int .i64 3, .int .i64 0, .string ⟨#[]⟩, .bool false, .slice none 0 0, .slice (some ⟨w.heap.size, 0, none⟩) 1 1] 27)).heap.size ((w.alloc (.cells #[.int .i64 31, .int .i64 0, .string ⟨#[97]⟩, .bool false, .slice none 0 0, .slice none 0 0] 27)).alloc (.cells #[.int .i64 3, .int .i64 0, .string ⟨#[]⟩, .bool false, .slice none 0 0, .slice (some ⟨w.heap.size, 0, none⟩) 1 1] 27))).alloc (Nat.le_refl _) (.cells #[.int .i64 2, .int .i64 0, .string ⟨#[]⟩, .bool false, .slice none 0 0, .slice (some ⟨w.heap.size + 1, 0, none⟩) 1 1] 27)
 have b4 := (Below.refl (((w.alloc (.cells #[.int .i64 31, .int .i64 0, .string ⟨#[97]⟩, .bool false, .slice none 0 0, .slice none 0 0] 27)).alloc (.cells #[.int .i64 3, .int .i64 0, .string ⟨#[]⟩, .bool false, .slice none 0 0, .slice (some ⟨w.heap.size, 0, none⟩) 1 1] 27)).alloc (.cells #[.int .i64 2, .int .i64 0, .string ⟨#[]⟩, .bool false, .slice none 0 0, .slice (some ⟨w.heap.size + 1, 0, none⟩) 1 1] 27)).heap.size (((w.alloc (.cells #[.int .i64 31, .int .i64 0, .string ⟨#[97]⟩, .bool false, .slice none 0 0, .slice none 0 0] 27)).alloc (.cells #[.int .i64 3, .int .i64 0, .string ⟨#[]⟩, .bool false, .slice none 0 0, .slice (some ⟨w.heap.size, 0, none⟩) 1 1] 27)).alloc (.cells #[.int .i64 2, .int .i64 0, .string ⟨#[]⟩, .bool false, .slice none 0 0, .slice (some ⟨w.heap.size + 1, 0, none⟩) 1 1] 27))).alloc (Nat.le_refl _) (.cells #[.int .i64 1, .int .i64 0, .string ⟨#[]⟩, .bool false, .slice none 0 0, .slice (some ⟨w.heap.size + 2, 0, none⟩) 1 1] 27)
 have n2 : NodeAt (w.alloc (.cells #[.int .i64 31, .int .i64 0, .string ⟨#[97]⟩, .bool false, .slice none 0 0, .slice none 0 0] 27)) awE none 0 (some ⟨w.heap.size, 0, none⟩) 1 := one_kid rfl rfl (i1 3 lq29 lq29) (i1 0 lq29 lq29) (Nat.zero_le _) x1 n1
 have n3 : NodeAt ((w.alloc (.cells #[.int .i64 31, .int .i64 0, .string ⟨#[97]⟩, .bool false, .slice none 0 0, .slice none 0 0] 27)).alloc (.cells #[.int .i64 3, .int .i64 0, .string ⟨#[]⟩, .bool false, .slice none 0 0, .slice (some ⟨w.heap.size, 0, none⟩) 1 1] 27)) awB none 0 (some ⟨w.heap.size + 1, 0, none⟩) 1 := one_kid rfl rfl (i1 2 lq29 lq29) (i1 0 lq29 lq29) (Nat.zero_le _) x2 (n2.later b2)
 have n4 : NodeAt (((w.alloc (.cells #[.int .i64 31, .int .i64 0, .string ⟨#[97]⟩, .bool false, .slice none 0 0, .slice none 0 0] 27)).alloc (.cells #[.int .i64 3, .int .i64 0, .string ⟨#[]⟩, .bool false, .slice none 0 0, .slice (some ⟨w.heap.size, 0, none⟩) 1 1] 27)).alloc (.cells #[.int .i64 2, .int .i64 0, .string ⟨#[]⟩, .bool false, .slice none 0 0, .slice (some ⟨w.heap.size + 1, 0, none⟩) 1 1] 27)) awT none 0 (some ⟨w.heap.size + 2, 0, none⟩) 1 := one_kid rfl rfl (i1 1 lq29 lq29) (i1 0 lq29 lq29) (Nat.zero_le _) x3 (n3.later b3)
 exact ⟨n4.later b4, ((b1.trans (b2.mono lq29)).trans (b3.mono lq29)).trans (b4.mono lq29)⟩
theorem tAwake_ok (w : World) (hT : Lib.Utf8Tabs 0 1 w) : Calls Tryz.prog 8 #[] w fun e w' => e = .returned (.bool true) ∧ Below w.heap.size w w' := by
 obtain ⟨hN, hB⟩ := aw_at w
 have x4 := (cellsN_new (((w.alloc (.cells #[.int .i64 31, .int .i64 0, .string ⟨#[97]⟩, .bool false, .slice none 0 0, .slice none 0 0] 27)).alloc (.cells #[.int .i64 3, .int .i64 0, .string ⟨#[]⟩, .bool false, .slice none 0 0, .slice (some ⟨w.heap.size, 0, none⟩) 1 1] 27)).alloc (.cells #[.int .i64 2, .int .i64 0, .string ⟨#[]⟩, .bool false, .slice none 0 0, .slice (some ⟨w.heap.size + 1, 0, none⟩) 1 1] 27)) awT none 0 (some ⟨w.heap.size + 2, 0, none⟩) 1 27).box
 rw [show (((w.alloc (.cells #[.int .i64 31, .int .i64 0, .string ⟨#[97]⟩, .bool false, .slice none 0 0, .slice none 0 0] 27)).alloc (.cells #[.int .i64 3, .int .i64 0, .string ⟨#[]⟩, .bool false, .slice none 0 0, .slice (some ⟨w.heap.size, 0, none⟩) 1 1] 27)).alloc (.cells #[.int .i64 2, .int .i64 0, .string ⟨#[]⟩, .bool false, .slice none 0 0, .slice (some ⟨w.heap.size + 1, 0, none⟩) 1 1] 27)).heap.size = w.heap.size + 3 by simp] at x4
 obtain ⟨c0, c1, c2, c3, c4, c5⟩ : ((((w.alloc (.cells #[.int .i64 31, .int .i64 0, .string ⟨#[97]⟩, .bool false, .slice none 0 0, .slice none 0 0] 27)).alloc (.cells #[.int .i64 3, .int .i64 0, .string ⟨#[]⟩, .bool false, .slice none 0 0, .slice (some ⟨w.heap.size, 0, none⟩) 1 1] 27)).alloc (.cells #[.int .i64 2, .int .i64 0, .string ⟨#[]⟩, .bool false, .slice none 0 0, .slice (some ⟨w.heap.size + 1, 0, none⟩) 1 1] 27)).alloc (.cells #[.int .i64 1, .int .i64 0, .string ⟨#[]⟩, .bool false, .slice none 0 0, .slice (some ⟨w.heap.size + 2, 0, none⟩) 1 1] 27)).cell? ⟨w.heap.size + 3, 0, none⟩ = some (.int .i64 1) ∧ ((((w.alloc (.cells #[.int .i64 31, .int .i64 0, .string ⟨#[97]⟩, .bool false, .slice none 0 0, .slice none 0 0] 27)).alloc (.cells #[.int .i64 3, .int .i64 0, .string ⟨#[]⟩, .bool false, .slice none 0 0, .slice (some ⟨w.heap.size, 0, none⟩) 1 1] 27)).alloc (.cells #[.int .i64 2, .int .i64 0, .string ⟨#[]⟩, .bool false, .slice none 0 0, .slice (some ⟨w.heap.size + 1, 0, none⟩) 1 1] 27)).alloc (.cells #[.int .i64 1, .int .i64 0, .string ⟨#[]⟩, .bool false, .slice none 0 0, .slice (some ⟨w.heap.size + 2, 0, none⟩) 1 1] 27)).cell? ⟨w.heap.size + 3, 1, none⟩ = some (.int .i64 0) ∧ ((((w.alloc (.cells #[.int .i64 31, .int .i64 0, .string ⟨#[97]⟩, .bool false, .slice none 0 0, .slice none 0 0] 27)).alloc (.cells #[.int .i64 3, .int .i64 0, .string ⟨#[]⟩, .bool false, .slice none 0 0, .slice (some ⟨w.heap.size, 0, none⟩) 1 1] 27)).alloc (.cells #[.int .i64 2, .int .i64 0, .string ⟨#[]⟩, .bool false, .slice none 0 0, .slice (some ⟨w.heap.size + 1, 0, none⟩) 1 1] 27)).alloc (.cells #[.int .i64 1, .int .i64 0, .string ⟨#[]⟩, .bool false, .slice none 0 0, .slice (some ⟨w.heap.size + 2, 0, none⟩) 1 1] 27)).cell? ⟨w.heap.size + 3, 2, none⟩ = some (.string ⟨#[]⟩) ∧ ((((w.alloc (.cells #[.int .i64 31, .int .i64 0, .string ⟨#[97]⟩, .bool false, .slice none 0 0, .slice none 0 0] 27)).alloc (.cells #[.int .i64 3, .int .i64 0, .string ⟨#[]⟩, .bool false, .slice none 0 0, .slice (some ⟨w.heap.size, 0, none⟩) 1 1] 27)).alloc (.cells #[.int .i64 2, .int .i64 0, .string ⟨#[]⟩, .bool false, .slice none 0 0, .slice (some ⟨w.heap.size + 1, 0, none⟩) 1 1] 27)).alloc (.cells #[.int .i64 1, .int .i64 0, .string ⟨#[]⟩, .bool false, .slice none 0 0, .slice (some ⟨w.heap.size + 2, 0, none⟩) 1 1] 27)).cell? ⟨w.heap.size + 3, 3, none⟩ = some (.bool false) ∧ ((((w.alloc (.cells #[.int .i64 31, .int .i64 0, .string ⟨#[97]⟩, .bool false, .slice none 0 0, .slice none 0 0] 27)).alloc (.cells #[.int .i64 3, .int .i64 0, .string ⟨#[]⟩, .bool false, .slice none 0 0, .slice (some ⟨w.heap.size, 0, none⟩) 1 1] 27)).alloc (.cells #[.int .i64 2, .int .i64 0, .string ⟨#[]⟩, .bool false, .slice none 0 0, .slice (some ⟨w.heap.size + 1, 0, none⟩) 1 1] 27)).alloc (.cells #[.int .i64 1, .int .i64 0, .string ⟨#[]⟩, .bool false, .slice none 0 0, .slice (some ⟨w.heap.size + 2, 0, none⟩) 1 1] 27)).cell? ⟨w.heap.size + 3, 4, none⟩ = some (.slice none 0 0) ∧ ((((w.alloc (.cells #[.int .i64 31, .int .i64 0, .string ⟨#[97]⟩, .bool false, .slice none 0 0, .slice none 0 0] 27)).alloc (.cells #[.int .i64 3, .int .i64 0, .string ⟨#[]⟩, .bool false, .slice none 0 0, .slice (some ⟨w.heap.size, 0, none⟩) 1 1] 27)).alloc (.cells #[.int .i64 2, .int .i64 0, .string ⟨#[]⟩, .bool false, .slice none 0 0, .slice (some ⟨w.heap.size + 1, 0, none⟩) 1 1] 27)).alloc (.cells #[.int .i64 1, .int .i64 0, .string ⟨#[]⟩, .bool false, .slice none 0 0, .slice (some ⟨w.heap.size + 2, 0, none⟩) 1 1] 27)).cell? ⟨w.heap.size + 3, 5, none⟩ = some (.slice (some ⟨w.heap.size + 2, 0, none⟩) 1 1) := x4
 have hw := aw_weight
 have hC := fun (W : World) (hb : Below ((((w.alloc (.cells #[.int .i64 31, .int .i64 0, .string ⟨#[97]⟩, .bool false, .slice none 0 0, .slice none 0 0] 27)).alloc (.cells #[.int .i64 3, .int .i64 0, .string ⟨#[]⟩, .bool false, .slice none 0 0, .slice (some ⟨w.heap.size, 0, none⟩) 1 1] 27)).alloc (.cells #[.int .i64 2, .int .i64 0, .string ⟨#[]⟩, .bool false, .slice none 0 0, .slice (some ⟨w.heap.size + 1, 0, none⟩) 1 1] 27)).alloc (.cells #[.int .i64 1, .int .i64 0, .string ⟨#[]⟩, .bool false, .slice none 0 0, .slice (some ⟨w.heap.size + 2, 0, none⟩) 1 1] 27)).heap.size ((((w.alloc (.cells #[.int .i64 31, .int .i64 0, .string ⟨#[97]⟩, .bool false, .slice none 0 0, .slice none 0 0] 27)).alloc (.cells #[.int .i64 3, .int .i64 0, .string ⟨#[]⟩, .bool false, .slice none 0 0, .slice (some ⟨w.heap.size, 0, none⟩) 1 1] 27)).alloc (.cells #[.int .i64 2, .int .i64 0, .string ⟨#[]⟩, .bool false, .slice none 0 0, .slice (some ⟨w.heap.size + 1, 0, none⟩) 1 1] 27)).alloc (.cells #[.int .i64 1, .int .i64 0, .string ⟨#[]⟩, .bool false, .slice none 0 0, .slice (some ⟨w.heap.size + 2, 0, none⟩) 1 1] 27)) W) => tCheck_ok awT none 0 (some ⟨w.heap.size + 2, 0, none⟩) 1 W (hN.later hb) lq29 (Utf8Tabs_below hT (hB.trans (hb.mono hB.size)))
 have hP := fun (W : World) (hb : Below ((((w.alloc (.cells #[.int .i64 31, .int .i64 0, .string ⟨#[97]⟩, .bool false, .slice none 0 0, .slice none 0 0] 27)).alloc (.cells #[.int .i64 3, .int .i64 0, .string ⟨#[]⟩, .bool false, .slice none 0 0, .slice (some ⟨w.heap.size, 0, none⟩) 1 1] 27)).alloc (.cells #[.int .i64 2, .int .i64 0, .string ⟨#[]⟩, .bool false, .slice none 0 0, .slice (some ⟨w.heap.size + 1, 0, none⟩) 1 1] 27)).alloc (.cells #[.int .i64 1, .int .i64 0, .string ⟨#[]⟩, .bool false, .slice none 0 0, .slice (some ⟨w.heap.size + 2, 0, none⟩) 1 1] 27)).heap.size ((((w.alloc (.cells #[.int .i64 31, .int .i64 0, .string ⟨#[97]⟩, .bool false, .slice none 0 0, .slice none 0 0] 27)).alloc (.cells #[.int .i64 3, .int .i64 0, .string ⟨#[]⟩, .bool false, .slice none 0 0, .slice (some ⟨w.heap.size, 0, none⟩) 1 1] 27)).alloc (.cells #[.int .i64 2, .int .i64 0, .string ⟨#[]⟩, .bool false, .slice none 0 0, .slice (some ⟨w.heap.size + 1, 0, none⟩) 1 1] 27)).alloc (.cells #[.int .i64 1, .int .i64 0, .string ⟨#[]⟩, .bool false, .slice none 0 0, .slice (some ⟨w.heap.size + 2, 0, none⟩) 1 1] 27)) W) => tPrint_ok awT none 0 (some ⟨w.heap.size + 2, 0, none⟩) 1 W (hN.later hb) lq29 (Utf8Tabs_below hT (hB.trans (hb.mono hB.size)))
 have hS := fun (W : World) (hb : Below ((((w.alloc (.cells #[.int .i64 31, .int .i64 0, .string ⟨#[97]⟩, .bool false, .slice none 0 0, .slice none 0 0] 27)).alloc (.cells #[.int .i64 3, .int .i64 0, .string ⟨#[]⟩, .bool false, .slice none 0 0, .slice (some ⟨w.heap.size, 0, none⟩) 1 1] 27)).alloc (.cells #[.int .i64 2, .int .i64 0, .string ⟨#[]⟩, .bool false, .slice none 0 0, .slice (some ⟨w.heap.size + 1, 0, none⟩) 1 1] 27)).alloc (.cells #[.int .i64 1, .int .i64 0, .string ⟨#[]⟩, .bool false, .slice none 0 0, .slice (some ⟨w.heap.size + 2, 0, none⟩) 1 1] 27)).heap.size ((((w.alloc (.cells #[.int .i64 31, .int .i64 0, .string ⟨#[97]⟩, .bool false, .slice none 0 0, .slice none 0 0] 27)).alloc (.cells #[.int .i64 3, .int .i64 0, .string ⟨#[]⟩, .bool false, .slice none 0 0, .slice (some ⟨w.heap.size, 0, none⟩) 1 1] 27)).alloc (.cells #[.int .i64 2, .int .i64 0, .string ⟨#[]⟩, .bool false, .slice none 0 0, .slice (some ⟨w.heap.size + 1, 0, none⟩) 1 1] 27)).alloc (.cells #[.int .i64 1, .int .i64 0, .string ⟨#[]⟩, .bool false, .slice none 0 0, .slice (some ⟨w.heap.size + 2, 0, none⟩) 1 1] 27)) W) => tSize_ok awT none 0 (some ⟨w.heap.size + 2, 0, none⟩) 1 W (hN.later hb) lq29
 have hD := fun (W : World) (hb : Below ((((w.alloc (.cells #[.int .i64 31, .int .i64 0, .string ⟨#[97]⟩, .bool false, .slice none 0 0, .slice none 0 0] 27)).alloc (.cells #[.int .i64 3, .int .i64 0, .string ⟨#[]⟩, .bool false, .slice none 0 0, .slice (some ⟨w.heap.size, 0, none⟩) 1 1] 27)).alloc (.cells #[.int .i64 2, .int .i64 0, .string ⟨#[]⟩, .bool false, .slice none 0 0, .slice (some ⟨w.heap.size + 1, 0, none⟩) 1 1] 27)).alloc (.cells #[.int .i64 1, .int .i64 0, .string ⟨#[]⟩, .bool false, .slice none 0 0, .slice (some ⟨w.heap.size + 2, 0, none⟩) 1 1] 27)).heap.size ((((w.alloc (.cells #[.int .i64 31, .int .i64 0, .string ⟨#[97]⟩, .bool false, .slice none 0 0, .slice none 0 0] 27)).alloc (.cells #[.int .i64 3, .int .i64 0, .string ⟨#[]⟩, .bool false, .slice none 0 0, .slice (some ⟨w.heap.size, 0, none⟩) 1 1] 27)).alloc (.cells #[.int .i64 2, .int .i64 0, .string ⟨#[]⟩, .bool false, .slice none 0 0, .slice (some ⟨w.heap.size + 1, 0, none⟩) 1 1] 27)).alloc (.cells #[.int .i64 1, .int .i64 0, .string ⟨#[]⟩, .bool false, .slice none 0 0, .slice (some ⟨w.heap.size + 2, 0, none⟩) 1 1] 27)) W) => tDepth_ok awT none 0 (some ⟨w.heap.size + 2, 0, none⟩) 1 W (hN.later hb) lq29
 simp only [aw_chk, aw_prt, aw_count, aw_depth] at hC hP hS hD
 have HC := Lh hC
 have HP := Lh hP
 have HS := Lh hS
 have HD := Lh hD
 clear hC hP hS hD hN
 go_enter Tryz.func8, Tryz.ntmps8
 go_wp2_with (first
  | (go_at_call 10; refine (HC.out _ (Below.refl _ _)).mono ?_; rintro e v1 ⟨rfl, hb1⟩; obtain ⟨d0, d1, d2, d3, d4, d5⟩ := cl6 hb1 c0 c1 c2 c3 c4 c5)
  | (go_at_call 13; refine (HP.out _ hb1).mono ?_; rintro e v2 ⟨rfl, hq2⟩; have hb2 := hb1.trans (hq2.mono hb1.size); obtain ⟨e0, e1, e2, e3, e4, e5⟩ := cl6 hb2 c0 c1 c2 c3 c4 c5)
  | (go_at_call 12; refine (HS.out _ hb2).mono ?_; rintro e v3 ⟨rfl, hq3⟩; have hb3 := hb2.trans (hq3.mono hb2.size); obtain ⟨f0, f1, f2, f3, f4, f5⟩ := cl6 hb3 c0 c1 c2 c3 c4 c5)
  | (go_at_call 11; refine (HD.out _ hb3).mono ?_; rintro e v4 ⟨rfl, hq4⟩; have hb4 := hb3.trans (hq4.mono hb3.size)))
 go_ret
 exact ⟨rfl, hB.trans (hb4.mono hB.size)⟩
end
section
open List (length_append length_cons length_nil length_singleton)
mutual
def bareN : Nd → Nd
 | .mk k _ t b m ks => .mk k 0 t b m (bareNs ks)
def bareNs : List Nd → List Nd
 | [] => []
 | t :: r => bareN t :: bareNs r
end
theorem bareNs_map : ∀ l : List Nd, bareNs l = l.map bareN
 | [] => by rw [bareNs]; rfl
 | t :: r => by rw [bareNs, bareNs_map r, List.map_cons]
theorem bareN_eq (T : Nd) : bareN T = .mk T.kind 0 T.text T.neg T.mag (T.kids.map bareN) := by
 cases T
 rw [bareN, bareNs_map]
 rfl
def Alike (ts : Bool) (S T : Nd) : Prop := if ts then S = T else bareN S = bareN T
theorem Alike.refl (ts : Bool) (T : Nd) : Alike ts T T := by unfold Alike; split <;> rfl
theorem Alike.parts {ts : Bool} {S T : Nd} (h : Alike ts S T) : S.kind = T.kind ∧ S.text = T.text ∧ S.neg = T.neg ∧ S.mag = T.mag ∧ (ts = true → S.pos = T.pos) ∧ S.kids.length = T.kids.length ∧ ∀ (i : Nat) (s t : Nd), S.kids[i]? = some s → T.kids[i]? = some t → Alike ts s t := by
 cases ts with
 | true =>
  have e : S = T := h; subst e
  refine ⟨rfl, rfl, rfl, rfl, fun _ => rfl, rfl, fun i s t hs ht => ?_⟩
  rw [hs] at ht; injection ht
 | false =>
  have e : bareN S = bareN T := h; rw [bareN_eq S, bareN_eq T] at e; injection e with e1 e2 e3 e4 e5 e6
  refine ⟨e1, e3, e4, e5, fun h => Bool.noConfusion h, ?_, fun i s t hs ht => ?_⟩
  ·have := congrArg List.length e6
   simpa using this
  ·have := congrArg (fun l => l[i]?) e6; simp only [List.getElem?_map, hs, ht, Option.map_some] at this; injection this
end
end Go.Proofs.YtjefhdlncikhmaaGreatDoor
