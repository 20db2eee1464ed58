/- Joined by a program: LBare, Tabs, LiftT. -/
import Derived.WalkKit
import Derived.ProofKit
import Derived.Lib.LaidIn
import Derived.Lib.LaidU8T
import Derived.Test.YtjefhdlncikhmaaGreatDoorRows
import Derived.OpenShut
import Derived.ChangeOld
import Derived.Lib.SmallJoins
import Derived.Test.YtjefhdlncikhmaaGreatDoorShelf
import Derived.Test.YtjefhdlncikhmaaGreatDoorPB23
import Derived.Test.YtjefhdlncikhmaaGreatDoorPB24
import Derived.Test.YtjefhdlncikhmaaGreatDoorPB25
namespace Go.Proofs.YtjefhdlncikhmaaGreatDoor
section
set_option linter.unusedVariables false
set_option linter.unusedSimpArgs false
open Go.RowKit
set_option maxRecDepth 1000000
theorem bareN_idem (T : Nd) : bareN (bareN T) = bareN T := by
  induction T using Nd.ind with
  | h T ih =>
    rw [bareN_eq (bareN T), bareN_eq T]
    show Nd.mk T.kind 0 T.text T.neg T.mag ((T.kids.map bareN).map bareN) = _
    rw [List.map_map]
    congr 1
    exact List.map_congr_left fun t ht => ih t ht
theorem bare_alike (T : Nd) : Alike false (bareN T) T := by
  unfold Alike
  simp [bareN_idem]
set_option maxHeartbeats 8000000 in
theorem treeBare_any (T : Nd) (A : Option Addr) (c : Nat) (K : Option Addr) (d : Nat) (w : World) (hN : NodeAt w T A c K d) (hW : T.weight ≤ 1048576) (hT : Lib.Utf8Tabs 0 1 w) :
    Calls Tryz.prog 6 #[ndV T A c K d] w fun e w' => e = .returned (.bool true) ∧ Below w.heap.size w w' := by
  have hb1 := (Below.refl w.heap.size w).alloc (Nat.le_refl _) (.cells #[.int .i64 T.kind, .int .i64 T.pos, .string T.text, .bool T.neg, .slice A T.mag.length c, .slice K T.kids.length d] 27)
  obtain ⟨c0, c1, c2, c3, c4, c5⟩ := (cellsN_new w T A c K d 27).box
  have hL := fun (W : World) (hb : Below w.heap.size w W) => large_ok T A c K d W (hN.later hb) hW
  have HA := Lib.hid (fun (W : World) (hb : Below w.heap.size w W) => tAwake_ok W (Utf8Tabs_below hT hb))
  unfold ndV at hL
  unfold ndV
  by_cases hg : 3000 < T.weight
  · rw [decide_eq_true hg] at hL
    have HL := Lib.hid hL
    clear hL hN hW hT
    go_enter Tryz.func6, Tryz.ntmps6
    go_wp2_with (first
      | (go_at_call 7; refine (HL.out _ hb1).mono ?_; rintro e v1 ⟨rfl, hq1⟩; have hv1 := hb1.trans (hq1.mono hb1.size))
      | (go_at_call 8; refine (HA.out _ hv1).mono ?_; rintro e v2 ⟨rfl, hq2⟩; have hv2 := hv1.trans (hq2.mono hv1.size)))
    go_ret
    exact ⟨rfl, hv2⟩
  · rw [decide_eq_false hg] at hL
    have HL := Lib.hid hL
    have hC := fun (W : World) (hb : Below w.heap.size w W) => lcopied_ok T A c K d W (hN.later hb) hW
    unfold ndV at hC
    have HC := Lib.hid hC
    have HN := Lib.hid hN
    clear hL hC hN
    obtain ⟨S, hS⟩ : ∃ S, bareN T = S := ⟨_, rfl⟩
    go_enter Tryz.func6, Tryz.ntmps6
    go_wp2_with (first
      | (go_at_call 7; refine (HL.out _ hb1).mono ?_; rintro e v1 ⟨rfl, hq1⟩; have hv1 := hb1.trans (hq1.mono hb1.size); have d0 := cell_later hq1 c0; have d1 := cell_later hq1 c1; have d2 := cell_later hq1 c2; have d3 := cell_later hq1 c3; have d4 := cell_later hq1 c4; have d5 := cell_later hq1 c5)
      | (go_at_call 9; refine (HC.out _ hv1).mono ?_; rintro e w3 ⟨A2, c2', K2, d2', rfl, hF, hq3⟩; have hv3 := hv1.trans (hq3.mono hv1.size); have d0 := cell_later hq3 d0; have d1 := cell_later hq3 d1; have d2 := cell_later hq3 d2; have d3 := cell_later hq3 d3; have d4 := cell_later hq3 d4; have d5 := cell_later hq3 d5))
    have hb4 := hv3.alloc hv3.size (.cells #[.int .i64 T.kind, .int .i64 T.pos, .string T.text, .bool T.neg, .slice A2 T.mag.length c2', .slice K2 T.kids.length d2'] 27)
    have hx4 := (Below.refl w3.heap.size w3).alloc (Nat.le_refl _) (.cells #[.int .i64 T.kind, .int .i64 T.pos, .string T.text, .bool T.neg, .slice A2 T.mag.length c2', .slice K2 T.kids.length d2'] 27)
    obtain ⟨f0, f1, f2, f3, f4, f5⟩ := (cellsN_new w3 T A2 c2' K2 d2' 27).box
    have hs4 : (w3.alloc (.cells #[.int .i64 T.kind, .int .i64 T.pos, .string T.text, .bool T.neg, .slice A2 T.mag.length c2', .slice K2 T.kids.length d2'] 27)).heap.size = w3.heap.size + 1 := by simp
    have hNx := hF.now.later hx4
    have d0 := cell_later hx4 d0
    have d1 := cell_later hx4 d1
    have d2 := cell_later hx4 d2
    have d3 := cell_later hx4 d3
    have d4 := cell_later hx4 d4
    have d5 := cell_later hx4 d5
    generalize w3.alloc (.cells #[.int .i64 T.kind, .int .i64 T.pos, .string T.text, .bool T.neg, .slice A2 T.mag.length c2', .slice K2 T.kids.length d2'] 27) = w4 at *
    have k1 := fun (W : World) (hb : Below w4.heap.size w4 W) => tBare_ok T.depth T (Nat.le_refl _) A2 c2' K2 d2' W (hNx.later hb) hW
    rw [hS] at k1
    unfold ndV at k1
    clear c0 c1 c2 c3 c4 c5 hF hq3 hq1 hb1 hv1 HL HC hx4
    refine (k1 _ (Below.refl _ _)).mono ?_
    rintro e w5 ⟨A3, c3', K3, d3', rfl, hFa, hq5⟩
    have d0 := cell_later hq5 d0
    have d1 := cell_later hq5 d1
    have d2 := cell_later hq5 d2
    have d3 := cell_later hq5 d3
    have d4 := cell_later hq5 d4
    have d5 := cell_later hq5 d5
    have f0 := cell_later hq5 f0
    have f1 := cell_later hq5 f1
    have f2 := cell_later hq5 f2
    have f3 := cell_later hq5 f3
    have f4 := cell_later hq5 f4
    have f5 := cell_later hq5 f5
    have l0 := World.block_lt_of_cell? _ _ d0
    have l3 := World.block_lt_of_cell? _ _ f0
    go_wp2_with fail
    have hx6 := (Below.refl w5.heap.size w5).alloc (Nat.le_refl _) (.cells #[.int .i64 S.kind, .int .i64 S.pos, .string S.text, .bool S.neg, .slice A3 S.mag.length c3', .slice K3 S.kids.length d3'] 27)
    obtain ⟨g0, g1, g2, g3, g4, g5⟩ := (cellsN_new w5 S A3 c3' K3 d3' 27).box
    have hs6 : (w5.alloc (.cells #[.int .i64 S.kind, .int .i64 S.pos, .string S.text, .bool S.neg, .slice A3 S.mag.length c3', .slice K3 S.kids.length d3'] 27)).heap.size = w5.heap.size + 1 := by simp
    have hq6 := hq5.alloc hq5.size (.cells #[.int .i64 S.kind, .int .i64 S.pos, .string S.text, .bool S.neg, .slice A3 S.mag.length c3', .slice K3 S.kids.length d3'] 27)
    have hFa := hFa.later hx6
    have d0 := cell_later hx6 d0
    have d1 := cell_later hx6 d1
    have d2 := cell_later hx6 d2
    have d3 := cell_later hx6 d3
    have d4 := cell_later hx6 d4
    have d5 := cell_later hx6 d5
    have f0 := cell_later hx6 f0
    have f1 := cell_later hx6 f1
    have f2 := cell_later hx6 f2
    have f3 := cell_later hx6 f3
    have f4 := cell_later hx6 f4
    have f5 := cell_later hx6 f5
    generalize w5.alloc (.cells #[.int .i64 S.kind, .int .i64 S.pos, .string S.text, .bool S.neg, .slice A3 S.mag.length c3', .slice K3 S.kids.length d3'] 27) = w6 at *
    refine (k1 _ hq6).mono ?_
    rintro e w7 ⟨A4, c4', K4, d4', rfl, hFb, hq7⟩
    have hFa := hFa.later hq7
    have d0 := cell_later hq7 d0
    have d1 := cell_later hq7 d1
    have d2 := cell_later hq7 d2
    have d3 := cell_later hq7 d3
    have d4 := cell_later hq7 d4
    have d5 := cell_later hq7 d5
    have f0 := cell_later hq7 f0
    have f1 := cell_later hq7 f1
    have f2 := cell_later hq7 f2
    have f3 := cell_later hq7 f3
    have f4 := cell_later hq7 f4
    have f5 := cell_later hq7 f5
    have g0 := cell_later hq7 g0
    have g1 := cell_later hq7 g1
    have g2 := cell_later hq7 g2
    have g3 := cell_later hq7 g3
    have g4 := cell_later hq7 g4
    have g5 := cell_later hq7 g5
    have l0 := World.block_lt_of_cell? _ _ d0
    have l3 := World.block_lt_of_cell? _ _ f0
    have l5 := World.block_lt_of_cell? _ _ g0
    go_wp2_with fail
    have hx8 := (Below.refl w7.heap.size w7).alloc (Nat.le_refl _) (.cells #[.int .i64 S.kind, .int .i64 S.pos, .string S.text, .bool S.neg, .slice A4 S.mag.length c4', .slice K4 S.kids.length d4'] 27)
    obtain ⟨h0, h1, h2, h3, h4, h5⟩ := (cellsN_new w7 S A4 c4' K4 d4' 27).box
    have hs8 : (w7.alloc (.cells #[.int .i64 S.kind, .int .i64 S.pos, .string S.text, .bool S.neg, .slice A4 S.mag.length c4', .slice K4 S.kids.length d4'] 27)).heap.size = w7.heap.size + 1 := by simp
    have hq8 := (hq6.trans (hq7.mono hq6.size)).alloc (hq6.trans (hq7.mono hq6.size)).size (.cells #[.int .i64 S.kind, .int .i64 S.pos, .string S.text, .bool S.neg, .slice A4 S.mag.length c4', .slice K4 S.kids.length d4'] 27)
    have hFa := hFa.later hx8
    have hFb := hFb.later hx8
    have d0 := cell_later hx8 d0
    have d1 := cell_later hx8 d1
    have d2 := cell_later hx8 d2
    have d3 := cell_later hx8 d3
    have d4 := cell_later hx8 d4
    have d5 := cell_later hx8 d5
    have f0 := cell_later hx8 f0
    have f1 := cell_later hx8 f1
    have f2 := cell_later hx8 f2
    have f3 := cell_later hx8 f3
    have f4 := cell_later hx8 f4
    have f5 := cell_later hx8 f5
    have g0 := cell_later hx8 g0
    have g1 := cell_later hx8 g1
    have g2 := cell_later hx8 g2
    have g3 := cell_later hx8 g3
    have g4 := cell_later hx8 g4
    have g5 := cell_later hx8 g5
    generalize w7.alloc (.cells #[.int .i64 S.kind, .int .i64 S.pos, .string S.text, .bool S.neg, .slice A4 S.mag.length c4', .slice K4 S.kids.length d4'] 27) = w8 at *
    have z5 := hq5.size
    have z7 := hq7.size
    have hN4 := HN.out.later hb4
    have HB8 := Lib.hid (fun (W : World) (hb : Below w8.heap.size w8 W) => show _ ∧ _ ∧ _ ∧ _ ∧ _ ∧ _ ∧ _ ∧ _ ∧ _ ∧ _ ∧ _ ∧ _ ∧ _ ∧ _ ∧ _ ∧ _ ∧ _ ∧ _ ∧ _ ∧ _ ∧ _ ∧ _ ∧ _ ∧ _ from ⟨cell_later hb d0, cell_later hb d1, cell_later hb d2, cell_later hb d3, cell_later hb d4, cell_later hb d5, cell_later hb f0, cell_later hb f1, cell_later hb f2, cell_later hb f3, cell_later hb f4, cell_later hb f5, cell_later hb g0, cell_later hb g1, cell_later hb g2, cell_later hb g3, cell_later hb g4, cell_later hb g5, cell_later hb h0, cell_later hb h1, cell_later hb h2, cell_later hb h3, cell_later hb h4, cell_later hb h5⟩)
    have hdS : Alike false S T := by rw [← hS]; exact bare_alike T
    have k2 := fun (W : World) (hb : Below w8.heap.size w8 W) => same_ok false S.depth S T hdS (Nat.le_refl _) A3 c3' K3 d3' A c K d W (hFa.at.later hb) (hN4.later (hq8.trans (hb.mono hq8.size)))
    have k3 := fun (W : World) (hb : Below w8.heap.size w8 W) => lnone_ok T.depth T S hS (Nat.le_refl _) A3 c3' K3 d3' W (hFa.at.later hb)
    have k4 := fun (W : World) (hb : Below w8.heap.size w8 W) => spoil_ok T.depth S w4.heap.size w5.heap.size A3 c3' K3 d3' W (hFa.later hb)
    unfold ndV at k2 k3 k4
    refine (k2 _ (Below.refl _ _)).mono ?_
    rintro e u1 ⟨rfl, hu1⟩
    obtain ⟨d0, d1, d2, d3, d4, d5, f0, f1, f2, f3, f4, f5, g0, g1, g2, g3, g4, g5, h0, h1, h2, h3, h4, h5⟩ := HB8.out u1 hu1
    go_wp2_with (go_at_call 25; refine (k3 _ hu1).mono ?_; rintro e u2 ⟨rfl, hr2⟩; have hu2 := hu1.trans (hr2.mono hu1.size); obtain ⟨d0, d1, d2, d3, d4, d5, f0, f1, f2, f3, f4, f5, g0, g1, g2, g3, g4, g5, h0, h1, h2, h3, h4, h5⟩ := HB8.out u2 hu2)
    refine (k4 _ hu2).mono ?_
    rintro e u3 ⟨rfl, hT3⟩
    have z8 := hu2.size
    have hcell : ∀ q j (v : Value), (q < w4.heap.size ∨ w5.heap.size ≤ q) → u2.cell? ⟨q, j, none⟩ = some v → u3.cell? ⟨q, j, none⟩ = some v := fun q j v hq hv => (World.cell?_of_block (hT3.block q (World.block_lt_of_cell? _ _ hv) hq)).trans hv
    have y0 : w.heap.size < w4.heap.size := by have := hv3.size; omega
    have y1 : w3.heap.size < w4.heap.size := by omega
    have y3 : w5.heap.size ≤ w7.heap.size := by omega
    have d0 := hcell _ _ _ (.inl y0) d0
    have d1 := hcell _ _ _ (.inl y0) d1
    have d2 := hcell _ _ _ (.inl y0) d2
    have d3 := hcell _ _ _ (.inl y0) d3
    have d4 := hcell _ _ _ (.inl y0) d4
    have d5 := hcell _ _ _ (.inl y0) d5
    have f0 := hcell _ _ _ (.inl y1) f0
    have f1 := hcell _ _ _ (.inl y1) f1
    have f2 := hcell _ _ _ (.inl y1) f2
    have f3 := hcell _ _ _ (.inl y1) f3
    have f4 := hcell _ _ _ (.inl y1) f4
    have f5 := hcell _ _ _ (.inl y1) f5
    have g0 := hcell _ _ _ (.inr (Nat.le_refl _)) g0
    have g1 := hcell _ _ _ (.inr (Nat.le_refl _)) g1
    have g2 := hcell _ _ _ (.inr (Nat.le_refl _)) g2
    have g3 := hcell _ _ _ (.inr (Nat.le_refl _)) g3
    have g4 := hcell _ _ _ (.inr (Nat.le_refl _)) g4
    have g5 := hcell _ _ _ (.inr (Nat.le_refl _)) g5
    have h0 := hcell _ _ _ (.inr y3) h0
    have h1 := hcell _ _ _ (.inr y3) h1
    have h2 := hcell _ _ _ (.inr y3) h2
    have h3 := hcell _ _ _ (.inr y3) h3
    have h4 := hcell _ _ _ (.inr y3) h4
    have h5 := hcell _ _ _ (.inr y3) h5
    have hb3 : Below w4.heap.size w4 u3 := (hq8.trans (hu2.mono hq8.size)).trans (hT3.below (by omega))
    have hFb3 := (hFb.later hu2).keep (w' := u3) (fun q q1 q2 => hT3.block q (by have := (hFb.later hu2).size; omega) (.inr (by omega))) hT3.size
    have HB9 := Lib.hid (fun (W : World) (hb : Below u3.heap.size u3 W) => show _ ∧ _ ∧ _ ∧ _ ∧ _ ∧ _ ∧ _ ∧ _ ∧ _ ∧ _ ∧ _ ∧ _ ∧ _ ∧ _ ∧ _ ∧ _ ∧ _ ∧ _ ∧ _ ∧ _ ∧ _ ∧ _ ∧ _ ∧ _ from ⟨cell_later hb d0, cell_later hb d1, cell_later hb d2, cell_later hb d3, cell_later hb d4, cell_later hb d5, cell_later hb f0, cell_later hb f1, cell_later hb f2, cell_later hb f3, cell_later hb f4, cell_later hb f5, cell_later hb g0, cell_later hb g1, cell_later hb g2, cell_later hb g3, cell_later hb g4, cell_later hb g5, cell_later hb h0, cell_later hb h1, cell_later hb h2, cell_later hb h3, cell_later hb h4, cell_later hb h5⟩)
    have k5 := fun (W : World) (hb : Below u3.heap.size u3 W) => same_ok false S.depth S T hdS (Nat.le_refl _) A4 c4' K4 d4' A c K d W (hFb3.at.later hb) (hN4.later (hb3.trans (hb.mono hb3.size)))
    have k6 := fun (W : World) (hb : Below u3.heap.size u3 W) => lnone_ok T.depth T S hS (Nat.le_refl _) A4 c4' K4 d4' W (hFb3.at.later hb)
    have k7 := fun (W : World) (hb : Below u3.heap.size u3 W) => same_ok true T.depth T T (Alike.refl _ _) (Nat.le_refl _) A2 c2' K2 d2' A c K d W (hNx.later (hb3.trans (hb.mono hb3.size))) (hN4.later (hb3.trans (hb.mono hb3.size)))
    have hbw : Below w.heap.size w u3 := hb4.trans (hb3.mono hb4.size)
    have k8 := fun (W : World) (hb : Below u3.heap.size u3 W) => HA.out W (hbw.trans (hb.mono hbw.size))
    unfold ndV at k5 k6 k7
    clear hFa hFb hFb3 hNx hN4 k1 k2 k3 k4 HB8 hcell
    have hr := Below.refl u3.heap.size u3
    go_wp2_with fail
    refine (k5 _ hr).mono ?_
    rintro e u4 ⟨rfl, hu4⟩
    obtain ⟨d0, d1, d2, d3, d4, d5, f0, f1, f2, f3, f4, f5, g0, g1, g2, g3, g4, g5, h0, h1, h2, h3, h4, h5⟩ := HB9.out u4 hu4
    go_wp2_with fail
    refine (k6 _ hu4).mono ?_
    rintro e u5 ⟨rfl, hr5⟩
    have hu5 := hu4.trans (hr5.mono hu4.size)
    obtain ⟨d0, d1, d2, d3, d4, d5, f0, f1, f2, f3, f4, f5, g0, g1, g2, g3, g4, g5, h0, h1, h2, h3, h4, h5⟩ := HB9.out u5 hu5
    go_wp2_with fail
    refine (k7 _ hu5).mono ?_
    rintro e u6 ⟨rfl, hr6⟩
    have hu6 := hu5.trans (hr6.mono hu5.size)
    go_wp2_with fail
    refine (k8 _ hu6).mono ?_
    rintro e u7 ⟨rfl, hr7⟩
    have hu7 := hu6.trans (hr7.mono hu6.size)
    go_wp2_with fail
    go_ret
    exact ⟨rfl, hbw.trans (hu7.mono hbw.size)⟩
end
section
set_option linter.unusedVariables false
set_option linter.unusedSimpArgs false
open Go.Shelf
def u8ren : Ren := ⟨fun n => n, fun | 5 => 5 | 119 => 164 | 138 => 166 | 139 => 167 | n => n, fun | 3 => 0 | 4 => 1 | n => n⟩
theorem u8types : U8Types Tryz.prog u8ren := ⟨Tryz.underlying5, Tryz.underlying164, by kernel_rfl, Tryz.underlying167⟩
theorem u8extra : U8Extra Tryz.prog u8ren := ⟨by kernel_rfl, by kernel_rfl, by kernel_rfl, by kernel_rfl, by kernel_rfl, by kernel_rfl, by kernel_rfl⟩
theorem firstEq : Rows.laid_unicode_utf8_first = Lib.firstData := by kernel_rfl
theorem acceptEq : (Rows.laid_unicode_utf8_acceptRanges : DataW Unit) = Lib.acceptData := by kernel_rfl
/-- what the list of a row gives: the tables' cells. -/
theorem tabs_of {w : World} (h : laidMet Tryz.prog [("unicode/utf8.acceptRanges", Rows.laid_unicode_utf8_acceptRanges), ("unicode/utf8.first", Rows.laid_unicode_utf8_first)] w) : Lib.Utf8Tabs 0 1 w := by
  rw [firstEq, acceptEq] at h
  exact utf8Tabs_of_readsT u8types u8extra (Lib.laidMet.reads h (.tail _ (.head _))) (Lib.laidMet.reads h (.head _))
/-- THE WITNESS: the settled world, the two variables holding what their initialisers lay. -/
noncomputable def laidWorld (os : Os) : World :=
  let w0 := World.holding Tryz.prog os ⟨#[], #[], []⟩
  let put (h : Array Obj) (g : Nat) (cs : Array Value) : Array Obj := h.modify g fun
    | .cells _ t frozen => .cells cs t frozen
    | o => o
  let h1 := put w0.heap 0 (Lib.firstTab.map fun z => Value.int .u8 z).toArray
  let h2 := put h1 1 ((List.range 16).flatMap fun i => [Value.int .u8 (Lib.accLo i), Value.int .u8 (Lib.accHi i)]).toArray
  { w0 with heap := h2 }
theorem laid_met (os : Os) (args : Array Value) : laidMet Tryz.prog [("unicode/utf8.acceptRanges", Rows.laid_unicode_utf8_acceptRanges), ("unicode/utf8.first", Rows.laid_unicode_utf8_first)] ((laidWorld os).forCall (fun _ _ => 0) ⟨#[], args, []⟩).memory :=
  (LaidIn.of_run (l := [("unicode/utf8.acceptRanges", Rows.laid_unicode_utf8_acceptRanges), ("unicode/utf8.first", Rows.laid_unicode_utf8_first)]) [0, 1] 8 (by kernel_rfl) (by kernel_rfl) (by kernel_rfl) (by kernel_rfl)).met
end
section
set_option linter.unusedVariables false
set_option linter.unusedSimpArgs false
open Go.ChangeShapes Go.WideShapes Go.ChangeAt Go.RowKit Go.Joins
set_option maxRecDepth 1000000
theorem addr_litT {w : World} {x : Addr} {v : Value} (h : w.cell? x = some v) : x = ⟨x.block, x.off, none⟩ := by
  obtain ⟨b, o, s⟩ := x
  cases s with
  | none => rfl
  | some s => simp [World.cell?] at h; split at h <;> simp at h
theorem add_zeroT (x : Addr) : x.add 0 = x := by simp [Addr.add]
theorem cells_atT {w : World} {base : Nat} {a : Addr} {n : Nat} {cs : List Value} (h : w.cells? base a n = some cs) (hn : 0 < n) : a = ⟨a.block, a.off, none⟩ ∧ cs.length = n ∧ ∀ i, i < n → w.cell? ⟨a.block, a.off + i, none⟩ = cs[i]? := by
  obtain ⟨_, h1, h2⟩ := World.cells?_some h
  obtain ⟨v, hv⟩ : ∃ v, cs[0]? = some v := ⟨_, List.getElem?_eq_getElem (by omega)⟩
  have ha := addr_litT (x := a) (by rw [← hv, ← h2 0 hn, add_zeroT])
  refine ⟨ha, h1, fun i hi => ?_⟩
  have := h2 i hi
  rw [ha, Addr.add_lit] at this
  exact this
theorem rdI_cellsT {w : World} {k : IntKind} {x : Addr} {zs : List Int} (hc : ∀ i, i < zs.length → w.cell? (x.add i) = some (.int k (zs.getD i 0))) (n : Nat) : RdI w k (some x) (zs.take n) := fun i hi => by
  have hi' : i < n ∧ i < zs.length := by simpa [List.length_take, Nat.lt_min] using hi
  have h0 := hc 0 (by omega)
  have hx : x = ⟨x.block, x.off, none⟩ := by
    have := addr_litT h0
    rw [add_zeroT] at this
    exact this
  refine ⟨x.block, x.off, zs[i], by rw [← hx], ?_, ?_⟩
  · rw [List.getElem?_take_of_lt hi'.1, List.getElem?_eq_getElem hi'.2]
  · have := hc i hi'.2
    rw [hx, Addr.add_lit] at this
    rw [this]
    simp [List.getElem?_eq_getElem hi'.2]
theorem bulk_lits {H : Type} (k : IntKind) : ∀ zs : List Int, Rows.uptoBulkAll (lits k zs : List (DataW H)) = zs.length
  | [] => rfl
  | z :: zs => by
    have := bulk_lits (H := H) k zs
    show Rows.uptoBulk (DataW.lit (.int k z)) + Rows.uptoBulkAll (lits k zs) = _
    rw [this]
    simp [Rows.uptoBulk]
    omega
theorem weights_bulk {H : Type} : ∀ (ks : List Nd) (ds : List (DataW H)), ks.length = ds.length → (∀ (i : Nat) (t : Nd) (D : DataW H), ks[i]? = some t → ds[i]? = some D → t.weight ≤ Rows.uptoBulk D) → weights ks ≤ Rows.uptoBulkAll ds
  | [], _, _, _ => by rw [weights]; exact Nat.zero_le _
  | t :: r, [], h, _ => by simp at h
  | t :: r, D :: ds, h, hx => by
    rw [weights, Rows.uptoBulkAll]
    have h1 := hx 0 t D rfl rfl
    have h2 := weights_bulk r ds (by simpa using h) (fun i t D hi hD => hx (i + 1) t D (by simpa using hi) (by simpa using hD))
    omega
section
variable {H : Type} {enc : TypeId × Value → H} {w : World} {base : Nat} {spare : Nat → Bool} {held : Bool}
/-- a slice of words. -/
theorem trod_magT {n : Nat} {cs : List Value} {y : DataW H × List MemPlace} (h : DataW.trod enc Tryz.prog w base spare held n 22 cs = some y) :
    ∃ A c m, cs = [.slice A m.length c] ∧ m.length ≤ c ∧ c ≤ maxLen ∧ RdI w .u32 A m ∧ (∀ z ∈ m, 0 ≤ z ∧ z < 4294967296) ∧ m.length ≤ Rows.uptoBulk y.1 := by
  rcases open_ints Tryz.underlying22 Tryz.underlying61 (by kernel_rfl) h with ⟨rfl, rfl⟩ | ⟨x, l, c, zs, rfl, _, hl, hm, hz, rfl, hcell, hwz⟩
  · exact ⟨none, 0, [], rfl, Nat.le_refl _, Nat.zero_le _, RdI.nil _ _ _, fun z hz => by simp at hz, Nat.zero_le _⟩
  · have hzl : l ≤ zs.length := by rw [hz]; split <;> omega
    have hul : (zs.take l).length = l := by rw [List.length_take]; omega
    refine ⟨some x, c, zs.take l, by rw [hul], by omega, hm, rdI_cellsT hcell l, fun z hz => ?_, ?_⟩
    · have hb : 0 ≤ z ∧ z ≤ 4294967295 := by simpa [Lit.wf, IntKind.min, IntKind.max, IntKind.signed, IntKind.bits] using hwz z (List.mem_of_mem_take hz)
      omega
    · show _ ≤ Rows.uptoBulk (DataW.slice (lits .u32 (zs.take l)) (lits .u32 (zs.drop l)))
      rw [Rows.uptoBulk, bulk_lits]
      omega
theorem trod_nodeT : ∀ (n : Nat) {cs : List Value} {y : DataW H × List MemPlace}, DataW.trod enc Tryz.prog w base spare held n 27 cs = some y →
    ∃ T A c K d, cs = ndC T A c K d ∧ NodeAt w T A c K d ∧ T.weight ≤ Rows.uptoBulk y.1
  | 0, cs, y, h => by simp [DataW.trod] at h
  | n + 1, cs, y, h => by
    obtain ⟨xs, n', hn, rfl, hl, hlen, hx⟩ := DataW.trod_struct Tryz.underlying27 h
    rw [show Tryz.prog.cellsOf 27 = 6 by kernel_rfl] at hl
    injection hn with hn
    subst hn
    match xs, hlen, hx with
    | [y0, y1, y2, y3, y4], _, hx =>
    match cs, hl with
    | [v0, v1, v2, v3, v4, v5], _ =>
    have q0 : DataW.trod enc Tryz.prog w base spare held n 3 (List.take (Tryz.prog.cellsOf 3) (List.drop 0 [v0, v1, v2, v3, v4, v5])) = some y0 := hx 0 _ rfl
    have q1 : DataW.trod enc Tryz.prog w base spare held n 3 (List.take (Tryz.prog.cellsOf 3) (List.drop 1 [v0, v1, v2, v3, v4, v5])) = some y1 := hx 1 _ rfl
    have q2 : DataW.trod enc Tryz.prog w base spare held n 9 (List.take (Tryz.prog.cellsOf 9) (List.drop 2 [v0, v1, v2, v3, v4, v5])) = some y2 := hx 2 _ rfl
    have q3 : DataW.trod enc Tryz.prog w base spare held n 24 (List.take (Tryz.prog.cellsOf 24) (List.drop 3 [v0, v1, v2, v3, v4, v5])) = some y3 := hx 3 _ rfl
    have q4 : DataW.trod enc Tryz.prog w base spare held n 25 (List.take (Tryz.prog.cellsOf 25) (List.drop 5 [v0, v1, v2, v3, v4, v5])) = some y4 := hx 4 _ rfl
    rw [show Tryz.prog.cellsOf 3 = 1 by kernel_rfl] at q0 q1
    rw [show Tryz.prog.cellsOf 9 = 1 by kernel_rfl] at q2
    rw [show Tryz.prog.cellsOf 24 = 2 by kernel_rfl] at q3
    rw [show Tryz.prog.cellsOf 25 = 1 by kernel_rfl] at q4
    obtain ⟨k, e0, r0, f0⟩ := DataW.trod_int Tryz.underlying3 q0
    obtain ⟨a, e1, r1, f1⟩ := DataW.trod_int Tryz.underlying3 q1
    obtain ⟨s, e2, r2, f2⟩ := DataW.trod_string Tryz.underlying9 q2
    obtain ⟨z0, z1, n3, e3, l3, g0, g1⟩ := trod_struct2 Tryz.underlying24 q3
    rw [show Tryz.prog.cellsOf 4 = 1 by kernel_rfl] at g0
    rw [show Tryz.prog.cellsOf 22 = 1 by kernel_rfl] at g1
    obtain ⟨b, e4, r4⟩ := DataW.trod_bool Tryz.underlying4 g0
    obtain ⟨A, c, m, e5, m1, m2, m3, m4, m5⟩ := trod_magT g1
    have w0 : I64 k := by
      unfold I64
      simpa [Lit.wf, IntKind.min, IntKind.max, IntKind.signed, IntKind.bits] using f0
    have w1 : I64 a := by
      unfold I64
      simpa [Lit.wf, IntKind.min, IntKind.max, IntKind.signed, IntKind.bits] using f1
    have e0' : v0 = .int .i64 k := by simpa using e0
    have e1' : v1 = .int .i64 a := by simpa using e1
    have e2' : v2 = .string s := by simpa using e2
    have e4' : v3 = .bool b := by simpa using e4
    have e5' : v4 = .slice A m.length c := by simpa using e5
    have hbm : m.length ≤ Rows.uptoBulk y3.1 := by
      rw [e3]
      simp only [Rows.uptoBulk, Rows.uptoBulkAll]
      omega
    have hbs : s.size ≤ Rows.uptoBulk y2.1 := by
      rw [r2]
      simp [Rows.uptoBulk]
    have done : ∀ (K : Option Addr) (d : Nat) (ks : List Nd), v5 = .slice K ks.length d → ks.length ≤ d → d ≤ maxLen → KidsAt w ks K 0 → weights ks ≤ Rows.uptoBulk y4.1 → ∃ T A c K d, [v0, v1, v2, v3, v4, v5] = ndC T A c K d ∧ NodeAt w T A c K d ∧ T.weight ≤ Rows.uptoBulk (DataW.agg ([y0, y1, y2, y3, y4].map (·.1))) := fun K d ks hv hd1 hd2 hK hw =>
      ⟨.mk k a s b m ks, A, c, K, d, by rw [e0', e1', e2', e4', e5', hv]; rfl, NodeAt.of ⟨m1, m2, m3, m4, hd1, hd2, w0, w1, f2, hK⟩, by
        rw [Nd.weight]
        simp only [List.map_cons, List.map_nil, Rows.uptoBulk, Rows.uptoBulkAll]
        omega⟩
    rcases DataW.trod_slice Tryz.underlying25 q4 with ⟨hv, hy⟩ | ⟨ad, len, cap, elems, rest, n4, hn4, hv, hy, _, hlc, hcm, hle, hel, _, _⟩
    · exact done none 0 [] (by simpa using hv) (Nat.le_refl _) (Nat.zero_le _) (by rw [KidsAt]; trivial) (by rw [weights]; exact Nat.zero_le _)
    · rw [show Tryz.prog.cellsOf 27 = 6 by kernel_rfl] at hel
      have had : 0 < len → ad = ⟨ad.block, ad.off, none⟩ := by
        intro h0
        obtain ⟨D, hD⟩ : ∃ D, elems[0]? = some D := ⟨_, List.getElem?_eq_getElem (by omega)⟩
        have h1 := hel 0 h0
        rw [hD, Option.bind_eq_some_iff] at h1
        obtain ⟨cs', h2, _⟩ := h1
        have := (cells_atT h2 (by decide)).1
        rw [Nat.zero_mul, add_zeroT] at this
        exact this
      have each : ∀ i, i < len → ∃ q : Nd × Option Addr × Nat × Option Addr × Nat, ∃ D, elems[i]? = some D ∧ CellsN w ad.block (ad.off + i * 6) q.1 q.2.1 q.2.2.1 q.2.2.2.1 q.2.2.2.2 ∧ ad = ⟨ad.block, ad.off, none⟩ ∧ NodeAt w q.1 q.2.1 q.2.2.1 q.2.2.2.1 q.2.2.2.2 ∧ q.1.weight ≤ Rows.uptoBulk D.1 := by
        intro i hi
        obtain ⟨D, hD⟩ : ∃ D, elems[i]? = some D := ⟨_, List.getElem?_eq_getElem (by omega)⟩
        have h1 := hel i hi
        rw [hD, Option.bind_eq_some_iff] at h1
        obtain ⟨cs', h2, h3⟩ := h1
        have h4 : n4 < n + 1 := by omega
        obtain ⟨T, A', c', K', d', hc, hN, hW⟩ := trod_nodeT n4 h3
        obtain ⟨ha, _, hcell⟩ := cells_atT h2 (by decide)
        have had := had (by omega)
        have hab : ad.add (i * 6) = ⟨ad.block, ad.off + i * 6, none⟩ := by
          rw [had]; exact Addr.add_lit _ _ _
        rw [hab] at hcell
        rw [hc] at hcell
        exact ⟨(T, A', c', K', d'), D, hD, ⟨hcell 0 (by decide), hcell 1 (by decide), hcell 2 (by decide), hcell 3 (by decide), hcell 4 (by decide), hcell 5 (by decide)⟩, had, hN, hW⟩
      obtain ⟨f, hf⟩ : ∃ f : Nat → Nd × Option Addr × Nat × Option Addr × Nat, ∀ i, i < len → ∃ D, elems[i]? = some D ∧ CellsN w ad.block (ad.off + i * 6) (f i).1 (f i).2.1 (f i).2.2.1 (f i).2.2.2.1 (f i).2.2.2.2 ∧ ad = ⟨ad.block, ad.off, none⟩ ∧ NodeAt w (f i).1 (f i).2.1 (f i).2.2.1 (f i).2.2.2.1 (f i).2.2.2.2 ∧ (f i).1.weight ≤ Rows.uptoBulk D.1 := by
        classical
        refine ⟨fun i => if hi : i < len then Classical.choose (each i hi) else (.mk 0 0 ⟨#[]⟩ false [] [], none, 0, none, 0), fun i hi => ?_⟩
        simp only [dif_pos hi]
        exact Classical.choose_spec (each i hi)
      have hkl : ((List.range len).map fun i => (f i).1).length = len := by simp
      refine done (some ad) cap ((List.range len).map fun i => (f i).1) (by rw [hkl]; simpa using hv) (by omega) hcm (KidsAt.of fun i t hi => ?_) ?_
      · have hil : i < len := by have := (List.getElem?_eq_some_iff.1 hi).1; omega
        obtain ⟨D, _, hC, had, hN, _⟩ := hf i hil
        have ht : (f i).1 = t := by simpa [hil] using hi
        subst ht
        exact ⟨ad.block, ad.off, _, _, _, _, by rw [← had], by rw [Nat.zero_add]; exact hC, hN⟩
      · rw [hy]
        show _ ≤ Rows.uptoBulk (DataW.slice _ _)
        rw [Rows.uptoBulk]
        have := weights_bulk ((List.range len).map fun i => (f i).1) (elems.map (·.1)) (by simp [hle]) (fun i t D hi hD => by
          have hil : i < len := by have := (List.getElem?_eq_some_iff.1 hi).1; omega
          obtain ⟨D', h1, _, _, _, h2⟩ := hf i hil
          have ht : (f i).1 = t := by simpa [hil] using hi
          rw [List.getElem?_map, h1] at hD
          simp at hD
          rw [← ht, ← hD]
          exact h2)
        omega
termination_by n => n
end
end
end Go.Proofs.YtjefhdlncikhmaaGreatDoor
