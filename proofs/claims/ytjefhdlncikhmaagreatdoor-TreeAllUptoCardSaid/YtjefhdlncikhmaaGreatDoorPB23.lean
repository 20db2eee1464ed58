/- Joined by a program: TAw, SamP, LawHelp, RText, Sam1, Sam2, Sam, Cp0, Fr0. -/
import Derived.WalkKit
import Derived.BigQuiet
import Derived.Deep.QuietTactic
import Derived.Deep.RegionHeld3
import Derived.Deep.RegionWith
import Derived.OneCell
import Derived.Deep.OwnRows
import Derived.Test.YtjefhdlncikhmaaGreatDoorPB01
import Derived.Test.YtjefhdlncikhmaaGreatDoorShelf
import Derived.Test.YtjefhdlncikhmaaGreatDoorPB03
import Derived.Test.YtjefhdlncikhmaaGreatDoorPB06
import Derived.Test.YtjefhdlncikhmaaGreatDoorPB10
import Derived.Test.YtjefhdlncikhmaaGreatDoorPB11
import Derived.Test.YtjefhdlncikhmaaGreatDoorPB19
import Derived.Test.YtjefhdlncikhmaaGreatDoorPB22
namespace Go.Proofs.YtjefhdlncikhmaaGreatDoor
section
set_option linter.unusedVariables false
set_option linter.unusedSimpArgs false
open Go.RowKit
set_option maxRecDepth 1000000
def awN : Nd := .mk 31 0 ⟨#[97]⟩ false [] []
def awE : Nd := .mk 3 0 ⟨#[]⟩ false [] [awN]
def awB : Nd := .mk 2 0 ⟨#[]⟩ false [] [awE]
def awT : Nd := .mk 1 0 ⟨#[]⟩ false [] [awB]
theorem aw_right : awT.right = true := by rfl
theorem aw_depth : awT.depth = 4 := by rfl
theorem aw_count : awT.count = 4 := by rfl
theorem aw_weight : awT.weight = 5 := by rfl
theorem aw_chk : chk awT = 0 := by
  unfold chk
  rw [if_pos ⟨by rw [aw_depth]; omega, rfl, aw_right⟩]
theorem aw_prt : prt awT = ⟨#[97, 10]⟩ := by
  unfold prt
  rw [if_pos aw_chk]
  rfl
theorem one_kid {w : World} {T t : Nd} {b : Nat} {A : Option Addr} {c : Nat} {K : Option Addr} {d : Nat} (hk : T.kids = [t]) (hm : T.mag = []) (h1 : I64 T.kind) (h2 : I64 T.pos) (h3 : T.text.size ≤ maxLen) (hc : CellsN w b 0 t A c K d) (hn : NodeAt w t A c K d) : NodeAt w T none 0 (some ⟨b, 0, none⟩) 1 := by
  refine NodeAt.of ⟨by rw [hm]; exact Nat.le_refl _, Nat.zero_le _, by rw [hm]; exact RdI.nil _ _ _, by rw [hm]; intro z hz; simp at hz, by rw [hk]; exact Nat.le_refl _, by unfold maxLen; omega, h1, h2, h3, ?_⟩
  rw [hk, KidsAt, KidsAt]
  exact ⟨⟨b, 0, A, c, K, d, rfl, hc, hn⟩, trivial⟩
theorem aw_at (w : World) : NodeAt ((((w.alloc (.cells #[.int .i64 31, .int .i64 0, .string ⟨#[97]⟩, .bool false, .slice none 0 0, .slice none 0 0] 27)).alloc (.cells #[.int .i64 3, .int .i64 0, .string ⟨#[]⟩, .bool false, .slice none 0 0, .slice (some ⟨w.heap.size, 0, none⟩) 1 1] 27)).alloc (.cells #[.int .i64 2, .int .i64 0, .string ⟨#[]⟩, .bool false, .slice none 0 0, .slice (some ⟨w.heap.size + 1, 0, none⟩) 1 1] 27)).alloc (.cells #[.int .i64 1, .int .i64 0, .string ⟨#[]⟩, .bool false, .slice none 0 0, .slice (some ⟨w.heap.size + 2, 0, none⟩) 1 1] 27)) awT none 0 (some ⟨w.heap.size + 2, 0, none⟩) 1 ∧ Below w.heap.size w ((((w.alloc (.cells #[.int .i64 31, .int .i64 0, .string ⟨#[97]⟩, .bool false, .slice none 0 0, .slice none 0 0] 27)).alloc (.cells #[.int .i64 3, .int .i64 0, .string ⟨#[]⟩, .bool false, .slice none 0 0, .slice (some ⟨w.heap.size, 0, none⟩) 1 1] 27)).alloc (.cells #[.int .i64 2, .int .i64 0, .string ⟨#[]⟩, .bool false, .slice none 0 0, .slice (some ⟨w.heap.size + 1, 0, none⟩) 1 1] 27)).alloc (.cells #[.int .i64 1, .int .i64 0, .string ⟨#[]⟩, .bool false, .slice none 0 0, .slice (some ⟨w.heap.size + 2, 0, none⟩) 1 1] 27)) := by
  have i1 : ∀ z : Int, -5 ≤ z → z ≤ 99 → I64 z := fun z h1 h2 => ⟨by omega, by omega⟩
  have s1 : (w.alloc (.cells #[.int .i64 31, .int .i64 0, .string ⟨#[97]⟩, .bool false, .slice none 0 0, .slice none 0 0] 27)).heap.size = w.heap.size + 1 := by simp
  have s2 : ((w.alloc (.cells #[.int .i64 31, .int .i64 0, .string ⟨#[97]⟩, .bool false, .slice none 0 0, .slice none 0 0] 27)).alloc (.cells #[.int .i64 3, .int .i64 0, .string ⟨#[]⟩, .bool false, .slice none 0 0, .slice (some ⟨w.heap.size, 0, none⟩) 1 1] 27)).heap.size = w.heap.size + 2 := by simp
  have s3 : (((w.alloc (.cells #[.int .i64 31, .int .i64 0, .string ⟨#[97]⟩, .bool false, .slice none 0 0, .slice none 0 0] 27)).alloc (.cells #[.int .i64 3, .int .i64 0, .string ⟨#[]⟩, .bool false, .slice none 0 0, .slice (some ⟨w.heap.size, 0, none⟩) 1 1] 27)).alloc (.cells #[.int .i64 2, .int .i64 0, .string ⟨#[]⟩, .bool false, .slice none 0 0, .slice (some ⟨w.heap.size + 1, 0, none⟩) 1 1] 27)).heap.size = w.heap.size + 3 := by simp
  have x1 := cellsN_new w awN none 0 none 0 27
  have x2 := cellsN_new (w.alloc (.cells #[.int .i64 31, .int .i64 0, .string ⟨#[97]⟩, .bool false, .slice none 0 0, .slice none 0 0] 27)) awE none 0 (some ⟨w.heap.size, 0, none⟩) 1 27
  have x3 := cellsN_new ((w.alloc (.cells #[.int .i64 31, .int .i64 0, .string ⟨#[97]⟩, .bool false, .slice none 0 0, .slice none 0 0] 27)).alloc (.cells #[.int .i64 3, .int .i64 0, .string ⟨#[]⟩, .bool false, .slice none 0 0, .slice (some ⟨w.heap.size, 0, none⟩) 1 1] 27)) awB none 0 (some ⟨w.heap.size + 1, 0, none⟩) 1 27
  rw [s1] at x2
  rw [s2] at x3
  have n1 : NodeAt (w.alloc (.cells #[.int .i64 31, .int .i64 0, .string ⟨#[97]⟩, .bool false, .slice none 0 0, .slice none 0 0] 27)) awN none 0 none 0 := NodeAt.of ⟨Nat.le_refl _, Nat.zero_le _, RdI.nil _ _ _, fun z (hz : z ∈ ([] : List Int)) => by simp at hz, Nat.le_refl _, Nat.zero_le _, i1 31 (by omega) (by omega), i1 0 (by omega) (by omega), (show 1 ≤ maxLen by unfold maxLen; omega), by show KidsAt _ [] _ _; rw [KidsAt]; trivial⟩
  have b1 := (Below.refl w.heap.size w).alloc (Nat.le_refl _) (.cells #[.int .i64 31, .int .i64 0, .string ⟨#[97]⟩, .bool false, .slice none 0 0, .slice none 0 0] 27)
  have b2 := (Below.refl (w.alloc (.cells #[.int .i64 31, .int .i64 0, .string ⟨#[97]⟩, .bool false, .slice none 0 0, .slice none 0 0] 27)).heap.size (w.alloc (.cells #[.int .i64 31, .int .i64 0, .string ⟨#[97]⟩, .bool false, .slice none 0 0, .slice none 0 0] 27))).alloc (Nat.le_refl _) (.cells #[.int .i64 3, .int .i64 0, .string ⟨#[]⟩, .bool false, .slice none 0 0, .slice (some ⟨w.heap.size, 0, none⟩) 1 1] 27)
  have b3 := (Below.refl ((w.alloc (.cells #[.int .i64 31, .int .i64 0, .string ⟨#[97]⟩, .bool false, .slice none 0 0, .slice none 0 0] 27)).alloc (.cells #[.int .i64 3, .int .i64 0, .string ⟨#[]⟩, .bool false, .slice none 0 0, .slice (some ⟨w.heap.size, 0, none⟩) 1 1] 27)).heap.size ((w.alloc (.cells #[.int .i64 31, .int .i64 0, .string ⟨#[97]⟩, .bool false, .slice none 0 0, .slice none 0 0] 27)).alloc (.cells #[.int .i64 3, .int .i64 0, .string ⟨#[]⟩, .bool false, .slice none 0 0, .slice (some ⟨w.heap.size, 0, none⟩) 1 1] 27))).alloc (Nat.le_refl _) (.cells #[.int .i64 2, .int .i64 0, .string ⟨#[]⟩, .bool false, .slice none 0 0, .slice (some ⟨w.heap.size + 1, 0, none⟩) 1 1] 27)
  have b4 := (Below.refl (((w.alloc (.cells #[.int .i64 31, .int .i64 0, .string ⟨#[97]⟩, .bool false, .slice none 0 0, .slice none 0 0] 27)).alloc (.cells #[.int .i64 3, .int .i64 0, .string ⟨#[]⟩, .bool false, .slice none 0 0, .slice (some ⟨w.heap.size, 0, none⟩) 1 1] 27)).alloc (.cells #[.int .i64 2, .int .i64 0, .string ⟨#[]⟩, .bool false, .slice none 0 0, .slice (some ⟨w.heap.size + 1, 0, none⟩) 1 1] 27)).heap.size (((w.alloc (.cells #[.int .i64 31, .int .i64 0, .string ⟨#[97]⟩, .bool false, .slice none 0 0, .slice none 0 0] 27)).alloc (.cells #[.int .i64 3, .int .i64 0, .string ⟨#[]⟩, .bool false, .slice none 0 0, .slice (some ⟨w.heap.size, 0, none⟩) 1 1] 27)).alloc (.cells #[.int .i64 2, .int .i64 0, .string ⟨#[]⟩, .bool false, .slice none 0 0, .slice (some ⟨w.heap.size + 1, 0, none⟩) 1 1] 27))).alloc (Nat.le_refl _) (.cells #[.int .i64 1, .int .i64 0, .string ⟨#[]⟩, .bool false, .slice none 0 0, .slice (some ⟨w.heap.size + 2, 0, none⟩) 1 1] 27)
  have n2 : NodeAt (w.alloc (.cells #[.int .i64 31, .int .i64 0, .string ⟨#[97]⟩, .bool false, .slice none 0 0, .slice none 0 0] 27)) awE none 0 (some ⟨w.heap.size, 0, none⟩) 1 := one_kid rfl rfl (i1 3 (by omega) (by omega)) (i1 0 (by omega) (by omega)) (Nat.zero_le _) x1 n1
  have n3 : NodeAt ((w.alloc (.cells #[.int .i64 31, .int .i64 0, .string ⟨#[97]⟩, .bool false, .slice none 0 0, .slice none 0 0] 27)).alloc (.cells #[.int .i64 3, .int .i64 0, .string ⟨#[]⟩, .bool false, .slice none 0 0, .slice (some ⟨w.heap.size, 0, none⟩) 1 1] 27)) awB none 0 (some ⟨w.heap.size + 1, 0, none⟩) 1 := one_kid rfl rfl (i1 2 (by omega) (by omega)) (i1 0 (by omega) (by omega)) (Nat.zero_le _) x2 (n2.later b2)
  have n4 : NodeAt (((w.alloc (.cells #[.int .i64 31, .int .i64 0, .string ⟨#[97]⟩, .bool false, .slice none 0 0, .slice none 0 0] 27)).alloc (.cells #[.int .i64 3, .int .i64 0, .string ⟨#[]⟩, .bool false, .slice none 0 0, .slice (some ⟨w.heap.size, 0, none⟩) 1 1] 27)).alloc (.cells #[.int .i64 2, .int .i64 0, .string ⟨#[]⟩, .bool false, .slice none 0 0, .slice (some ⟨w.heap.size + 1, 0, none⟩) 1 1] 27)) awT none 0 (some ⟨w.heap.size + 2, 0, none⟩) 1 := one_kid rfl rfl (i1 1 (by omega) (by omega)) (i1 0 (by omega) (by omega)) (Nat.zero_le _) x3 (n3.later b3)
  exact ⟨n4.later b4, ((b1.trans (b2.mono (by omega))).trans (b3.mono (by omega))).trans (b4.mono (by omega))⟩
set_option maxHeartbeats 4000000 in
theorem tAwake_ok (w : World) (hT : Lib.Utf8Tabs 0 1 w) : Calls Tryz.prog 8 #[] w fun e w' => e = .returned (.bool true) ∧ Below w.heap.size w w' := by
  obtain ⟨hN, hB⟩ := aw_at w
  have x4 := (cellsN_new (((w.alloc (.cells #[.int .i64 31, .int .i64 0, .string ⟨#[97]⟩, .bool false, .slice none 0 0, .slice none 0 0] 27)).alloc (.cells #[.int .i64 3, .int .i64 0, .string ⟨#[]⟩, .bool false, .slice none 0 0, .slice (some ⟨w.heap.size, 0, none⟩) 1 1] 27)).alloc (.cells #[.int .i64 2, .int .i64 0, .string ⟨#[]⟩, .bool false, .slice none 0 0, .slice (some ⟨w.heap.size + 1, 0, none⟩) 1 1] 27)) awT none 0 (some ⟨w.heap.size + 2, 0, none⟩) 1 27).box
  rw [show (((w.alloc (.cells #[.int .i64 31, .int .i64 0, .string ⟨#[97]⟩, .bool false, .slice none 0 0, .slice none 0 0] 27)).alloc (.cells #[.int .i64 3, .int .i64 0, .string ⟨#[]⟩, .bool false, .slice none 0 0, .slice (some ⟨w.heap.size, 0, none⟩) 1 1] 27)).alloc (.cells #[.int .i64 2, .int .i64 0, .string ⟨#[]⟩, .bool false, .slice none 0 0, .slice (some ⟨w.heap.size + 1, 0, none⟩) 1 1] 27)).heap.size = w.heap.size + 3 by simp] at x4
  obtain ⟨c0, c1, c2, c3, c4, c5⟩ : ((((w.alloc (.cells #[.int .i64 31, .int .i64 0, .string ⟨#[97]⟩, .bool false, .slice none 0 0, .slice none 0 0] 27)).alloc (.cells #[.int .i64 3, .int .i64 0, .string ⟨#[]⟩, .bool false, .slice none 0 0, .slice (some ⟨w.heap.size, 0, none⟩) 1 1] 27)).alloc (.cells #[.int .i64 2, .int .i64 0, .string ⟨#[]⟩, .bool false, .slice none 0 0, .slice (some ⟨w.heap.size + 1, 0, none⟩) 1 1] 27)).alloc (.cells #[.int .i64 1, .int .i64 0, .string ⟨#[]⟩, .bool false, .slice none 0 0, .slice (some ⟨w.heap.size + 2, 0, none⟩) 1 1] 27)).cell? ⟨w.heap.size + 3, 0, none⟩ = some (.int .i64 1) ∧ ((((w.alloc (.cells #[.int .i64 31, .int .i64 0, .string ⟨#[97]⟩, .bool false, .slice none 0 0, .slice none 0 0] 27)).alloc (.cells #[.int .i64 3, .int .i64 0, .string ⟨#[]⟩, .bool false, .slice none 0 0, .slice (some ⟨w.heap.size, 0, none⟩) 1 1] 27)).alloc (.cells #[.int .i64 2, .int .i64 0, .string ⟨#[]⟩, .bool false, .slice none 0 0, .slice (some ⟨w.heap.size + 1, 0, none⟩) 1 1] 27)).alloc (.cells #[.int .i64 1, .int .i64 0, .string ⟨#[]⟩, .bool false, .slice none 0 0, .slice (some ⟨w.heap.size + 2, 0, none⟩) 1 1] 27)).cell? ⟨w.heap.size + 3, 1, none⟩ = some (.int .i64 0) ∧ ((((w.alloc (.cells #[.int .i64 31, .int .i64 0, .string ⟨#[97]⟩, .bool false, .slice none 0 0, .slice none 0 0] 27)).alloc (.cells #[.int .i64 3, .int .i64 0, .string ⟨#[]⟩, .bool false, .slice none 0 0, .slice (some ⟨w.heap.size, 0, none⟩) 1 1] 27)).alloc (.cells #[.int .i64 2, .int .i64 0, .string ⟨#[]⟩, .bool false, .slice none 0 0, .slice (some ⟨w.heap.size + 1, 0, none⟩) 1 1] 27)).alloc (.cells #[.int .i64 1, .int .i64 0, .string ⟨#[]⟩, .bool false, .slice none 0 0, .slice (some ⟨w.heap.size + 2, 0, none⟩) 1 1] 27)).cell? ⟨w.heap.size + 3, 2, none⟩ = some (.string ⟨#[]⟩) ∧ ((((w.alloc (.cells #[.int .i64 31, .int .i64 0, .string ⟨#[97]⟩, .bool false, .slice none 0 0, .slice none 0 0] 27)).alloc (.cells #[.int .i64 3, .int .i64 0, .string ⟨#[]⟩, .bool false, .slice none 0 0, .slice (some ⟨w.heap.size, 0, none⟩) 1 1] 27)).alloc (.cells #[.int .i64 2, .int .i64 0, .string ⟨#[]⟩, .bool false, .slice none 0 0, .slice (some ⟨w.heap.size + 1, 0, none⟩) 1 1] 27)).alloc (.cells #[.int .i64 1, .int .i64 0, .string ⟨#[]⟩, .bool false, .slice none 0 0, .slice (some ⟨w.heap.size + 2, 0, none⟩) 1 1] 27)).cell? ⟨w.heap.size + 3, 3, none⟩ = some (.bool false) ∧ ((((w.alloc (.cells #[.int .i64 31, .int .i64 0, .string ⟨#[97]⟩, .bool false, .slice none 0 0, .slice none 0 0] 27)).alloc (.cells #[.int .i64 3, .int .i64 0, .string ⟨#[]⟩, .bool false, .slice none 0 0, .slice (some ⟨w.heap.size, 0, none⟩) 1 1] 27)).alloc (.cells #[.int .i64 2, .int .i64 0, .string ⟨#[]⟩, .bool false, .slice none 0 0, .slice (some ⟨w.heap.size + 1, 0, none⟩) 1 1] 27)).alloc (.cells #[.int .i64 1, .int .i64 0, .string ⟨#[]⟩, .bool false, .slice none 0 0, .slice (some ⟨w.heap.size + 2, 0, none⟩) 1 1] 27)).cell? ⟨w.heap.size + 3, 4, none⟩ = some (.slice none 0 0) ∧ ((((w.alloc (.cells #[.int .i64 31, .int .i64 0, .string ⟨#[97]⟩, .bool false, .slice none 0 0, .slice none 0 0] 27)).alloc (.cells #[.int .i64 3, .int .i64 0, .string ⟨#[]⟩, .bool false, .slice none 0 0, .slice (some ⟨w.heap.size, 0, none⟩) 1 1] 27)).alloc (.cells #[.int .i64 2, .int .i64 0, .string ⟨#[]⟩, .bool false, .slice none 0 0, .slice (some ⟨w.heap.size + 1, 0, none⟩) 1 1] 27)).alloc (.cells #[.int .i64 1, .int .i64 0, .string ⟨#[]⟩, .bool false, .slice none 0 0, .slice (some ⟨w.heap.size + 2, 0, none⟩) 1 1] 27)).cell? ⟨w.heap.size + 3, 5, none⟩ = some (.slice (some ⟨w.heap.size + 2, 0, none⟩) 1 1) := x4
  have hw := aw_weight
  have hC := fun (W : World) (hb : Below ((((w.alloc (.cells #[.int .i64 31, .int .i64 0, .string ⟨#[97]⟩, .bool false, .slice none 0 0, .slice none 0 0] 27)).alloc (.cells #[.int .i64 3, .int .i64 0, .string ⟨#[]⟩, .bool false, .slice none 0 0, .slice (some ⟨w.heap.size, 0, none⟩) 1 1] 27)).alloc (.cells #[.int .i64 2, .int .i64 0, .string ⟨#[]⟩, .bool false, .slice none 0 0, .slice (some ⟨w.heap.size + 1, 0, none⟩) 1 1] 27)).alloc (.cells #[.int .i64 1, .int .i64 0, .string ⟨#[]⟩, .bool false, .slice none 0 0, .slice (some ⟨w.heap.size + 2, 0, none⟩) 1 1] 27)).heap.size ((((w.alloc (.cells #[.int .i64 31, .int .i64 0, .string ⟨#[97]⟩, .bool false, .slice none 0 0, .slice none 0 0] 27)).alloc (.cells #[.int .i64 3, .int .i64 0, .string ⟨#[]⟩, .bool false, .slice none 0 0, .slice (some ⟨w.heap.size, 0, none⟩) 1 1] 27)).alloc (.cells #[.int .i64 2, .int .i64 0, .string ⟨#[]⟩, .bool false, .slice none 0 0, .slice (some ⟨w.heap.size + 1, 0, none⟩) 1 1] 27)).alloc (.cells #[.int .i64 1, .int .i64 0, .string ⟨#[]⟩, .bool false, .slice none 0 0, .slice (some ⟨w.heap.size + 2, 0, none⟩) 1 1] 27)) W) => tCheck_ok awT none 0 (some ⟨w.heap.size + 2, 0, none⟩) 1 W (hN.later hb) (by omega) (Utf8Tabs_below hT (hB.trans (hb.mono hB.size)))
  have hP := fun (W : World) (hb : Below ((((w.alloc (.cells #[.int .i64 31, .int .i64 0, .string ⟨#[97]⟩, .bool false, .slice none 0 0, .slice none 0 0] 27)).alloc (.cells #[.int .i64 3, .int .i64 0, .string ⟨#[]⟩, .bool false, .slice none 0 0, .slice (some ⟨w.heap.size, 0, none⟩) 1 1] 27)).alloc (.cells #[.int .i64 2, .int .i64 0, .string ⟨#[]⟩, .bool false, .slice none 0 0, .slice (some ⟨w.heap.size + 1, 0, none⟩) 1 1] 27)).alloc (.cells #[.int .i64 1, .int .i64 0, .string ⟨#[]⟩, .bool false, .slice none 0 0, .slice (some ⟨w.heap.size + 2, 0, none⟩) 1 1] 27)).heap.size ((((w.alloc (.cells #[.int .i64 31, .int .i64 0, .string ⟨#[97]⟩, .bool false, .slice none 0 0, .slice none 0 0] 27)).alloc (.cells #[.int .i64 3, .int .i64 0, .string ⟨#[]⟩, .bool false, .slice none 0 0, .slice (some ⟨w.heap.size, 0, none⟩) 1 1] 27)).alloc (.cells #[.int .i64 2, .int .i64 0, .string ⟨#[]⟩, .bool false, .slice none 0 0, .slice (some ⟨w.heap.size + 1, 0, none⟩) 1 1] 27)).alloc (.cells #[.int .i64 1, .int .i64 0, .string ⟨#[]⟩, .bool false, .slice none 0 0, .slice (some ⟨w.heap.size + 2, 0, none⟩) 1 1] 27)) W) => tPrint_ok awT none 0 (some ⟨w.heap.size + 2, 0, none⟩) 1 W (hN.later hb) (by omega) (Utf8Tabs_below hT (hB.trans (hb.mono hB.size)))
  have hS := fun (W : World) (hb : Below ((((w.alloc (.cells #[.int .i64 31, .int .i64 0, .string ⟨#[97]⟩, .bool false, .slice none 0 0, .slice none 0 0] 27)).alloc (.cells #[.int .i64 3, .int .i64 0, .string ⟨#[]⟩, .bool false, .slice none 0 0, .slice (some ⟨w.heap.size, 0, none⟩) 1 1] 27)).alloc (.cells #[.int .i64 2, .int .i64 0, .string ⟨#[]⟩, .bool false, .slice none 0 0, .slice (some ⟨w.heap.size + 1, 0, none⟩) 1 1] 27)).alloc (.cells #[.int .i64 1, .int .i64 0, .string ⟨#[]⟩, .bool false, .slice none 0 0, .slice (some ⟨w.heap.size + 2, 0, none⟩) 1 1] 27)).heap.size ((((w.alloc (.cells #[.int .i64 31, .int .i64 0, .string ⟨#[97]⟩, .bool false, .slice none 0 0, .slice none 0 0] 27)).alloc (.cells #[.int .i64 3, .int .i64 0, .string ⟨#[]⟩, .bool false, .slice none 0 0, .slice (some ⟨w.heap.size, 0, none⟩) 1 1] 27)).alloc (.cells #[.int .i64 2, .int .i64 0, .string ⟨#[]⟩, .bool false, .slice none 0 0, .slice (some ⟨w.heap.size + 1, 0, none⟩) 1 1] 27)).alloc (.cells #[.int .i64 1, .int .i64 0, .string ⟨#[]⟩, .bool false, .slice none 0 0, .slice (some ⟨w.heap.size + 2, 0, none⟩) 1 1] 27)) W) => tSize_ok awT none 0 (some ⟨w.heap.size + 2, 0, none⟩) 1 W (hN.later hb) (by omega)
  have hD := fun (W : World) (hb : Below ((((w.alloc (.cells #[.int .i64 31, .int .i64 0, .string ⟨#[97]⟩, .bool false, .slice none 0 0, .slice none 0 0] 27)).alloc (.cells #[.int .i64 3, .int .i64 0, .string ⟨#[]⟩, .bool false, .slice none 0 0, .slice (some ⟨w.heap.size, 0, none⟩) 1 1] 27)).alloc (.cells #[.int .i64 2, .int .i64 0, .string ⟨#[]⟩, .bool false, .slice none 0 0, .slice (some ⟨w.heap.size + 1, 0, none⟩) 1 1] 27)).alloc (.cells #[.int .i64 1, .int .i64 0, .string ⟨#[]⟩, .bool false, .slice none 0 0, .slice (some ⟨w.heap.size + 2, 0, none⟩) 1 1] 27)).heap.size ((((w.alloc (.cells #[.int .i64 31, .int .i64 0, .string ⟨#[97]⟩, .bool false, .slice none 0 0, .slice none 0 0] 27)).alloc (.cells #[.int .i64 3, .int .i64 0, .string ⟨#[]⟩, .bool false, .slice none 0 0, .slice (some ⟨w.heap.size, 0, none⟩) 1 1] 27)).alloc (.cells #[.int .i64 2, .int .i64 0, .string ⟨#[]⟩, .bool false, .slice none 0 0, .slice (some ⟨w.heap.size + 1, 0, none⟩) 1 1] 27)).alloc (.cells #[.int .i64 1, .int .i64 0, .string ⟨#[]⟩, .bool false, .slice none 0 0, .slice (some ⟨w.heap.size + 2, 0, none⟩) 1 1] 27)) W) => tDepth_ok awT none 0 (some ⟨w.heap.size + 2, 0, none⟩) 1 W (hN.later hb) (by omega)
  simp only [aw_chk, aw_prt, aw_count, aw_depth] at hC hP hS hD
  have HC := Lib.hid hC
  have HP := Lib.hid hP
  have HS := Lib.hid hS
  have HD := Lib.hid hD
  clear hC hP hS hD hN
  go_enter Tryz.func8, Tryz.ntmps8
  go_wp2_with (first
    | (go_at_call 10; refine (HC.out _ (Below.refl _ _)).mono ?_; rintro e v1 ⟨rfl, hb1⟩; have d0 := cell_later hb1 c0; have d1 := cell_later hb1 c1; have d2 := cell_later hb1 c2; have d3 := cell_later hb1 c3; have d4 := cell_later hb1 c4; have d5 := cell_later hb1 c5)
    | (go_at_call 13; refine (HP.out _ hb1).mono ?_; rintro e v2 ⟨rfl, hq2⟩; have hb2 := hb1.trans (hq2.mono hb1.size); have e0 := cell_later hb2 c0; have e1 := cell_later hb2 c1; have e2 := cell_later hb2 c2; have e3 := cell_later hb2 c3; have e4 := cell_later hb2 c4; have e5 := cell_later hb2 c5)
    | (go_at_call 12; refine (HS.out _ hb2).mono ?_; rintro e v3 ⟨rfl, hq3⟩; have hb3 := hb2.trans (hq3.mono hb2.size); have f0 := cell_later hb3 c0; have f1 := cell_later hb3 c1; have f2 := cell_later hb3 c2; have f3 := cell_later hb3 c3; have f4 := cell_later hb3 c4; have f5 := cell_later hb3 c5)
    | (go_at_call 11; refine (HD.out _ hb3).mono ?_; rintro e v4 ⟨rfl, hq4⟩; have hb4 := hb3.trans (hq4.mono hb3.size)))
  go_ret
  exact ⟨rfl, hB.trans (hb4.mono hB.size)⟩
end
section
set_option linter.unusedVariables false
set_option linter.unusedSimpArgs false
set_option maxRecDepth 1000000
mutual
/-- a tree without its places. -/
def bareN : Nd → Nd
  | .mk k _ t b m ks => .mk k 0 t b m (bareNs ks)
def bareNs : List Nd → List Nd
  | [] => []
  | t :: r => bareN t :: bareNs r
end
theorem bareNs_map : ∀ l : List Nd, bareNs l = l.map bareN
  | [] => by rw [bareNs]; rfl
  | t :: r => by rw [bareNs, bareNs_map r, List.map_cons]
theorem bareN_eq (T : Nd) : bareN T = .mk T.kind 0 T.text T.neg T.mag (T.kids.map bareN) := by
  cases T
  rw [bareN, bareNs_map]
  rfl
/-- alike: the same tree, its places too if ts says so. -/
def Alike (ts : Bool) (S T : Nd) : Prop := if ts then S = T else bareN S = bareN T
theorem Alike.refl (ts : Bool) (T : Nd) : Alike ts T T := by unfold Alike; split <;> rfl
theorem Alike.parts {ts : Bool} {S T : Nd} (h : Alike ts S T) : S.kind = T.kind ∧ S.text = T.text ∧ S.neg = T.neg ∧ S.mag = T.mag ∧ (ts = true → S.pos = T.pos) ∧ S.kids.length = T.kids.length ∧ ∀ (i : Nat) (s t : Nd), S.kids[i]? = some s → T.kids[i]? = some t → Alike ts s t := by
  cases ts with
  | true =>
    have e : S = T := h
    subst e
    refine ⟨rfl, rfl, rfl, rfl, fun _ => rfl, rfl, fun i s t hs ht => ?_⟩
    rw [hs] at ht
    injection ht
  | false =>
    have e : bareN S = bareN T := h
    rw [bareN_eq S, bareN_eq T] at e
    injection e with e1 e2 e3 e4 e5 e6
    refine ⟨e1, e3, e4, e5, fun h => Bool.noConfusion h, ?_, fun i s t hs ht => ?_⟩
    · have := congrArg List.length e6
      simpa using this
    · have := congrArg (fun l => l[i]?) e6
      simp only [List.getElem?_map, hs, ht, Option.map_some] at this
      injection this
end
section
set_option linter.unusedVariables false
set_option linter.unusedSimpArgs false
open Go.RowKit
set_option maxRecDepth 1000000
theorem FrI.set {w : World} {base : Nat} {k : IntKind} {b off : Nat} {zs : List Int} (h : FrI w base k (some ⟨b, off, none⟩) zs) (i : Nat) (hi : i < zs.length) (z : Int) : FrI (w.setCell ⟨b, off + i, none⟩ (.int k z)) base k (some ⟨b, off, none⟩) (zs.set i z) := fun j hj => by
  rw [List.length_set] at hj
  obtain ⟨b', off', z', hA, hB, hz, hc, hf⟩ := h j hj
  injection hA with hA
  injection hA with e1 e2 _
  subst e1 e2
  by_cases hij : j = i
  · subst hij
    refine ⟨b, off, z, rfl, hB, by rw [List.getElem?_set_self hj], World.cell?_setCell_same' _ _ _ (by rw [hc]; rfl), by rw [World.frozen?_setCell]; exact hf⟩
  · refine ⟨b, off, z', rfl, hB, by rw [List.getElem?_set_ne (by omega)]; exact hz, ?_, by rw [World.frozen?_setCell]; exact hf⟩
    rw [World.cell?_setCell_other _ _ _ _ (fun e => by injection e; omega)]; exact hc
end
section
set_option linter.unusedVariables false
set_option linter.unusedSimpArgs false
open Go.RowKit Go.Shelf
set_option maxRecDepth 1000000
attribute [local go_sem] Oper.semAt_some
theorem FrI.kept {w w' : World} {base : Nat} {k : IntKind} {A : Option Addr} {zs : List Int} {row : Option Nat} (h : FrI w base k A zs) (hg : w.grownBy w' row) (hne : 0 < zs.length → ∀ ad, A = some ad → row ≠ some ad.block) : FrI w' base k A zs := fun i hi => by
  obtain ⟨b, off, z, hA, hB, hz, hc, hf⟩ := h i hi
  have hlt := World.block_lt_of_cell? _ _ hc
  have hb := hg.block b hlt (fun e => hne (by omega) _ hA e.symm)
  exact ⟨b, off, z, hA, hB, hz, by rw [World.cell?_of_block (w := w) hb]; exact hc, by rw [World.frozen?_of_block (w := w) hb]; exact hf⟩
end
section
set_option linter.unusedVariables false
set_option linter.unusedSimpArgs false
open Go.RowKit
set_option maxRecDepth 1000000
set_option maxHeartbeats 8000000 in
theorem same_f (T : Nd) (p : Int) (L : List Nd) (hL : L.length = T.kids.length) (hI : ∀ (i : Nat) (s t : Nd), L[i]? = some s → T.kids[i]? = some t → ∀ (A1 : Option Addr) (c1 : Nat) (K1 : Option Addr) (d1 : Nat) (A : Option Addr) (c : Nat) (K : Option Addr) (d : Nat) (w : World), NodeAt w s A1 c1 K1 d1 → NodeAt w t A c K d → Calls Tryz.prog 18 #[ndV s A1 c1 K1 d1, ndV t A c K d, .bool false] w fun e w' => e = .returned (.bool true) ∧ Below w.heap.size w w')
    (A1 : Option Addr) (c1 : Nat) (K1 : Option Addr) (d1 : Nat) (A : Option Addr) (c : Nat) (K : Option Addr) (d : Nat) (w : World) (hr1 : RdI w .u32 A1 T.mag) (hk0 : KidsAt w L K1 0) (hN : NodeAt w T A c K d) (hc1 : T.mag.length ≤ c1) (hc2 : c1 ≤ maxLen) (hd1 : T.kids.length ≤ d1) (hd2 : d1 ≤ maxLen) (hpl : I64 p) :
    Calls Tryz.prog 18 #[.agg #[.int .i64 T.kind, .int .i64 p, .string T.text, .bool T.neg, .slice A1 T.mag.length c1, .slice K1 T.kids.length d1], ndV T A c K d, .bool false] w fun e w' => e = .returned (.bool true) ∧ Below w.heap.size w w' := by
  obtain ⟨hm1, hm2, hrm, hw32, hk1, hk2, hk64, ha64, hts, hKs⟩ := hN.parts
  unfold maxLen at hm2 hk2 hts hc2 hd2
  obtain ⟨hpl1, hpl2⟩ := hpl
  obtain ⟨hk64a, hk64b⟩ := hk64
  obtain ⟨ha64a, ha64b⟩ := ha64
  have hb0 := (Below.refl w.heap.size w).alloc (Nat.le_refl _) (.cells #[.int .i64 T.kind, .int .i64 p, .string T.text, .bool T.neg, .slice A1 T.mag.length c1, .slice K1 T.kids.length d1] 27)
  have hb1 := hb0.alloc hb0.size (.cells #[.int .i64 T.kind, .int .i64 T.pos, .string T.text, .bool T.neg, .slice A T.mag.length c, .slice K T.kids.length d] 27)
  have x0 := heap_alloc_new w (.cells #[.int .i64 T.kind, .int .i64 p, .string T.text, .bool T.neg, .slice A1 T.mag.length c1, .slice K1 T.kids.length d1] 27)
  have hlx : w.heap.size < (w.alloc (.cells #[.int .i64 T.kind, .int .i64 p, .string T.text, .bool T.neg, .slice A1 T.mag.length c1, .slice K1 T.kids.length d1] 27)).heap.size := by simp
  have x1 := (Lib.alloc_old _ (.cells #[.int .i64 T.kind, .int .i64 T.pos, .string T.text, .bool T.neg, .slice A T.mag.length c, .slice K T.kids.length d] 27) _ hlx).trans x0
  have x2 := heap_alloc_new (w.alloc (.cells #[.int .i64 T.kind, .int .i64 p, .string T.text, .bool T.neg, .slice A1 T.mag.length c1, .slice K1 T.kids.length d1] 27)) (.cells #[.int .i64 T.kind, .int .i64 T.pos, .string T.text, .bool T.neg, .slice A T.mag.length c, .slice K T.kids.length d] 27)
  have hsg : (w.alloc (.cells #[.int .i64 T.kind, .int .i64 p, .string T.text, .bool T.neg, .slice A1 T.mag.length c1, .slice K1 T.kids.length d1] 27)).heap.size = w.heap.size + 1 := by simp
  rw [hsg] at x2
  obtain ⟨e0, e1, e2, e3, e4, e5⟩ := (cells_box (T := .mk T.kind p T.text T.neg T.mag T.kids) x1).box
  change _ = some (Value.int .i64 T.kind) at e0
  change _ = some (Value.int .i64 p) at e1
  change _ = some (Value.string T.text) at e2
  change _ = some (Value.bool T.neg) at e3
  change _ = some (Value.slice A1 T.mag.length c1) at e4
  change _ = some (Value.slice K1 T.kids.length d1) at e5
  obtain ⟨c0, c1', c2', c3, c4, c5⟩ := (cells_box x2).box
  have HR1 := Lib.hid hr1
  have HR2 := Lib.hid hrm
  have HI := Lib.hid hI
  have HL := Lib.hid hL
  have HK1 := Lib.hid hk0
  have HK2 := Lib.hid hKs
  clear hI hL hk0 hN hrm hr1 hw32 hKs x0 hlx x1 x2 hb0 hsg
  unfold ndV
  go_enter Tryz.func18, Tryz.ntmps18
  go_wp2_with fail
  generalize (w.alloc (.cells #[.int .i64 T.kind, .int .i64 p, .string T.text, .bool T.neg, .slice A1 T.mag.length c1, .slice K1 T.kids.length d1] 27)).alloc (.cells #[.int .i64 T.kind, .int .i64 T.pos, .string T.text, .bool T.neg, .slice A T.mag.length c, .slice K T.kids.length d] 27) = w2 at *
  go_loopw [7] (fun iv wr => ∃ k : Nat, iv = .int .i64 k ∧ k ≤ T.mag.length ∧ Below w2.heap.size w2 wr) (fun iv _ => T.mag.length - (intOf iv).toNat)
  case atStart => exact ⟨0, rfl, Nat.zero_le _, Below.refl _ _⟩
  case round =>
    obtain ⟨k, rfl, hk, hbr⟩ := hrel
    have f4 := cell_later hbr e4
    have f5 := cell_later hbr e5
    have g4 := cell_later hbr c4
    have g5 := cell_later hbr c5
    by_cases hkl : k < T.mag.length
    · have q1 : decide ((k : Int) < (T.mag.length : Int)) = true := decide_eq_true (by omega)
      have q2 : decide (k < T.mag.length) = true := decide_eq_true hkl
      obtain ⟨bz, oz, z, hA1, hz, hcz⟩ := HR1.out k hkl
      obtain ⟨by_, oy, y, hA2, hy, hcy⟩ := HR2.out k hkl
      subst hA1 hA2
      rw [hz] at hy
      injection hy with hy
      subst hy
      have hbw := hb1.trans (hbr.mono hb1.size)
      have hcz := cell_later hbw hcz
      have hcy := cell_later hbw hcy
      have l1 := World.block_lt_of_cell? _ _ hcz
      have l2 := World.block_lt_of_cell? _ _ hcy
      have l3 := World.block_lt_of_cell? _ _ f4
      have l4 := World.block_lt_of_cell? _ _ g4
      have q3 : (0 : Int) ≤ (k : Int) := by omega
      have q4 : (k : Int) < (T.mag.length : Int) := by omega
      clear hz
      go_wp2_with fail
      go_region_with (fail)
      all_goals
        go_wp2_with fail
        go_roundw
        case rel => exact ⟨k + 1, by go_num, by omega, by first | exact hbr | exact hbr.trans (below_drew (Below.refl _ _))⟩
        case measure => simp [intOf]; omega
    · have q1 : decide ((k : Int) < (T.mag.length : Int)) = false := decide_eq_false (by omega)
      have q2 : decide (k < T.mag.length) = false := decide_eq_false hkl
      have hb2 := hb1.trans (hbr.mono hb1.size)
      clear hk hkl e4 e5 e0 e1 e2 e3 c0 c1' c2' c3 c4 c5 HR1 HR2
      go_wp2_with fail
      clear q1 q2 hbr f4 g4
      generalize wr = w3 at *
      go_loopw [8] (fun iv wr => ∃ k : Nat, iv = .int .i64 k ∧ k ≤ T.kids.length ∧ Below w3.heap.size w3 wr) (fun iv _ => T.kids.length - (intOf iv).toNat)
      case atStart => exact ⟨0, rfl, Nat.zero_le _, Below.refl _ _⟩
      case round =>
        obtain ⟨k, rfl, hk, hbr⟩ := hrel
        have f5 := cell_later hbr f5
        have g5 := cell_later hbr g5
        have hbw := hb2.trans (hbr.mono hb2.size)
        by_cases hkl : k < T.kids.length
        · have q1 : decide ((k : Int) < (T.kids.length : Int)) = true := decide_eq_true (by omega)
          have q2 : decide (k < T.kids.length) = true := decide_eq_true hkl
          obtain ⟨s, hs⟩ : ∃ s, L[k]? = some s := ⟨_, List.getElem?_eq_getElem (by rw [HL.out]; exact hkl)⟩
          obtain ⟨t, ht⟩ : ∃ t, T.kids[k]? = some t := ⟨_, List.getElem?_eq_getElem hkl⟩
          obtain ⟨b1, o1, As, cs, Ks, ds, hKe1, hC1, hN1⟩ := HK1.out.kid hs
          obtain ⟨b2, o2, At, ct, Kt, dt, hKe2, hC2, hN2⟩ := HK2.out.kid ht
          subst hKe1 hKe2
          rw [Nat.zero_add] at hC1 hC2
          obtain ⟨m0, m1, m2, m3, m4, m5⟩ := hC1.later hbw
          obtain ⟨n0, n1, n2, n3, n4, n5⟩ := hC2.later hbw
          have l1 := World.block_lt_of_cell? _ _ m0
          have l2 := World.block_lt_of_cell? _ _ n0
          have l3 := World.block_lt_of_cell? _ _ f5
          have l4 := World.block_lt_of_cell? _ _ g5
          have q3 : (0 : Int) ≤ (k : Int) := by omega
          have q4 : (k : Int) < (T.kids.length : Int) := by omega
          have hcall := fun (W : World) (hb : Below wr.heap.size wr W) => HI.out k s t hs ht As cs Ks ds At ct Kt dt W (hN1.later (hbw.trans (hb.mono hbw.size))) (hN2.later (hbw.trans (hb.mono hbw.size)))
          unfold ndV at hcall
          have HS := Lib.hid hcall
          clear hcall hs ht hN1 hN2 hC1 hC2 HI HL HK1 HK2
          have HPK : ∀ W, Below wr.heap.size wr W → (W.cell? ⟨b1, o1 + k * 6, none⟩ = some (.int .i64 s.kind) ∧ W.cell? ⟨b1, o1 + k * 6 + 1, none⟩ = some (.int .i64 s.pos) ∧ W.cell? ⟨b1, o1 + k * 6 + 2, none⟩ = some (.string s.text) ∧ W.cell? ⟨b1, o1 + k * 6 + 3, none⟩ = some (.bool s.neg) ∧ W.cell? ⟨b1, o1 + k * 6 + 4, none⟩ = some (.slice As s.mag.length cs) ∧ W.cell? ⟨b1, o1 + k * 6 + 5, none⟩ = some (.slice Ks s.kids.length ds) ∧ W.cell? ⟨b2, o2 + k * 6, none⟩ = some (.int .i64 t.kind) ∧ W.cell? ⟨b2, o2 + k * 6 + 1, none⟩ = some (.int .i64 t.pos) ∧ W.cell? ⟨b2, o2 + k * 6 + 2, none⟩ = some (.string t.text) ∧ W.cell? ⟨b2, o2 + k * 6 + 3, none⟩ = some (.bool t.neg) ∧ W.cell? ⟨b2, o2 + k * 6 + 4, none⟩ = some (.slice At t.mag.length ct) ∧ W.cell? ⟨b2, o2 + k * 6 + 5, none⟩ = some (.slice Kt t.kids.length dt) ∧ W.cell? ⟨w.heap.size, 5, none⟩ = some (.slice (some ⟨b1, o1, none⟩) T.kids.length d1) ∧ W.cell? ⟨w.heap.size + 1, 5, none⟩ = some (.slice (some ⟨b2, o2, none⟩) T.kids.length d) ∧ b1 < W.heap.size ∧ b2 < W.heap.size ∧ w.heap.size < W.heap.size ∧ w.heap.size + 1 < W.heap.size) := fun W h => ⟨cell_later h m0, cell_later h m1, cell_later h m2, cell_later h m3, cell_later h m4, cell_later h m5, cell_later h n0, cell_later h n1, cell_later h n2, cell_later h n3, cell_later h n4, cell_later h n5, cell_later h f5, cell_later h g5, Nat.lt_of_lt_of_le l1 h.size, Nat.lt_of_lt_of_le l2 h.size, Nat.lt_of_lt_of_le l3 h.size, Nat.lt_of_lt_of_le l4 h.size⟩
          go_wp2_with fail
          (first | go_region_held3 (fun W => W.cell? ⟨b1, o1 + k * 6, none⟩ = some (.int .i64 s.kind) ∧ W.cell? ⟨b1, o1 + k * 6 + 1, none⟩ = some (.int .i64 s.pos) ∧ W.cell? ⟨b1, o1 + k * 6 + 2, none⟩ = some (.string s.text) ∧ W.cell? ⟨b1, o1 + k * 6 + 3, none⟩ = some (.bool s.neg) ∧ W.cell? ⟨b1, o1 + k * 6 + 4, none⟩ = some (.slice As s.mag.length cs) ∧ W.cell? ⟨b1, o1 + k * 6 + 5, none⟩ = some (.slice Ks s.kids.length ds) ∧ W.cell? ⟨b2, o2 + k * 6, none⟩ = some (.int .i64 t.kind) ∧ W.cell? ⟨b2, o2 + k * 6 + 1, none⟩ = some (.int .i64 t.pos) ∧ W.cell? ⟨b2, o2 + k * 6 + 2, none⟩ = some (.string t.text) ∧ W.cell? ⟨b2, o2 + k * 6 + 3, none⟩ = some (.bool t.neg) ∧ W.cell? ⟨b2, o2 + k * 6 + 4, none⟩ = some (.slice At t.mag.length ct) ∧ W.cell? ⟨b2, o2 + k * 6 + 5, none⟩ = some (.slice Kt t.kids.length dt) ∧ W.cell? ⟨w.heap.size, 5, none⟩ = some (.slice (some ⟨b1, o1, none⟩) T.kids.length d1) ∧ W.cell? ⟨w.heap.size + 1, 5, none⟩ = some (.slice (some ⟨b2, o2, none⟩) T.kids.length d) ∧ b1 < W.heap.size ∧ b2 < W.heap.size ∧ w.heap.size < W.heap.size ∧ w.heap.size + 1 < W.heap.size) (first | (refine HPK _ ?_; (repeat' (first | with_reducible exact H0 | with_reducible exact Below.refl _ _ | (with_reducible refine below_drew ?_))))) (first | (go_at_call 18; (with_reducible refine (HS.out _ ?hbel).mono ?_); (case hbel => (repeat' (first  | with_reducible exact Below.refl _ _ | (with_reducible refine below_drew ?_)))); rintro e w_0 ⟨rfl, hq_0⟩; have H0 := below_then (w1 := wr) hq_0 (by (repeat' (first  | with_reducible exact Below.refl _ _ | (with_reducible refine below_drew ?_)))))) | fail)
          all_goals
            go_wp2_with fail
            go_roundw
            case rel => exact ⟨k + 1, by go_num, by omega, by first | exact hbr.trans (H0.mono hbr.size) | exact hbr.trans ((below_drew H0).mono hbr.size)⟩
            case measure => simp [intOf]; omega
        · have q1 : decide ((k : Int) < (T.kids.length : Int)) = false := decide_eq_false (by omega)
          have q2 : decide (k < T.kids.length) = false := decide_eq_false hkl
          go_wp2_with fail
          go_ret
          exact ⟨rfl, hbw⟩
end
section
set_option linter.unusedVariables false
set_option linter.unusedSimpArgs false
open Go.RowKit
set_option maxRecDepth 1000000
set_option maxHeartbeats 8000000 in
theorem same_t (T : Nd) (L : List Nd) (hL : L.length = T.kids.length) (hI : ∀ (i : Nat) (s t : Nd), L[i]? = some s → T.kids[i]? = some t → ∀ (A1 : Option Addr) (c1 : Nat) (K1 : Option Addr) (d1 : Nat) (A : Option Addr) (c : Nat) (K : Option Addr) (d : Nat) (w : World), NodeAt w s A1 c1 K1 d1 → NodeAt w t A c K d → Calls Tryz.prog 18 #[ndV s A1 c1 K1 d1, ndV t A c K d, .bool true] w fun e w' => e = .returned (.bool true) ∧ Below w.heap.size w w')
    (A1 : Option Addr) (c1 : Nat) (K1 : Option Addr) (d1 : Nat) (A : Option Addr) (c : Nat) (K : Option Addr) (d : Nat) (w : World) (hr1 : RdI w .u32 A1 T.mag) (hk0 : KidsAt w L K1 0) (hN : NodeAt w T A c K d) (hc1 : T.mag.length ≤ c1) (hc2 : c1 ≤ maxLen) (hd1 : T.kids.length ≤ d1) (hd2 : d1 ≤ maxLen) (hpl : I64 T.pos) :
    Calls Tryz.prog 18 #[.agg #[.int .i64 T.kind, .int .i64 T.pos, .string T.text, .bool T.neg, .slice A1 T.mag.length c1, .slice K1 T.kids.length d1], ndV T A c K d, .bool true] w fun e w' => e = .returned (.bool true) ∧ Below w.heap.size w w' := by
  obtain ⟨hm1, hm2, hrm, hw32, hk1, hk2, hk64, ha64, hts, hKs⟩ := hN.parts
  unfold maxLen at hm2 hk2 hts hc2 hd2
  obtain ⟨hpl1, hpl2⟩ := hpl
  obtain ⟨hk64a, hk64b⟩ := hk64
  obtain ⟨ha64a, ha64b⟩ := ha64
  have hb0 := (Below.refl w.heap.size w).alloc (Nat.le_refl _) (.cells #[.int .i64 T.kind, .int .i64 T.pos, .string T.text, .bool T.neg, .slice A1 T.mag.length c1, .slice K1 T.kids.length d1] 27)
  have hb1 := hb0.alloc hb0.size (.cells #[.int .i64 T.kind, .int .i64 T.pos, .string T.text, .bool T.neg, .slice A T.mag.length c, .slice K T.kids.length d] 27)
  have x0 := heap_alloc_new w (.cells #[.int .i64 T.kind, .int .i64 T.pos, .string T.text, .bool T.neg, .slice A1 T.mag.length c1, .slice K1 T.kids.length d1] 27)
  have hlx : w.heap.size < (w.alloc (.cells #[.int .i64 T.kind, .int .i64 T.pos, .string T.text, .bool T.neg, .slice A1 T.mag.length c1, .slice K1 T.kids.length d1] 27)).heap.size := by simp
  have x1 := (Lib.alloc_old _ (.cells #[.int .i64 T.kind, .int .i64 T.pos, .string T.text, .bool T.neg, .slice A T.mag.length c, .slice K T.kids.length d] 27) _ hlx).trans x0
  have x2 := heap_alloc_new (w.alloc (.cells #[.int .i64 T.kind, .int .i64 T.pos, .string T.text, .bool T.neg, .slice A1 T.mag.length c1, .slice K1 T.kids.length d1] 27)) (.cells #[.int .i64 T.kind, .int .i64 T.pos, .string T.text, .bool T.neg, .slice A T.mag.length c, .slice K T.kids.length d] 27)
  have hsg : (w.alloc (.cells #[.int .i64 T.kind, .int .i64 T.pos, .string T.text, .bool T.neg, .slice A1 T.mag.length c1, .slice K1 T.kids.length d1] 27)).heap.size = w.heap.size + 1 := by simp
  rw [hsg] at x2
  obtain ⟨e0, e1, e2, e3, e4, e5⟩ := (cells_box (T := .mk T.kind T.pos T.text T.neg T.mag T.kids) x1).box
  change _ = some (Value.int .i64 T.kind) at e0
  change _ = some (Value.int .i64 T.pos) at e1
  change _ = some (Value.string T.text) at e2
  change _ = some (Value.bool T.neg) at e3
  change _ = some (Value.slice A1 T.mag.length c1) at e4
  change _ = some (Value.slice K1 T.kids.length d1) at e5
  obtain ⟨c0, c1', c2', c3, c4, c5⟩ := (cells_box x2).box
  have HR1 := Lib.hid hr1
  have HR2 := Lib.hid hrm
  have HI := Lib.hid hI
  have HL := Lib.hid hL
  have HK1 := Lib.hid hk0
  have HK2 := Lib.hid hKs
  clear hI hL hk0 hN hrm hr1 hw32 hKs x0 hlx x1 x2 hb0 hsg
  unfold ndV
  go_enter Tryz.func18, Tryz.ntmps18
  go_wp2_with fail
  generalize (w.alloc (.cells #[.int .i64 T.kind, .int .i64 T.pos, .string T.text, .bool T.neg, .slice A1 T.mag.length c1, .slice K1 T.kids.length d1] 27)).alloc (.cells #[.int .i64 T.kind, .int .i64 T.pos, .string T.text, .bool T.neg, .slice A T.mag.length c, .slice K T.kids.length d] 27) = w2 at *
  go_loopw [7] (fun iv wr => ∃ k : Nat, iv = .int .i64 k ∧ k ≤ T.mag.length ∧ Below w2.heap.size w2 wr) (fun iv _ => T.mag.length - (intOf iv).toNat)
  case atStart => exact ⟨0, rfl, Nat.zero_le _, Below.refl _ _⟩
  case round =>
    obtain ⟨k, rfl, hk, hbr⟩ := hrel
    have f4 := cell_later hbr e4
    have f5 := cell_later hbr e5
    have g4 := cell_later hbr c4
    have g5 := cell_later hbr c5
    by_cases hkl : k < T.mag.length
    · have q1 : decide ((k : Int) < (T.mag.length : Int)) = true := decide_eq_true (by omega)
      have q2 : decide (k < T.mag.length) = true := decide_eq_true hkl
      obtain ⟨bz, oz, z, hA1, hz, hcz⟩ := HR1.out k hkl
      obtain ⟨by_, oy, y, hA2, hy, hcy⟩ := HR2.out k hkl
      subst hA1 hA2
      rw [hz] at hy
      injection hy with hy
      subst hy
      have hbw := hb1.trans (hbr.mono hb1.size)
      have hcz := cell_later hbw hcz
      have hcy := cell_later hbw hcy
      have l1 := World.block_lt_of_cell? _ _ hcz
      have l2 := World.block_lt_of_cell? _ _ hcy
      have l3 := World.block_lt_of_cell? _ _ f4
      have l4 := World.block_lt_of_cell? _ _ g4
      have q3 : (0 : Int) ≤ (k : Int) := by omega
      have q4 : (k : Int) < (T.mag.length : Int) := by omega
      clear hz
      go_wp2_with fail
      go_region_with (fail)
      all_goals
        go_wp2_with fail
        go_roundw
        case rel => exact ⟨k + 1, by go_num, by omega, by first | exact hbr | exact hbr.trans (below_drew (Below.refl _ _))⟩
        case measure => simp [intOf]; omega
    · have q1 : decide ((k : Int) < (T.mag.length : Int)) = false := decide_eq_false (by omega)
      have q2 : decide (k < T.mag.length) = false := decide_eq_false hkl
      have hb2 := hb1.trans (hbr.mono hb1.size)
      clear hk hkl e4 e5 e0 e1 e2 e3 c0 c1' c2' c3 c4 c5 HR1 HR2
      go_wp2_with fail
      clear q1 q2 hbr f4 g4
      generalize wr = w3 at *
      go_loopw [8] (fun iv wr => ∃ k : Nat, iv = .int .i64 k ∧ k ≤ T.kids.length ∧ Below w3.heap.size w3 wr) (fun iv _ => T.kids.length - (intOf iv).toNat)
      case atStart => exact ⟨0, rfl, Nat.zero_le _, Below.refl _ _⟩
      case round =>
        obtain ⟨k, rfl, hk, hbr⟩ := hrel
        have f5 := cell_later hbr f5
        have g5 := cell_later hbr g5
        have hbw := hb2.trans (hbr.mono hb2.size)
        by_cases hkl : k < T.kids.length
        · have q1 : decide ((k : Int) < (T.kids.length : Int)) = true := decide_eq_true (by omega)
          have q2 : decide (k < T.kids.length) = true := decide_eq_true hkl
          obtain ⟨s, hs⟩ : ∃ s, L[k]? = some s := ⟨_, List.getElem?_eq_getElem (by rw [HL.out]; exact hkl)⟩
          obtain ⟨t, ht⟩ : ∃ t, T.kids[k]? = some t := ⟨_, List.getElem?_eq_getElem hkl⟩
          obtain ⟨b1, o1, As, cs, Ks, ds, hKe1, hC1, hN1⟩ := HK1.out.kid hs
          obtain ⟨b2, o2, At, ct, Kt, dt, hKe2, hC2, hN2⟩ := HK2.out.kid ht
          subst hKe1 hKe2
          rw [Nat.zero_add] at hC1 hC2
          obtain ⟨m0, m1, m2, m3, m4, m5⟩ := hC1.later hbw
          obtain ⟨n0, n1, n2, n3, n4, n5⟩ := hC2.later hbw
          have l1 := World.block_lt_of_cell? _ _ m0
          have l2 := World.block_lt_of_cell? _ _ n0
          have l3 := World.block_lt_of_cell? _ _ f5
          have l4 := World.block_lt_of_cell? _ _ g5
          have q3 : (0 : Int) ≤ (k : Int) := by omega
          have q4 : (k : Int) < (T.kids.length : Int) := by omega
          have hcall := fun (W : World) (hb : Below wr.heap.size wr W) => HI.out k s t hs ht As cs Ks ds At ct Kt dt W (hN1.later (hbw.trans (hb.mono hbw.size))) (hN2.later (hbw.trans (hb.mono hbw.size)))
          unfold ndV at hcall
          have HS := Lib.hid hcall
          clear hcall hs ht hN1 hN2 hC1 hC2 HI HL HK1 HK2
          have HPK : ∀ W, Below wr.heap.size wr W → (W.cell? ⟨b1, o1 + k * 6, none⟩ = some (.int .i64 s.kind) ∧ W.cell? ⟨b1, o1 + k * 6 + 1, none⟩ = some (.int .i64 s.pos) ∧ W.cell? ⟨b1, o1 + k * 6 + 2, none⟩ = some (.string s.text) ∧ W.cell? ⟨b1, o1 + k * 6 + 3, none⟩ = some (.bool s.neg) ∧ W.cell? ⟨b1, o1 + k * 6 + 4, none⟩ = some (.slice As s.mag.length cs) ∧ W.cell? ⟨b1, o1 + k * 6 + 5, none⟩ = some (.slice Ks s.kids.length ds) ∧ W.cell? ⟨b2, o2 + k * 6, none⟩ = some (.int .i64 t.kind) ∧ W.cell? ⟨b2, o2 + k * 6 + 1, none⟩ = some (.int .i64 t.pos) ∧ W.cell? ⟨b2, o2 + k * 6 + 2, none⟩ = some (.string t.text) ∧ W.cell? ⟨b2, o2 + k * 6 + 3, none⟩ = some (.bool t.neg) ∧ W.cell? ⟨b2, o2 + k * 6 + 4, none⟩ = some (.slice At t.mag.length ct) ∧ W.cell? ⟨b2, o2 + k * 6 + 5, none⟩ = some (.slice Kt t.kids.length dt) ∧ W.cell? ⟨w.heap.size, 5, none⟩ = some (.slice (some ⟨b1, o1, none⟩) T.kids.length d1) ∧ W.cell? ⟨w.heap.size + 1, 5, none⟩ = some (.slice (some ⟨b2, o2, none⟩) T.kids.length d) ∧ b1 < W.heap.size ∧ b2 < W.heap.size ∧ w.heap.size < W.heap.size ∧ w.heap.size + 1 < W.heap.size) := fun W h => ⟨cell_later h m0, cell_later h m1, cell_later h m2, cell_later h m3, cell_later h m4, cell_later h m5, cell_later h n0, cell_later h n1, cell_later h n2, cell_later h n3, cell_later h n4, cell_later h n5, cell_later h f5, cell_later h g5, Nat.lt_of_lt_of_le l1 h.size, Nat.lt_of_lt_of_le l2 h.size, Nat.lt_of_lt_of_le l3 h.size, Nat.lt_of_lt_of_le l4 h.size⟩
          go_wp2_with fail
          (first | go_region_held3 (fun W => W.cell? ⟨b1, o1 + k * 6, none⟩ = some (.int .i64 s.kind) ∧ W.cell? ⟨b1, o1 + k * 6 + 1, none⟩ = some (.int .i64 s.pos) ∧ W.cell? ⟨b1, o1 + k * 6 + 2, none⟩ = some (.string s.text) ∧ W.cell? ⟨b1, o1 + k * 6 + 3, none⟩ = some (.bool s.neg) ∧ W.cell? ⟨b1, o1 + k * 6 + 4, none⟩ = some (.slice As s.mag.length cs) ∧ W.cell? ⟨b1, o1 + k * 6 + 5, none⟩ = some (.slice Ks s.kids.length ds) ∧ W.cell? ⟨b2, o2 + k * 6, none⟩ = some (.int .i64 t.kind) ∧ W.cell? ⟨b2, o2 + k * 6 + 1, none⟩ = some (.int .i64 t.pos) ∧ W.cell? ⟨b2, o2 + k * 6 + 2, none⟩ = some (.string t.text) ∧ W.cell? ⟨b2, o2 + k * 6 + 3, none⟩ = some (.bool t.neg) ∧ W.cell? ⟨b2, o2 + k * 6 + 4, none⟩ = some (.slice At t.mag.length ct) ∧ W.cell? ⟨b2, o2 + k * 6 + 5, none⟩ = some (.slice Kt t.kids.length dt) ∧ W.cell? ⟨w.heap.size, 5, none⟩ = some (.slice (some ⟨b1, o1, none⟩) T.kids.length d1) ∧ W.cell? ⟨w.heap.size + 1, 5, none⟩ = some (.slice (some ⟨b2, o2, none⟩) T.kids.length d) ∧ b1 < W.heap.size ∧ b2 < W.heap.size ∧ w.heap.size < W.heap.size ∧ w.heap.size + 1 < W.heap.size) (first | (refine HPK _ ?_; (repeat' (first | with_reducible exact H0 | with_reducible exact Below.refl _ _ | (with_reducible refine below_drew ?_))))) (first | (go_at_call 18; (with_reducible refine (HS.out _ ?hbel).mono ?_); (case hbel => (repeat' (first  | with_reducible exact Below.refl _ _ | (with_reducible refine below_drew ?_)))); rintro e w_0 ⟨rfl, hq_0⟩; have H0 := below_then (w1 := wr) hq_0 (by (repeat' (first  | with_reducible exact Below.refl _ _ | (with_reducible refine below_drew ?_)))))) | fail)
          all_goals
            go_wp2_with fail
            go_roundw
            case rel => exact ⟨k + 1, by go_num, by omega, by first | exact hbr.trans (H0.mono hbr.size) | exact hbr.trans ((below_drew H0).mono hbr.size)⟩
            case measure => simp [intOf]; omega
        · have q1 : decide ((k : Int) < (T.kids.length : Int)) = false := decide_eq_false (by omega)
          have q2 : decide (k < T.kids.length) = false := decide_eq_false hkl
          go_wp2_with fail
          go_ret
          exact ⟨rfl, hbw⟩
end
section
set_option linter.unusedVariables false
set_option linter.unusedSimpArgs false
open Go.RowKit
set_option maxRecDepth 1000000
theorem same_ok (ts : Bool) : ∀ (D : Nat) (S T : Nd), Alike ts S T → S.depth ≤ D → ∀ (A1 : Option Addr) (c1 : Nat) (K1 : Option Addr) (d1 : Nat) (A : Option Addr) (c : Nat) (K : Option Addr) (d : Nat) (w : World), NodeAt w S A1 c1 K1 d1 → NodeAt w T A c K d →
    Calls Tryz.prog 18 #[ndV S A1 c1 K1 d1, ndV T A c K d, .bool ts] w fun e w' => e = .returned (.bool true) ∧ Below w.heap.size w w'
  | 0, S, T, _, hD => absurd hD (by have := S.depth_eq; omega)
  | D + 1, S, T, hA, hD => by
    intro A1 c1 K1 d1 A c K d w hS hT
    obtain ⟨h1, h2, h3, h4, h5, h6, h7⟩ := hA.parts
    obtain ⟨g1, g2, g3, g4, g5, g6, g7, g8, g9, g10⟩ := hS.parts
    have hI := fun (i : Nat) (s t : Nd) (hs : S.kids[i]? = some s) (ht : T.kids[i]? = some t) => same_ok ts D s t (h7 i s t hs ht) (by have := Nd.depth_kid (List.mem_of_getElem? hs); omega)
    rw [h4] at g1 g3
    rw [h6] at g5
    cases ts with
    | false =>
      have := same_f T S.pos S.kids h6 hI A1 c1 K1 d1 A c K d w g3 g10 hT g1 g2 g5 g6 g8
      unfold ndV at this ⊢
      rw [h1, h2, h3, h4, h6]
      exact this
    | true =>
      have h5 := h5 rfl
      rw [h5] at g8
      have := same_t T S.kids h6 hI A1 c1 K1 d1 A c K d w g3 g10 hT g1 g2 g5 g6 g8
      unfold ndV at this ⊢
      rw [h1, h2, h3, h4, h5, h6]
      exact this
end
section
set_option linter.unusedVariables false
set_option linter.unusedSimpArgs false
open Go.RowKit
set_option maxRecDepth 1000000
/-- it stands in every world that has the blocks from base on, but for one, as they are. -/
def Far (base : Nat) (g : Option Nat) (w : World) (T : Nd) (A : Option Addr) (c : Nat) (K : Option Addr) (d : Nat) : Prop :=
  ∀ W : World, (∀ k, base ≤ k → k < w.heap.size → some k ≠ g → W.heap[k]? = w.heap[k]?) → NodeAt W T A c K d
theorem Far.now {base : Nat} {g : Option Nat} {w : World} {T : Nd} {A : Option Addr} {c : Nat} {K : Option Addr} {d : Nat} (h : Far base g w T A c K d) : NodeAt w T A c K d := h w fun _ _ _ _ => rfl
theorem Far.turned {base : Nat} {g g' : Option Nat} {w w' : World} {T : Nd} {A : Option Addr} {c : Nat} {K : Option Addr} {d : Nat} (h : Far base g w T A c K d) (hs : w.heap.size ≤ w'.heap.size) (he : ∀ k, base ≤ k → k < w.heap.size → some k ≠ g → w'.heap[k]? = w.heap[k]? ∧ some k ≠ g') : Far base g' w' T A c K d := fun W hW =>
  h W fun k h1 h2 h3 => by
    obtain ⟨e1, e2⟩ := he k h1 h2 h3
    rw [hW k h1 (by omega) e2, e1]
theorem Far.later {base : Nat} {g : Option Nat} {w w' : World} {T : Nd} {A : Option Addr} {c : Nat} {K : Option Addr} {d : Nat} (h : Far base g w T A c K d) (hb : Below w.heap.size w w') : Far base g w' T A c K d :=
  h.turned hb.size fun k _ h2 h3 => ⟨hb.5 k h2, h3⟩
theorem Far.mono {base base' : Nat} {g : Option Nat} {w : World} {T : Nd} {A : Option Addr} {c : Nat} {K : Option Addr} {d : Nat} (h : Far base g w T A c K d) (hb : base' ≤ base) : Far base' g w T A c K d := fun W hW =>
  h W fun k h1 h2 h3 => hW k (Nat.le_trans hb h1) h2 h3
theorem far_grown {base : Nat} {v v' : Value} {w w' : World} {T : Nd} {A : Option Addr} {c : Nat} {K : Option Addr} {d : Nat} (h : Far base v.ownBlock w T A c K d) (hg : w.grownBy w' v.ownBlock) (hat : v'.ownBlock = v.ownBlock ∨ v'.ownBlock = some w.heap.size) : Far base v'.ownBlock w' T A c K d :=
  h.turned hg.size fun k _ h2 h3 => ⟨hg.block k h2 h3, by
    rcases hat with e | e
    · rw [e]; exact h3
    · rw [e]; intro e; injection e with e; omega⟩
theorem own_agree {w W : World} {base size n : Nat} {e : TypeId} {v : Value} {xs : List Value} (h : w.ownsRow base e size v n xs) (hW : ∀ k, base ≤ k → k < w.heap.size → W.heap[k]? = w.heap[k]?) : W.ownsRow base e size v n xs := by
  refine ⟨h.1, ?_⟩
  rcases h.2 with h2 | ⟨g, cap, cur, hv, hg, hh, hr⟩
  · exact .inl h2
  · exact .inr ⟨g, cap, cur, hv, hg, (hW g hg (Array.getElem?_eq_some_iff.1 hh).1).trans hh, hr⟩
theorem own_laterT {w w' : World} {base size n : Nat} {e : TypeId} {v : Value} {xs : List Value} (h : w.ownsRow base e size v n xs) (hb : Below w.heap.size w w') : w'.ownsRow base e size v n xs := own_agree h fun k _ h2 => hb.5 k h2
theorem own_formN {w : World} {base size : Nat} {e : TypeId} {v : Value} {n : Nat} {xs : List Value} (h : w.ownsRow base e size v n xs) : ∃ A c, v = .slice A n c ∧ n ≤ c ∧ c ≤ maxLen := by
  rcases h.2 with ⟨rfl, rfl⟩ | ⟨g, cap, cur, rfl, _, _, h1, h2, _⟩
  · exact ⟨none, 0, rfl, Nat.le_refl _, Nat.zero_le _⟩
  · exact ⟨_, cap, rfl, h1, h2⟩
/-- a node's cells. -/
def ndC (T : Nd) (A : Option Addr) (c : Nat) (K : Option Addr) (d : Nat) : List Value := [.int .i64 T.kind, .int .i64 T.pos, .string T.text, .bool T.neg, .slice A T.mag.length c, .slice K T.kids.length d]
/-- a row of nodes that lie apart. -/
def RowN (base : Nat) (g : Option Nat) (w : World) (ts : List Nd) (xs : List Value) : Prop :=
  xs.length = ts.length * 6 ∧ ∀ i t, ts[i]? = some t → ∃ A c K d, (∀ j, j < 6 → xs[i * 6 + j]? = (ndC t A c K d)[j]?) ∧ Far base g w t A c K d
theorem RowN.nil (base : Nat) (g : Option Nat) (w : World) : RowN base g w [] [] := ⟨rfl, fun i t h => by simp at h⟩
theorem RowN.later {base : Nat} {g : Option Nat} {w w' : World} {ts : List Nd} {xs : List Value} (h : RowN base g w ts xs) (hb : Below w.heap.size w w') : RowN base g w' ts xs :=
  ⟨h.1, fun i t hi => by obtain ⟨A, c, K, d, h1, h2⟩ := h.2 i t hi; exact ⟨A, c, K, d, h1, h2.later hb⟩⟩
theorem RowN.grown {base : Nat} {v v' : Value} {w w' : World} {ts : List Nd} {xs : List Value} (h : RowN base v.ownBlock w ts xs) (hg : w.grownBy w' v.ownBlock) (hat : v'.ownBlock = v.ownBlock ∨ v'.ownBlock = some w.heap.size) : RowN base v'.ownBlock w' ts xs :=
  ⟨h.1, fun i t hi => by obtain ⟨A, c, K, d, h1, h2⟩ := h.2 i t hi; exact ⟨A, c, K, d, h1, far_grown h2 hg hat⟩⟩
theorem RowN.snoc {base : Nat} {g : Option Nat} {w : World} {ts : List Nd} {xs : List Value} {t : Nd} {A : Option Addr} {c : Nat} {K : Option Addr} {d : Nat} (h : RowN base g w ts xs) (ht : Far base g w t A c K d) : RowN base g w (ts ++ [t]) (xs ++ ndC t A c K d) := by
  refine ⟨by rw [List.length_append, List.length_append, h.1]; simp [ndC]; omega, fun i s hi => ?_⟩
  by_cases hl : i < ts.length
  · rw [List.getElem?_append_left hl] at hi
    obtain ⟨A', c', K', d', h1, h2⟩ := h.2 i s hi
    refine ⟨A', c', K', d', fun j hj => ?_, h2⟩
    rw [List.getElem?_append_left (by rw [h.1]; omega)]
    exact h1 j hj
  · have hi2 : i = ts.length := by
      have := (List.getElem?_eq_some_iff.1 hi).1
      rw [List.length_append] at this
      simp at this
      omega
    subst hi2
    rw [List.getElem?_concat_length] at hi
    injection hi with hi
    subst hi
    refine ⟨A, c, K, d, fun j hj => ?_, ht⟩
    rw [List.getElem?_append_right (by rw [h.1]; omega), h.1, show ts.length * 6 + j - ts.length * 6 = j by omega]
/-- a row of one's own that bears nodes is a row of kids. -/
theorem RowN.kids {base : Nat} {w : World} {v : Value} {ts : List Nd} {xs : List Value} {e : TypeId} {A : Option Addr} {c : Nat} (h : RowN base v.ownBlock w ts xs) (ho : w.ownsRow base e 6 v ts.length xs) (hv : v = .slice A ts.length c) {W : World} (hW : ∀ k, base ≤ k → k < w.heap.size → W.heap[k]? = w.heap[k]?) : KidsAt W ts A 0 := by
  have ho2 := own_agree ho hW
  refine KidsAt.of fun i t hi => ?_
  obtain ⟨A', c', K', d', h1, h2⟩ := h.2 i t hi
  rcases ho.2 with ⟨_, h0⟩ | ⟨g, cap, cur, hg, hg2, _⟩
  · have := (List.getElem?_eq_some_iff.1 hi).1; omega
  · have hA : A = some ⟨g, 0, none⟩ := by rw [hg] at hv; injection hv with hv; exact hv.symm
    have hc : ∀ j u, xs[j]? = some u → W.cell? ⟨g, j, none⟩ = some u := fun j u hj => by
      have := ho2.cells (g := g) (by rw [hg]; rfl) j u hj
      rw [Addr.add_lit, Nat.zero_add] at this
      exact this
    refine ⟨g, 0, A', c', K', d', hA, ?_, h2 W fun k h1 h2 _ => hW k h1 h2⟩
    rw [Nat.zero_add, Nat.zero_add]
    exact ⟨hc _ _ (h1 0 (by decide)), hc _ _ (h1 1 (by decide)), hc _ _ (h1 2 (by decide)), hc _ _ (h1 3 (by decide)), hc _ _ (h1 4 (by decide)), hc _ _ (h1 5 (by decide))⟩
end
section
set_option linter.unusedVariables false
set_option linter.unusedSimpArgs false
open Go.RowKit
set_option maxRecDepth 1000000
/-- a tree of one's own, at most D deep. -/
def NodeFr : Nat → World → Nd → Nat → Nat → Option Addr → Nat → Option Addr → Nat → Prop
  | 0, _, _, _, _, _, _, _, _ => False
  | D + 1, w, T, lo, hi, A, c, K, d =>
    (T.mag.length ≤ c ∧ c ≤ maxLen ∧ (∀ z ∈ T.mag, 0 ≤ z ∧ z < 4294967296) ∧ T.kids.length ≤ d ∧ d ≤ maxLen ∧ I64 T.kind ∧ I64 T.pos ∧ T.text.size ≤ maxLen ∧ FrI w lo .u32 A T.mag ∧ hi ≤ w.heap.size) ∧
    ∃ E : Nat → Nat, lo ≤ E 0 ∧ E T.kids.length ≤ hi ∧ (∀ i, E i ≤ E (i + 1)) ∧ (0 < T.mag.length → ∀ ad, A = some ad → ad.block < E 0) ∧
      ∀ i t, T.kids[i]? = some t → ∃ b A' c' K' d', K = some ⟨b, 0, none⟩ ∧ lo ≤ b ∧ b < E 0 ∧ (0 < T.mag.length → ∀ ad, A = some ad → ad.block ≠ b) ∧ CellsN w b (i * 6) t A' c' K' d' ∧ (∀ j, w.frozen? ⟨b, j, none⟩ = false) ∧ NodeFr D w t (E i) (E (i + 1)) A' c' K' d'
theorem steps_le {E : Nat → Nat} (h : ∀ i, E i ≤ E (i + 1)) {i j : Nat} (hij : i ≤ j) : E i ≤ E j := by
  induction hij with
  | refl => exact Nat.le_refl _
  | step _ ih => exact Nat.le_trans ih (h _)
theorem NodeFr.at : ∀ {D : Nat} {w : World} {T : Nd} {lo hi : Nat} {A : Option Addr} {c : Nat} {K : Option Addr} {d : Nat}, NodeFr D w T lo hi A c K d → NodeAt w T A c K d
  | D + 1, w, T, lo, hi, A, c, K, d, h => by
    obtain ⟨⟨h1, h2, h3, h4, h5, h6, h7, h8, h9, h10⟩, E, e1, e2, e3, e4, e5⟩ := h
    refine NodeAt.of ⟨h1, h2, h9.rd, h3, h4, h5, h6, h7, h8, KidsAt.of fun i t hi => ?_⟩
    obtain ⟨b, A', c', K', d', hK, _, _, _, hC, _, hN⟩ := e5 i t hi
    refine ⟨b, 0, A', c', K', d', hK, ?_, hN.at⟩
    rw [Nat.zero_add, Nat.zero_add]
    exact hC
theorem NodeFr.size {D : Nat} {w : World} {T : Nd} {lo hi : Nat} {A : Option Addr} {c : Nat} {K : Option Addr} {d : Nat} (h : NodeFr D w T lo hi A c K d) : hi ≤ w.heap.size ∧ lo ≤ hi := by
  cases D with
  | zero => exact h.elim
  | succ D =>
    obtain ⟨⟨h1, h2, h3, h4, h5, h6, h7, h8, h9, h10⟩, E, e1, e2, e3, e4, e5⟩ := h
    exact ⟨h10, by have := steps_le e3 (Nat.zero_le T.kids.length); omega⟩
theorem frI_keep {w w' : World} {base hi : Nat} {k : IntKind} {A : Option Addr} {zs : List Int} (h : FrI w base k A zs) (hA : 0 < zs.length → ∀ ad, A = some ad → ad.block < hi) (hW : ∀ k, base ≤ k → k < hi → w'.heap[k]? = w.heap[k]?) : FrI w' base k A zs := fun i hi => by
  obtain ⟨b, off, z, e, hB, hz, hc, hf⟩ := h i hi
  have hb : b < _ := hA (by omega) _ e
  exact ⟨b, off, z, e, hB, hz, (World.cell?_of_block (hW b hB hb)).trans hc, (World.frozen?_of_block (hW b hB hb)).trans hf⟩
theorem cellsN_keep {w w' : World} {b o : Nat} {T : Nd} {A : Option Addr} {c : Nat} {K : Option Addr} {d : Nat} (h : CellsN w b o T A c K d) (hW : w'.heap[b]? = w.heap[b]?) : CellsN w' b o T A c K d := by
  obtain ⟨h1, h2, h3, h4, h5, h6⟩ := h
  exact ⟨(World.cell?_of_block hW).trans h1, (World.cell?_of_block hW).trans h2, (World.cell?_of_block hW).trans h3, (World.cell?_of_block hW).trans h4, (World.cell?_of_block hW).trans h5, (World.cell?_of_block hW).trans h6⟩
theorem NodeFr.keep : ∀ {D : Nat} {w w' : World} {T : Nd} {lo hi : Nat} {A : Option Addr} {c : Nat} {K : Option Addr} {d : Nat}, NodeFr D w T lo hi A c K d → (∀ k, lo ≤ k → k < hi → w'.heap[k]? = w.heap[k]?) → w.heap.size ≤ w'.heap.size → NodeFr D w' T lo hi A c K d
  | D + 1, w, w', T, lo, hi, A, c, K, d, h, hW, hs => by
    have hlh := h.size
    obtain ⟨⟨h1, h2, h3, h4, h5, h6, h7, h8, h9, h10⟩, E, e1, e2, e3, e4, e5⟩ := h
    have el := steps_le e3 (Nat.zero_le T.kids.length)
    refine ⟨⟨h1, h2, h3, h4, h5, h6, h7, h8, frI_keep (hi := hi) h9 (fun a ad e => by have := e4 a ad e; omega) hW, by omega⟩, E, e1, e2, e3, e4, fun i t hi => ?_⟩
    have hil := (List.getElem?_eq_some_iff.1 hi).1
    obtain ⟨b, A', c', K', d', hK, l1, l2, l3, hC, hf, hN⟩ := e5 i t hi
    have hb := hW b l1 (by omega)
    have f1 := steps_le e3 (Nat.zero_le i)
    have f2 := steps_le e3 (show i + 1 ≤ T.kids.length by omega)
    exact ⟨b, A', c', K', d', hK, l1, l2, l3, cellsN_keep hC hb, fun j => (World.frozen?_of_block hb).trans (hf j), hN.keep (fun k k1 k2 => hW k (by omega) (by omega)) hs⟩
theorem NodeFr.later {D : Nat} {w w' : World} {T : Nd} {lo hi : Nat} {A : Option Addr} {c : Nat} {K : Option Addr} {d : Nat} (h : NodeFr D w T lo hi A c K d) (hb : Below w.heap.size w w') : NodeFr D w' T lo hi A c K d :=
  h.keep (fun k _ h2 => hb.5 k (by have := h.size; omega)) hb.size
/-- w' has the blocks of w, but for those from lo on and ahead of hi; there may be more. -/
structure Turned (lo hi : Nat) (w w' : World) : Prop where
  os : w'.os = w.os
  tape : w'.tape = w.tape
  output : w'.output = w.output
  size : w.heap.size ≤ w'.heap.size
  block : ∀ k, k < w.heap.size → (k < lo ∨ hi ≤ k) → w'.heap[k]? = w.heap[k]?
theorem Turned.below {lo hi : Nat} {w w' : World} (h : Turned lo hi w w') (hl : lo ≤ w.heap.size) : Below lo w w' :=
  ⟨h.os, h.tape, h.output, h.size, fun k hk => h.block k (by omega) (.inl hk)⟩
end
end Go.Proofs.YtjefhdlncikhmaaGreatDoor
