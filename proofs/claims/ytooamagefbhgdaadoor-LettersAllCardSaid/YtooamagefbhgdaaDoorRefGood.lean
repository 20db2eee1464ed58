/- The reference's Good. -/
import Derived.Test.YtooamagefbhgdaaDoorQuote
namespace Go.Proofs.YtooamagefbhgdaaDoor
open Go.RowKit Go.Shelf
set_option maxRecDepth 1000000

/-- is a text UTF-8 all through? -/
def goodB (s : ByteArray) : Bool := encs (pieces s.data.toList) == s.data.toList
theorem goodB_iff (s : ByteArray) : goodB s = true ↔ encs (pieces s.data.toList) = s.data.toList := by simp [goodB]

theorem refGood_ok (s : ByteArray) (w : World) (hs : s.size ≤ 1099511627776) :
    Calls Tryd.prog 12 #[.string s] w fun e w' => e = .returned (.bool (goodB s)) ∧ Below w.heap.size w w' := by
  have hpc := fun wx => pieces_ok s wx hs
  obtain ⟨b, hb⟩ : ∃ b, goodB s = b := ⟨_, rfl⟩
  have hg : ((encsB (pieces s.data.toList)).toList == s.toList) = b := by rw [← hb, Lib.toList_data, Lib.toList_data, encsB_list, goodB]
  rw [hb]
  obtain ⟨rs, hrs⟩ : ∃ rs, pieces s.data.toList = rs := ⟨_, rfl⟩
  rw [hrs] at hg
  simp only [hrs] at hpc
  clear hb hrs
  go_enter Tryd.func12, Tryd.ntmps12
  go_wp2_with (go_at_call 33; refine (hpc w).mono ?_; rintro e w1 ⟨A, c, rfl, l1, l2, fr, hb1⟩; have hcv := fun m => conv_runes (w1.drewN m) A c rs (fr.later (below_drewN (Below.refl _ _) m)).rd; have hcv0 := conv_runes w1 A c rs fr.rd)
  go_ret
  exact ⟨rfl, hb1⟩
end Go.Proofs.YtooamagefbhgdaaDoor
