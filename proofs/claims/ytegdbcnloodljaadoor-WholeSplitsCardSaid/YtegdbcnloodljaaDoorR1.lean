/- The reference's size, plus, minus (chapter 1). -/
import Derived.Test.YtegdbcnloodljaaDoorW1
namespace Go.Proofs.YtegdbcnloodljaaDoor
set_option linter.unusedVariables false
set_option linter.unusedSimpArgs false
open Go.RowKit
set_option maxRecDepth 1000000

set_option maxHeartbeats 2000000 in
theorem refSize_ok (A B : Option Addr) (c d : Nat) (ps qs : List Int) (w : World) (hX2 : W32 ps) (hY2 : W32 qs) (nX : NT ps) (nY : NT qs) (rX : RdI w .u32 A ps) (rY : RdI w .u32 B qs) (hl : ps.length ≤ c) (hc : c ≤ 9223372036854775807) (hl2 : qs.length ≤ d) (hd : d ≤ 9223372036854775807) :
    Calls Tryd.prog 67 #[.slice A ps.length c, .slice B qs.length d] w fun e w' => e = .returned (.int .i64 (cmp3 (val ps) (val qs))) ∧ Below w.heap.size w w' := by
  have hps : ps.length ≤ 9223372036854775807 := by omega
  have hqs : qs.length ≤ 9223372036854775807 := by omega
  by_cases hlt : ps.length < qs.length
  · have hv := val_lt_len hX2 hY2 nY hlt
    rw [cmp3, if_pos hv]
    clear nX nY rX rY hv hX2 hY2
    generalize ps.length = m at *
    generalize qs.length = n at *
    have x1 : ((m : Int) != (n : Int)) = true := by simp; omega
    go_enter Tryd.func67, Tryd.ntmps67
    go_wp2
    go_ret
    exact ⟨rfl, Below.refl _ _⟩
  by_cases hgt : qs.length < ps.length
  · have hv := val_lt_len hY2 hX2 nX hgt
    rw [cmp3, if_neg (by omega), if_pos hv]
    clear nX nY rX rY hv hX2 hY2
    generalize ps.length = m at *
    generalize qs.length = n at *
    have x1 : ((m : Int) != (n : Int)) = true := by simp; omega
    go_enter Tryd.func67, Tryd.ntmps67
    go_wp2
    go_ret
    exact ⟨rfl, Below.refl _ _⟩
  have heq : ps.length = qs.length := by omega
  have x1 : ((ps.length : Int) != (qs.length : Int)) = false := by rw [heq]; simp
  have HP := Lib.hid rX
  have HQ := Lib.hid rY
  obtain ⟨R, hR⟩ : ∃ R, cmp3 (val ps) (val qs) = R := ⟨_, rfl⟩
  rw [hR]
  have HR := Lib.hid hR
  clear nX nY rX rY hR
  go_enter Tryd.func67, Tryd.ntmps67
  go_wp2
  generalize hn : qs.length = n at *
  go_loopw [5] (fun v wr => ∃ k : Nat, v = .int .i64 ((k : Int) - 1) ∧ k ≤ n ∧ Below w.heap.size w wr ∧ Hid (ps.drop k = qs.drop k)) (fun v _ => (intOf v + 1).toNat)
  case atStart => exact ⟨n, by simp [heq], Nat.le_refl _, Below.refl _ _, Lib.hid (by rw [List.drop_eq_nil_of_le (by omega), List.drop_eq_nil_of_le (by omega)])⟩
  case round =>
    obtain ⟨k, rfl, hk, hbw, hT⟩ := hrel
    by_cases hp : 0 < k
    · obtain ⟨i, rfl⟩ : ∃ i, k = i + 1 := ⟨k - 1, by omega⟩
      have e1 : (((i + 1 : Nat) : Int) - 1) = (i : Int) := by omega
      rw [e1]
      have hip : i < ps.length := by omega
      have hiq : i < qs.length := by omega
      obtain ⟨b1, o1, z1, hA, hz1, hc1⟩ := HP.out i hip
      obtain ⟨b2, o2, z2, hB, hz2, hc2⟩ := HQ.out i hiq
      rw [List.getElem?_eq_getElem hip] at hz1
      rw [List.getElem?_eq_getElem hiq] at hz2
      injection hz1 with hz1
      injection hz2 with hz2
      have hd1 := cell_later hbw hc1
      have hd2 := cell_later hbw hc2
      have hb1 : b1 < wr.heap.size := Nat.lt_of_lt_of_le (World.block_lt_of_cell? w _ hc1) hbw.size
      have hb2 : b2 < wr.heap.size := Nat.lt_of_lt_of_le (World.block_lt_of_cell? w _ hc2) hbw.size
      subst hA hB
      have hlt1 : z1 < z2 → R = -1 := fun h => by
        have := val_lt_at hX2 hY2 i hip hiq hT.out (by rw [hz1, hz2]; exact h)
        rw [← HR.out, cmp3, if_pos this]
      have hlt2 : z2 < z1 → R = 1 := fun h => by
        have := val_lt_at hY2 hX2 i hiq hip hT.out.symm (by rw [hz1, hz2]; exact h)
        rw [← HR.out, cmp3, if_neg (by omega), if_pos this]
      have heq2 : z1 = z2 → Hid (ps.drop i = qs.drop i) := fun h => Lib.hid (by
        rw [List.drop_eq_getElem_cons hip, List.drop_eq_getElem_cons hiq, hT.out, hz1, hz2, h])
      clear hc1 hc2 hz1 hz2 hT
      rcases Int.lt_trichotomy z1 z2 with h | h | h
      · have hRe := hlt1 h
        subst hRe
        clear hlt1 hlt2 heq2 HR
        go_wp2
        go_quiet (fail)
        go_wp2
        go_ret
        exact ⟨rfl, hbw.trans ⟨rfl, rfl, rfl, Nat.le_refl _, fun _ _ => rfl⟩⟩
      · have hRe := heq2 h
        clear hlt1 hlt2 heq2
        subst h
        go_wp2
        go_quiet (fail)
        go_wp2
        go_quiet (fail)
        go_wp2
        go_roundw
        case rel => exact ⟨i, by rfl, by omega, hbw.trans ⟨rfl, rfl, rfl, Nat.le_refl _, fun _ _ => rfl⟩, hRe⟩
        case measure => simp [intOf]
      · have hRe := hlt2 h
        subst hRe
        have hnl : ¬ z1 < z2 := by omega
        clear hlt1 hlt2 heq2 HR
        go_wp2
        go_quiet (fail)
        go_wp2
        go_quiet (fail)
        go_wp2
        go_ret
        exact ⟨rfl, hbw.trans ⟨rfl, rfl, rfl, Nat.le_refl _, fun _ _ => rfl⟩⟩
    · have hk0 : k = 0 := by omega
      subst hk0
      have hRe : R = 0 := by
        have := hT.out
        rw [List.drop_zero, List.drop_zero] at this
        rw [← HR.out, this, cmp3, if_neg (by omega), if_neg (by omega)]
      subst hRe
      clear hT HR
      go_wp2
      go_ret
      exact ⟨rfl, hbw⟩
end Go.Proofs.YtegdbcnloodljaaDoor
