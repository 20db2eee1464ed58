/- The law's same, lent, spoil, back. -/
import Derived.Test.YtegdbcnloodljaaDoorCan
import Derived.Test.YtegdbcnloodljaaDoorW5
import Derived.BigQuiet
import Derived.Deep.QuietTactic
namespace Go.Proofs.YtegdbcnloodljaaDoor
set_option linter.unusedVariables false
set_option linter.unusedSimpArgs false
open Go.RowKit
set_option maxRecDepth 1000000

theorem FrI.set {w : World} {base : Nat} {k : IntKind} {b off : Nat} {zs : List Int} (h : FrI w base k (some ⟨b, off, none⟩) zs) (i : Nat) (hi : i < zs.length) (z : Int) : FrI (w.setCell ⟨b, off + i, none⟩ (.int k z)) base k (some ⟨b, off, none⟩) (zs.set i z) := fun j hj => by
  rw [List.length_set] at hj
  obtain ⟨b', off', z', hA, hB, hz, hc, hf⟩ := h j hj
  injection hA with hA
  injection hA with e1 e2 _
  subst e1 e2
  by_cases hij : j = i
  · subst hij
    refine ⟨b, off, z, rfl, hB, by rw [List.getElem?_set_self hj], World.cell?_setCell_same' _ _ _ (by rw [hc]; rfl), by rw [World.frozen?_setCell]; exact hf⟩
  · refine ⟨b, off, z', rfl, hB, by rw [List.getElem?_set_ne (by omega)]; exact hz, ?_, by rw [World.frozen?_setCell]; exact hf⟩
    rw [World.cell?_setCell_other _ _ _ _ (fun e => by injection e; omega)]; exact hc

/-- only what lies where A points is turned. -/
def But (A : Option Addr) (n : Nat) (w w' : World) : Prop := ∀ k, (0 < n → ∀ ad, A = some ad → ad.block ≠ k) → k < w.heap.size → ∀ o, w'.cell? ⟨k, o, none⟩ = w.cell? ⟨k, o, none⟩ ∧ w'.frozen? ⟨k, o, none⟩ = w.frozen? ⟨k, o, none⟩

theorem can_block {w : World} {base : Nat} {O : Option Int} {A : Option Addr} {c : Nat} (h : CanAt w base O A c) : 0 < (cz O).length → ∀ ad, A = some ad → base ≤ ad.block ∧ ad.block < w.heap.size := fun h0 ad hA => by
  obtain ⟨b, off, z, hA2, hB, _, hc, _⟩ := h.2.2 0 h0
  rw [hA] at hA2
  injection hA2 with hA2
  subst hA2
  exact ⟨hB, World.block_lt_of_cell? w _ hc⟩

set_option maxHeartbeats 1000000 in
theorem same_ok (b : Bool) (A B : Option Addr) (c d : Nat) (zs : List Int) (w : World) (hr : RdI w .u32 A zs) (hs : RdI w .u32 B zs) (hl : zs.length ≤ c) (hc : c ≤ 9223372036854775807) (hl2 : zs.length ≤ d) (hd : d ≤ 9223372036854775807) :
    Calls Tryd.prog 18 #[.agg #[.bool b, .slice A zs.length c], .agg #[.bool b, .slice B zs.length d]] w fun e w' => e = .returned (.bool true) ∧ Below w.heap.size w w' := by
  obtain ⟨W2, hW2⟩ : ∃ W2, (w.alloc (.cells #[.bool b, .slice A zs.length c] 24)).alloc (.cells #[.bool b, .slice B zs.length d] 24) = W2 := ⟨_, rfl⟩
  have hw2 : Below w.heap.size w W2 := by rw [← hW2]; exact ((Below.refl _ _).alloc (Nat.le_refl _) _).alloc (by simp) _
  have hbox := fun W h => boxes2p w (.bool b) (.slice A zs.length c) (.bool b) (.slice B zs.length d) W h
  rw [hW2] at hbox
  have x0 : (b != b) = false := by simp
  have x1 : ((zs.length : Int) != (zs.length : Int)) = false := by simp
  have HU := Lib.hid hr
  have HV := Lib.hid hs
  have hB : ∀ W, Below (w.heap.size + 2) W2 W → Below w.heap.size w W := fun W h => hw2.trans (h.mono (by omega))
  obtain ⟨j1, j2, j3, j4, j5⟩ := hbox W2 (Below.refl _ _)
  clear hr hs
  go_enter Tryd.func18, Tryd.ntmps18
  go_wp2
  go_loopw [5] (fun v wr => ∃ k : Nat, v = .int .i64 k ∧ k ≤ zs.length ∧ Below (w.heap.size + 2) W2 wr) (fun v _ => zs.length - (intOf v).toNat)
  case atStart => exact ⟨0, rfl, Nat.zero_le _, Below.refl _ _⟩
  case round =>
    obtain ⟨k, rfl, hk, hbw⟩ := hrel
    obtain ⟨j1, j2, j3, j4, j5⟩ := hbox wr hbw
    have hbl := hB wr hbw
    by_cases hp : k < zs.length
    · obtain ⟨b1, o1, z1, hA, ez1, hc1⟩ := HU.out k hp
      obtain ⟨b2, o2, z2, hA2, ez2, hc2⟩ := HV.out k hp
      rw [ez1] at ez2
      injection ez2 with ez2
      subst ez2
      have hd1 := cell_later hbl hc1
      have hd2 := cell_later hbl hc2
      have hb1 : b1 < wr.heap.size := Nat.lt_of_lt_of_le (World.block_lt_of_cell? w _ hc1) hbl.size
      have hb2 : b2 < wr.heap.size := Nat.lt_of_lt_of_le (World.block_lt_of_cell? w _ hc2) hbl.size
      have x9 : (z1 != z1) = false := by simp
      have hp2 : (k : Int) < (zs.length : Int) := by omega
      clear hc1 hc2 ez1
      subst hA hA2
      go_wp2
      go_quiet (fail)
      go_wp2
      go_roundw
      case rel => exact ⟨k + 1, by go_num, by omega, hbw.trans ⟨rfl, rfl, rfl, Nat.le_refl _, fun _ _ => rfl⟩⟩
      case measure => simp [intOf]; omega
    · have hk2 : k = zs.length := by omega
      subst hk2
      go_wp2
      go_ret
      exact ⟨rfl, hbl⟩

set_option maxHeartbeats 1000000 in
theorem spoil_ok (b : Bool) (A : Option Addr) (c : Nat) (zs : List Int) (base : Nat) (w : World) (hf : FrI w base .u32 A zs) (hb : base ≤ w.heap.size) (hl : zs.length ≤ c) (hc : c ≤ 9223372036854775807) :
    Calls Tryd.prog 24 #[.agg #[.bool b, .slice A zs.length c]] w fun e w' => e = .returned (.tuple #[]) ∧ Below base w w' ∧ But A zs.length w w' := by
  obtain ⟨W1, hW1⟩ : ∃ W1, w.alloc (.cells #[.bool b, .slice A zs.length c] 24) = W1 := ⟨_, rfl⟩
  have hw1 : Below w.heap.size w W1 := by rw [← hW1]; exact (Below.refl _ _).alloc (Nat.le_refl _) _
  have hs1 : W1.heap.size = w.heap.size + 1 := by rw [← hW1]; simp
  have hcell : W1.cell? ⟨w.heap.size, 1, none⟩ = some (.slice A zs.length c) := by rw [← hW1]; simp [go_sem]
  have hbut : But A zs.length w W1 := by
    obtain ⟨ko, kf⟩ := oldCells hw1
    exact fun k _ hk o => ⟨ko k o hk, kf k o hk⟩
  have HF := Lib.hid hf
  clear hf
  go_enter Tryd.func24, Tryd.ntmps24
  go_wp2
  go_loopw [2] (fun v wr => ∃ (k : Nat) (fs : List Int), v = .int .i64 k ∧ k ≤ zs.length ∧ fs.length = zs.length ∧ FrI wr base .u32 A fs ∧ Below base w wr ∧ w.heap.size < wr.heap.size ∧ But A zs.length w wr ∧ wr.cell? ⟨w.heap.size, 1, none⟩ = some (.slice A zs.length c)) (fun v _ => zs.length - (intOf v).toNat)
  case atStart => exact ⟨0, zs, rfl, Nat.zero_le _, rfl, HF.out.later hw1, hw1.mono hb, by omega, hbut, hcell⟩
  case round =>
    obtain ⟨k, fs, rfl, hk, hfl, hF, hbw, hsz, hbt, hcl⟩ := hrel
    by_cases hp : k < zs.length
    · obtain ⟨b1, o1, z1, hA, hB1, ez1, hc1, hf1⟩ := hF k (by omega)
      obtain ⟨b2, o2, z2, hA2, _, _, hc2, _⟩ := HF.out k hp
      have hlt2 := World.block_lt_of_cell? w _ hc2
      have hb1 : b1 < wr.heap.size := World.block_lt_of_cell? wr _ hc1
      subst hA
      injection hA2 with hA2
      injection hA2 with e1 e2 _
      subst e1 e2
      have hp2 : (k : Int) < (zs.length : Int) := by omega
      have hF2 := hF.set k (by omega) 99
      have hne : b1 ≠ w.heap.size := by
        have : (⟨b1, o1 + k, none⟩ : Addr).block < w.heap.size := hlt2
        simp at this; omega
      clear hc2 hlt2
      go_wp2
      go_roundw
      case rel =>
        refine ⟨k + 1, fs.set k 99, by go_num, by omega, by rw [List.length_set]; exact hfl, hF2, hbw.setCell (p := ⟨b1, o1 + k, none⟩) hB1 _, by rw [World.size_setCell]; exact hsz, ?_, ?_⟩
        · intro j hj hj2 o
          have hjb : b1 ≠ j := hj (by omega) _ rfl
          rw [World.frozen?_setCell, World.cell?_setCell_other _ _ _ _ (fun e => hjb (by injection e))]
          exact hbt j hj hj2 o
        · rw [World.cell?_setCell_other _ _ _ _ (fun e => hne (by injection e))]; exact hcl
      case measure => simp [intOf]; omega
    · have hk2 : k = zs.length := by omega
      subst hk2
      go_wp2
      go_end0
      exact ⟨rfl, hbw, hbt⟩

theorem own_some {w : World} {base : Nat} {e : TypeId} {v : Value} {n : Nat} {xs : List Value} (h : w.ownsRow base e 1 v n xs) (hn : 0 < n) : ∃ g c, v = .slice (some ⟨g, 0, none⟩) n c ∧ n ≤ c ∧ c ≤ maxLen := by
  obtain ⟨A, c, rfl, h1, h2, _⟩ := own_form h
  rcases h.2 with ⟨hv, hn0⟩ | ⟨g, cap, cur, hv, _⟩
  · omega
  · injection hv with hv _ _
    exact ⟨g, c, by rw [hv], h1, h2⟩

set_option maxHeartbeats 2000000 in
theorem lent_ok (b : Bool) (A : Option Addr) (c : Nat) (zs : List Int) (w : World) (hr : RdI w .u32 A zs) (hl : zs.length ≤ c) (hc : c ≤ 9223372036854775807) (hm : zs.length ≤ 1000000) :
    Calls Tryd.prog 21 #[.agg #[.bool b, .slice A zs.length c]] w fun e w' => ∃ g c', e = .returned (.agg #[.bool b, .slice (some ⟨g, 0, none⟩) zs.length c']) ∧ zs.length + 1 ≤ c' ∧ c' ≤ 9223372036854775807 ∧ RdI w' .u32 (some ⟨g, 0, none⟩) (zs ++ [77]) ∧ Below w.heap.size w w' := by
  obtain ⟨i0, hi0, hz0, hz1, hz2⟩ := info_parts u32_info
  obtain ⟨W2, hW2⟩ : ∃ W2, (w.alloc (.cells #[.bool b, .slice A zs.length c] 24)).alloc (.cells #[.bool false, .slice none 0 0] 24) = W2 := ⟨_, rfl⟩
  have hw2 : Below w.heap.size w W2 := by rw [← hW2]; exact ((Below.refl _ _).alloc (Nat.le_refl _) _).alloc (by simp) _
  have hs2 : W2.heap.size = w.heap.size + 2 := by rw [← hW2]; simp
  have hbox := fun W h => boxes2 w (.bool b) (.slice A zs.length c) W h
  rw [hW2] at hbox
  obtain ⟨j1, j2, j3, j4, j5, j6, j7⟩ := hbox W2 (Below.refl _ _)
  have hr2 := hr.later hw2
  have hfz0 : W2.frozen? ⟨w.heap.size, 1, none⟩ = false := by rw [← hW2]; simp [go_sem]
  have HL := Lib.hid (show (0 + zs.length) * 4 ≤ 140737488355328 by omega)
  clear hr
  go_enter Tryd.func21, Tryd.ntmps21
  go_wp2_with (first
    | (at_builtin; refine wpList_append_own _ rfl _ _ 22 rfl (w.heap.size + 2) 62 i0 _ 1 4 Tryd.underlying22 hi0 hz0 hz1 hz2 rfl (by decide) _ _ _ rfl (hown1.alloc _) _ 1 1 [.int .u32 77] rfl rfl (news_one _ _ _) (by simp [Value.oneCell']) (by unfold maxLen; omega) HL2.out (by have := hsz1; simp; omega) ?_; intro v3 w3 hown3 hg3 _; obtain ⟨g3, cD, rfl, lD, mD⟩ := own_some hown3 (by omega); have hg4 : (w1.alloc (.cells #[.int .u32 77] 62)).grownBy w3 (Value.slice C zs.length cC).ownBlock := hg3; have hzb3 : Below (w.heap.size + 2) W2 w3 := (hzb1.alloc hsz1 _).grown hg4 (by simp; omega) (own_base hown1); obtain ⟨i1, i2, i3, i4, i5, i6, i7⟩ := hbox w3 hzb3; have hi8 : w.heap.size + 1 < w3.heap.size := (by omega); have hfz3 : w3.frozen? ⟨w.heap.size, 1, none⟩ = false := (hzb3.frozen (p := ⟨w.heap.size, 1, none⟩) (by simp)).trans hfz0; have hrd3 : FrI w3 (w.heap.size + 2) .u32 (some ⟨g3, 0, none⟩) (zs ++ [77]) := FrI.of_own (n := zs.length + 1) (c := cD) (e := 62) (by rw [List.map_append]; exact hown3))
    | (at_builtin; refine wpList_append_ints _ rfl _ _ 22 rfl (w.heap.size + 2) 62 i0 _ 4 .u32 Tryd.underlying22 hi0 hz0 hz1 hz2 rfl (.slice none 0 0) 0 [] rfl (World.ownsRow_nil _ _ _ _) A zs.length c zs rfl rfl hr2 (by unfold maxLen; omega) HL.out (by omega) ?_; intro v1 w1 hown1 hg1 _; simp only [Nat.zero_add, List.nil_append] at hown1; obtain ⟨C, cC, rfl, lC, mC, _⟩ := own_form hown1; have hsz1 : w.heap.size + 2 ≤ w1.heap.size := (by have := hg1.size; omega); have HL2 := Lib.hid (show (zs.length + 1) * 4 ≤ 140737488355328 by omega); have hzb1 : Below (w.heap.size + 2) W2 w1 := (Below.refl _ _).grown hg1 (by omega) (by intro k hk; simp [Value.ownBlock] at hk)))
  exact bodyPost_ret (v := .agg #[.bool b, .slice (some ⟨g3, 0, none⟩) zs.length cD]) (by simp [results, Tryd.results21, go_sem, i1, i2, i3, i4, i5, i6, i7, hi8]) rfl ⟨g3, cD, rfl, lD, mD, (((hrd3.setCell (p := ⟨w.heap.size, 1, none⟩) (by simp) _).setCell (p := ⟨w.heap.size + 1, 0, none⟩) (by simp) _).setCell (p := ⟨w.heap.size + 1, 1, none⟩) (by simp) _).rd, ((((hw2.trans (hzb3.mono (by omega))).setCell (p := ⟨w.heap.size, 1, none⟩) (by simp) _).setCell (p := ⟨w.heap.size + 1, 0, none⟩) (by simp) _).setCell (p := ⟨w.heap.size + 1, 1, none⟩) (by simp) _)⟩

set_option maxHeartbeats 2000000 in
theorem back_ok (b : Bool) (A B : Option Addr) (c d : Nat) (zs : List Int) (w : World) (hr : RdI w .u32 A (zs ++ [77])) (hs : RdI w .u32 B zs) (hl : zs.length + 1 ≤ c) (hc : c ≤ 9223372036854775807) (hl2 : zs.length ≤ d) (hd : d ≤ 9223372036854775807) (hm : zs.length ≤ 1000000) :
    Calls Tryd.prog 31 #[.agg #[.bool b, .slice A zs.length c], .agg #[.bool b, .slice B zs.length d]] w fun e w' => e = .returned (.bool true) ∧ Below w.heap.size w w' := by
  obtain ⟨W2, hW2⟩ : ∃ W2, (w.alloc (.cells #[.bool b, .slice A zs.length c] 24)).alloc (.cells #[.bool b, .slice B zs.length d] 24) = W2 := ⟨_, rfl⟩
  have hw2 : Below w.heap.size w W2 := by rw [← hW2]; exact ((Below.refl _ _).alloc (Nat.le_refl _) _).alloc (by simp) _
  have hbox := fun W h => boxes2p w (.bool b) (.slice A zs.length c) (.bool b) (.slice B zs.length d) W h
  rw [hW2] at hbox
  have hB : ∀ W, Below (w.heap.size + 2) W2 W → Below w.heap.size w W := fun W h => hw2.trans (h.mono (by omega))
  obtain ⟨j1, j2, j3, j4, j5⟩ := hbox W2 (Below.refl _ _)
  have hz : Below (w.heap.size + 2) W2 W2 := Below.refl _ _
  obtain ⟨bb, ob, z, hA, ez, hcl⟩ := hr zs.length (by simp)
  have ez2 : z = 77 := by simpa using ez.symm
  subst ez2
  have hrt : RdI w .u32 A zs := by
    have := hr.take zs.length
    rwa [List.take_left] at this
  have hS := fun W h => same_ok b A B c d zs W (hrt.later (hB W h)) (hs.later (hB W h)) (by omega) hc hl2 hd
  clear hrt hr hs ez
  have hcl0 : W2.cell? ⟨bb, ob + zs.length, none⟩ = some (.int .u32 77) := cell_later hw2 hcl
  have hCl : ∀ W, Below (w.heap.size + 2) W2 W → W.cell? ⟨bb, ob + zs.length, none⟩ = some (.int .u32 77) := fun W h => cell_later (hB W h) hcl
  have hbbw := World.block_lt_of_cell? w _ hcl
  have hbb2 : bb < W2.heap.size := Nat.lt_of_lt_of_le hbbw hw2.size
  have hli : (zs.length : Int) + 1 ≤ (c : Int) := by omega
  have hl0 : (0 : Int) ≤ (zs.length : Int) := by omega
  have hl1 : (0 : Int) ≤ (zs.length : Int) + 1 := by omega
  have hl3 : (zs.length : Int) < (zs.length : Int) + 1 := by omega
  have hwr : IntKind.i64.wrap ((zs.length : Int) + 1) = (zs.length : Int) + 1 := by
    simp only [IntKind.wrap, IntKind.bits, IntKind.signed]; simp; omega
  have htn : ((zs.length : Int) + 1).toNat = zs.length + 1 := by omega
  subst hA
  clear hcl
  go_enter Tryd.func31, Tryd.ntmps31
  go_wp2_with fail
  go_region_held3 (fun W => W.cell? ⟨w.heap.size, 0, none⟩ = some (.bool b) ∧ W.cell? ⟨w.heap.size, 1, none⟩ = some (.slice (some ⟨bb, ob, none⟩) zs.length c) ∧ W.cell? ⟨w.heap.size + 1, 0, none⟩ = some (.bool b) ∧ W.cell? ⟨w.heap.size + 1, 1, none⟩ = some (.slice B zs.length d) ∧ w.heap.size + 2 ≤ W.heap.size ∧ bb < W.heap.size ∧ W.cell? ⟨bb, ob + zs.length, none⟩ = some (.int .u32 77)) (first | exact ⟨i1, i2, i3, i4, i5, hbb1, hcl1⟩ | exact ⟨j1, j2, j3, j4, j5, hbb2, hcl0⟩ | go_keep) ((go_at_call 18; refine (hS _ (by first | exact hz | exact below_drew hz)).mono ?_; rintro e w1 ⟨rfl, hb1⟩; have hz1 : Below (w.heap.size + 2) W2 w1 := (by first | exact hz.trans (hb1.mono j5) | exact (below_drew hz).trans (hb1.mono j5)); obtain ⟨i1, i2, i3, i4, i5⟩ := hbox w1 hz1; have hcl1 := hCl w1 hz1; have hbb1 : bb < w1.heap.size := Nat.lt_of_lt_of_le hbb2 hz1.size))
  all_goals
    go_wp2
    go_ret
    exact ⟨rfl, hB _ hz1⟩
end Go.Proofs.YtegdbcnloodljaaDoor
