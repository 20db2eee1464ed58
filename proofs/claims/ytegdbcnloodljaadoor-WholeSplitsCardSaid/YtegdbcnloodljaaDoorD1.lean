/- whole.take, whole.give: a multiple of a row taken from, a row given back to a part of another. -/
import Derived.Test.YtegdbcnloodljaaDoorD0
import Derived.Test.YtegdbcnloodljaaDoorW6
import Derived.Test.YtegdbcnloodljaaDoorW10
import Derived.Test.YtegdbcnloodljaaDoorLawHelp
namespace Go.Proofs.YtegdbcnloodljaaDoor
set_option linter.unusedVariables false
set_option linter.unusedSimpArgs false
open Go.RowKit
set_option maxRecDepth 1000000

/-- a row of words at the head of a block. -/
def RowU (w : World) (g : Nat) (ws : List Int) : Prop := ∀ i, i < ws.length → ∃ z, ws[i]? = some z ∧ w.cell? ⟨g, i, none⟩ = some (.int .u32 z) ∧ w.frozen? ⟨g, i, none⟩ = false
/-- one block alone is written. -/
def Only (g : Nat) (w w' : World) : Prop := w.heap.size ≤ w'.heap.size ∧ ∀ k, k ≠ g → k < w.heap.size → ∀ o, w'.cell? ⟨k, o, none⟩ = w.cell? ⟨k, o, none⟩ ∧ w'.frozen? ⟨k, o, none⟩ = w.frozen? ⟨k, o, none⟩
theorem Only.refl (g : Nat) (w : World) : Only g w w := ⟨Nat.le_refl _, fun _ _ _ _ => ⟨rfl, rfl⟩⟩
theorem Only.trans {g : Nat} {w w' w'' : World} (h : Only g w w') (h' : Only g w' w'') : Only g w w'' :=
  ⟨Nat.le_trans h.1 h'.1, fun k hk hl o => ⟨(h'.2 k hk (Nat.lt_of_lt_of_le hl h.1) o).1.trans (h.2 k hk hl o).1, (h'.2 k hk (Nat.lt_of_lt_of_le hl h.1) o).2.trans (h.2 k hk hl o).2⟩⟩
theorem Only.set {g o : Nat} {w w' : World} {v : Value} (h : Only g w w') : Only g w (w'.setCell ⟨g, o, none⟩ v) := by
  refine ⟨by rw [World.size_setCell]; exact h.1, fun k hk hl j => ?_⟩
  rw [World.frozen?_setCell, World.cell?_setCell_other _ _ _ _ (fun e => hk (by injection e with e; exact e.symm))]
  exact h.2 k hk hl j
theorem Only.below {g : Nat} {w w' : World} (h : Below w.heap.size w w') : Only g w w' := by
  obtain ⟨ko, kf⟩ := oldCells h
  exact ⟨h.size, fun k _ hl o => ⟨ko k o hl, kf k o hl⟩⟩
theorem RowU.only {w w' : World} {g g' : Nat} {ws : List Int} (h : RowU w g' ws) (hne : g' ≠ g) (ho : Only g w w') : RowU w' g' ws := fun i hi => by
  obtain ⟨z, h1, h2, h3⟩ := h i hi
  have h4 := ho.2 g' hne (World.block_lt_of_cell? _ _ h2) i
  exact ⟨z, h1, h4.1.trans h2, h4.2.trans h3⟩
theorem RowU.later {w w' : World} {g : Nat} {ws : List Int} (h : RowU w g ws) (hb : Below w.heap.size w w') : RowU w' g ws := h.only (g := g + 1) (by omega) (Only.below hb)
theorem RdI.only {w w' : World} {g : Nat} {k : IntKind} {A : Option Addr} {zs : List Int} (h : RdI w k A zs) (hne : 0 < zs.length → ∀ ad, A = some ad → ad.block ≠ g) (ho : Only g w w') : RdI w' k A zs := fun i hi => by
  obtain ⟨b, off, z, hA, hz, hc⟩ := h i hi
  exact ⟨b, off, z, hA, hz, (ho.2 b (hne (by omega) _ hA) (World.block_lt_of_cell? _ _ hc) _).1.trans hc⟩
theorem RowU.set {w : World} {g : Nat} {ws : List Int} (h : RowU w g ws) (i : Nat) (hi : i < ws.length) (z : Int) : RowU (w.setCell ⟨g, i, none⟩ (.int .u32 z)) g (ws.set i z) := fun j hj => by
  rw [List.length_set] at hj
  obtain ⟨z', h1, h2, h3⟩ := h j hj
  by_cases e : i = j
  · subst e
    exact ⟨z, by rw [List.getElem?_set_self hi], World.cell?_setCell_same' _ _ _ (by rw [h2]; rfl), by rw [World.frozen?_setCell]; exact h3⟩
  · exact ⟨z', by rw [List.getElem?_set_ne e]; exact h1, by rw [World.cell?_setCell_other _ _ _ _ (fun e' => e (by injection e'))]; exact h2, by rw [World.frozen?_setCell]; exact h3⟩
theorem RowU.rd {w : World} {g : Nat} {ws : List Int} (h : RowU w g ws) (j : Nat) : RdI w .u32 (some ⟨g, j, none⟩) (ws.drop j) := fun i hi => by
  rw [List.length_drop] at hi
  obtain ⟨z, h1, h2, h3⟩ := h (j + i) (by omega)
  exact ⟨g, j, z, rfl, by rw [List.getElem?_drop]; exact h1, h2⟩
theorem RowU.fr {w : World} {g base : Nat} {ws : List Int} (h : RowU w g ws) (hb : base ≤ g) : FrI w base .u32 (some ⟨g, 0, none⟩) ws := fun i hi => by
  obtain ⟨z, h1, h2, h3⟩ := h i hi
  exact ⟨g, 0, z, rfl, hb, h1, by rw [Nat.zero_add]; exact h2, by rw [Nat.zero_add]; exact h3⟩
theorem RowU.of_fr {w : World} {g base : Nat} {ws : List Int} (h : FrI w base .u32 (some ⟨g, 0, none⟩) ws) : RowU w g ws := fun i hi => by
  obtain ⟨b, off, z, hA, hB, hz, hc, hf⟩ := h i hi
  injection hA with hA
  injection hA with e1 e2 _
  subst e1 e2
  rw [Nat.zero_add] at hc hf
  exact ⟨z, hz, hc, hf⟩

theorem prod_bound {x y : Int} (hx : 0 ≤ x ∧ x ≤ 4294967295) (hy : 0 ≤ y ∧ y ≤ 4294967295) : 0 ≤ x * y ∧ x * y ≤ 18446744065119617025 := by
  refine ⟨Int.mul_nonneg hx.1 hy.1, ?_⟩
  have h1 : x * y ≤ 4294967295 * y := Int.mul_le_mul_of_nonneg_right hx.2 hy.1
  omega

set_option maxHeartbeats 2000000 in
theorem take_ok (g j base cu cv : Nat) (ws vs : List Int) (V : Option Addr) (d : Int) (w : World) (hW : W32 ws) (hV : W32 vs) (hu : RowU w g ws) (hg : base ≤ g) (hj : j + vs.length + 1 ≤ ws.length) (hv : RdI w .u32 V vs) (hne : 0 < vs.length → ∀ ad, V = some ad → ad.block ≠ g)
    (hd0 : 0 ≤ d) (hd1 : d ≤ 4294967295) (hcu : vs.length + 1 ≤ cu) (hcu2 : cu ≤ 9223372036854775807) (hcv : vs.length ≤ cv) (hcv2 : cv ≤ 9223372036854775807) (hm : ws.length ≤ 1000000) :
    Calls Tryd.prog 86 #[.slice (some ⟨g, j, none⟩) (vs.length + 1) cu, .slice V vs.length cv, .int .u64 d] w fun e w' => ∃ (ws' : List Int) (bo : Int), e = .returned (.bool (bo != 0)) ∧ (bo = 0 ∨ bo = 1) ∧
      (ws'.length = ws.length ∧ W32 ws' ∧ ws'.drop (j + vs.length + 1) = ws.drop (j + vs.length + 1) ∧ val ws' + 4294967296 ^ j * (d * val vs) = val ws + 4294967296 ^ (j + vs.length + 1) * bo) ∧ RowU w' g ws' ∧ Only g w w' ∧ Below base w w' := by
  have HV := Lib.hid hv
  go_enter Tryd.func86, Tryd.ntmps86
  go_wp2
  go_loopw [7, 8, 13] (fun v7 v8 v13 wr => ∃ (i : Nat) (c bo : Int) (fs : List Int), v7 = .int .u64 c ∧ v8 = .int .u32 bo ∧ v13 = .int .i64 i ∧ i ≤ vs.length ∧ 0 ≤ c ∧ c ≤ 4294967295 ∧ 0 ≤ bo ∧ bo ≤ 1 ∧ Hid (TakI vs ws d j i (c + bo) fs) ∧ RowU wr g fs ∧ Only g w wr ∧ Below base w wr) (fun _ _ v13 _ => vs.length - (intOf v13).toNat)
  case atStart => exact ⟨0, 0, 0, ws, rfl, rfl, rfl, Nat.zero_le _, by omega, by omega, by omega, by omega, Lib.hid ⟨rfl, hW, rfl, by simp [val]⟩, hu, Only.refl _ _, Below.refl _ _⟩
  case round =>
    obtain ⟨i, c, bo, fs, rfl, rfl, rfl, hi, hc0, hc1, hb0, hb1, hT, hR, hO, hB⟩ := hrel
    have hfl : fs.length = ws.length := hT.out.1
    obtain ⟨old, ho, hoc, hof⟩ := hR (j + i) (by omega)
    have hob := hT.out.2.1.getD (j + i)
    rw [ho] at hob
    have hob : 0 ≤ old ∧ old ≤ 4294967295 := hob
    have hgl : g < wr.heap.size := World.block_lt_of_cell? _ _ hoc
    by_cases hp : i < vs.length
    · obtain ⟨b1, o1, x, rfl, hx, hxc⟩ := HV.out i hp
      have hxc := (hO.2 b1 (hne (by omega) _ rfl) (World.block_lt_of_cell? _ _ hxc) (o1 + i)).1.trans hxc
      have hxl : b1 < wr.heap.size := World.block_lt_of_cell? _ _ hxc
      have hxb := hV.getD i
      rw [hx] at hxb
      have hxb : 0 ≤ x ∧ x ≤ 4294967295 := hxb
      obtain ⟨pq, hpq⟩ : ∃ pq, d * x = pq := ⟨_, rfl⟩
      have hpb := prod_bound ⟨hd0, hd1⟩ hxb
      rw [hpq] at hpb
      have ewp : IntKind.u64.wrap (d * x) = pq := by rw [wrapU64, hpq]; omega
      obtain ⟨C, hC⟩ : ∃ C, c + pq = C := ⟨_, rfl⟩
      have ewc : IntKind.u64.wrap (c + pq) = C := by rw [wrapU64, hC]; omega
      have hCb : 0 ≤ C ∧ C < 18446744073709551616 := by omega
      obtain ⟨lo, hlo⟩ : ∃ lo, C % 4294967296 = lo := ⟨_, rfl⟩
      obtain ⟨hi', hhi⟩ : ∃ hi', C / 4294967296 = hi' := ⟨_, rfl⟩
      have ew : IntKind.u32.wrap C = lo := by rw [wrapU32]; exact hlo
      have hlb : 0 ≤ lo ∧ lo ≤ 4294967295 := by omega
      have hhb : 0 ≤ hi' ∧ hi' ≤ 4294967295 := by omega
      have hsub := fun wx => sub32_ok old lo bo wx hob hlb ⟨hb0, hb1⟩
      obtain ⟨z, hz⟩ : ∃ z, (old - lo - bo) % 4294967296 = z := ⟨_, rfl⟩
      obtain ⟨b2, hb2⟩ : ∃ b2 : Int, (if old < lo + bo then 1 else 0) = b2 := ⟨_, rfl⟩
      rw [hz, hb2] at hsub
      have hzb : 0 ≤ z ∧ z ≤ 4294967295 := by omega
      have h2b : 0 ≤ b2 ∧ b2 ≤ 1 := by rw [← hb2]; split <;> omega
      have he : z - 4294967296 * b2 = old - lo - bo := by rw [← hb2, ← hz]; split <;> omega
      have HS := Lib.hid (takI_step hT.out (z := z) (x := x) (old := old) (cr' := hi' + b2) (by omega) (by rw [hx, Option.getD_some]) (by rw [ho, Option.getD_some]) hzb.1 hzb.2 (by rw [hpq]; omega))
      have HZ := Lib.hid (And.intro hzb (And.intro h2b hhb))
      have hRs := hR.set (j + i) (by omega) z
      clear hT hz hb2 hzb h2b hhb he hC hlo hx hpq hR
      have hp2 : (i : Int) < (vs.length : Int) := by omega
      go_wp2_with (go_at_call 79; refine (hsub _).mono ?_; rintro e w' ⟨rfl, rfl⟩)
      go_roundw
      case rel =>
        exact ⟨i + 1, hi', b2, fs.set (j + i) z, by first | rfl | (rw [hhi]), rfl, by go_num, by omega, HZ.out.2.2.1, HZ.out.2.2.2, HZ.out.2.1.1, HZ.out.2.1.2, HS, hRs, hO.set, hB.setCell (p := ⟨g, j + i, none⟩) hg _⟩
      case measure => simp [intOf]; omega
    · have hk : i = vs.length := by omega
      subst hk
      have ew : IntKind.u32.wrap c = c := by rw [wrapU32]; omega
      have hsub := fun wx => sub32_ok old c bo wx hob ⟨hc0, hc1⟩ ⟨hb0, hb1⟩
      obtain ⟨z, hz⟩ : ∃ z, (old - c - bo) % 4294967296 = z := ⟨_, rfl⟩
      obtain ⟨b2, hb2⟩ : ∃ b2 : Int, (if old < c + bo then 1 else 0) = b2 := ⟨_, rfl⟩
      rw [hz, hb2] at hsub
      have hzb : 0 ≤ z ∧ z ≤ 4294967295 := by omega
      have h2b : b2 = 0 ∨ b2 = 1 := by rw [← hb2]; split <;> simp
      have he : z - 4294967296 * b2 = old - c - bo := by rw [← hb2, ← hz]; split <;> omega
      have HS := Lib.hid (takI_end hT.out (z := z) (old := old) (bo := b2) (by omega) rfl (by rw [ho, Option.getD_some]) hzb.1 hzb.2 (by omega))
      have HZ := Lib.hid h2b
      have hRs := hR.set (j + vs.length) (by omega) z
      clear hT hz hb2 hzb h2b he hR
      go_wp2_with (go_at_call 79; refine (hsub _).mono ?_; rintro e w' ⟨rfl, rfl⟩)
      go_ret
      exact ⟨_, b2, rfl, HZ.out, HS.out, hRs, hO.set, hB.setCell (p := ⟨g, j + vs.length, none⟩) hg _⟩

set_option maxHeartbeats 2000000 in
theorem give_ok (g j base cu cv : Nat) (ws vs : List Int) (V : Option Addr) (w : World) (hW : W32 ws) (hV : W32 vs) (hu : RowU w g ws) (hg : base ≤ g) (hj : j + vs.length + 1 ≤ ws.length) (hv : RdI w .u32 V vs) (hne : 0 < vs.length → ∀ ad, V = some ad → ad.block ≠ g)
    (hcu : vs.length + 1 ≤ cu) (hcu2 : cu ≤ 9223372036854775807) (hcv : vs.length ≤ cv) (hcv2 : cv ≤ 9223372036854775807) (hm : ws.length ≤ 1000000) :
    Calls Tryd.prog 87 #[.slice (some ⟨g, j, none⟩) (vs.length + 1) cu, .slice V vs.length cv] w fun e w' => ∃ (ws' : List Int) (k : Int), e = .returned (.tuple #[]) ∧ (k = 0 ∨ k = 1) ∧
      (ws'.length = ws.length ∧ W32 ws' ∧ ws'.drop (j + vs.length + 1) = ws.drop (j + vs.length + 1) ∧ val ws' + 4294967296 ^ j * (-1 * val vs) = val ws + 4294967296 ^ (j + vs.length + 1) * (-k)) ∧ RowU w' g ws' ∧ Only g w w' ∧ Below base w w' := by
  have HV := Lib.hid hv
  go_enter Tryd.func87, Tryd.ntmps87
  go_wp2
  go_loopw [4, 9] (fun v4 v9 wr => ∃ (i : Nat) (c : Int) (fs : List Int), v4 = .int .u32 c ∧ v9 = .int .i64 i ∧ i ≤ vs.length ∧ 0 ≤ c ∧ c ≤ 1 ∧ Hid (TakI vs ws (-1) j i (-c) fs) ∧ RowU wr g fs ∧ Only g w wr ∧ Below base w wr) (fun _ v9 _ => vs.length - (intOf v9).toNat)
  case atStart => exact ⟨0, 0, ws, rfl, rfl, Nat.zero_le _, by omega, by omega, Lib.hid ⟨rfl, hW, rfl, by simp [val]⟩, hu, Only.refl _ _, Below.refl _ _⟩
  case round =>
    obtain ⟨i, c, fs, rfl, rfl, hi, hc0, hc1, hT, hR, hO, hB⟩ := hrel
    have hfl : fs.length = ws.length := hT.out.1
    obtain ⟨old, ho, hoc, hof⟩ := hR (j + i) (by omega)
    have hob := hT.out.2.1.getD (j + i)
    rw [ho] at hob
    have hob : 0 ≤ old ∧ old ≤ 4294967295 := hob
    have hgl : g < wr.heap.size := World.block_lt_of_cell? _ _ hoc
    by_cases hp : i < vs.length
    · obtain ⟨b1, o1, x, rfl, hx, hxc⟩ := HV.out i hp
      have hxc := (hO.2 b1 (hne (by omega) _ rfl) (World.block_lt_of_cell? _ _ hxc) (o1 + i)).1.trans hxc
      have hxl : b1 < wr.heap.size := World.block_lt_of_cell? _ _ hxc
      have hxb := hV.getD i
      rw [hx] at hxb
      have hxb : 0 ≤ x ∧ x ≤ 4294967295 := hxb
      have hadd := fun wx => add32_ok old x c wx hob hxb ⟨hc0, hc1⟩
      obtain ⟨z, hz⟩ : ∃ z, (old + x + c) % 4294967296 = z := ⟨_, rfl⟩
      obtain ⟨c2, hc2⟩ : ∃ c2, (old + x + c) / 4294967296 = c2 := ⟨_, rfl⟩
      rw [hz, hc2] at hadd
      have hzb : 0 ≤ z ∧ z ≤ 4294967295 := by omega
      have h2b : 0 ≤ c2 ∧ c2 ≤ 1 := by omega
      have HS := Lib.hid (takI_step hT.out (z := z) (x := x) (old := old) (cr' := -c2) (by omega) (by rw [hx, Option.getD_some]) (by rw [ho, Option.getD_some]) hzb.1 hzb.2 (by omega))
      have HZ := Lib.hid (And.intro hzb h2b)
      have hRs := hR.set (j + i) (by omega) z
      clear hT hz hc2 hzb h2b hx hR
      have hp2 : (i : Int) < (vs.length : Int) := by omega
      go_wp2_with (go_at_call 78; refine (hadd _).mono ?_; rintro e w' ⟨rfl, rfl⟩)
      go_roundw
      case rel =>
        exact ⟨i + 1, c2, fs.set (j + i) z, rfl, by go_num, by omega, HZ.out.2.1, HZ.out.2.2, HS, hRs, hO.set, hB.setCell (p := ⟨g, j + i, none⟩) hg _⟩
      case measure => simp [intOf]; omega
    · have hk : i = vs.length := by omega
      subst hk
      obtain ⟨z, hz⟩ : ∃ z, (old + c) % 4294967296 = z := ⟨_, rfl⟩
      obtain ⟨k, hkk⟩ : ∃ k, (old + c) / 4294967296 = k := ⟨_, rfl⟩
      have ew : IntKind.u32.wrap (old + c) = z := by rw [wrapU32]; exact hz
      have hzb : 0 ≤ z ∧ z ≤ 4294967295 := by omega
      have h2b : k = 0 ∨ k = 1 := by omega
      have HS := Lib.hid (takI_end hT.out (z := z) (old := old) (bo := -k) (by omega) rfl (by rw [ho, Option.getD_some]) hzb.1 hzb.2 (by omega))
      have HZ := Lib.hid h2b
      have hRs := hR.set (j + vs.length) (by omega) z
      clear hT hz hkk hzb h2b hR
      go_wp2
      go_end0
      exact ⟨_, k, rfl, HZ.out, HS.out, hRs, hO.set, hB.setCell (p := ⟨g, j + vs.length, none⟩) hg _⟩

theorem or_low2 (r z : Int) (h0 : 0 ≤ r) (h1 : r < 4294967296) (hz0 : 0 ≤ z) (hz1 : z ≤ 4294967295) : bits BinOp.or IntKind.u64 (r * 4294967296) z = r * 4294967296 + z := by
  refine or_join 32 _ _ (by omega) (by omega) (by omega) (by omega) ?_ ?_
  · obtain ⟨n, rfl⟩ := Int.eq_ofNat_of_zero_le h0
    have : ((n : Int) * 4294967296).toNat = n * 4294967296 := by omega
    rw [this]; exact Nat.mul_mod_left n (2 ^ 32)
  · have : (2 : Nat) ^ 32 = 4294967296 := by rfl
    omega

set_option maxHeartbeats 2000000 in
theorem guess_ok (u2 u1 u0 v1 v0 : Int) (w : World) (h2 : 0 ≤ u2 ∧ u2 ≤ 4294967295) (h1 : 0 ≤ u1 ∧ u1 ≤ 4294967295) (h0 : 0 ≤ u0 ∧ u0 ≤ 4294967295) (g1 : 0 ≤ v1 ∧ v1 ≤ 4294967295) (g0 : 0 ≤ v0 ∧ v0 ≤ 4294967295) :
    Calls Tryd.prog 85 #[.int .u32 u2, .int .u32 u1, .int .u32 u0, .int .u32 v1, .int .u32 v0] w fun e w' => ∃ d, e = .returned (.int .u64 d) ∧ GuessOk u2 u1 u0 v1 v0 d ∧ Below w.heap.size w w' := by
  by_cases hb : v1 ≤ u2
  · have hG : GuessOk u2 u1 u0 v1 v0 4294967295 := ⟨by omega, by omega, fun q _ h _ => h⟩
    go_enter Tryd.func85, Tryd.ntmps85
    go_wp2
    go_ret
    exact ⟨_, rfl, hG, Below.refl _ _⟩
  · have hG := gueI_start (u2 := u2) (u1 := u1) (u0 := u0) (v1 := v1) (v0 := v0) h2.1 (by omega) h1 h0 g0.1
    have hdiv := fun wx => div32_ok u2 u1 v1 wx h2.1 (by omega) g1.2 h1.1 h1.2
    have hrm : (u2 * 4294967296 + u1) % v1 ≤ 4294967295 := by have := Int.emod_lt_of_pos (u2 * 4294967296 + u1) (show 0 < v1 by omega); omega
    generalize (u2 * 4294967296 + u1) / v1 = n at *
    generalize (u2 * 4294967296 + u1) % v1 = r at *
    have hr : r ≤ 4294967295 ∧ 0 ≤ r ∧ 0 ≤ n ∧ n ≤ 4294967295 := ⟨hrm, hG.2.2.1, hG.1, hG.2.1⟩
    go_enter Tryd.func85, Tryd.ntmps85
    go_wp2_with (go_at_call 55; refine (hdiv _).mono ?_; rintro e w1 ⟨rfl, hb1⟩)
    go_loop [13, 14] (fun v13 v14 => ∃ (n r : Int), v13 = .int .u64 n ∧ v14 = .int .u64 r ∧ r ≤ 8589934591 ∧ Hid (GueI u2 u1 u0 v1 v0 n r)) (fun v13 _ => (intOf v13).toNat)
    case atStart => exact ⟨n, r, rfl, rfl, by omega, Lib.hid hG⟩
    case round =>
      obtain ⟨n, r, rfl, rfl, hrb, hI⟩ := hrel
      have hn0 := hI.out.1
      have hn1 := hI.out.2.1
      have hr0 := hI.out.2.2.1
      obtain ⟨pq, hpq⟩ : ∃ pq, n * v0 = pq := ⟨_, rfl⟩
      have hpb := prod_bound ⟨hn0, hn1⟩ g0
      rw [hpq] at hpb
      have ewp : IntKind.u64.wrap (n * v0) = pq := by rw [wrapU64, hpq]; omega
      by_cases hlt : r < 4294967296
      · have ewr : IntKind.u64.wrap (r * 4294967296) = r * 4294967296 := by rw [wrapU64]; omega
        obtain ⟨U, hU⟩ : ∃ U, r * 4294967296 + u0 = U := ⟨_, rfl⟩
        have eor : bits BinOp.or IntKind.u64 (r * 4294967296) u0 = U := by rw [or_low2 r u0 hr0 hlt h0.1 h0.2, hU]
        by_cases hgt : U < pq
        · obtain ⟨hS, hn⟩ := gueI_step hI.out g1.1 g0.1 h0.1 (by omega)
          have HS := Lib.hid hS
          clear hS hU hpq hI
          go_wp2
          go_round
          case rel => exact ⟨n - 1, r + v1, by go_num, by go_num, by omega, HS⟩
          case measure => simp [intOf]; omega
        · have hG2 : GuessOk u2 u1 u0 v1 v0 n := ⟨hn0, hn1, hI.out.2.2.2.2⟩
          clear hU hpq hI
          go_wp2
          go_ret
          exact ⟨n, rfl, hG2, hb1⟩
      · have hG2 : GuessOk u2 u1 u0 v1 v0 n := ⟨hn0, hn1, hI.out.2.2.2.2⟩
        clear hpq hI
        go_wp2
        go_ret
        exact ⟨n, rfl, hG2, hb1⟩
end Go.Proofs.YtegdbcnloodljaaDoor
