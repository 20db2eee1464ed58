/- The reference's plus, minus (chapter 1). -/
import Derived.Test.YtegdbcnloodljaaDoorR1
import Derived.Lib.OthersKept
namespace Go.Proofs.YtegdbcnloodljaaDoor
set_option linter.unusedVariables false
set_option linter.unusedSimpArgs false
open Go.RowKit
set_option maxRecDepth 1000000

/-- one new value in its own block. -/
theorem news_one (w : World) (v : Value) (t : TypeId) : ∀ j u, [v][j]? = some u → (w.alloc (.cells #[v] t)).cell? ((⟨w.heap.size, 0, none⟩ : Addr).add j) = some u := by
  intro j u h
  match j with
  | 0 =>
    simp only [List.getElem?_cons_zero, Option.some.injEq] at h
    subst h
    rw [Addr.add_lit, World.cell?_alloc_at _ _ _ _ rfl]; rfl
  | j + 1 => simp at h
theorem own_mono {base base' : Nat} {e : TypeId} {size : Nat} {v : Value} {n : Nat} {xs : List Value} {w : World} (h : w.ownsRow base e size v n xs) (hb : base' ≤ base) : w.ownsRow base' e size v n xs := by
  refine ⟨h.1, ?_⟩
  rcases h.2 with hn | ⟨g, cap, cur, hv, hg, rest⟩
  · exact .inl hn
  · exact .inr ⟨g, cap, cur, hv, Nat.le_trans hb hg, rest⟩

theorem val_take_get' (zs : List Int) (k : Nat) : val (zs.take (k + 1)) = val (zs.take k) + 4294967296 ^ k * (zs[k]?.getD 0) := by
  by_cases h : k < zs.length
  · rw [val_take_succ zs k h, List.getElem?_eq_getElem h]; rfl
  · rw [List.take_of_length_le (by omega), List.take_of_length_le (by omega), List.getElem?_eq_none (by omega)]; simp

theorem own_base {base : Nat} {e : TypeId} {size : Nat} {v : Value} {n : Nat} {xs : List Value} {w : World} (h : w.ownsRow base e size v n xs) : ∀ k, v.ownBlock = some k → base ≤ k := fun k hk => (h.lt k hk).1
theorem W32.getD' {fs : List Int} (h : W32 fs) (k : Nat) : 0 ≤ fs[k]?.getD 0 ∧ fs[k]?.getD 0 ≤ 4294967295 := by
  by_cases hk : k < fs.length
  · rw [List.getElem?_eq_getElem hk]; exact h.get k hk
  · rw [List.getElem?_eq_none (by omega)]; simp
theorem plus_step (V VU VV P x y c z c' : Int) (h : V + P * c = VU + VV) (hz : z + 4294967296 * c' = x + y + c) : (V + P * z) + P * 4294967296 * c' = (VU + P * x) + (VV + P * y) := by
  have h2 : P * (z + 4294967296 * c') = P * (x + y + c) := by rw [hz]
  grind

set_option maxHeartbeats 2000000 in
theorem refPlus_pos (A B : Option Addr) (c d : Nat) (xs ys : List Int) (w : World) (hX : W32 xs) (hY : W32 ys) (hr : RdI w .u32 A xs) (hs : RdI w .u32 B ys) (hl : xs.length ≤ c) (hc : c ≤ 9223372036854775807) (hl2 : ys.length ≤ d) (hd : d ≤ 9223372036854775807) (hm : xs.length ≤ 1000000) (hm2 : ys.length ≤ 1000000) :
    Calls Tryd.prog 50 #[.slice A xs.length c, .slice B ys.length d] w fun e w' => ∃ zs, W32 zs ∧ val zs = val xs + val ys ∧ zs.length ≤ xs.length + ys.length + 1 ∧ 0 < zs.length ∧ RetRow w .u32 zs e w' := by
  obtain ⟨i0, hi0, hz0, hz1, hz2⟩ := info_parts u32_info
  have HU := Lib.hid hr
  have HV := Lib.hid hs
  go_enter Tryd.func50, Tryd.ntmps50
  go_wp2
  go_loopw [5, 6, 7] (fun v cv iv wr => ∃ (k : Nat) (cr : Int) (fs : List Int), cv = .int .u64 cr ∧ iv = .int .i64 k ∧ k ≤ 1000000 ∧ (k ≤ xs.length ∨ k ≤ ys.length) ∧ 0 ≤ cr ∧ cr ≤ 1 ∧ Hid (W32 fs) ∧ fs.length = k ∧ wr.ownsRow w.heap.size 62 1 v k (fs.map (Value.int .u32)) ∧ Below w.heap.size w wr ∧ Hid (val fs + 4294967296 ^ k * cr = val (xs.take k) + val (ys.take k))) (fun _ _ iv _ => 1000001 - (intOf iv).toNat)
  case atStart => exact ⟨0, 0, [], rfl, rfl, Nat.zero_le _, Or.inl (Nat.zero_le _), by omega, by omega, Lib.hid W32.nil, rfl, World.ownsRow_nil w w.heap.size 62 1, Below.refl _ _, Lib.hid (by simp [val])⟩
  case round =>
    obtain ⟨k, cr, fs, rfl, rfl, hk, hk2, hc0, hc1, hWf, hfl, hown, hbw, hT⟩ := hrel
    obtain ⟨C, cC, rfl, _, _, _⟩ := own_form hown
    have hsz := hbw.size
    by_cases hp : k < xs.length
    · by_cases hq : k < ys.length
      · obtain ⟨b1, o1, z1, hA, e1, f1⟩ := HU.out k (by omega)
        have g1 : xs[k]?.getD 0 = z1 := by rw [e1]; rfl
        have w1 := hX.getD' k
        rw [g1] at w1
        have d1 := cell_later hbw f1
        have l1 : b1 < wr.heap.size := Nat.lt_of_lt_of_le (World.block_lt_of_cell? w _ f1) hbw.size
        obtain ⟨b2, o2, z2, hB, e2, f2⟩ := HV.out k (by omega)
        have g2 : ys[k]?.getD 0 = z2 := by rw [e2]; rfl
        have w2 := hY.getD' k
        rw [g2] at w2
        have d2 := cell_later hbw f2
        have l2 : b2 < wr.heap.size := Nat.lt_of_lt_of_le (World.block_lt_of_cell? w _ f2) hbw.size
        have t1 := val_take_get' xs k
        have t2 := val_take_get' ys k
        rw [g1] at t1
        rw [g2] at t2
        have HV2 := Lib.hid (And.intro t1 (And.intro t2 hT.out))
        obtain ⟨sm, hsm⟩ : ∃ sm, (cr + z1 + z2) % 4294967296 = sm := ⟨_, rfl⟩
        obtain ⟨c2, hc2⟩ : ∃ c2, (cr + z1 + z2) / 4294967296 = c2 := ⟨_, rfl⟩
        have hzz : sm + 4294967296 * c2 = z1 + z2 + cr := by omega
        have hr1 : 0 ≤ sm ∧ sm ≤ 4294967295 ∧ 0 ≤ c2 ∧ c2 ≤ 1 := by omega
        have ew : IntKind.u32.wrap (cr + z1 + z2) = sm := by rw [wrapU32]; exact hsm
        have HZ := Lib.hid hzz
        have HR := Lib.hid hr1
        clear t1 t2 hT hsm hzz hr1 g1 g2 e1 f1 e2 f2
        subst hA hB
        have HS := Lib.hid (show (k + 1) * 4 ≤ 140737488355328 by omega)
        have hbw2 : Below w.heap.size w (wr.alloc (.cells #[.int .u32 sm] 62)) := hbw.alloc hsz _
        have hown2 := hown.alloc (.cells #[.int .u32 sm] 62)
        go_wp2_with (at_builtin; refine wpList_append_own _ rfl _ _ 22 rfl w.heap.size 62 i0 _ 1 4 Tryd.underlying22 hi0 hz0 hz1 hz2 rfl (by decide) _ k _ rfl hown2 _ 1 1 [.int .u32 sm] rfl rfl (news_one _ _ _) (by simp [Value.oneCell']) (by unfold maxLen; omega) HS.out hbw2.size ?_; intro v3 w3 hown3 hg3 _)
        have hg4 : (wr.alloc (.cells #[.int .u32 sm] 62)).grownBy w3 (Value.slice C k cC).ownBlock := hg3
        go_roundw
        case rel =>
          obtain ⟨v1, v2, v3⟩ := HV2.out
          obtain ⟨r1, r2, r3, r4⟩ := HR.out
          refine ⟨k + 1, c2, fs ++ [sm], rfl, by go_num, by omega, by omega, r3, r4, Lib.hid (hWf.out.append (W32.cons r1 r2 W32.nil)), by rw [List.length_append, hfl]; rfl, by rw [List.map_append]; exact hown3, hbw2.grown hg4 hbw2.size (own_base hown2), Lib.hid ?_⟩
          rw [val_snoc, hfl, v1, v2, Int.pow_succ]
          exact plus_step _ _ _ _ _ _ _ _ _ v3 HZ.out
        case measure => simp [intOf]; omega
      · obtain ⟨b1, o1, z1, hA, e1, f1⟩ := HU.out k (by omega)
        have g1 : xs[k]?.getD 0 = z1 := by rw [e1]; rfl
        have w1 := hX.getD' k
        rw [g1] at w1
        have d1 := cell_later hbw f1
        have l1 : b1 < wr.heap.size := Nat.lt_of_lt_of_le (World.block_lt_of_cell? w _ f1) hbw.size
        have g2 : ys[k]?.getD 0 = 0 := by rw [List.getElem?_eq_none (by omega)]; rfl
        have t1 := val_take_get' xs k
        have t2 := val_take_get' ys k
        rw [g1] at t1
        rw [g2] at t2
        have HV2 := Lib.hid (And.intro t1 (And.intro t2 hT.out))
        obtain ⟨sm, hsm⟩ : ∃ sm, (cr + z1) % 4294967296 = sm := ⟨_, rfl⟩
        obtain ⟨c2, hc2⟩ : ∃ c2, (cr + z1) / 4294967296 = c2 := ⟨_, rfl⟩
        have hzz : sm + 4294967296 * c2 = z1 + 0 + cr := by omega
        have hr1 : 0 ≤ sm ∧ sm ≤ 4294967295 ∧ 0 ≤ c2 ∧ c2 ≤ 1 := by omega
        have ew : IntKind.u32.wrap (cr + z1) = sm := by rw [wrapU32]; exact hsm
        have HZ := Lib.hid hzz
        have HR := Lib.hid hr1
        clear t1 t2 hT hsm hzz hr1 g1 g2 e1 f1 
        subst hA 
        have HS := Lib.hid (show (k + 1) * 4 ≤ 140737488355328 by omega)
        have hbw2 : Below w.heap.size w (wr.alloc (.cells #[.int .u32 sm] 62)) := hbw.alloc hsz _
        have hown2 := hown.alloc (.cells #[.int .u32 sm] 62)
        go_wp2_with (at_builtin; refine wpList_append_own _ rfl _ _ 22 rfl w.heap.size 62 i0 _ 1 4 Tryd.underlying22 hi0 hz0 hz1 hz2 rfl (by decide) _ k _ rfl hown2 _ 1 1 [.int .u32 sm] rfl rfl (news_one _ _ _) (by simp [Value.oneCell']) (by unfold maxLen; omega) HS.out hbw2.size ?_; intro v3 w3 hown3 hg3 _)
        have hg4 : (wr.alloc (.cells #[.int .u32 sm] 62)).grownBy w3 (Value.slice C k cC).ownBlock := hg3
        go_roundw
        case rel =>
          obtain ⟨v1, v2, v3⟩ := HV2.out
          obtain ⟨r1, r2, r3, r4⟩ := HR.out
          refine ⟨k + 1, c2, fs ++ [sm], rfl, by go_num, by omega, by omega, r3, r4, Lib.hid (hWf.out.append (W32.cons r1 r2 W32.nil)), by rw [List.length_append, hfl]; rfl, by rw [List.map_append]; exact hown3, hbw2.grown hg4 hbw2.size (own_base hown2), Lib.hid ?_⟩
          rw [val_snoc, hfl, v1, v2, Int.pow_succ]
          exact plus_step _ _ _ _ _ _ _ _ _ v3 HZ.out
        case measure => simp [intOf]; omega
    · by_cases hq : k < ys.length
      · have g1 : xs[k]?.getD 0 = 0 := by rw [List.getElem?_eq_none (by omega)]; rfl
        obtain ⟨b2, o2, z2, hB, e2, f2⟩ := HV.out k (by omega)
        have g2 : ys[k]?.getD 0 = z2 := by rw [e2]; rfl
        have w2 := hY.getD' k
        rw [g2] at w2
        have d2 := cell_later hbw f2
        have l2 : b2 < wr.heap.size := Nat.lt_of_lt_of_le (World.block_lt_of_cell? w _ f2) hbw.size
        have t1 := val_take_get' xs k
        have t2 := val_take_get' ys k
        rw [g1] at t1
        rw [g2] at t2
        have HV2 := Lib.hid (And.intro t1 (And.intro t2 hT.out))
        obtain ⟨sm, hsm⟩ : ∃ sm, (cr + z2) % 4294967296 = sm := ⟨_, rfl⟩
        obtain ⟨c2, hc2⟩ : ∃ c2, (cr + z2) / 4294967296 = c2 := ⟨_, rfl⟩
        have hzz : sm + 4294967296 * c2 = 0 + z2 + cr := by omega
        have hr1 : 0 ≤ sm ∧ sm ≤ 4294967295 ∧ 0 ≤ c2 ∧ c2 ≤ 1 := by omega
        have ew : IntKind.u32.wrap (cr + z2) = sm := by rw [wrapU32]; exact hsm
        have HZ := Lib.hid hzz
        have HR := Lib.hid hr1
        clear t1 t2 hT hsm hzz hr1 g1 g2  e2 f2
        subst  hB
        have HS := Lib.hid (show (k + 1) * 4 ≤ 140737488355328 by omega)
        have hbw2 : Below w.heap.size w (wr.alloc (.cells #[.int .u32 sm] 62)) := hbw.alloc hsz _
        have hown2 := hown.alloc (.cells #[.int .u32 sm] 62)
        go_wp2_with (at_builtin; refine wpList_append_own _ rfl _ _ 22 rfl w.heap.size 62 i0 _ 1 4 Tryd.underlying22 hi0 hz0 hz1 hz2 rfl (by decide) _ k _ rfl hown2 _ 1 1 [.int .u32 sm] rfl rfl (news_one _ _ _) (by simp [Value.oneCell']) (by unfold maxLen; omega) HS.out hbw2.size ?_; intro v3 w3 hown3 hg3 _)
        have hg4 : (wr.alloc (.cells #[.int .u32 sm] 62)).grownBy w3 (Value.slice C k cC).ownBlock := hg3
        go_roundw
        case rel =>
          obtain ⟨v1, v2, v3⟩ := HV2.out
          obtain ⟨r1, r2, r3, r4⟩ := HR.out
          refine ⟨k + 1, c2, fs ++ [sm], rfl, by go_num, by omega, by omega, r3, r4, Lib.hid (hWf.out.append (W32.cons r1 r2 W32.nil)), by rw [List.length_append, hfl]; rfl, by rw [List.map_append]; exact hown3, hbw2.grown hg4 hbw2.size (own_base hown2), Lib.hid ?_⟩
          rw [val_snoc, hfl, v1, v2, Int.pow_succ]
          exact plus_step _ _ _ _ _ _ _ _ _ v3 HZ.out
        case measure => simp [intOf]; omega
      · have hv : val fs + 4294967296 ^ k * cr = val xs + val ys := by
          have := hT.out
          rwa [List.take_of_length_le (by omega), List.take_of_length_le (by omega)] at this
        have HV2 := Lib.hid hv
        have ew : IntKind.u32.wrap cr = cr := by rw [wrapU32]; omega
        clear hT hv
        have HS := Lib.hid (show (k + 1) * 4 ≤ 140737488355328 by omega)
        have hbw2 : Below w.heap.size w (wr.alloc (.cells #[.int .u32 cr] 62)) := hbw.alloc hsz _
        have hown2 := hown.alloc (.cells #[.int .u32 cr] 62)
        go_wp2_with (at_builtin; refine wpList_append_own _ rfl _ _ 22 rfl w.heap.size 62 i0 _ 1 4 Tryd.underlying22 hi0 hz0 hz1 hz2 rfl (by decide) _ k _ rfl hown2 _ 1 1 [.int .u32 cr] rfl rfl (news_one _ _ _) (by simp [Value.oneCell']) (by unfold maxLen; omega) HS.out hbw2.size ?_; intro v3 w3 hown3 hg3 _)
        have hg4 : (wr.alloc (.cells #[.int .u32 cr] 62)).grownBy w3 (Value.slice C k cC).ownBlock := hg3
        obtain ⟨C3, cC3, rfl, m1, m2, _⟩ := own_form hown3
        go_ret
        refine ⟨fs ++ [cr], hWf.out.append (W32.cons hc0 (by omega) W32.nil), by rw [val_snoc, hfl]; exact HV2.out, by rw [List.length_append, hfl]; simp; omega, by rw [List.length_append]; simp, C3, cC3, by rw [List.length_append, hfl]; rfl, by rw [List.length_append, hfl]; exact m1, m2, FrI.of_own (n := k + 1) (c := cC3) (e := 62) ?_, hbw2.grown hg4 hbw2.size (own_base hown2)⟩
        rw [List.map_append]; exact hown3
theorem refPlus_ok (A B : Option Addr) (c d : Nat) (xs ys : List Int) (w : World) (hX : W32 xs) (hY : W32 ys) (hr : RdI w .u32 A xs) (hs : RdI w .u32 B ys) (hl : xs.length ≤ c) (hc : c ≤ 9223372036854775807) (hl2 : ys.length ≤ d) (hd : d ≤ 9223372036854775807) (hm : xs.length ≤ 1000000) (hm2 : ys.length ≤ 1000000) :
    Calls Tryd.prog 50 #[.slice A xs.length c, .slice B ys.length d] w fun e w' => ∃ zs, W32 zs ∧ val zs = val xs + val ys ∧ zs.length ≤ xs.length + ys.length + 1 ∧ RetRow w .u32 zs e w' :=
  (refPlus_pos A B c d xs ys w hX hY hr hs hl hc hl2 hd hm hm2).mono fun e w' ⟨zs, h1, h2, h3, _, h5⟩ => ⟨zs, h1, h2, h3, h5⟩
end Go.Proofs.YtegdbcnloodljaaDoor
