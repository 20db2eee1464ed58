/- whole.Rest: what is left of the words by a number from 1 to 2^62. Conditions: the slice reads as words of 32 bits. -/
import Derived.Test.YtegdbcnloodljaaDoorBackward
import Derived.Test.YtegdbcnloodljaaDoorTrim
import Derived.Test.YtegdbcnloodljaaDoorDiv64
namespace Go.Proofs.YtegdbcnloodljaaDoor
set_option linter.unusedVariables false
set_option linter.unusedSimpArgs false
open Go.RowKit Go.Shelf

attribute [local go_sem] Oper.semAt_some

theorem keepsOthers_drewN (W : World) (n : Nat) : KeepsOthers W (W.drewN n) := ⟨Nat.le_refl _, fun _ _ h _ => h⟩

/-- What is left when the words of a list of pairs have come, the highest first. -/
def restF (m : Int) (pre : List (Nat × U32)) : Int := pre.foldl (fun r x => (r * 4294967296 + x.2.1) % m) 0
theorem restF_snoc (m : Int) (pre : List (Nat × U32)) (x : Nat × U32) : restF m (pre ++ [x]) = (restF m pre * 4294967296 + x.2.1) % m := by simp [restF]
theorem restF_bounds (m : Int) (hm : 0 < m) (pre : List (Nat × U32)) : 0 ≤ restF m pre ∧ restF m pre < m := by
  have : ∀ (l : List (Nat × U32)) (r : Int), 0 ≤ r → r < m → 0 ≤ l.foldl (fun r x => (r * 4294967296 + x.2.1) % m) r ∧ l.foldl (fun r x => (r * 4294967296 + x.2.1) % m) r < m := by
    intro l
    induction l with
    | nil => intro r h h'; exact ⟨h, h'⟩
    | cons x l ih => intro r _ _; exact ih _ (Int.emod_nonneg _ (by omega)) (Int.emod_lt_of_pos _ hm)
  exact this pre 0 (Int.le_refl _) hm

/-- One round's words. -/
theorem rest_words (r x : Int) (r0 : 0 ≤ r) (r1 : r < 4611686018427387904) (x0 : 0 ≤ x) (x1 : x ≤ 4294967295) :
    bits BinOp.or IntKind.u64 (IntKind.u64.wrap (r * 4294967296)) x = r % 4294967296 * 4294967296 + x := by
  have e : r * 4294967296 % 18446744073709551616 = r % 4294967296 * 4294967296 := by omega
  rw [wrapU64, e]
  refine or_join 32 _ _ (by omega) (by omega) x0 (by omega) ?_ ?_
  · obtain ⟨n, hn⟩ := Int.eq_ofNat_of_zero_le (show 0 ≤ r % 4294967296 by omega)
    rw [hn]
    have : ((n : Int) * 4294967296).toNat = n * 4294967296 := by omega
    rw [this]; exact Nat.mul_mod_left n (2 ^ 32)
  · have : (2 : Nat) ^ 32 = 4294967296 := by rfl
    omega

theorem rest_round (r x m : Int) (w : World) (r0 : 0 ≤ r) (r1 : r < m) (h1 : 1 ≤ m) (h2 : m ≤ 4611686018427387904) (x0 : 0 ≤ x) (x1 : x ≤ 4294967295) :
    Calls Tryd.prog 68 #[.int .u64 (r / 4294967296), .int .u64 (r % 4294967296 * 4294967296 + x), .int .u64 m] w fun e w' => e = .returned (.int .u64 ((r * 4294967296 + x) % m)) ∧ ∃ n, w' = w.drewN n := by
  have := rem64_any (r / 4294967296) (r % 4294967296 * 4294967296 + x) m w (by omega) (by omega) (by omega) (by omega) (by omega) (by omega)
  have e : r / 4294967296 * 18446744073709551616 + (r % 4294967296 * 4294967296 + x) = r * 4294967296 + x := by omega
  rw [e] at this
  exact this

/-- The trimmed words, as words. -/
def trimU (zs : List U32) : List U32 := zs.take (trimLen (vals zs) (vals zs).length)
theorem vals_trimU (zs : List U32) : vals (trimU zs) = trimN (vals zs) := by simp [vals, trimU, trimN, List.map_take]
theorem trimU_length (zs : List U32) : (trimU zs).length = (trimN (vals zs)).length := by rw [← vals_trimU, vals_length]

/-- The rest, by the sign. -/
def restRes (neg : Bool) (m V : Int) : Int := if neg && decide (0 < V) then m - V else V

set_option maxRecDepth 100000 in
set_option maxHeartbeats 2000000 in
theorem rest_ok (neg : Bool) (A : Option Addr) (c : Nat) (zs : List U32) (m : Int) (w : World) (hr : RdI w .u32 A (vals zs)) (hl : zs.length ≤ c) (hcap : c ≤ 9223372036854775807) (h1 : 1 ≤ m) (h2 : m ≤ 4611686018427387904) (V : Int)
    (HV : Hid (restF m (upto (backAt (trimU zs)) (trimU zs).length) = V)) (hV0 : 0 ≤ V) (hV1 : V < m) :
    Calls Tryd.prog 39 #[.agg #[.bool neg, .slice A zs.length c], .int .i64 m] w fun e w' => e = .returned (.tuple #[.int .i64 (restRes neg m V), .int .i64 0]) ∧ Below w.heap.size w w' := by
  refine (callsIn_wide (n := 6)).1 ?_
  refine callsIn_of_wp_marks Tryd.func39 rfl trivial ?_ rfl
  simp only [Tryd.ntmps39, List.size_toArray, List.length_cons, List.length_nil, Nat.reduceAdd, Nat.reduceSub, Array.replicate_succ, Array.replicate_zero, List.push_toArray, List.append_toArray, List.nil_append, List.cons_append]
  have hlt : (trimU zs).length ≤ zs.length := by rw [trimU_length, ← vals_length]; exact trimN_le _
  have ht : ∀ W, Below w.heap.size w W → Calls Tryd.prog 54 #[.slice A zs.length c] W fun e w' => e = .returned (.slice A (trimU zs).length c) ∧ W = w' := by
    intro W hb
    have := trim_any A c (vals zs) W (hr.later hb) (by rw [vals_length]; exact hl) hcap
    rw [vals_length, ← trimU_length] at this
    exact this
  have hrt : RdI w .u32 A (vals (trimU zs)) := by rw [vals_trimU]; exact hr.take _
  have HT := Lib.hid ht
  clear ht
  obtain ⟨ts, hts⟩ : ∃ ts, ts = trimU zs := ⟨_, rfl⟩
  rw [← hts] at HV hrt hlt HT
  clear hts
  gi_wp2_with (first
    | (refine ⟨trivial, ?_⟩; gi_at_call 54; refine (callsIn_wide.2 (HT.out _ ((((Below.refl _ w).alloc (Nat.le_refl _) _).alloc (by simp) _).alloc (by simp; omega) _))).mono ?_; rintro e w' ⟨rfl, rfl⟩)
    | (refine ⟨trivial, ?_⟩; gi_at_call 56; refine (callsIn_wide.2 (backward_any _ _ _ _)).mono ?_; rintro e w' ⟨rfl, rfl⟩))
  obtain ⟨W0, hW0⟩ : ∃ W0, W0 = (((w.alloc (.cells #[.bool neg, .slice A zs.length c] 24)).alloc (.cells #[.int .i64 m] 3)).alloc (.cells #[.int .u64 0] 61)).alloc (.cells #[.slice A ts.length c] 22) := ⟨_, rfl⟩
  have hB0 : Below w.heap.size w W0 := by
    rw [hW0]; exact ((((Below.refl _ w).alloc (Nat.le_refl _) _).alloc (by simp) _).alloc (by simp; omega) _).alloc (by simp; omega) _
  have hz : W0.heap.size = w.heap.size + 1 + 1 + 1 + 1 := by rw [hW0]; simp
  have c0 : W0.cell? ⟨w.heap.size, 0, none⟩ = some (.bool neg) := by rw [hW0]; go_simp
  have c1 : W0.cell? ⟨w.heap.size + 1, 0, none⟩ = some (.int .i64 m) := by rw [hW0]; go_simp
  have c2 : W0.cell? ⟨w.heap.size + 1 + 1, 0, none⟩ = some (.int .u64 0) := by rw [hW0]; go_simp
  have f2 : W0.frozen? ⟨w.heap.size + 1 + 1, 0, none⟩ = false := by rw [hW0]; go_simp
  have c3 : W0.cell? ⟨w.heap.size + 1 + 1 + 1, 0, none⟩ = some (.slice A ts.length c) := by rw [hW0]; go_simp
  rw [← hW0]
  clear hW0
  refine wpIn_rangeFunc_ownG (n := 6) rfl (by omega) (gf := 72) (lb := #[.pointer (some ⟨w.heap.size + 1 + 1 + 1, 0, none⟩)]) rfl trivial (enters_of Tryd.func72 (by kernel_rfl) rfl)
    (backward_stops 5 (by omega) (w.heap.size + 1 + 1 + 1) w.heap.size A c ts (by omega) W0 (by omega) c3 (fun W' hb => hrt.later (hB0.trans hb))) kpB_t (kpB_b (by omega)) (Below.refl _ _) (fun _ => rfl)
    (fun pre W => (W.cell? ⟨w.heap.size + 1 + 1, 0, none⟩ = some (.int .u64 (restF m pre)) ∧ W.frozen? ⟨w.heap.size + 1 + 1, 0, none⟩ = false ∧ W.cell? ⟨w.heap.size + 1, 0, none⟩ = some (.int .i64 m) ∧ W.cell? ⟨w.heap.size, 0, none⟩ = some (.bool neg)) ∧ Below w.heap.size w W)
    (fun _ _ _ => False)
    (OwnFrom.and (Own.from (fun s A B row hs hg hr => ⟨cell_kept hs.1 hg hr, (frozen_kept hs.1 hg hr).trans hs.2.1, cell_kept hs.2.2.1 hg hr, cell_kept hs.2.2.2 hg hr⟩) _) (ownFrom_below (Nat.le_refl _) (by omega)))
    (fun _ _ _ _ _ hs _ _ => hs)
    ⟨⟨c2, f2, c1, c0⟩, hB0⟩
    (fun x => ⟨#[.agg #[.bool neg, .slice A zs.length c], .int .i64 m, .pointer (some ⟨w.heap.size, 0, none⟩), .pointer (some ⟨w.heap.size + 1, 0, none⟩), .int .i64 0, .int .i64 0,
      .pointer (some ⟨w.heap.size + 1 + 1, 0, none⟩), undef, .int .u32 x.2.1, .int .i64 m, .bool (decide (m < 1)), .bool (decide (m < 1)), .int .i64 m, .bool (decide (4611686018427387904 < m)), .bool (decide (m < 1) || decide (4611686018427387904 < m)),
      .pointer (some ⟨w.heap.size, 1, none⟩), .slice A zs.length c, .slice A ts.length c, .func (.func 72) #[] #[.pointer (some ⟨w.heap.size + 1 + 1 + 1, 0, none⟩)], .int .i64 (x.1 : Int), .int .u32 x.2.1,
      undef, undef, undef, undef, undef, undef, undef, undef, undef, undef, undef, undef, undef, undef, undef, undef, undef, undef, undef, undef, undef, undef], []⟩) ?assign ?body ?done ?stop
  case assign =>
    intro l x W K hK
    gi_wp2
    exact hK
  case body =>
    rintro l pre x W ⟨⟨k2, kf2, k1, k0⟩, hB⟩ _
    obtain ⟨r0, r1⟩ := restF_bounds m (by omega) pre
    have HS := Lib.hid (restF_snoc m pre x)
    obtain ⟨i, z, z0, z1⟩ := x
    obtain ⟨r, hr⟩ : ∃ r, restF m pre = r := ⟨_, rfl⟩
    rw [hr] at HS r0 r1 k2
    clear hr
    dsimp only at HS ⊢
    have ew := rest_words r z r0 (by omega) z0 z1
    gi_wp2_with (refine ⟨trivial, ?_⟩; gi_at_call 68; refine (CallsIn.inRound l (callsIn_wide.2 (rest_round r z m _ r0 r1 h1 h2 z0 z1))).mono ?_; rintro e w' ⟨rfl, n, rfl⟩)
    refine ⟨((keepsOthers_drewN W n).trans (KeepsOthers.setCell (W.drewN n) _ _)).from _, ⟨(below_drewN (Below.refl w.heap.size W) n).setCell (p := ⟨w.heap.size + 1 + 1, 0, none⟩) (by show _ ≤ _ + 1 + 1; omega) _, fun v hv => ?_⟩, ⟨?_, ?_, ?_, ?_⟩,
      (below_drewN hB n).setCell (p := ⟨w.heap.size + 1 + 1, 0, none⟩) (by show _ ≤ _ + 1 + 1; omega) _⟩
    · rw [World.cell?_setCell_other _ _ _ _ (fun e => by injection e; omega)]; exact hv
    · rw [HS.out]; exact World.cell?_setCell_same' _ _ _ (by rw [World.cell?_drewN, k2]; rfl)
    · rw [World.frozen?_setCell]; exact kf2
    · rw [World.cell?_setCell_other _ _ _ _ (fun e => by injection e; omega)]; exact k1
    · rw [World.cell?_setCell_other _ _ _ _ (fun e => by injection e; omega)]; exact k0
  case done =>
    rintro D ys W hD rfl ⟨⟨k2, kf2, k1, k0⟩, hB⟩ hK
    rw [HV.out] at k2
    cases neg
    · gi_wp2
      refine ⟨by simp, .inl ⟨_, _, rfl, run_takeDeferred hK, ?_⟩⟩
      exact ⟨_, results_tmp2 rfl _ _ _, rfl, hB.trans (belowK_b (w := w) (Nat.le_refl _) W D _ _ (by omega) hK rfl rfl)⟩
    · by_cases hv : 0 < V
      · have HV2 : Hid (restRes true m V = m - V) := by show _ = _; simp [restRes, hv]
        have hK' := (KeepsOthers.setCell W ⟨w.heap.size + 1 + 1, 0, none⟩ (.int .u64 (m - V))).same D _ hK rfl
        gi_wp2
        refine ⟨by simp, .inl ⟨_, _, rfl, run_takeDeferred hK', ?_⟩⟩
        exact ⟨_, results_tmp2 rfl _ _ _, by rw [HV2.out]; rfl, (hB.setCell (p := ⟨w.heap.size + 1 + 1, 0, none⟩) (by show _ ≤ _ + 1 + 1; omega) _).trans (belowK_b (w := w) (Nat.le_refl _) _ D _ _ (by omega) hK' rfl rfl)⟩
      · have HV2 : Hid (restRes true m V = V) := by show _ = _; simp [restRes, hv]
        gi_wp2
        refine ⟨by simp, .inl ⟨_, _, rfl, run_takeDeferred hK, ?_⟩⟩
        exact ⟨_, results_tmp2 rfl _ _ _, by rw [HV2.out]; rfl, hB.trans (belowK_b (w := w) (Nat.le_refl _) W D _ _ (by omega) hK rfl rfl)⟩
  case stop =>
    rintro D c' pre W _ _ h _
    exact h.elim

theorem restF_upto (m : Int) (hm : 0 < m) (ts : List U32) : ∀ k, k ≤ ts.length → restF m (upto (backAt ts) k) = val ((vals ts).drop (ts.length - k)) % m
  | 0, _ => by simp [upto, restF, List.drop_eq_nil_of_le, vals_length, val]
  | k + 1, h => by
    rw [upto_succ, restF_snoc, restF_upto m hm ts k (by omega)]
    obtain ⟨j, hj⟩ : ∃ j, j = ts.length - (k + 1) := ⟨_, rfl⟩
    have e1 : ts.length - k = j + 1 := by omega
    have e2 : ts.length - 1 - k = j := by omega
    have hjl : j < (vals ts).length := by rw [vals_length]; omega
    rw [← hj, e1, List.drop_eq_getElem_cons hjl, val]
    have e3 : (backAt ts k).2.1 = (vals ts)[j] := by
      have := vals_get ts j (by omega)
      rw [List.getElem?_eq_getElem hjl] at this
      injection this with this
      rw [this, backAt, e2]
    rw [e3]
    generalize (vals ts)[j] = z
    generalize val ((vals ts).drop (j + 1)) = V
    rw [Int.add_comm z]
    have h1 := Int.mul_ediv_add_emod V m
    have : 4294967296 * V + z = (V % m * 4294967296 + z) + m * (4294967296 * (V / m)) := by
      generalize V % m = b at *
      generalize V / m = c at *
      subst h1
      grind
    rw [this, Int.add_mul_emod_self_left]

theorem restF_all (m : Int) (hm : 0 < m) (zs : List U32) : restF m (upto (backAt (trimU zs)) (trimU zs).length) = val (vals zs) % m := by
  rw [restF_upto m hm _ _ (Nat.le_refl _), Nat.sub_self, List.drop_zero, vals_trimU, val_trimN]

/-- What Rest answers: the rest, and the error's number. -/
def restV (neg : Bool) (zs : List Int) (m : Int) : Int × Int := if m < 1 ∨ 4611686018427387904 < m then (0, 1) else (restRes neg m (val zs % m), 0)

theorem rest_any (neg : Bool) (A : Option Addr) (c : Nat) (zs : List U32) (m : Int) (w : World) (hr : RdI w .u32 A (vals zs)) (hl : zs.length ≤ c) (hcap : c ≤ 9223372036854775807) (h1 : 1 ≤ m) (h2 : m ≤ 4611686018427387904) :
    Calls Tryd.prog 39 #[.agg #[.bool neg, .slice A zs.length c], .int .i64 m] w fun e w' => e = .returned (.tuple #[.int .i64 (restRes neg m (val (vals zs) % m)), .int .i64 0]) ∧ Below w.heap.size w w' :=
  rest_ok neg A c zs m w hr hl hcap h1 h2 _ (restF_all m (by omega) zs) (Int.emod_nonneg _ (by omega)) (Int.emod_lt_of_pos _ (by omega))

set_option maxRecDepth 100000 in
set_option maxHeartbeats 400000 in
theorem rest_arg (v : Value) (neg : Bool) (A : Option Addr) (n c : Nat) (m : Int) (w : World) (hv : v = .agg #[.bool neg, .slice A n c]) (h : m < 1 ∨ 4611686018427387904 < m) :
    Calls Tryd.prog 39 #[v, .int .i64 m] w fun e w' => e = .returned (.tuple #[.int .i64 0, .int .i64 1]) ∧ Below w.heap.size w w' := by
  subst hv
  rcases h with h | h
  all_goals
    go_enter Tryd.func39, Tryd.ntmps39
    go_wp2
    go_ret2
    exact ⟨rfl, ((Below.refl _ _).alloc (Nat.le_refl _) _).alloc (by simp) _⟩
end Go.Proofs.YtegdbcnloodljaaDoor
