/- Joined by a program: RText. -/
import Derived.Test.YtjefhdlncikhmaaGreatDoorPT37
namespace Go.Proofs.YtjefhdlncikhmaaGreatDoor
set_option linter.unusedVariables false
set_option linter.unusedSimpArgs false
set_option maxRecDepth 1000000
set_option maxHeartbeats 16000000
section
open Go.RowKit Go.Shelf
open List (length_append length_cons length_nil length_singleton)
attribute [local go_sem] Oper.semAt_some
def bi (l : List Nat) : List Int := l.map fun d : Nat => 48 + (d : Int)
theorem bi_append (a b : List Nat) : bi (a ++ b) = bi a ++ bi b := by simp [bi]
theorem bi_get (l : List Nat) (i : Nat) (h : i < l.length) : (bi l)[i]? = some (48 + (l[i] : Int)) := by simp [bi, h]
def lowD (pcs : List Nat) : List Nat := pcs.flatMap fun p => (digs p 9).reverse
theorem lowD_snoc (pcs : List Nat) (r : Nat) : lowD (pcs ++ [r]) = lowD pcs ++ (digs r 9).reverse := by simp [lowD]
theorem lowD_length : ∀ pcs : List Nat, (lowD pcs).length = 9 * pcs.length
 | [] => rfl
 | p :: ps => by
  have h := lowD_length ps; have e : lowD (p :: ps) = (digs p 9).reverse ++ lowD ps := by simp [lowD]
  rw [e, length_append, h, List.length_reverse, digs_length, length_cons]; omega
theorem lowD_rev : ∀ (pcs : List Nat), (∀ p ∈ pcs, p < 1000000000) → (lowD pcs).reverse = digs (pval pcs) (9 * pcs.length) := by
 intro pcs h
 rw [digs_pval pcs h]
 clear h
 induction pcs with
 | nil => rfl
 | cons p ps ih =>
  have e : lowD (p :: ps) = (digs p 9).reverse ++ lowD ps := by simp [lowD]
  rw [e, List.reverse_append, ih, List.reverse_reverse, List.reverse_cons, List.flatMap_append]
  simp
theorem lowD_lt (pcs : List Nat) : ∀ d ∈ lowD pcs, d < 10 := by
 intro d hd
 rw [lowD, List.mem_flatMap] at hd
 obtain ⟨p, -, hp⟩ := hd
 exact digs_lt p 9 d (List.mem_reverse.1 hp)
theorem drop_zeros : ∀ (a b : List Nat), (∀ x ∈ a, x = 0) → (a ++ b).dropWhile (· == 0) = b.dropWhile (· == 0)
 | [], _, _ => rfl
 | x :: a, b, h => by
  have h0 := h x (List.mem_cons_self ..); subst h0; rw [List.cons_append, List.dropWhile_cons_of_pos (by rfl)]; exact drop_zeros a b (fun y hy => h y (List.mem_cons_of_mem _ hy))
theorem strip_ok (ds : List Nat) (P n : Nat) (hP : P ≠ 0) (hr : ds.reverse = digs P ds.length) (hk : P < 10 ^ ds.length) (hn0 : 0 < n) (hn : n ≤ ds.length) (hz : ∀ j (h : j < ds.length), n ≤ j → ds[j] = 0) (hl : n = 1 ∨ ds[n - 1]'lq29 ≠ 0) : (ds.take n).reverse.map dchr = decB P := by
 have hd : (digs P ds.length).dropWhile (· == 0) = (ds.take n).reverse.dropWhile (· == 0) := by
  rw [← hr]
  conv => lhs; rw [← List.take_append_drop n ds]
  rw [List.reverse_append]
  refine drop_zeros _ _ (fun x hx => ?_)
  obtain ⟨i, hi, rfl⟩ := List.getElem_of_mem (List.mem_reverse.1 hx); rw [List.length_drop] at hi; rw [List.getElem_drop]; exact hz (n + i) lq29 lq29
 have hB : decB P = ((ds.take n).reverse.dropWhile (· == 0)).map dchr := by rw [decB_any P _ hk, decD, hd]
 have e1 : (ds.take n).reverse = ds[n - 1]'lq29 :: (ds.take (n - 1)).reverse := by
  have : ds.take n = ds.take (n - 1) ++ [ds[n - 1]'lq29] := by
   have := List.take_succ_eq_append_getElem (l := ds) (i := n - 1) lq29; rwa [Nat.sub_add_cancel hn0] at this
  rw [this, List.reverse_append]; rfl
 by_cases h0 : ds[n - 1]'lq29 = 0
 ·exfalso
  have hn1 : n = 1 := by
   rcases hl with h | h
   ·exact h
   ·exact absurd h0 h
  subst hn1; rw [e1, List.dropWhile_cons_of_pos (by simpa using h0)] at hB
  simp at hB
  obtain ⟨c, d, h, -⟩ := decB_head P hP; rw [hB] at h; cases h
 ·rw [hB, e1, List.dropWhile_cons_of_neg (by simpa using h0)]
theorem or_low (r z : Int) (h0 : 0 ≤ r) (h1 : r < 4294967296) (hz0 : 0 ≤ z) (hz1 : z ≤ 4294967295) : bits BinOp.or IntKind.u64 (r * 4294967296) z = r * 4294967296 + z := by
 refine or_join 32 _ _ lq29 lq29 lq29 lq29 ?_ ?_
 ·obtain ⟨n, rfl⟩ := Int.eq_ofNat_of_zero_le h0; have : ((n : Int) * 4294967296).toNat = n * 4294967296 := by omega
  rw [this]; exact Nat.mul_mod_left n (2 ^ 32)
 ·have : (2 : Nat) ^ 32 = 4294967296 := by rfl
  omega
theorem FrI.kept {w w' : World} {base : Nat} {k : IntKind} {A : Option Addr} {zs : List Int} {row : Option Nat} (h : FrI w base k A zs) (hg : w.grownBy w' row) (hne : 0 < zs.length → ∀ ad, A = some ad → row ≠ some ad.block) : FrI w' base k A zs := fun i hi => by
 obtain ⟨b, off, z, hA, hB, hz, hc, hf⟩ := h i hi
 have hlt := blt hc
 have hb := hg.block b hlt (fun e => hne lq29 _ hA e.symm)
 exact ⟨b, off, z, hA, hB, hz, by rw [World.cell?_of_block (w := w) hb]; exact hc, by rw [World.frozen?_of_block (w := w) hb]; exact hf⟩
theorem conv_own (w : World) (base : Nat) (A : Option Addr) (n c : Nat) (l : List UInt8) (hn : n = l.length) (h : w.ownsRow base 5 1 (.slice A n c) n (Lib.byteCells l)) :
  (convert 40 9 (.slice A n c)).run Tryz.prog w = .ok (.string ⟨l.toArray⟩) w := by
 exact lv100
theorem bi_cells : ∀ (l : List Nat), (∀ d ∈ l, d < 10) → (bi l).map (Value.int .u8) = Lib.byteCells (l.map dchr)
 | [], _ => rfl
 | d :: l, h => by
  have h1 := dchr_toNat d (h d (List.mem_cons_self ..)); have h2 := bi_cells l (fun x hx => h x (List.mem_cons_of_mem _ hx)); have e1 : bi (d :: l) = (48 + (d : Int)) :: bi l := rfl; have e2 : Lib.byteCells ((d :: l).map dchr) = .int .u8 ((dchr d).toNat : Int) :: Lib.byteCells (l.map dchr) := rfl; rw [e1, e2, List.map_cons, h2, h1]
  rfl
theorem bytes_app (a b : List UInt8) : Lib.byteCells (a ++ b) = Lib.byteCells a ++ Lib.byteCells b := by simp [Lib.byteCells]
theorem rev_drop (ds : List Nat) (n k : Nat) (h : k < n) (hn : n ≤ ds.length) : ((ds.take n).drop k).reverse = ((ds.take n).drop (k + 1)).reverse ++ [ds[k]'lq29] := by
 rw [List.drop_eq_getElem_cons lq21, List.reverse_cons, List.getElem_take]
theorem refText_ok (neg : Bool) (A : Option Addr) (c : Nat) (zs : List Int) (w : World) (hW : W32 zs) (hr : RdI w .u32 A zs) (hl : zs.length ≤ c) (hc : c ≤ 9223372036854775807) (hm : zs.length ≤ 1000000) :
  Calls Tryz.prog 158 #[.agg #[.bool neg, .slice A zs.length c]] w fun e w' => e = .returned (.string ⟨(textL (valI neg zs)).toArray⟩) ∧ Below w.heap.size w w' := by
 have hw0 : Below w.heap.size w (w.alloc (.cells #[.bool neg, .slice A zs.length c] 24)) := ((Below.refl _ _).alloc (Nat.le_refl _) _)
 have hF := fun W (hb : Below w.heap.size w W) => refForm_can neg A c zs W hW (hr.later hb) hl hc hm
 have hlen : (cz (some (valI neg zs))).length ≤ zs.length := by
  have h1 := wds_w32 (valI neg zs).natAbs; have h2 := wds_nt (valI neg zs).natAbs; have h3 := val_wds (valI neg zs).natAbs; rw [valI_abs hW] at h3
  rcases Nat.lt_or_ge zs.length (wds (valI neg zs).natAbs).length with h | h
  ·have := (nt_len h1 h2 zs.length).1 h; have h4 := val_bound hW
   omega
  ·exact h
 generalize valI neg zs = X at *
 obtain ⟨W0, hW0⟩ : ∃ W0, w.alloc (.cells #[.bool neg, .slice A zs.length c] 24) = W0 := ⟨_, rfl⟩
 have hs0 : W0.heap.size = w.heap.size + 1 := by rw [← hW0]; simp
 have hcell0 : W0.cell? ⟨w.heap.size, 0, none⟩ = some (.bool neg) := by rw [← hW0]; simp [go_sem]
 have hcell1 : W0.cell? ⟨w.heap.size, 1, none⟩ = some (.slice A zs.length c) := by rw [← hW0]; simp [go_sem]
 have hfrz0 : W0.frozen? ⟨w.heap.size, 0, none⟩ = false := by rw [← hW0]; simp [go_sem]
 have hfrz1 : W0.frozen? ⟨w.heap.size, 1, none⟩ = false := by rw [← hW0]; simp [go_sem]
 rw [hW0] at hw0
 obtain ⟨T, hTx⟩ : ∃ T, (⟨(textL X).toArray⟩ : ByteArray) = T := ⟨_, rfl⟩
 rw [hTx]
 have hX := valI_c X
 have hps := cz_w32 (some X)
 have hnt := cz_nt (some X)
 have hcb : cb (some X) = decide (X < 0) := rfl
 go_enter Tryz.func158, Tryz.ntmps158
 go_wp2_with fail
 go_at_call 194
 refine (hF _ hw0).mono ?_
 rintro e w3 ⟨A3, c3, rfl, hc3, b3⟩
 have k0 := (b3.cell (p := ⟨w.heap.size, 0, none⟩) lq26).trans hcell0
 have k1 := (b3.cell (p := ⟨w.heap.size, 1, none⟩) lq26).trans hcell1
 have f0 := (b3.frozen (p := ⟨w.heap.size, 0, none⟩) lq26).trans hfrz0
 have f1 := (b3.frozen (p := ⟨w.heap.size, 1, none⟩) lq26).trans hfrz1
 have hs3 := b3.size
 have hB3 := hw0.trans (b3.mono hw0.size)
 clear hF hW0
 obtain ⟨u, hu⟩ : ∃ u, (w3.setCell ⟨w.heap.size, 0, none⟩ (.bool (cb (some X)))).setCell ⟨w.heap.size, 1, none⟩ (.slice A3 (cz (some X)).length c3) = u := ⟨_, rfl⟩
 have hBu : Below w.heap.size w u := by rw [← hu]; exact (hB3.setCell (p := ⟨w.heap.size, 0, none⟩) (Nat.le_refl _) _).setCell (p := ⟨w.heap.size, 1, none⟩) (Nat.le_refl _) _
 have hcu : CanAt u W0.heap.size (some X) A3 c3 := by rw [← hu]; exact (hc3.setCell (p := ⟨w.heap.size, 0, none⟩) (by show w.heap.size < _; omega) _).setCell (p := ⟨w.heap.size, 1, none⟩) (by show w.heap.size < _; omega) _
 have g0 : u.cell? ⟨w.heap.size, 0, none⟩ = some (.bool (cb (some X))) := by rw [← hu, World.cell?_setCell_other _ _ _ _ lq30]; exact World.cell?_setCell_same' _ _ _ (by rw [k0]; rfl)
 have g1 : u.cell? ⟨w.heap.size, 1, none⟩ = some (.slice A3 (cz (some X)).length c3) := by rw [← hu]; exact World.cell?_setCell_same' _ _ _ (by rw [World.cell?_setCell_other _ _ _ _ lq30, k1]; rfl)
 have hsu : w.heap.size + 1 ≤ u.heap.size := by rw [← hu]; simp; omega
 have hsu2 : W0.heap.size ≤ u.heap.size := by rw [← hu]; simp; omega
 clear b3 hB3 hc3 hcell0 hcell1 hfrz0 hfrz1
 by_cases h0 : cz (some X) = []
 ·have hX0 : X = 0 := by rw [← hX, valI, h0]; simp [val]
  have x0 : (((cz (some X)).length : Int) == 0) = true := by rw [h0]; rfl
  have ht : T = ⟨#[48]⟩ := by rw [← hTx, hX0]; rfl
  have hl0 : (cz (some X)).length = 0 := by rw [h0]; rfl
  rw [hl0] at hu g1; clear hX hcb hps hnt hcu hlen hTx hX0; go_wp2_with fail; go_ret; exact ⟨by subst ht; rfl, hBu⟩
 ·have hn : 0 < (cz (some X)).length := List.length_pos_iff.2 h0; have x0 : (((cz (some X)).length : Int) == 0) = false := by simp; omega
  have hpos : 0 < val (cz (some X)) := nt_pos hps hnt h0; have hXv : (val (cz (some X))).toNat ≠ 0 := by omega
  obtain ⟨P, hP⟩ : ∃ P, (val (cz (some X))).toNat = P := ⟨_, rfl⟩; have hPv : val (cz (some X)) = (P : Int) := by omega
  have hT := refTrim_any A3 c3 (cz (some X)) u hcu.2.2.rd hcu.1 hcu.2.1 lq29; rw [trimN_of_nt hps hnt] at hT; have htx : textL X = (if cb (some X) then [45] else []) ++ decB P := by
   have h1 := hX; rw [valI, hPv] at h1; rw [textL]
   cases hb : cb (some X)
   ·rw [hb, if_neg lq28] at h1; rw [if_neg lq29, if_neg lq29, if_neg lq28, ← h1]; rfl
   ·rw [hb, if_pos rfl] at h1; rw [if_neg lq29, if_pos lq29, if_pos rfl, ← h1, Int.natAbs_neg]; rfl
  rw [htx] at hTx; obtain ⟨sg, hsg⟩ : ∃ sg, cb (some X) = sg := ⟨_, rfl⟩; have HH := Lh (And.intro hps (And.intro hnt hPv)); rw [hP] at hXv; rw [hsg] at hTx; obtain ⟨i0, hi0, hz0, hz1, hz2⟩ := info_parts byte_info; have HS := Lh hsg; clear hX hcb hcu hpos hP htx hps hnt hPv hsg; go_wp2_with fail
  go_at_call 197
  refine hT.mono ?_
  rintro e w4 ⟨A4, c4, rfl, l4, m4, f4, b4⟩; have hs4 := b4.size; have q0 := (b4.cell (p := ⟨w.heap.size, 0, none⟩) (by show w.heap.size < u.heap.size; omega)).trans g0; have hB4 := hBu.trans (b4.mono hBu.size); rw [HS.out] at q0; clear hT hu g0 g1 b4 HS k0 k1 f0 f1 hs3
  generalize cz (some X) = ps at *
  have f4 := f4.mono (show w.heap.size + 1 ≤ u.heap.size from hsu); go_wp2
  go_loopw [3, 4] (fun v3 v4 wr => ∃ (pcs : List Nat) (ms rest : List Int) (A' : Option Addr) (cA : Nat), v3 = .slice A' ms.length cA ∧ ms.length ≤ cA ∧ cA ≤ 9223372036854775807 ∧ pcs.length ≤ 2 * ps.length ∧ FrI wr (w.heap.size + 1) .u32 A' ms ∧ wr.ownsRow (w.heap.size + 1) 5 1 v4 (9 * pcs.length) ((bi (lowD pcs)).map (Value.int .u8)) ∧ Below (w.heap.size + 1) w4 wr ∧ w4.heap.size ≤ wr.heap.size ∧ (0 < ms.length → ∀ ad, A' = some ad → v4.ownBlock ≠ some ad.block) ∧ Hid (TxtI ps pcs ms rest)) (fun _ v4 _ => 18 * ps.length + 9 - lenV v4)
  case atStart => exact ⟨[], ps, [], A4, c4, rfl, l4, m4, Nat.zero_le _, f4, World.ownsRow_nil _ _ _ _, Below.refl _ _, Nat.le_refl _, fun _ ad _ => by simp [Value.ownBlock], Lh ⟨HH.out.1, HH.out.2.1, by simp, by simp [pval], by simp⟩⟩
  case round =>
   obtain ⟨pcs, ms, rest, A', cA, rfl, lA, mA, hpl, hf, hown, hbw, hsw, hdj, hT⟩ := hrel; obtain ⟨B, cB, rfl, lB, mB, -⟩ := own_form hown; have hml : ms.length ≤ ps.length := by have := hT.out.2.2.2.2; rw [length_append] at this; omega
   by_cases hm0 : 0 < ms.length
   ·obtain ⟨gb, off, z0, rfl, hgB, -, hgc, -⟩ := hf 0 hm0; have hgw := blt hgc; have hdj := hdj hm0 _ rfl
    dsimp only at hdj
    clear hgc; have HM := Lh hm0; go_wp2
    go_loopw [5, 6] (fun v5 v6 wr2 => ∃ (k : Nat) (r : Int) (qs : List Int), v5 = .int .u64 r ∧ v6 = .int .i64 ((k : Int) - 1) ∧ k ≤ ms.length ∧ 0 ≤ r ∧ r < 1000000000 ∧ FrI wr2 (w.heap.size + 1) .u32 (some ⟨gb, off, none⟩) (ms.take k ++ qs) ∧ wr2.ownsRow (w.heap.size + 1) 5 1 (.slice B (9 * pcs.length) cB) (9 * pcs.length) ((bi (lowD pcs)).map (Value.int .u8)) ∧ Below (w.heap.size + 1) w4 wr2 ∧ w4.heap.size ≤ wr2.heap.size ∧ Hid (TxtJ ms k r qs)) (fun _ v6 _ => (intOf v6 + 1).toNat)
    case atStart => exact ⟨ms.length, 0, [], rfl, rfl, Nat.le_refl _, by omega, by omega, by rw [List.take_length, List.append_nil]; exact hf, hown, hbw, hsw, Lh ⟨W32.nil, by simp, by rw [List.drop_eq_nil_of_le (Nat.le_refl _)]; rfl⟩⟩
    case round =>
     obtain ⟨k, r, qs, rfl, rfl, hk, hr0, hr1, hf, hown, hbw, hsw, hJ⟩ := hrel; have hql := hJ.out.2.1
     by_cases hp : 0 < k
     ·obtain ⟨i, rfl⟩ : ∃ i, k = i + 1 := ⟨k - 1, by omega⟩; have e1 : (((i + 1 : Nat) : Int) - 1) = (i : Int) := by omega
      rw [e1]; have him : i < ms.length := by omega
      obtain ⟨b', off', z, hA, hgB2, hz, hcl, hfr⟩ := hf i (by rw [length_append, List.length_take]; omega); injection hA with hA
      injection hA with ea eb _
      subst ea eb; rw [List.getElem?_append_left lq21, List.getElem?_take_of_lt lq29, List.getElem?_eq_getElem him] at hz; have hz : ms[i] = z := by injection hz
      have hzb := hT.out.1.get i him; rw [hz] at hzb; have hgw2 := blt hcl; obtain ⟨V, hV⟩ : ∃ V, r * 4294967296 + z = V := ⟨_, rfl⟩; have eor := or_low r z hr0 lq29 hzb.1 hzb.2; rw [hV] at eor; have ewr : IntKind.u64.wrap (r * 4294967296) = r * 4294967296 := by rw [wrapU64]; omega
      obtain ⟨q, hq⟩ : ∃ q, V / 1000000000 = q := ⟨_, rfl⟩; obtain ⟨r2, hr2⟩ : ∃ r2, V % 1000000000 = r2 := ⟨_, rfl⟩; have hV0 : 0 ≤ V := by omega
      have hb2 : 0 ≤ r2 ∧ r2 < 1000000000 := by omega
      have hqb : 0 ≤ q ∧ q ≤ 4294967295 := by omega
      have ew : IntKind.u32.wrap q = q := by rw [wrapU32]; omega
      have HJ := Lh (txtJ_step hJ.out him hz (q := q) (r2 := r2) hqb.1 hqb.2 lq29); have HB := Lh hb2; have hfs := hf.set i (by rw [length_append, List.length_take]; omega) q; rw [set_mid ms i q _ him] at hfs; clear hJ hz hV hb2 hf; go_wp2
      go_roundw
      case rel =>
       exact ⟨i, r2, q :: qs, congrArg (Value.int .u64) hr2, by go_num, by omega, HB.out.1, HB.out.2, hfs, ownsRow_setCell_other hown hdj _, hbw.setCell (p := ⟨gb, off + i, none⟩) hgB _, by rw [World.size_setCell]; exact hsw, HJ⟩
      case measure => simp [intOf]
     ·have hk0 : k = 0 := by omega
      subst hk0; obtain ⟨rn, rfl⟩ := Int.eq_ofNat_of_zero_le hr0; rw [List.take_zero, List.nil_append] at hf; have hql : qs.length = ms.length := by omega
      have hNX := txtI_step hT.out hJ.out lq29; have hpm : (1 : Int) ≤ val ms := by
       have := nt_pos hT.out.1 hT.out.2.1 (by intro e; rw [e] at hm0; simp at hm0)
       omega
      have hfew := pcs_few ps.length pcs.length (val ps) (val ms) (val_bound HH.out.1) (by have := hT.out.2.2.2.1; omega) hpm; have HNX := Lh hNX; have htl := trimN_le qs; have hownlt := fun k e => (hown.lt k e).2
      have hT3 := refTrim_any (some ⟨gb, off, none⟩) cA qs wr hf.rd lq29 mA lq29; rw [hql] at hT3; clear hNX hpm hT hJ hf; go_wp2_with fail
      go_at_call 197
      refine hT3.mono ?_
      rintro e w5 ⟨A5, c5, rfl, l5, m5, f5, b5⟩; have hlt5 : ∀ ad, 0 < (trimN qs).length → A5 = some ad → wr.heap.size ≤ ad.block ∧ ad.block < w5.heap.size := fun ad h0 hA => by
       obtain ⟨b', off', z', hA', hB', -, hc', -⟩ := f5 0 h0; rw [hA] at hA'; injection hA' with hA'
       subst hA'; exact ⟨hB', blt hc'⟩
      have hs5 := b5.size; have f5 := f5.mono (show w.heap.size + 1 ≤ wr.heap.size by omega); have hown := own_later hown b5; have hbw := hbw.trans (b5.mono lq29); have hdj5 : 0 < (trimN qs).length → ∀ ad, A5 = some ad → (Value.slice B (9 * pcs.length) cB).ownBlock ≠ some ad.block := fun h0 ad hA e => by
       have h1 := (hlt5 ad h0 hA).1; have h2 := hownlt _ e
       omega
      clear b5 hT3 hownlt; have HLT := Lh hlt5; have hrn : rn < 1000000000 := by omega
      clear hlt5 hdj hql hr0 hr1 hp
      generalize trimN qs = ts at *
      clear htl; go_wp2
      go_loopw [4, 5, 7] (fun v4 v5 v7 wr2 => ∃ (k : Nat), v5 = .int .u64 ((rn / 10 ^ k : Nat) : Int) ∧ v7 = .int .i64 k ∧ k ≤ 9 ∧ wr2.ownsRow (w.heap.size + 1) 5 1 v4 (9 * pcs.length + k) ((bi (lowD pcs ++ (digs rn k).reverse)).map (Value.int .u8)) ∧ FrI wr2 (w.heap.size + 1) .u32 A5 ts ∧ Below (w.heap.size + 1) w4 wr2 ∧ w5.heap.size ≤ wr2.heap.size ∧ (0 < ts.length → ∀ ad, A5 = some ad → v4.ownBlock ≠ some ad.block)) (fun _ _ v7 _ => 9 - (intOf v7).toNat)
      case atStart => exact ⟨0, by simp, rfl, by omega, by simpa [digs] using hown, f5, hbw, Nat.le_refl _, hdj5⟩
      case round =>
       obtain ⟨k, rfl, rfl, hk9, hown, f5, hbw, hsw5, hdj5⟩ := hrel; obtain ⟨B, cB, rfl, lB, mB, -⟩ := own_form hown
       by_cases hp9 : k < 9
       ·obtain ⟨q, hq⟩ : ∃ q, rn / 10 ^ k = q := ⟨_, rfl⟩; have hqb : q ≤ rn := by rw [← hq]; exact Nat.div_le_self _ _
        have hq2 : rn / 10 ^ (k + 1) = q / 10 := by rw [Nat.pow_succ, ← Nat.div_div_eq_div_mul, hq]
        have hdg : digs rn (k + 1) = (q % 10) :: digs rn k := by rw [digs, hq]
        rw [hq]; obtain ⟨d, hd⟩ : ∃ d, q % 10 = d := ⟨_, rfl⟩; rw [hd] at hdg; have hd10 : d < 10 := by omega
        have ed : (q : Int) % 10 = (d : Int) := by omega
        have ew : IntKind.u8.wrap (48 + (d : Int)) = 48 + (d : Int) := by rw [IntKind.wrap_u8]; omega
        have HQ := Lh hq2; have HD := Lh hdg; have HS := Lh (show (9 * pcs.length + k + 1) * 1 ≤ 140737488355328 by omega); have hsz := hbw.size; have HDJ := Lh hdj5; have HF5 := Lh f5; clear hq hq2 hdg hd hdj5 f5; have hbw2 : Below (w.heap.size + 1) w4 (wr.alloc (.cells #[.int .u8 (48 + (d : Int))] 5)) := hbw.alloc lq29 _; have hown2 := hown.alloc (.cells #[.int .u8 (48 + (d : Int))] 5)
        go_wp2_with (at_builtin; refine wpList_append_ints _ rfl _ _ 40 rfl (w.heap.size + 1) 5 i0 _ 1 .u8 Tryz.underlying40 hi0 hz0 hz1 hz2 rfl _ (9 * pcs.length + k) _ rfl hown2 _ 1 1 [48 + (d : Int)] rfl rfl (rdI_one _ _ _ _) lq24 HS.out lq26 ?_; intro v3 w3 hown3 hg3 hob3); have hg4 : (wr.alloc (.cells #[.int .u8 (48 + (d : Int))] 5)).grownBy w3 (Value.slice B (9 * pcs.length + k) cB).ownBlock := hg3; have hs3 := hg4.size
        simp at hs3
        have f6 := HF5.out.later ((Below.refl wr.heap.size wr).alloc (Nat.le_refl _) (.cells #[.int .u8 (48 + (d : Int))] 5)); have f7 := f6.kept hg4 HDJ.out; have hdj7 : 0 < ts.length → ∀ ad, A5 = some ad → v3.ownBlock ≠ some ad.block := fun h0 ad hA e => by
         rcases hob3 with h | h
         ·exact HDJ.out h0 ad hA (h.symm.trans e)
         ·rw [h] at e; injection e with e
          have := (HLT.out ad h0 hA).2
          simp at e
          omega
        go_roundw
        case rel =>
         refine ⟨k + 1, by rw [HQ.out, Int.natCast_ediv]; rfl, by go_num, by omega, ?_, f7, hbw2.grown hg4 lq26 (own_baseW hown2), by omega, hdj7⟩
         rw [HD.out, List.reverse_cons, ← List.append_assoc, bi_append]; exact hown3
        case measure => simp [intOf]; omega
       ·have hk9 : k = 9 := by omega
        subst hk9; go_wp2
        go_roundw
        case rel =>
         refine ⟨pcs ++ [rn], ts, qs.drop ts.length ++ rest, A5, c5, rfl, l5, m5, by rw [length_append, length_singleton]; omega, f5, ?_, hbw, by omega, hdj5, HNX⟩
         rw [lowD_snoc, length_append, length_singleton, Nat.mul_add]; exact hown
        case measure => simp [lenV]; omega
   ·have hms : ms = [] := List.eq_nil_of_length_eq_zero lq29; subst hms; obtain ⟨-, -, hp9, hV, -⟩ := hT.out; have hPp : P = pval pcs := by have := HH.out.2.2; rw [hV] at this; simp [val] at this; omega
    have hrev := lowD_rev pcs hp9; have hll := lowD_length pcs; have hlt := pval_lt pcs hp9; have hst := fun n => strip_ok (lowD pcs) P n hXv (by rw [hrev, hPp, hll]) (by rw [hPp, hll]; exact hlt)
    have hLp : 0 < (lowD pcs).length := by
     rcases Nat.eq_zero_or_pos (lowD pcs).length with h | h
     ·exfalso
      rw [hll] at h; have : pcs = [] := List.eq_nil_of_length_eq_zero lq29; rw [this] at hPp
      simp [pval] at hPp
      omega
     ·exact h
    have hdl := lowD_lt pcs; rw [← hll] at hown ⊢; clear hT hV hp9 hrev hlt hPp hm0 hf hdj
    generalize lowD pcs = ds at *
    obtain ⟨gb, cB, hB, lB, mB⟩ := own_some hown hLp; injection hB with hB _ hcc
    subst hB hcc; have HST := Lh hst; clear hst; go_wp2
    go_loop [8] (fun v => ∃ n : Nat, v = .int .i64 n ∧ 0 < n ∧ n ≤ ds.length ∧ Hid (∀ j (h : j < ds.length), n ≤ j → ds[j] = 0)) (fun v => (intOf v).toNat)
    case atStart => exact ⟨ds.length, by rw [hll]; first | rfl | (go_num), hLp, Nat.le_refl _, Lh (fun j h h2 => absurd h lq29)⟩
    case round =>
     obtain ⟨n, rfl, hn0, hn1, hz⟩ := hrel; have hi : n - 1 < ds.length := by omega
     obtain ⟨d, hd⟩ : ∃ d, ds[n - 1] = d := ⟨_, rfl⟩; have hdc : d < 10 := by rw [← hd]; exact hdl _ (List.getElem_mem _)
     have hcl : wr.cell? ⟨gb, n - 1, none⟩ = some (.int .u8 (48 + (d : Int))) := by
      rw [hown.cellAt (n - 1) lq29, List.getElem?_map, bi_get ds _ hi, hd]; rfl
     have hgl : gb < wr.heap.size := blt hcl
     by_cases hgo : 1 < n ∧ d = 0
     ·obtain ⟨h1, rfl⟩ := hgo
      have HZ := Lh (show ∀ j (h : j < ds.length), n - 1 ≤ j → ds[j] = 0 from fun j h h2 => by
       by_cases e : j = n - 1
       ·subst e; exact hd
       ·exact hz.out j h lq29)
      obtain ⟨j, rfl⟩ : ∃ j, n = j + 1 := ⟨n - 1, by omega⟩; rw [Nat.add_sub_cancel] at hcl HZ; have e1 : (((j + 1 : Nat) : Int) - 1) = (j : Int) := by omega
      clear hd hz; go_wp2
      go_round
      case rel => exact ⟨j, by go_num, by omega, by omega, HZ⟩
      case measure => simp [intOf]
     ·have hl : n = 1 ∨ (1 < n ∧ d ≠ 0) := by omega
      have HF := Lh (HST.out n hn0 hn1 hz.out (by rw [hd]; omega)); have HDL := Lh hdl; have HD2 := Lh (show ∀ x ∈ (ds.take n).reverse, x < 10 from fun x hx => hdl x (List.mem_of_mem_take (List.mem_reverse.1 hx))); clear hd hz hdl HST
      rcases hl with hl | ⟨hl, hd0⟩
      ·subst hl; have q1 : wr.cell? ⟨w.heap.size, 0, none⟩ = some (.bool sg) := (hbw.cell (p := ⟨w.heap.size, 0, none⟩) (by show w.heap.size < _; omega)).trans q0; have hwl : w.heap.size < wr.heap.size := blt q1; obtain ⟨W5, rfl⟩ : ∃ W5, W5 = wr := ⟨wr, rfl⟩
       cases sg
       ·go_wp2
        go_loopw [9, 10] (fun v9 v10 wr2 => ∃ k : Nat, v10 = .int .i64 ((k : Int) - 1) ∧ k ≤ 1 ∧ wr2.ownsRow W5.heap.size 5 1 v9 (0 + (1 - k)) ((([] : List Int) ++ bi ((ds.take 1).drop k).reverse).map (Value.int .u8)) ∧ Below W5.heap.size W5 wr2) (fun _ v10 _ => (intOf v10 + 1).toNat)
        case atStart => exact ⟨1, (by first | rfl | go_num), Nat.le_refl _, (by rw [List.drop_eq_nil_of_le lq21, Nat.sub_self]; exact World.ownsRow_nil _ _ _ _), Below.refl _ _⟩
        case round =>
         obtain ⟨k, rfl, hkn, hown3, hbw3⟩ := hrel; obtain ⟨B3, cB3, rfl, lB3, mB3, -⟩ := own_form hown3
         by_cases hk0 : 0 < k
         ·obtain ⟨j, rfl⟩ : ∃ j, k = j + 1 := ⟨k - 1, by omega⟩; have e1 : (((j + 1 : Nat) : Int) - 1) = (j : Int) := by omega
          rw [e1]; have hj : j < ds.length := by omega
          obtain ⟨d, hd⟩ : ∃ d, ds[j] = d := ⟨_, rfl⟩; have hdc : d < 10 := by rw [← hd]; exact HDL.out _ (List.getElem_mem _)
          have hcl : wr.cell? ⟨gb, j, none⟩ = some (.int .u8 (48 + (d : Int))) := by
           exact lv185
          have hgl : gb < wr.heap.size := blt hcl; have HR := Lh (rev_drop ds 1 j lq29 hn1); rw [hd] at HR; have HS := Lh (show (0 + (1 - (j + 1)) + 1) * 1 ≤ 140737488355328 by omega); have hsz := hbw3.size; have hbw4 : Below W5.heap.size W5 (wr.alloc (.cells #[.int .u8 (48 + (d : Int))] 5)) := hbw3.alloc lq29 _; have hown4 := hown3.alloc (.cells #[.int .u8 (48 + (d : Int))] 5); clear hd e1
          go_wp2_with (at_builtin; refine wpList_append_ints _ rfl _ _ 40 rfl (W5.heap.size) 5 i0 _ 1 .u8 Tryz.underlying40 hi0 hz0 hz1 hz2 rfl _ (0 + (1 - (j + 1))) _ rfl hown4 _ 1 1 [48 + (d : Int)] rfl rfl (rdI_one _ _ _ _) lq24 HS.out lq26 ?_; intro v3 w3 hown5 hg5 hob5); have hg6 : (wr.alloc (.cells #[.int .u8 (48 + (d : Int))] 5)).grownBy w3 (Value.slice B3 (0 + (1 - (j + 1))) cB3).ownBlock := hg5
          go_roundw
          case rel =>
           refine ⟨j, by go_num, by omega, ?_, hbw4.grown hg6 lq26 (own_baseW hown4)⟩
           have el : 0 + (1 - j) = 0 + (1 - (j + 1)) + 1 := by omega
           rw [HR.out, bi_append, el, ← List.append_assoc]; exact hown5
          case measure => simp [intOf]
         ·have hk : k = 0 := by omega
          subst hk
          generalize hN : (0 + (1 - 0)) = N at *
          exact lv127
       ·have hownn := (World.ownsRow_nil W5 W5.heap.size 5 1).alloc (.cells #[.int .u8 45] 5); go_wp2_with (at_builtin; refine wpList_append_ints _ rfl _ _ 40 rfl (W5.heap.size) 5 i0 _ 1 .u8 Tryz.underlying40 hi0 hz0 hz1 hz2 rfl _ 0 [] rfl hownn _ 1 1 [(45 : Int)] rfl rfl (rdI_one _ _ _ _) lq24 lq29 lq30 ?_; intro vm wm hownm hgm hobm); have hgm2 : (W5.alloc (.cells #[.int .u8 45] 5)).grownBy wm (Value.slice none 0 0).ownBlock := hgm; have hbwm : Below W5.heap.size W5 wm := ((Below.refl W5.heap.size W5).alloc (Nat.le_refl _) _).grown hgm2 lq30 (own_baseW hownn)
        go_loopw [9, 10] (fun v9 v10 wr2 => ∃ k : Nat, v10 = .int .i64 ((k : Int) - 1) ∧ k ≤ 1 ∧ wr2.ownsRow W5.heap.size 5 1 v9 (1 + (1 - k)) (([(45 : Int)] ++ bi ((ds.take 1).drop k).reverse).map (Value.int .u8)) ∧ Below W5.heap.size W5 wr2) (fun _ v10 _ => (intOf v10 + 1).toNat)
        case atStart => exact ⟨1, (by first | rfl | go_num), Nat.le_refl _, (by rw [List.drop_eq_nil_of_le lq21, Nat.sub_self]; exact hownm), hbwm⟩
        case round =>
         obtain ⟨k, rfl, hkn, hown3, hbw3⟩ := hrel; obtain ⟨B3, cB3, rfl, lB3, mB3, -⟩ := own_form hown3
         by_cases hk0 : 0 < k
         ·obtain ⟨j, rfl⟩ : ∃ j, k = j + 1 := ⟨k - 1, by omega⟩; have e1 : (((j + 1 : Nat) : Int) - 1) = (j : Int) := by omega
          rw [e1]; have hj : j < ds.length := by omega
          obtain ⟨d, hd⟩ : ∃ d, ds[j] = d := ⟨_, rfl⟩; have hdc : d < 10 := by rw [← hd]; exact HDL.out _ (List.getElem_mem _)
          have hcl : wr.cell? ⟨gb, j, none⟩ = some (.int .u8 (48 + (d : Int))) := by
           exact lv185
          have hgl : gb < wr.heap.size := blt hcl; have HR := Lh (rev_drop ds 1 j lq29 hn1); rw [hd] at HR; have HS := Lh (show (1 + (1 - (j + 1)) + 1) * 1 ≤ 140737488355328 by omega); have hsz := hbw3.size; have hbw4 : Below W5.heap.size W5 (wr.alloc (.cells #[.int .u8 (48 + (d : Int))] 5)) := hbw3.alloc lq29 _; have hown4 := hown3.alloc (.cells #[.int .u8 (48 + (d : Int))] 5); clear hd e1
          go_wp2_with (at_builtin; refine wpList_append_ints _ rfl _ _ 40 rfl (W5.heap.size) 5 i0 _ 1 .u8 Tryz.underlying40 hi0 hz0 hz1 hz2 rfl _ (1 + (1 - (j + 1))) _ rfl hown4 _ 1 1 [48 + (d : Int)] rfl rfl (rdI_one _ _ _ _) lq24 HS.out lq26 ?_; intro v3 w3 hown5 hg5 hob5); have hg6 : (wr.alloc (.cells #[.int .u8 (48 + (d : Int))] 5)).grownBy w3 (Value.slice B3 (1 + (1 - (j + 1))) cB3).ownBlock := hg5
          go_roundw
          case rel =>
           refine ⟨j, by go_num, by omega, ?_, hbw4.grown hg6 lq26 (own_baseW hown4)⟩
           have el : 1 + (1 - j) = 1 + (1 - (j + 1)) + 1 := by omega
           rw [HR.out, bi_append, el, ← List.append_assoc]; exact hown5
          case measure => simp [intOf]
         ·have hk : k = 0 := by omega
          subst hk
          generalize hN : (1 + (1 - 0)) = N at *
          exact lv128
      ·obtain ⟨m, rfl⟩ : ∃ m, n = m + 1 := ⟨n - 1, by omega⟩; have e1 : (((m + 1 : Nat) : Int) - 1) = (m : Int) := by omega
       rw [Nat.add_sub_cancel] at hcl; have hdn : ((48 + (d : Int)) == 48) = false := by simp; omega
       have q1 : wr.cell? ⟨w.heap.size, 0, none⟩ = some (.bool sg) := (hbw.cell (p := ⟨w.heap.size, 0, none⟩) (by show w.heap.size < _; omega)).trans q0; have hwl : w.heap.size < wr.heap.size := blt q1; obtain ⟨W5, rfl⟩ : ∃ W5, W5 = wr := ⟨wr, rfl⟩
       cases sg
       ·go_wp2
        go_loopw [9, 10] (fun v9 v10 wr2 => ∃ k : Nat, v10 = .int .i64 ((k : Int) - 1) ∧ k ≤ (m + 1) ∧ wr2.ownsRow W5.heap.size 5 1 v9 (0 + ((m + 1) - k)) ((([] : List Int) ++ bi ((ds.take (m + 1)).drop k).reverse).map (Value.int .u8)) ∧ Below W5.heap.size W5 wr2) (fun _ v10 _ => (intOf v10 + 1).toNat)
        case atStart => exact ⟨(m + 1), (by first | rfl | go_num), Nat.le_refl _, (by rw [List.drop_eq_nil_of_le lq21, Nat.sub_self]; exact World.ownsRow_nil _ _ _ _), Below.refl _ _⟩
        case round =>
         obtain ⟨k, rfl, hkn, hown3, hbw3⟩ := hrel; obtain ⟨B3, cB3, rfl, lB3, mB3, -⟩ := own_form hown3
         by_cases hk0 : 0 < k
         ·obtain ⟨j, rfl⟩ : ∃ j, k = j + 1 := ⟨k - 1, by omega⟩; have e1 : (((j + 1 : Nat) : Int) - 1) = (j : Int) := by omega
          rw [e1]; have hj : j < ds.length := by omega
          obtain ⟨d, hd⟩ : ∃ d, ds[j] = d := ⟨_, rfl⟩; have hdc : d < 10 := by rw [← hd]; exact HDL.out _ (List.getElem_mem _)
          have hcl : wr.cell? ⟨gb, j, none⟩ = some (.int .u8 (48 + (d : Int))) := by
           exact lv185
          have hgl : gb < wr.heap.size := blt hcl; have HR := Lh (rev_drop ds (m + 1) j lq29 hn1); rw [hd] at HR; have HS := Lh (show (0 + ((m + 1) - (j + 1)) + 1) * 1 ≤ 140737488355328 by omega); have hsz := hbw3.size; have hbw4 : Below W5.heap.size W5 (wr.alloc (.cells #[.int .u8 (48 + (d : Int))] 5)) := hbw3.alloc lq29 _; have hown4 := hown3.alloc (.cells #[.int .u8 (48 + (d : Int))] 5); clear hd e1
          go_wp2_with (at_builtin; refine wpList_append_ints _ rfl _ _ 40 rfl (W5.heap.size) 5 i0 _ 1 .u8 Tryz.underlying40 hi0 hz0 hz1 hz2 rfl _ (0 + ((m + 1) - (j + 1))) _ rfl hown4 _ 1 1 [48 + (d : Int)] rfl rfl (rdI_one _ _ _ _) lq24 HS.out lq26 ?_; intro v3 w3 hown5 hg5 hob5); have hg6 : (wr.alloc (.cells #[.int .u8 (48 + (d : Int))] 5)).grownBy w3 (Value.slice B3 (0 + ((m + 1) - (j + 1))) cB3).ownBlock := hg5
          go_roundw
          case rel =>
           refine ⟨j, by go_num, by omega, ?_, hbw4.grown hg6 lq26 (own_baseW hown4)⟩
           have el : 0 + ((m + 1) - j) = 0 + ((m + 1) - (j + 1)) + 1 := by omega
           rw [HR.out, bi_append, el, ← List.append_assoc]; exact hown5
          case measure => simp [intOf]
         ·have hk : k = 0 := by omega
          subst hk
          generalize hN : (0 + ((m + 1) - 0)) = N at *
          exact lv127
       ·have hownn := (World.ownsRow_nil W5 W5.heap.size 5 1).alloc (.cells #[.int .u8 45] 5); go_wp2_with (at_builtin; refine wpList_append_ints _ rfl _ _ 40 rfl (W5.heap.size) 5 i0 _ 1 .u8 Tryz.underlying40 hi0 hz0 hz1 hz2 rfl _ 0 [] rfl hownn _ 1 1 [(45 : Int)] rfl rfl (rdI_one _ _ _ _) lq24 lq29 lq30 ?_; intro vm wm hownm hgm hobm); have hgm2 : (W5.alloc (.cells #[.int .u8 45] 5)).grownBy wm (Value.slice none 0 0).ownBlock := hgm; have hbwm : Below W5.heap.size W5 wm := ((Below.refl W5.heap.size W5).alloc (Nat.le_refl _) _).grown hgm2 lq30 (own_baseW hownn)
        go_loopw [9, 10] (fun v9 v10 wr2 => ∃ k : Nat, v10 = .int .i64 ((k : Int) - 1) ∧ k ≤ (m + 1) ∧ wr2.ownsRow W5.heap.size 5 1 v9 (1 + ((m + 1) - k)) (([(45 : Int)] ++ bi ((ds.take (m + 1)).drop k).reverse).map (Value.int .u8)) ∧ Below W5.heap.size W5 wr2) (fun _ v10 _ => (intOf v10 + 1).toNat)
        case atStart => exact ⟨(m + 1), (by first | rfl | go_num), Nat.le_refl _, (by rw [List.drop_eq_nil_of_le lq21, Nat.sub_self]; exact hownm), hbwm⟩
        case round =>
         obtain ⟨k, rfl, hkn, hown3, hbw3⟩ := hrel; obtain ⟨B3, cB3, rfl, lB3, mB3, -⟩ := own_form hown3
         by_cases hk0 : 0 < k
         ·obtain ⟨j, rfl⟩ : ∃ j, k = j + 1 := ⟨k - 1, by omega⟩; have e1 : (((j + 1 : Nat) : Int) - 1) = (j : Int) := by omega
          rw [e1]; have hj : j < ds.length := by omega
          obtain ⟨d, hd⟩ : ∃ d, ds[j] = d := ⟨_, rfl⟩; have hdc : d < 10 := by rw [← hd]; exact HDL.out _ (List.getElem_mem _)
          have hcl : wr.cell? ⟨gb, j, none⟩ = some (.int .u8 (48 + (d : Int))) := by
           exact lv185
          have hgl : gb < wr.heap.size := blt hcl; have HR := Lh (rev_drop ds (m + 1) j lq29 hn1); rw [hd] at HR; have HS := Lh (show (1 + ((m + 1) - (j + 1)) + 1) * 1 ≤ 140737488355328 by omega); have hsz := hbw3.size; have hbw4 : Below W5.heap.size W5 (wr.alloc (.cells #[.int .u8 (48 + (d : Int))] 5)) := hbw3.alloc lq29 _; have hown4 := hown3.alloc (.cells #[.int .u8 (48 + (d : Int))] 5); clear hd e1
          go_wp2_with (at_builtin; refine wpList_append_ints _ rfl _ _ 40 rfl (W5.heap.size) 5 i0 _ 1 .u8 Tryz.underlying40 hi0 hz0 hz1 hz2 rfl _ (1 + ((m + 1) - (j + 1))) _ rfl hown4 _ 1 1 [48 + (d : Int)] rfl rfl (rdI_one _ _ _ _) lq24 HS.out lq26 ?_; intro v3 w3 hown5 hg5 hob5); have hg6 : (wr.alloc (.cells #[.int .u8 (48 + (d : Int))] 5)).grownBy w3 (Value.slice B3 (1 + ((m + 1) - (j + 1))) cB3).ownBlock := hg5
          go_roundw
          case rel =>
           refine ⟨j, by go_num, by omega, ?_, hbw4.grown hg6 lq26 (own_baseW hown4)⟩
           have el : 1 + ((m + 1) - j) = 1 + ((m + 1) - (j + 1)) + 1 := by omega
           rw [HR.out, bi_append, el, ← List.append_assoc]; exact hown5
          case measure => simp [intOf]
         ·have hk : k = 0 := by omega
          subst hk
          generalize hN : (1 + ((m + 1) - 0)) = N at *
          exact lv128
end
end Go.Proofs.YtjefhdlncikhmaaGreatDoor
