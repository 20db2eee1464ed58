/- Joined by a program: Wr4p, T1. -/
import Derived.Test.YtjefhdlncikhmaaGreatDoorPT18
namespace Go.Proofs.YtjefhdlncikhmaaGreatDoor
set_option linter.unusedVariables false
set_option linter.unusedSimpArgs false
set_option maxRecDepth 1000000
set_option maxHeartbeats 16000000
section
open Go.RowKit
open List (length_append length_cons length_nil length_singleton)
theorem ex_kids {T : Nd} (h : Ex T) (h41 : ¬ T.kind = 41) (h42 : ¬ T.kind = 42) (h43 : ¬ T.kind = 43) : ∀ t ∈ T.kids, Ex t := by
 obtain ⟨x, fm, hf, hev, -⟩ := te_form h.te
 have hm := form_at hf
 have hk := h.2
 have all1 : ∀ (s : Sh) (l : List Nd), (∀ t, s.ev Nd.right t = true → Ex t) → l.all (s.ev Nd.right) = true → ∀ t ∈ l, Ex t := fun s l hs hl t ht => hs t (List.all_eq_true.1 hl t ht)
 have E : ∀ t, Sh.expr.ev Nd.right t = true → Ex t := fun t h => ev_ex h
 have G : ∀ t, Sh.target.ev Nd.right t = true → Ex t := fun t h => ev_tgt h
 have O : ∀ k, 31 ≤ k → ∀ t, (Sh.of k).ev Nd.right t = true → Ex t := fun k hk t h => ev_of' h hk
 have hrow : ∀ n, rowB T.kids (List.replicate n (Sh.expr.ev Nd.right)) = true → ∀ t ∈ T.kids, Ex t := fun n hr => rowB_mem hr (fun p hp t ht => E t (by rw [List.eq_of_mem_replicate hp] at ht; exact ht))
 have hcll : Fm.cll.ev Nd.right T = true → ∀ t ∈ T.kids, Ex t := by
  intro hc; simp only [Fm.ev, Bool.and_eq_true] at hc; intro t ht
  rcases mem_take_drop 1 ht with ht | ht
  ·exact all1 .expr _ E hc.1.2 t ht
  ·rcases mem_dropW (p := Sh.expr.ev Nd.right) ht with h | ht
   ·exact E t h
   ·rcases mem_dropW (p := (Sh.of 52).ev Nd.right) ht with h | ht
    ·exact O 52 lq28 t h
    ·rcases Bool.or_eq_true _ _ ▸ hc.2 with h | h
     ·rw [List.isEmpty_iff] at h; rw [h] at ht; simp at ht
     ·refine rowB_mem (P := Ex) h ?_ t ht
      intro p hp t ht; simp only [List.mem_singleton] at hp; subst hp; exact O 40 lq28 t ht
 generalize T.kind = k at *
 simp only [forms, List.mem_cons, List.not_mem_nil, or_false, Prod.mk.injEq] at hm
 rcases hm with ⟨h1, h2, h3⟩ | ⟨h1, h2, h3⟩ | ⟨h1, h2, h3⟩ | ⟨h1, h2, h3⟩ | ⟨h1, h2, h3⟩ | ⟨h1, h2, h3⟩ | ⟨h1, h2, h3⟩ | ⟨h1, h2, h3⟩ | ⟨h1, h2, h3⟩ | ⟨h1, h2, h3⟩ | ⟨h1, h2, h3⟩ | ⟨h1, h2, h3⟩ | ⟨h1, h2, h3⟩ | ⟨h1, h2, h3⟩ | ⟨h1, h2, h3⟩ | ⟨h1, h2, h3⟩ | ⟨h1, h2, h3⟩ | ⟨h1, h2, h3⟩ | ⟨h1, h2, h3⟩ | ⟨h1, h2, h3⟩ | ⟨h1, h2, h3⟩ | ⟨h1, h2, h3⟩ | ⟨h1, h2, h3⟩ | ⟨h1, h2, h3⟩ | ⟨h1, h2, h3⟩ | ⟨h1, h2, h3⟩ | ⟨h1, h2, h3⟩ | ⟨h1, h2, h3⟩ | ⟨h1, h2, h3⟩ | ⟨h1, h2, h3⟩ | ⟨h1, h2, h3⟩ | ⟨h1, h2, h3⟩ | ⟨h1, h2, h3⟩ | ⟨h1, h2, h3⟩ | ⟨h1, h2, h3⟩ | ⟨h1, h2, h3⟩ | ⟨h1, h2, h3⟩ | ⟨h1, h2, h3⟩ | ⟨h1, h2, h3⟩ | ⟨h1, h2, h3⟩ | ⟨h1, h2, h3⟩ | ⟨h1, h2, h3⟩ | ⟨h1, h2, h3⟩ | ⟨h1, h2, h3⟩ | ⟨h1, h2, h3⟩ | ⟨h1, h2, h3⟩ | ⟨h1, h2, h3⟩
 all_goals subst h1 h2 h3
 all_goals first
  | (exfalso; omega)
  | exact hrow 0 hev
  | exact hrow 1 hev
  | exact hrow 2 hev
  | exact hrow 3 hev
  | (simp only [Fm.ev, Bool.and_eq_true] at hev; exact all1 .expr _ E hev.2)
  | (simp only [Fm.ev, Bool.and_eq_true] at hev; exact all1 .target _ G hev.2)
  | (simp only [Fm.ev, Bool.and_eq_true] at hev
     refine all1 (.or2 (.of 39) (.of 40)) _ (fun t ht => ?_) hev.2
     rcases Bool.or_eq_true _ _ ▸ (show ((Sh.of 39).ev Nd.right t || (Sh.of 40).ev Nd.right t) = true from ht) with h | h
     ·exact O 39 lq28 t h
     ·exact O 40 lq28 t h)
  | exact hcll hev
theorem cmp_ex {T : Nd} (h : Ex T) (hk : T.kind = 41 ∨ T.kind = 42 ∨ T.kind = 43) : 3 ≤ T.kids.length ∧ ∀ t ∈ T.kids.take 1 ++ T.kids.drop 2, Ex t := by
 obtain ⟨x, fm, hf, hev, -⟩ := te_form h.te
 have main : ∀ s : Sh, (∀ t, s.ev Nd.right t = true → Ex t) → (Fm.cmp s).ev Nd.right T = true → 3 ≤ T.kids.length ∧ ∀ t ∈ T.kids.take 1 ++ T.kids.drop 2, Ex t := by
  intro s hs hc; rw [cmp_eq] at hc; simp only [compL, Bool.and_eq_true, decide_eq_true_eq] at hc
  refine ⟨hc.2.2.1, fun t ht => ?_⟩
  rcases List.mem_append.1 ht with ht | ht
  ·exact hs t (List.all_eq_true.1 hc.2.1 t ht)
  ·exact ev_ex (List.all_eq_true.1 hc.2.2.2.2 t ht)
 rcases hk with hk | hk | hk <;> rw [hk] at hf
 ·have hq : fm = .cmp .expr := by
   have : formOf 41 = some (.non, .cmp .expr) := rfl; rw [this] at hf; injection hf with hf; injection hf with _ hf; exact hf.symm
  subst hq; exact main _ (fun t ht => ev_ex ht) hev
 ·have hq : fm = .cmp .expr := by
   have : formOf 42 = some (.non, .cmp .expr) := rfl; rw [this] at hf; injection hf with hf; injection hf with _ hf; exact hf.symm
  subst hq; exact main _ (fun t ht => ev_ex ht) hev
 ·have hq : fm = .cmp (.of 39) := by
   have : formOf 43 = some (.non, .cmp (.of 39)) := rfl; rw [this] at hf; injection hf with hf; injection hf with _ hf; exact hf.symm
  subst hq; exact main _ (fun t ht => ev_of' ht lq28) hev
theorem len_row {T : Nd} {k : Int} (hk : T.kind = k) (h : T.right = true) {tx : Tx} {L : List Sh} (hf : formOf k = some (tx, .row L)) (h32 : k ≠ 32) : T.kids.length = L.length := by
 rw [right_at hk hf h32] at h
 simp only [Bool.and_eq_true] at h
 rcases Nat.decEq T.kids.length L.length with e | e
 ·have := rowB_len (l := T.kids) (L := L.map (Sh.ev Nd.right)) (by simpa using e); have h2 : rowB T.kids (L.map (Sh.ev Nd.right)) = true := h.2; rw [this] at h2; cases h2
 ·exact e
theorem len_call {T : Nd} (hk : T.kind = 51) (h : T.right = true) : 1 ≤ T.kids.length := by
 rw [right_at hk (tx := .non) (fm := .cll) rfl lq28] at h
 simp only [Fm.ev, Bool.and_eq_true, decide_eq_true_eq] at h
 exact h.2.1.1
end
section
open Go.RowKit Go.Shelf
open List (length_append length_cons length_nil length_singleton)
attribute [local go_sem] Oper.semAt_some
def ints (pcs : List Nat) : List Int := pcs.map (fun p : Nat => (p : Int))
def TxtI (ps : List Int) (pcs : List Nat) (ms rest : List Int) : Prop :=
 W32 ms ∧ NT ms ∧ (∀ p ∈ pcs, p < 1000000000) ∧ val ps = (pval pcs : Int) + ((10 ^ (9 * pcs.length) : Nat) : Int) * val ms ∧ (ms ++ rest).length = ps.length
def TxtJ (ms : List Int) (k : Nat) (r : Int) (qs : List Int) : Prop :=
 W32 qs ∧ qs.length + k = ms.length ∧ 1000000000 * val qs + r = val (ms.drop k)
theorem txtJ_step {ms : List Int} {i : Nat} {r q r2 z : Int} {qs : List Int} (h : TxtJ ms (i + 1) r qs) (hi : i < ms.length) (hz : ms[i] = z) (hq0 : 0 ≤ q) (hq1 : q ≤ 4294967295) (he : 1000000000 * q + r2 = r * 4294967296 + z) : TxtJ ms i r2 (q :: qs) := by
 obtain ⟨h1, h2, h3⟩ := h
 refine ⟨W32.cons hq0 hq1 h1, by rw [length_cons]; omega, ?_⟩
 rw [List.drop_eq_getElem_cons hi, val, val, hz, ← h3]
 omega
theorem txtI_step {ps ms rest : List Int} {pcs : List Nat} {r : Nat} {qs : List Int} (h : TxtI ps pcs ms rest) (hJ : TxtJ ms 0 (r : Int) qs) (hr : r < 1000000000) : TxtI ps (pcs ++ [r]) (trimN qs) (qs.drop (trimN qs).length ++ rest) := by
 obtain ⟨h1, h2, h3, h4, h5⟩ := h
 obtain ⟨j1, j2, j3⟩ := hJ
 rw [List.drop_zero] at j3
 refine ⟨trimN_w32 j1, trimN_nt qs, ?_, ?_, ?_⟩
 ·intro p hp
  rcases List.mem_append.1 hp with hp | hp
  ·exact h3 p hp
  ·simp at hp; omega
 ·rw [val_trimN, pval_snoc, length_append, length_singleton, show 9 * (pcs.length + 1) = 9 * pcs.length + 9 by omega, Nat.pow_add, h4, ← j3]; have e : (10 : Nat) ^ 9 = 1000000000 := by decide
  rw [e]
  generalize 10 ^ (9 * pcs.length) = P
  simp only [Int.natCast_add, Int.natCast_mul]
  grind
 ·rw [← List.append_assoc]; have : trimN qs ++ qs.drop (trimN qs).length = qs := by
   rw [trimN_length]; exact List.take_append_drop _ _
  rw [this, length_append]; rw [length_append] at h5
  omega
theorem trim_join (qs rest : List Int) : trimN qs ++ (qs.drop (trimN qs).length ++ rest) = qs ++ rest := by
 rw [← List.append_assoc]
 have : trimN qs ++ qs.drop (trimN qs).length = qs := by
  rw [trimN_length]; exact List.take_append_drop _ _
 rw [this]
def lenV : Value → Nat | .slice _ n _ => n | _ => 0
theorem wText_ok (neg : Bool) (A : Option Addr) (c : Nat) (zs : List Int) (w : World) (hW : W32 zs) (hr : RdI w .u32 A zs) (hl : zs.length ≤ c) (hc : c ≤ 9223372036854775807) (hm : zs.length ≤ 1000000) :
  Calls Tryz.prog 141 #[.agg #[.bool neg, .slice A zs.length c]] w fun e w' => e = .returned (.string ⟨(textL (valI neg zs)).toArray⟩) ∧ Below w.heap.size w w' := by
 have hT := fun W (hb : Below w.heap.size w W) => trim_any A c zs W (hr.later hb) hl hc
 have rX : RdI w .u32 A (trimN zs) := hr.take _
 have lX := trimN_le zs
 have hX2 := trimN_w32 hW
 have nX := trimN_nt zs
 have e1 : valI neg zs = valI neg (trimN zs) := by rw [valI, valI, val_trimN]
 rw [e1]
 generalize trimN zs = ps at *
 clear e1
 have hw0 : Below w.heap.size w (w.alloc (.cells #[.bool neg, .slice A zs.length c] 24)) := ((Below.refl _ _).alloc (Nat.le_refl _) _)
 by_cases h0 : ps = []
 ·subst h0; have hv : textL (valI neg []) = [48] := by cases neg <;> rfl
  have hvs : (⟨(textL (valI neg [])).toArray⟩ : ByteArray) = ⟨#[48]⟩ := by rw [hv]
  rw [hvs]; simp only [length_nil] at hT; clear hv hvs; go_enter Tryz.func141, Tryz.ntmps141
  go_wp2_with (first
   | (go_at_call 185; refine (hT _ hw0).mono ?_; rintro e w' ⟨rfl, rfl⟩)
   | (go_at_call 59; refine (clone_zero A c _ hc).mono ?_; rintro e w1 ⟨⟨A', c', rfl, hc'⟩, hb1⟩))
  go_ret; exact ⟨rfl, hw0.trans (hb1.mono hw0.size)⟩
 ·have hn : 0 < ps.length := List.length_pos_iff.2 h0; obtain ⟨i0, hi0, hz0, hz1, hz2⟩ := info_parts u32_info; obtain ⟨W0, hW0⟩ : ∃ W0, w.alloc (.cells #[.bool neg, .slice A zs.length c] 24) = W0 := ⟨_, rfl⟩; have hs0 : W0.heap.size = w.heap.size + 1 := by rw [← hW0]; simp
  have hcell0 : W0.cell? ⟨w.heap.size, 0, none⟩ = some (.bool neg) := by rw [← hW0]; simp [go_sem]
  have hcell1 : W0.cell? ⟨w.heap.size, 1, none⟩ = some (.slice A zs.length c) := by rw [← hW0]; simp [go_sem]
  rw [hW0] at hw0; have HX := Lh (And.intro hX2 nX); have x0 : ((ps.length : Int) == 0) = false := by simp; omega
  clear hX2 nX
  refine (callsIn_wide (n := 6)).1 ?_
  refine callsIn_of_wp_marks Tryz.func141 rfl trivial ?_ rfl
  simp only [Tryz.ntmps141, List.size_toArray, length_cons, length_nil, Nat.reduceAdd, Nat.reduceSub, Array.replicate_succ, Array.replicate_zero, List.push_toArray, List.append_toArray, List.nil_append, List.cons_append]
  gi_wp2_with fail
  refine ⟨trivial, ?_⟩
  gi_at_call 185
  refine (callsIn_wide.2 ((hT W0 hw0).mono fun e w' h => And.intro h.1 h.2.symm)).mono ?_
  rintro e w' ⟨rfl, rfl⟩
  gi_wp2_with fail
  refine ⟨trivial, ?_⟩
  gi_at_call 59
  refine (callsIn_wide.2 (clone_own A c ps w' (rX.later hw0) lq29 hn)).mono ?_
  rintro e w1 ⟨g, c1, rfl, l1, m1, hown1, hb1⟩; have hgB : w'.heap.size ≤ g := own_baseW hown1 g rfl; have hg1 : g < w1.heap.size := hown_lt hown1; have hbb1 : Below (w.heap.size + 1) w' w1 := hb1.mono lq29
  gi_wp2
  gi_loopw [3, 4] (fun v3 v4 wr => ∃ (pcs : List Nat) (ms rest : List Int), v3 = .slice (some ⟨g, 0, none⟩) ms.length c1 ∧ pcs.length ≤ 2 * ps.length ∧ wr.ownsRow w'.heap.size 61 1 (.slice (some ⟨g, 0, none⟩) ps.length c1) ps.length ((ms ++ rest).map (Value.int .u32)) ∧ wr.ownsRow w1.heap.size 61 1 v4 pcs.length ((ints pcs).map (Value.int .u32)) ∧ Below (w.heap.size + 1) w' wr ∧ w1.heap.size ≤ wr.heap.size ∧ Hid (TxtI ps pcs ms rest)) (fun _ v4 _ => 2 * ps.length + 1 - lenV v4)
  case atStart =>
   exact ⟨[], ps, [], rfl, Nat.zero_le _, by rw [List.append_nil]; exact hown1, World.ownsRow_nil _ _ _ _, hbb1, Nat.le_refl _, Lh ⟨HX.out.1, HX.out.2, by simp, by simp [pval], by simp⟩⟩
  case round =>
   obtain ⟨pcs, ms, rest, rfl, hpl, hown, hpo, hbw, hsw, hT2⟩ := hrel; obtain ⟨B, cB, rfl, lB, mB, _⟩ := own_form hpo; have hml : ms.length ≤ ps.length := by have := hT2.out.2.2.2.2; rw [length_append] at this; omega
   by_cases hm0 : 0 < ms.length
   ·have HM := Lh hm0
    gi_wp2
    gi_loopw [5, 6] (fun v5 v6 wr2 => ∃ (k : Nat) (r : Int) (qs : List Int), v5 = .int .u32 r ∧ v6 = .int .i64 ((k : Int) - 1) ∧ k ≤ ms.length ∧ 0 ≤ r ∧ r < 1000000000 ∧ wr2.ownsRow w'.heap.size 61 1 (.slice (some ⟨g, 0, none⟩) ps.length c1) ps.length ((ms.take k ++ (qs ++ rest)).map (Value.int .u32)) ∧ wr2.ownsRow w1.heap.size 61 1 (.slice B pcs.length cB) pcs.length ((ints pcs).map (Value.int .u32)) ∧ Below (w.heap.size + 1) w' wr2 ∧ w1.heap.size ≤ wr2.heap.size ∧ Hid (TxtJ ms k r qs)) (fun _ v6 _ => (intOf v6 + 1).toNat)
    case atStart =>
     exact ⟨ms.length, 0, [], rfl, rfl, Nat.le_refl _, by omega, by omega, by rw [List.take_length, List.nil_append]; exact hown, hpo, hbw, hsw, Lh ⟨W32.nil, by simp, by rw [List.drop_eq_nil_of_le (Nat.le_refl _)]; rfl⟩⟩
    case round =>
     obtain ⟨k, r, qs, rfl, rfl, hk, hr0, hr1, hown, hpo, hbw, hsw, hJ⟩ := hrel
     by_cases hp : 0 < k
     ·obtain ⟨i, rfl⟩ : ∃ i, k = i + 1 := ⟨k - 1, by omega⟩; have e1 : (((i + 1 : Nat) : Int) - 1) = (i : Int) := by omega
      rw [e1]; have him : i < ms.length := by omega
      obtain ⟨z, hz⟩ : ∃ z, ms[i] = z := ⟨_, rfl⟩; have hzb := hT2.out.1.get i him; rw [hz] at hzb; have hcl : wr.cell? ⟨g, i, none⟩ = some (.int .u32 z) := by
       rw [hown.cellAt i lq29, List.getElem?_map, List.getElem?_append_left lq21, List.getElem?_take_of_lt lq29, List.getElem?_eq_getElem him, hz]; rfl
      have hfr : wr.frozen? ⟨g, i, none⟩ = false := hown.frozenAt i; have hg2 : g < wr.heap.size := by omega
      have hdiv := fun wx => div32_ok r z 1000000000 wx hr0 hr1 lq29 hzb.1 hzb.2
      obtain ⟨q, hq⟩ : ∃ q, (r * 4294967296 + z) / 1000000000 = q := ⟨_, rfl⟩; obtain ⟨r2, hr2⟩ : ∃ r2, (r * 4294967296 + z) % 1000000000 = r2 := ⟨_, rfl⟩; rw [hq, hr2] at hdiv; have hb2 : 0 ≤ r2 ∧ r2 < 1000000000 := by omega
      have hJ2 := txtJ_step hJ.out him hz (q := q) (r2 := r2) lq29 lq29 lq29; have HJ := Lh hJ2; have HB := Lh hb2; clear hJ2 hJ hz hq hr2 hb2
      gi_wp2_with (refine ⟨trivial, ?_⟩; gi_at_call 186; refine (callsIn_wide.2 (hdiv _)).mono ?_; rintro e w4 ⟨rfl, b4⟩; have hcl4 := cLt b4 hcl; have hfr4 : w4.frozen? ⟨g, i, none⟩ = false := (b4.frozen (p := ⟨g, i, none⟩) hg2).trans hfr; have hg4 : g < w4.heap.size := Nat.lt_of_lt_of_le hg2 b4.size)
      go_roundw
      case rel =>
       refine ⟨i, r2, q :: qs, rfl, rfl, by omega, HB.out.1, HB.out.2, ?_, ownsRow_setCell_below (own_later hpo b4) hg1 _, (hbw.trans (b4.mono lq29)).setCell (p := ⟨g, i, none⟩) (by show _ ≤ g; omega) _, by rw [World.size_setCell]; exact Nat.le_trans hsw b4.size, HJ⟩
       have := ((own_later hown b4).stored i (.int .u32 q)).1; rw [← List.map_set, set_mid ms i q _ him] at this; exact this
      case measure => simp [intOf]
     ·have hk0 : k = 0 := by omega
      subst hk0; obtain ⟨rn, rfl⟩ := Int.eq_ofNat_of_zero_le hr0; rw [List.take_zero, List.nil_append] at hown; have hql : qs.length = ms.length := by have := hJ.out.2.1; omega
      have hNX := txtI_step hT2.out hJ.out lq29; have hrq : RdI wr .u32 (some ⟨g, 0, none⟩) qs := rd_of_own hown; have hpm : (1 : Int) ≤ val ms := by
       have := nt_pos hT2.out.1 hT2.out.2.1 (by intro e; rw [e] at hm0; simp at hm0)
       omega
      have hfew := pcs_few ps.length pcs.length (val ps) (val ms) (val_bound HX.out.1) (by have := hT2.out.2.2.2.1; omega) hpm; have HNX := Lh hNX; clear hNX hpm; have hjoin := trim_join qs rest; have htl := trimN_le qs; have hsz2 := hbw.size; have HS := Lh (show (pcs.length + 1) * 4 ≤ 140737488355328 by omega); have hbw2 : Below (w.heap.size + 1) w' (wr.alloc (.cells #[.int .u32 (rn : Int)] 61)) := hbw.alloc lq29 _; have hpo2 := hpo.alloc (.cells #[.int .u32 (rn : Int)] 61); have hown2 := hown.alloc (.cells #[.int .u32 (rn : Int)] 61)
      gi_wp2_with (gi_at_builtin; refine wpListIn_append_own _ rfl _ _ 22 rfl w1.heap.size 61 i0 _ 1 4 Tryz.underlying22 hi0 hz0 hz1 hz2 rfl lq28 _ pcs.length _ rfl hpo2 _ 1 1 [.int .u32 (rn : Int)] rfl rfl (news_oneW _ _ _) (by simp [Value.oneCell']) lq24 HS.out lq26 ?_; intro v3 w3 hown3 hg3 _)
      have b3 : Below (w.heap.size + 1) w' w3 := hbw2.grown hg3 lq26 (fun k e => by have := own_baseW hpo2 k e; omega); have hne : (Value.slice (some ⟨g, 0, none⟩) ps.length c1).ownBlock = none ∨ (Value.slice (some ⟨g, 0, none⟩) ps.length c1).ownBlock ≠ (Value.slice B pcs.length cB).ownBlock := by
       refine .inr fun e => ?_
       have := own_baseW hpo2 g e.symm
       omega
      have hown4 := hown2.kept hg3 hne; have hrq3 : RdI w3 .u32 (some ⟨g, 0, none⟩) qs := rd_of_own hown4; have hsw3 : w1.heap.size ≤ w3.heap.size := by have := hg3.size; simp at this; omega
      have hT3 := trim_any (some ⟨g, 0, none⟩) c1 qs w3 hrq3 lq29 m1; rw [hql] at hT3; obtain ⟨B3, cB3, rfl, lB3, mB3, _⟩ := own_form hown3
      gi_wp2_with (refine ⟨trivial, ?_⟩; gi_at_call 185; refine (callsIn_wide.2 (hT3.mono fun e w' h => And.intro h.1 h.2.symm)).mono ?_; rintro e w5 ⟨rfl, rfl⟩)
      go_roundw
      case rel =>
       refine ⟨pcs ++ [rn], trimN qs, qs.drop (trimN qs).length ++ rest, rfl, by rw [length_append, length_singleton]; omega, ?_, ?_, b3, hsw3, HNX⟩
       ·rw [hjoin]; exact hown4
       ·rw [length_append, length_singleton, ints, List.map_append, List.map_append]; exact hown3
      case measure => simp [lenV]; omega
   ·have hms : ms = [] := List.eq_nil_of_length_eq_zero lq29; subst hms; obtain ⟨-, -, hp9, hV, -⟩ := hT2.out; have hV2 : val ps = (pval pcs : Int) := by rw [hV]; simp [val]
    obtain ⟨us, hus, hus2⟩ := words_pcs pcs hp9; have hul : us.length = pcs.length := by rw [← hus2, List.length_map]
    have hrp : RdI wr .u32 B (vals us) := by
     rw [hus]; exact (FrI.of_own (n := pcs.length) (c := cB) (e := 61) (zs := pcs.map (fun p : Nat => (p : Int))) hpo).rd
    have HE := Lh (And.intro hV2 (And.intro hp9 hus2)); have HRP := Lh hrp; clear hV hV2 hp9 hus hus2 hrp hT2 hm0 hown; obtain ⟨Bb, hBb⟩ : ∃ b, wr.heap.size = b := ⟨_, rfl⟩
    gi_wp2_with (refine ⟨trivial, ?_⟩; gi_at_call 187; refine (callsIn_wide.2 (backward_any _ _ _ _)).mono ?_; rintro e w' ⟨rfl, rfl⟩)
    obtain ⟨Wr, hWr⟩ : ∃ W, (wr.alloc (.cells #[.pointer none, .slice none 0 0] 56)).alloc (.cells #[.slice B pcs.length cB] 22) = W := ⟨_, rfl⟩; have hsr : Wr.heap.size = Bb + 1 + 1 := by rw [← hWr]; simp [hBb]
    have hbx : Wr.heap[Bb + 1]? = some (.cells #[.slice B pcs.length cB] 22 (0, 0)) := by
     rw [← hWr, ← hBb]; have := World.alloc_heap_new (wr.alloc (.cells #[.pointer none, .slice none 0 0] 56)) (.cells #[.slice B pcs.length cB] 22); rwa [World.size_alloc] at this
    have hBf : Lib.IsBuilderF 56 5 Bb Bb [] Wr := by
     rw [← hWr, ← hBb]; exact (Lib.IsBuilderF.of (Lib.fresh_isBuilder 56 5 wr)).alloc _
    have hbl0 : Below Bb wr Wr := by
     rw [← hWr]; exact ((Below.refl _ _).alloc lq29 _).alloc lq26 _
    have hcx : Wr.cell? ⟨Bb + 1, 0, none⟩ = some (.slice B us.length cB) := by rw [Lib.cell_of_heap hbx, hul]; rfl
    rw [hWr]; clear hWr
    refine wpIn_rangeFunc_ownG (n := 6) rfl lq29 (gf := 211) (lb := #[.pointer (some ⟨Bb + 1, 0, none⟩)]) rfl trivial (enters_of Tryz.func211 lq27 rfl)
     (backward_stops 5 lq29 (Bb + 1) Bb B cB us lq29 Wr lq29 hcx (fun W' hb => HRP.out.later (by rw [hBb]; exact hbl0.trans hb))) kpB_t (kpB_b lq29) (Below.refl _ _) (fun _ => rfl)
     (fun pre W => (Lib.IsBuilderF 56 5 Bb Bb (flat9 pre) W ∧ W.heap[Bb + 1]? = some (.cells #[.slice B pcs.length cB] 22 (0, 0))) ∧ Below Bb wr W)
     (fun _ _ _ => False)
     (OwnFrom.and (Own.from (fun s A B row hs hg hr => ⟨isB_own hs.1 hg hr, heap_own hs.2 hg hr⟩) _) (ownFrom_below lq29 lq29))
     (fun _ _ _ _ _ hs _ _ => hs)
     ⟨⟨hBf, hbx⟩, hbl0⟩ ?a1 ?assign ?body ?done ?stop
    case assign =>
     intro l x W K hK
     gi_wp2
     exact hK
    case body =>
     rintro l pre x W ⟨⟨hB, hbox⟩, hbl⟩ hlt; have HS := Lh (flat9_snoc pre x); have hfl := flat9_len pre; obtain ⟨i, z, z0, z1⟩ := x; obtain ⟨n, rfl⟩ := Int.eq_ofNat_of_zero_le z0; have HL := Lh (show (flat9 pre).length + 9 ≤ 140737488355328 by omega); clear hfl
     dsimp only
     gi_wp2_with (refine ⟨trivial, ?_⟩; gi_at_call 188; refine (CallsIn.inRound l (callsIn_wide.2 (digits_ok n _ lq29))).mono ?_; rintro e w4 ⟨rfl, b4⟩)
     have hbx4 : w4.heap[Bb + 1]? = some (.cells #[.slice B pcs.length cB] 22 (0, 0)) := heap_laterW b4 hbox; have hB4 := isB_later hB b4; have hlt2 : Bb + 1 < W.heap.size := (Array.getElem?_eq_some_iff.1 hbox).1; have hlt4 : Bb + 1 < w4.heap.size := (Array.getElem?_eq_some_iff.1 hbx4).1; obtain ⟨WA, hWA⟩ : ∃ WA, w4.alloc (.cells #[.int .u8 (dsign n 8), .int .u8 (dsign n 7), .int .u8 (dsign n 6), .int .u8 (dsign n 5), .int .u8 (dsign n 4), .int .u8 (dsign n 3), .int .u8 (dsign n 2), .int .u8 (dsign n 1), .int .u8 (dsign n 0)] 147) = WA := ⟨_, rfl⟩
     have bA : Below w4.heap.size w4 WA := by rw [← hWA]; exact (Below.refl _ _).alloc (Nat.le_refl _) _
     have hgA : WA.heap[w4.heap.size]? = some (.cells #[.int .u8 (dsign n 8), .int .u8 (dsign n 7), .int .u8 (dsign n 6), .int .u8 (dsign n 5), .int .u8 (dsign n 4), .int .u8 (dsign n 3), .int .u8 (dsign n 2), .int .u8 (dsign n 1), .int .u8 (dsign n 0)] 147 (0, 0)) := by rw [← hWA]; exact World.alloc_heap_new _ _
     have hsA : WA.heap.size = w4.heap.size + 1 := by rw [← hWA]; simp
     rw [hWA]
     refine ⟨trivial, ?_⟩
     gi_at_call 189
     refine (CallsIn.inRound l (callsIn_wide.2 (bWrite Bb Bb w4.heap.size (flat9 pre) #[.int .u8 (dsign n 8), .int .u8 (dsign n 7), .int .u8 (dsign n 6), .int .u8 (dsign n 5), .int .u8 (dsign n 4), .int .u8 (dsign n 3), .int .u8 (dsign n 2), .int .u8 (dsign n 1), .int .u8 (dsign n 0)] 147 WA (isB_later hB4 bA) HL.out lq29 lq29 lq28 hgA (by simp [Value.oneCell'])))).mono ?_
     rintro e w5 ⟨rfl, h5, b5, k5⟩; have bWA : Below Bb W WA := (b4.mono lq29).trans (bA.mono lq29); have hk5 : ∀ (k : Nat) (o : Obj), Bb + 1 ≤ k → W.heap[k]? = some o → (∀ c fz, o ≠ .cells c 5 fz) → w5.heap[k]? = some o := fun k o hk h hne => k5 k o (heap_laterW bA (heap_laterW b4 h)) (by intro e1; injection e1 with e1; omega) hne
     have hbx5 : w5.heap[Bb + 1]? = some (.cells #[.slice B pcs.length cB] 22 (0, 0)) := hk5 _ _ (Nat.le_refl _) hbox (by intro c fz e1; injection e1 with _ e1 _; exact absurd e1 lq28)
     gi_wp2
     refine ⟨⟨Nat.le_trans (Nat.le_trans b4.size bA.size) b5.size, fun k o hk h ho => hk5 k o lq29 h (by intro c fz e1; subst e1; cases ho)⟩, ⟨bWA.trans b5, fun v hv => ?_⟩, ⟨.inr ?_, hbx5⟩, hbl.trans (bWA.trans b5)⟩
     ·rw [Lib.cell_of_heap hbox] at hv; rw [Lib.cell_of_heap hbx5]; exact hv
     ·rw [HS.out]; exact h5
    case done =>
     rintro D ys W hD rfl ⟨⟨hB, hbox⟩, hbl⟩ hK; obtain ⟨hV2, hp9, hus2⟩ := HE.out; rw [flat9_pcs us pcs hus2] at hB; obtain ⟨l, hl0⟩ : ∃ l, (pcs.reverse.flatMap fun p => digs p 9).map dchr = l := ⟨_, rfl⟩; rw [hl0] at hB; have hll : l.length = 9 * pcs.length := by
      rw [← hl0, List.length_map, List.length_flatMap]; have : ∀ q : List Nat, (q.map fun p => (digs p 9).length).sum = 9 * q.length := fun q => by
       induction q with
       | nil => rfl
       | cons p q ih => rw [List.map_cons, List.sum_cons, ih, digs_length, length_cons]; omega
      rw [this, List.length_reverse]
     have hdec : Lib.trimLeftB l 48 = decB (pval pcs) := by rw [← hl0]; exact decB_of_pieces pcs hp9
     have hpos : 0 < val ps := nt_pos HX.out.1 HX.out.2 h0; obtain ⟨S, hS⟩ : ∃ S, (⟨(Lib.trimLeftB l 48).toArray⟩ : ByteArray) = S := ⟨_, rfl⟩; have hSs : S.size ≤ 20000000 := by
      rw [← hS]
      show (Lib.trimLeftB l 48).toArray.size ≤ _
      rw [List.size_toArray]; have : (Lib.trimLeftB l 48).length ≤ l.length := (List.dropWhile_sublist _).length_le
      omega
     have htx1 : (⟨(textL (valI false ps)).toArray⟩ : ByteArray) = S := by
      rw [← hS, hdec]; have : valI false ps = (pval pcs : Int) := by rw [valI, hV2]; rfl
      rw [this, textL, if_neg lq29, if_neg lq29]; rfl
     have htx2 : (⟨(textL (valI true ps)).toArray⟩ : ByteArray) = ⟨#[45]⟩ ++ S := by
      rw [← hS, hdec]; have : valI true ps = -(pval pcs : Int) := by rw [valI, hV2]; rfl
      rw [this, textL, if_neg lq29, if_pos lq29, Int.natAbs_neg]
      refine ByteArray.ext (Array.ext' ?_)
      simp [ByteArray.data_append]
     have HT1 := Lh htx1; have HT2 := Lh htx2; have htl : ∀ wx, Calls Tryz.prog 190 #[.string ⟨l.toArray⟩, .string ⟨#[48]⟩] wx fun e w' => e = .returned (.string S) ∧ w' = wx := fun wx => by
      have := Tryz.strings_TrimLeft_one ⟨l.toArray⟩ 48 lq28 wx; rw [show (⟨l.toArray⟩ : ByteArray).data.toList = l by simp, hS] at this; exact this
     clear htx1 htx2 hS hdec hl0 hV2 hp9 hus2; have hcl0 : W.cell? ⟨w.heap.size, 0, none⟩ = some (.bool neg) := (hbl.cell (p := ⟨w.heap.size, 0, none⟩) (by show w.heap.size < Bb; omega)).trans ((hbw.cell (p := ⟨w.heap.size, 0, none⟩) lq30).trans hcell0); have hszW : Bb ≤ W.heap.size := by have := hbl.size; omega
     cases neg
     ·gi_wp2_with fail
      refine ⟨trivial, ?_⟩
      gi_at_call 32
      refine (callsIn_wide.2 (Tryz.Builder_String_any_k Bb Bb l W hB hszW)).mono ?_
      rintro e w6 ⟨rfl, hb6, b6, k6⟩; have hcl6 := (b6.cell (p := ⟨w.heap.size, 0, none⟩) (by show w.heap.size < Bb; omega)).trans hcl0; have hsz6 : w.heap.size < w6.heap.size := by have := b6.size; omega
      have hK6 : w6.heap[D]? = some (.deferred (some [])) := k6 D _ hK (by intro e1; injection e1 with e1; omega) (by intro c fz e1; cases e1)
      gi_wp2_with (refine ⟨trivial, ?_⟩; gi_at_call 190; refine (callsIn_wide.2 (htl _)).mono ?_; rintro e w7 ⟨rfl, rfl⟩)
      refine ⟨by simp, .inl ⟨_, _, rfl, run_takeDeferred hK6, ?_⟩⟩
      exact ⟨_, results_tmp rfl _ _ _, by rw [HT1.out]; rfl, (hw0.trans ((hbw.mono lq29).trans ((hbl.mono lq29).trans (b6.mono lq29)))).trans (belowK_b (w := w) (Nat.le_refl _) _ D _ _ lq29 hK6 rfl rfl)⟩
     ·gi_wp2_with fail
      refine ⟨trivial, ?_⟩
      gi_at_call 32
      refine (callsIn_wide.2 (Tryz.Builder_String_any_k Bb Bb l W hB hszW)).mono ?_
      rintro e w6 ⟨rfl, hb6, b6, k6⟩; have hcl6 := (b6.cell (p := ⟨w.heap.size, 0, none⟩) (by show w.heap.size < Bb; omega)).trans hcl0; have hsz6 : w.heap.size < w6.heap.size := by have := b6.size; omega
      have hK6 : w6.heap[D]? = some (.deferred (some [])) := k6 D _ hK (by intro e1; injection e1 with e1; omega) (by intro c fz e1; cases e1)
      gi_wp2_with (refine ⟨trivial, ?_⟩; gi_at_call 190; refine (callsIn_wide.2 (htl _)).mono ?_; rintro e w7 ⟨rfl, rfl⟩)
      refine ⟨by simp, .inl ⟨_, _, rfl, run_takeDeferred hK6, ?_⟩⟩
      exact ⟨_, results_tmp rfl _ _ _, by rw [HT2.out]; rfl, (hw0.trans ((hbw.mono lq29).trans ((hbl.mono lq29).trans (b6.mono lq29)))).trans (belowK_b (w := w) (Nat.le_refl _) _ D _ _ lq29 hK6 rfl rfl)⟩
    case stop =>
     rintro D c' pre W _ _ h _; exact h.elim
end
end Go.Proofs.YtjefhdlncikhmaaGreatDoor
