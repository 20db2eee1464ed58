/- Joined by a program: Can, TxP, BWrite, W10. -/
import Derived.Test.YtjefhdlncikhmaaGreatDoorPT04
import Derived.Test.YtjefhdlncikhmaaGreatDoorPT08
namespace Go.Proofs.YtjefhdlncikhmaaGreatDoor
set_option linter.unusedVariables false
set_option linter.unusedSimpArgs false
set_option maxRecDepth 1000000
set_option maxHeartbeats 16000000
section
open Go.RowKit
open List (length_append length_cons length_nil length_singleton)
def wdsF : Nat → Nat → List Int
 | 0, _ => []
 | f + 1, n => if n = 0 then [] else ((n % 4294967296 : Nat) : Int) :: wdsF f (n / 4294967296)
def wds (n : Nat) : List Int := wdsF n n
theorem wdsF_ok : ∀ (f n : Nat), n ≤ f → W32 (wdsF f n) ∧ NT (wdsF f n) ∧ val (wdsF f n) = (n : Int)
 | 0, n, h => by
  have : n = 0 := by omega
  subst this; exact ⟨W32.nil, trivial, rfl⟩
 | f + 1, n, h => by
  rw [wdsF]
  by_cases h0 : n = 0
  ·rw [if_pos h0, h0]; exact ⟨W32.nil, trivial, rfl⟩
  ·rw [if_neg h0]; obtain ⟨h1, h2, h3⟩ := wdsF_ok f (n / 4294967296) lq29
   refine ⟨W32.cons lq29 lq29 h1, ?_, ?_⟩
   ·cases hw : wdsF f (n / 4294967296) with
    | nil =>
     rw [hw] at h3; have : n / 4294967296 = 0 := by simp [val] at h3; omega
     show ((n % 4294967296 : Nat) : Int) ≠ 0
     omega
    | cons y ys => rw [hw] at h2; exact h2
   ·rw [val, h3]; omega
theorem wds_w32 (n : Nat) : W32 (wds n) := (wdsF_ok n n (Nat.le_refl _)).1
theorem wds_nt (n : Nat) : NT (wds n) := (wdsF_ok n n (Nat.le_refl _)).2.1
theorem val_wds (n : Nat) : val (wds n) = (n : Int) := (wdsF_ok n n (Nat.le_refl _)).2.2
def cb : Option Int → Bool
 | none => false
 | some S => decide (S < 0)
def cz : Option Int → List Int
 | none => []
 | some S => wds S.natAbs
theorem cz_w32 (O : Option Int) : W32 (cz O) := by cases O with | none => exact W32.nil | some S => exact wds_w32 _
theorem cz_nt (O : Option Int) : NT (cz O) := by cases O with | none => trivial | some S => exact wds_nt _
theorem valI_c (S : Int) : valI (cb (some S)) (cz (some S)) = S := by
 rw [valI, cb, cz, val_wds]
 by_cases h : S < 0
 ·rw [dTr h, if_pos rfl]; omega
 ·rw [dFa h, if_neg lq28]; omega
def CanAt (w : World) (base : Nat) (O : Option Int) (A : Option Addr) (c : Nat) : Prop := (cz O).length ≤ c ∧ c ≤ 9223372036854775807 ∧ FrI w base .u32 A (cz O)
theorem CanAt.later {w w' : World} {base : Nat} {O : Option Int} {A : Option Addr} {c : Nat} (h : CanAt w base O A c) (hb : Below w.heap.size w w') : CanAt w' base O A c := ⟨h.1, h.2.1, h.2.2.later hb⟩
theorem CanAt.mono {w : World} {base base' : Nat} {O : Option Int} {A : Option Addr} {c : Nat} (h : CanAt w base O A c) (hb : base' ≤ base) : CanAt w base' O A c := ⟨h.1, h.2.1, h.2.2.mono hb⟩
theorem IntAt.can {w : World} {base : Nat} {S : Int} {v : Value} (h : IntAt w base S v) : ∃ A c, v = .agg #[.bool (cb (some S)), .slice A (cz (some S)).length c] ∧ CanAt w base (some S) A c := by
 obtain ⟨b, A, c, zs, rfl, h1, h2, h3, h4, h5, h6, h7⟩ := h
 have hv := val_nn h4
 have ha := valI_abs (b := b) h4
 rw [h6] at ha
 have hz : zs = cz (some S) := by
  refine canon h4 (cz_w32 _) h5 (cz_nt _) ?_
  rw [cz, val_wds]; omega
 have hb : b = cb (some S) := by
  have h0 := nt_zero h4 h5; rw [cb]
  cases b
  ·rw [valI, if_neg lq28] at h6; rw [dFa]; omega
  ·have := h7 rfl; rw [valI, if_pos rfl] at h6; have hne : val zs ≠ 0 := fun e => this (h0.1 e)
   rw [dTr]; omega
 subst hb
 rw [hz] at h1 h3 ⊢
 exact ⟨A, c, rfl, h1, h2, h3⟩
theorem retI_can {w w' : World} {X : Int} {e : Ending} (h : RetI w X e w') : ∃ A c, e = .returned (.agg #[.bool (cb (some X)), .slice A (cz (some X)).length c]) ∧ CanAt w' w.heap.size (some X) A c ∧ Below w.heap.size w w' := by
 obtain ⟨b', A', n', c', rfl, h1, h2⟩ := h
 obtain ⟨A, c, hv, hc⟩ := h1.can
 exact ⟨A, c, by rw [hv], hc, h2⟩
end
section
open List (length_append length_cons length_nil length_singleton)
def tx (T : Nd) : List UInt8 := T.text.data.toList
def sepL (s : List UInt8) : List (List UInt8) → List UInt8
 | [] => []
 | a :: r => a ++ r.flatMap (fun x => s ++ x)
def gl (L : List (List UInt8)) (i : Nat) : List UInt8 := L.getD i []
def behindL (L : List (List UInt8)) : List UInt8 := [32, 102, 111, 114, 32] ++ gl L 1 ++ [32, 105, 110, 32] ++ gl L 2 ++ (L.drop 3).flatMap (fun x => [32, 105, 102, 32] ++ x)
def com : List UInt8 := [44, 32]
def txtOf (T : Nd) (L : List (List UInt8)) : List UInt8 :=
 if T.kind = 31 ∨ T.kind = 34 then tx T
 else if T.kind = 32 then textL (valI T.neg T.mag)
 else if T.kind = 33 then quoteL (pieces (tx T))
 else if T.kind = 23 then sepL com L
 else if T.kind = 35 then (if L.length = 1 then [40] ++ gl L 0 ++ [44, 41] else [40] ++ sepL com L ++ [41])
 else if T.kind = 36 then [91] ++ sepL com L ++ [93]
 else if T.kind = 37 ∨ T.kind = 38 then [123] ++ sepL com L ++ [125]
 else if T.kind = 39 then gl L 0 ++ [58, 32] ++ gl L 1
 else if T.kind = 40 then [42, 42] ++ gl L 0
 else if T.kind = 41 then [91] ++ gl L 0 ++ behindL L ++ [93]
 else if T.kind = 42 ∨ T.kind = 43 then [123] ++ gl L 0 ++ behindL L ++ [125]
 else if T.kind = 44 then [40] ++ gl L 0 ++ [32, 105, 102, 32] ++ gl L 1 ++ [32, 101, 108, 115, 101, 32] ++ gl L 2 ++ [41]
 else if T.kind = 45 then [40] ++ gl L 0 ++ [32, 111, 114, 32] ++ gl L 1 ++ [41]
 else if T.kind = 46 then [40] ++ gl L 0 ++ [32, 97, 110, 100, 32] ++ gl L 1 ++ [41]
 else if T.kind = 48 ∨ T.kind = 49 then [40] ++ gl L 0 ++ [32] ++ tx T ++ [32] ++ gl L 1 ++ [41]
 else if T.kind = 47 then [40, 110, 111, 116, 32] ++ gl L 0 ++ [41]
 else if T.kind = 50 then [40, 45] ++ gl L 0 ++ [41]
 else if T.kind = 51 then gl L 0 ++ [40] ++ sepL com (L.drop 1) ++ [41]
 else if T.kind = 52 then tx T ++ [61] ++ gl L 0
 else if T.kind = 54 then gl L 0 ++ [91] ++ gl L 1 ++ [93]
 else match T.kids with
  | [] => []
  | q :: _ => if q.kind = 32 then [40] ++ gl L 0 ++ [41, 46] ++ tx T else gl L 0 ++ [46] ++ tx T
mutual
def Nd.txt : Nd → List UInt8
 | .mk k a t b m ks => txtOf (.mk k a t b m ks) (txts ks)
def txts : List Nd → List (List UInt8)
 | [] => []
 | t :: r => t.txt :: txts r
end
theorem txts_map : ∀ l : List Nd, txts l = l.map Nd.txt
 | [] => rfl
 | t :: r => by rw [txts, txts_map r, List.map_cons]
theorem txt_eq (T : Nd) : T.txt = txtOf T (T.kids.map Nd.txt) := by
 cases T; rw [Nd.txt, txts_map]; rfl
def ba (l : List UInt8) : ByteArray := ⟨l.toArray⟩
theorem ba_app (a b : List UInt8) : ba a ++ ba b = ba (a ++ b) := by
 apply ByteArray.ext
 simp [ba]
theorem ba_size (a : List UInt8) : (ba a).size = a.length := by simp [ba, ByteArray.size]
theorem ba_text (T : Nd) : ba (tx T) = T.text := by
 apply ByteArray.ext
 simp [ba, tx]
mutual
def okN : Nd → Prop
 | .mk _ _ _ _ m ks => (∀ z ∈ m, 0 ≤ z ∧ z < 4294967296) ∧ okNs ks
def okNs : List Nd → Prop
 | [] => True
 | t :: r => okN t ∧ okNs r
end
theorem okN_eq (T : Nd) : okN T ↔ (∀ z ∈ T.mag, 0 ≤ z ∧ z < 4294967296) ∧ okNs T.kids := by cases T; rw [okN]; rfl
theorem okNs_mem : ∀ {l : List Nd}, okNs l → ∀ t ∈ l, okN t
 | a :: r, h, t, ht => by
  rw [okNs] at h
  rcases List.mem_cons.1 ht with rfl | ht
  ·exact h.1
  ·exact okNs_mem h.2 t ht
def total : List (List UInt8) → Nat
 | [] => 0
 | a :: r => a.length + total r
theorem gl_total (L : List (List UInt8)) : (gl L 0).length + (gl L 1).length + (gl L 2).length + total (L.drop 3) = total L := by
 match L with
 | [] => rfl
 | [a] => simp [gl, total]
 | [a, b] => simp [gl, total]
 | a :: b :: c :: r => simp [gl, total]; omega
theorem gl_total1 (L : List (List UInt8)) : (gl L 0).length + total (L.drop 1) = total L := by
 match L with
 | [] => rfl
 | a :: r => simp [gl, total]
theorem flat_total (s : List UInt8) (L : List (List UInt8)) : (L.flatMap (fun x => s ++ x)).length = total L + s.length * L.length := by
 induction L with
 | nil => simp [total]
 | cons a r ih => rw [List.flatMap_cons, length_append, length_append, ih, total, length_cons, Nat.mul_succ]; omega
theorem sep_total (s : List UInt8) (L : List (List UInt8)) : (sepL s L).length ≤ total L + s.length * L.length := by
 cases L with
 | nil => simp [sepL, total]
 | cons a r => rw [sepL, length_append, flat_total, total, length_cons, Nat.mul_succ]; omega
theorem drop_len (L : List (List UInt8)) (k : Nat) : (L.drop k).length ≤ L.length := by rw [List.length_drop]; omega
theorem dec_len {zs : List Int} (h : W32 zs) : (decB (val zs).natAbs).length ≤ 10 * zs.length := by
 have h1 := val_bound h
 have h2 := val_nn h
 have h3 : (4294967296 : Int) ^ zs.length = ((4294967296 ^ zs.length : Nat) : Int) := (Int.natCast_pow 4294967296 zs.length).symm
 have h4 : (4294967296 : Nat) ^ zs.length ≤ 10 ^ (10 * zs.length) := by
  rw [Nat.pow_mul]; exact Nat.pow_le_pow_left lq28 _
 rw [decB_any _ (10 * zs.length) lq29, List.length_map]
 refine Nat.le_trans (List.dropWhile_sublist _).length_le ?_
 rw [digs_length]
 exact Nat.le_refl _
theorem textL_len (b : Bool) {zs : List Int} (h : W32 zs) : (textL (valI b zs)).length ≤ 10 * zs.length + 1 := by
 have h1 := dec_len h
 have h2 : (valI b zs).natAbs = (val zs).natAbs := by unfold valI; cases b <;> simp
 unfold textL
 split
 ·simp
 ·split
  ·rw [length_cons, h2]; omega
  ·rw [h2]; omega
theorem txtOf_len (T : Nd) (L : List (List UInt8)) (h : W32 T.mag) : (txtOf T L).length ≤ total L + 6 * L.length + 6 * T.text.size + 10 * T.mag.length + 24 := by
 have ht : (tx T).length = T.text.size := by simp [tx]
 have hq : (quoteL (pieces (tx T))).length = ((pieces (tx T)).flatMap quotedL).length + 2 := by simp [quoteL]
 have hq2 := (quoteds_len (pieces (tx T))).2
 have hq3 := pieces_len (tx T)
 have hn := textL_len T.neg h
 have h3 := gl_total L
 have h1 := gl_total1 L
 have hs := sep_total com L
 have hs1 := sep_total com (L.drop 1)
 have hd1 := drop_len L 1
 have hd3 := drop_len L 3
 have hf := flat_total [32, 105, 102, 32] (L.drop 3)
 have hc : com.length = 2 := rfl
 rw [hc] at hs hs1
 have hb : (behindL L).length = 5 + (gl L 1).length + 4 + (gl L 2).length + (total (L.drop 3) + 4 * (L.drop 3).length) := by
  unfold behindL; simp only [length_append, hf, length_cons, length_nil]
 unfold txtOf
 by_cases c0 : T.kind = 31 ∨ T.kind = 34
 ·rw [if_pos c0]; (try simp only [length_append, length_cons, length_nil]); omega
 rw [if_neg c0]
 by_cases c1 : T.kind = 32
 ·rw [if_pos c1]; (try simp only [length_append, length_cons, length_nil]); omega
 rw [if_neg c1]
 by_cases c2 : T.kind = 33
 ·rw [if_pos c2]; (try simp only [length_append, length_cons, length_nil]); omega
 rw [if_neg c2]
 by_cases c3 : T.kind = 23
 ·rw [if_pos c3]; (try simp only [length_append, length_cons, length_nil]); omega
 rw [if_neg c3]
 by_cases c4 : T.kind = 35
 ·rw [if_pos c4]
  by_cases c : L.length = 1
  ·rw [if_pos c]; (try simp only [length_append, length_cons, length_nil]); omega
  ·rw [if_neg c]; (try simp only [length_append, length_cons, length_nil]); omega
 rw [if_neg c4]
 by_cases c5 : T.kind = 36
 ·rw [if_pos c5]; (try simp only [length_append, length_cons, length_nil]); omega
 rw [if_neg c5]
 by_cases c6 : T.kind = 37 ∨ T.kind = 38
 ·rw [if_pos c6]; (try simp only [length_append, length_cons, length_nil]); omega
 rw [if_neg c6]
 by_cases c7 : T.kind = 39
 ·rw [if_pos c7]; (try simp only [length_append, length_cons, length_nil]); omega
 rw [if_neg c7]
 by_cases c8 : T.kind = 40
 ·rw [if_pos c8]; (try simp only [length_append, length_cons, length_nil]); omega
 rw [if_neg c8]
 by_cases c9 : T.kind = 41
 ·rw [if_pos c9]; (try simp only [length_append, length_cons, length_nil]); omega
 rw [if_neg c9]
 by_cases c10 : T.kind = 42 ∨ T.kind = 43
 ·rw [if_pos c10]; (try simp only [length_append, length_cons, length_nil]); omega
 rw [if_neg c10]
 by_cases c11 : T.kind = 44
 ·rw [if_pos c11]; (try simp only [length_append, length_cons, length_nil]); omega
 rw [if_neg c11]
 by_cases c12 : T.kind = 45
 ·rw [if_pos c12]; (try simp only [length_append, length_cons, length_nil]); omega
 rw [if_neg c12]
 by_cases c13 : T.kind = 46
 ·rw [if_pos c13]; (try simp only [length_append, length_cons, length_nil]); omega
 rw [if_neg c13]
 by_cases c14 : T.kind = 48 ∨ T.kind = 49
 ·rw [if_pos c14]; (try simp only [length_append, length_cons, length_nil]); omega
 rw [if_neg c14]
 by_cases c15 : T.kind = 47
 ·rw [if_pos c15]; (try simp only [length_append, length_cons, length_nil]); omega
 rw [if_neg c15]
 by_cases c16 : T.kind = 50
 ·rw [if_pos c16]; (try simp only [length_append, length_cons, length_nil]); omega
 rw [if_neg c16]
 by_cases c17 : T.kind = 51
 ·rw [if_pos c17]; (try simp only [length_append, length_cons, length_nil]); omega
 rw [if_neg c17]
 by_cases c18 : T.kind = 52
 ·rw [if_pos c18]; (try simp only [length_append, length_cons, length_nil]); omega
 rw [if_neg c18]
 by_cases c19 : T.kind = 54
 ·rw [if_pos c19]; (try simp only [length_append, length_cons, length_nil]); omega
 rw [if_neg c19]
 cases hks : T.kids with
 | nil => simp
 | cons q r =>
  by_cases c : q.kind = 32
  ·simp only [if_pos c]; (try simp only [length_append, length_cons, length_nil]); omega
  ·simp only [if_neg c]; (try simp only [length_append, length_cons, length_nil]); omega
theorem total_map (l : List Nd) (h : ∀ t ∈ l, t.txt.length + 32 ≤ 64 * t.weight) : total (l.map Nd.txt) + 32 * l.length ≤ 64 * weights l := by
 induction l with
 | nil => simp [total]
 | cons a r ih =>
  have h1 := h a (List.mem_cons_self ..); have h2 := ih (fun t ht => h t (List.mem_cons_of_mem _ ht)); rw [List.map_cons, total, weights, length_cons]
  omega
theorem txt_len (T : Nd) : okN T → T.txt.length + 32 ≤ 64 * T.weight := by
 induction T using Nd.ind with
 | h T ih =>
  intro ho; rw [okN_eq] at ho; have hk := total_map T.kids (fun t ht => ih t ht (okNs_mem ho.2 t ht)); have hw : W32 T.mag := fun z hz => by have := ho.1 z hz; omega
  have hl := txtOf_len T (T.kids.map Nd.txt) hw; rw [List.length_map] at hl; rw [txt_eq, T.weight_eq]
  omega
def Te (T : Nd) : Prop := T.right = true ∧ (31 ≤ T.kind ∨ T.kind = 23)
def Ex (T : Nd) : Prop := T.right = true ∧ 31 ≤ T.kind
theorem Ex.te {T : Nd} (h : Ex T) : Te T := ⟨h.1, .inl h.2⟩
theorem ev_ex {t : Nd} (h : Sh.expr.ev Nd.right t = true) : Ex t := by
 simp only [Sh.ev, Bool.and_eq_true, decide_eq_true_eq] at h
 exact ⟨h.2, h.1.2⟩
theorem ev_tgt {t : Nd} (h : Sh.target.ev Nd.right t = true) : Ex t := by
 simp only [Sh.ev, isTargetK, Bool.and_eq_true, Bool.or_eq_true, beq_iff_eq] at h
 exact ⟨h.2, by omega⟩
theorem ev_tgts {t : Nd} (h : Sh.targets.ev Nd.right t = true) : Te t := by
 simp only [Sh.ev, isTargetK, Bool.and_eq_true, Bool.or_eq_true, beq_iff_eq] at h
 rcases h with h | h
 ·exact ⟨h.2, by omega⟩
 ·exact ⟨h.2, .inr h.1⟩
theorem ev_of' {t : Nd} {k : Int} (h : (Sh.of k).ev Nd.right t = true) (hk : 31 ≤ k) : Ex t := by
 simp only [Sh.ev, Bool.and_eq_true, beq_iff_eq] at h
 exact ⟨h.2, by omega⟩
theorem rowB_mem : ∀ {l : List Nd} {L : List (Nd → Bool)} {P : Nd → Prop}, rowB l L = true → (∀ p ∈ L, ∀ t, p t = true → P t) → ∀ t ∈ l, P t
 | a :: r, p :: q, P, h, hp, t, ht => by
  rw [rowB, Bool.and_eq_true] at h
  rcases List.mem_cons.1 ht with rfl | ht
  ·exact hp p (List.mem_cons_self ..) _ h.1
  ·exact rowB_mem h.2 (fun p hp' => hp p (List.mem_cons_of_mem _ hp')) t ht
 | a :: r, [], P, h, _, _, _ => by simp [rowB] at h
theorem mem_take_drop {l : List Nd} (n : Nat) {t : Nd} (h : t ∈ l) : t ∈ l.take n ∨ t ∈ l.drop n := by
 rw [← List.take_append_drop n l, List.mem_append] at h
 exact h
theorem mem_dropW {p : Nd → Bool} : ∀ {l : List Nd} {t : Nd}, t ∈ l → p t = true ∨ t ∈ l.dropWhile p
 | a :: r, t, h => by
  rw [List.dropWhile_cons]
  by_cases hp : p a = true
  ·rw [if_pos hp]
   rcases List.mem_cons.1 h with rfl | h
   ·exact .inl hp
   ·exact mem_dropW h
  ·rw [if_neg hp]; exact .inr h
theorem te_form {T : Nd} (h : Te T) : ∃ tx fm, formOf T.kind = some (tx, fm) ∧ fm.ev Nd.right T = true ∧ tx.ev T.text = true := by
 have hr := h.1
 rw [right_eq] at hr
 cases hf : formOf T.kind with
 | none => rw [hf] at hr; exact Bool.noConfusion hr
 | some x =>
  rw [hf] at hr; simp only [Bool.and_eq_true] at hr; exact ⟨x.1, x.2, rfl, hr.2, hr.1.1⟩
theorem form_at {k : Int} {x : Tx × Fm} (h : formOf k = some x) : (k, x.1, x.2) ∈ forms := by
 unfold formOf at h
 rw [Option.map_eq_some_iff] at h
 obtain ⟨⟨k', t', f'⟩, hf, he⟩ := h
 have hm := List.mem_of_find?_eq_some hf
 have hk := List.find?_some hf
 simp only [beq_iff_eq] at hk
 subst hk
 rw [← he]
 exact hm
theorem te_kids {T : Nd} (h : Te T) : ∀ t ∈ T.kids, Te t := by
 obtain ⟨x, fm, hf, hev, -⟩ := te_form h
 have hm := form_at hf
 have hk := h.2
 have all1 : ∀ (s : Sh) (l : List Nd), (∀ t, s.ev Nd.right t = true → Te t) → l.all (s.ev Nd.right) = true → ∀ t ∈ l, Te t := fun s l hs hl t ht => hs t (List.all_eq_true.1 hl t ht)
 have E : ∀ t, Sh.expr.ev Nd.right t = true → Te t := fun t h => (ev_ex h).te
 have G : ∀ t, Sh.target.ev Nd.right t = true → Te t := fun t h => (ev_tgt h).te
 have O : ∀ k, 31 ≤ k → ∀ t, (Sh.of k).ev Nd.right t = true → Te t := fun k hk t h => (ev_of' h hk).te
 have hrow : ∀ n, rowB T.kids (List.replicate n (Sh.expr.ev Nd.right)) = true → ∀ t ∈ T.kids, Te t := fun n hr => rowB_mem hr (fun p hp t ht => E t (by rw [List.eq_of_mem_replicate hp] at ht; exact ht))
 have hcmp : ∀ s : Sh, (∀ t, s.ev Nd.right t = true → Te t) → (Fm.cmp s).ev Nd.right T = true → ∀ t ∈ T.kids, Te t := by
  intro s hs hc; simp only [Fm.ev, Bool.and_eq_true] at hc; intro t ht
  rcases mem_take_drop 3 ht with ht | ht
  ·refine rowB_mem (P := Te) hc.1.2 ?_ t ht
   intro p hp t ht; simp only [List.mem_cons, List.not_mem_nil, or_false] at hp
   rcases hp with rfl | rfl | rfl
   ·exact hs t ht
   ·exact ev_tgts ht
   ·exact E t ht
  ·exact all1 .expr _ E hc.2 t ht
 have hcll : Fm.cll.ev Nd.right T = true → ∀ t ∈ T.kids, Te t := by
  intro hc; simp only [Fm.ev, Bool.and_eq_true] at hc; intro t ht
  rcases mem_take_drop 1 ht with ht | ht
  ·exact all1 .expr _ E hc.1.2 t ht
  ·rcases mem_dropW (p := Sh.expr.ev Nd.right) ht with h | ht
   ·exact E t h
   ·rcases mem_dropW (p := (Sh.of 52).ev Nd.right) ht with h | ht
    ·exact O 52 lq28 t h
    ·rcases Bool.or_eq_true _ _ ▸ hc.2 with h | h
     ·rw [List.isEmpty_iff] at h; rw [h] at ht; simp at ht
     ·refine rowB_mem (P := Te) h ?_ t ht
      intro p hp t ht; simp only [List.mem_singleton] at hp; subst hp; exact O 40 lq28 t ht
 generalize T.kind = k at *
 simp only [forms, List.mem_cons, List.not_mem_nil, or_false, Prod.mk.injEq] at hm
 rcases hm with ⟨h1, h2, h3⟩ | ⟨h1, h2, h3⟩ | ⟨h1, h2, h3⟩ | ⟨h1, h2, h3⟩ | ⟨h1, h2, h3⟩ | ⟨h1, h2, h3⟩ | ⟨h1, h2, h3⟩ | ⟨h1, h2, h3⟩ | ⟨h1, h2, h3⟩ | ⟨h1, h2, h3⟩ | ⟨h1, h2, h3⟩ | ⟨h1, h2, h3⟩ | ⟨h1, h2, h3⟩ | ⟨h1, h2, h3⟩ | ⟨h1, h2, h3⟩ | ⟨h1, h2, h3⟩ | ⟨h1, h2, h3⟩ | ⟨h1, h2, h3⟩ | ⟨h1, h2, h3⟩ | ⟨h1, h2, h3⟩ | ⟨h1, h2, h3⟩ | ⟨h1, h2, h3⟩ | ⟨h1, h2, h3⟩ | ⟨h1, h2, h3⟩ | ⟨h1, h2, h3⟩ | ⟨h1, h2, h3⟩ | ⟨h1, h2, h3⟩ | ⟨h1, h2, h3⟩ | ⟨h1, h2, h3⟩ | ⟨h1, h2, h3⟩ | ⟨h1, h2, h3⟩ | ⟨h1, h2, h3⟩ | ⟨h1, h2, h3⟩ | ⟨h1, h2, h3⟩ | ⟨h1, h2, h3⟩ | ⟨h1, h2, h3⟩ | ⟨h1, h2, h3⟩ | ⟨h1, h2, h3⟩ | ⟨h1, h2, h3⟩ | ⟨h1, h2, h3⟩ | ⟨h1, h2, h3⟩ | ⟨h1, h2, h3⟩ | ⟨h1, h2, h3⟩ | ⟨h1, h2, h3⟩ | ⟨h1, h2, h3⟩ | ⟨h1, h2, h3⟩ | ⟨h1, h2, h3⟩
 all_goals subst h1 h2 h3
 all_goals first
  | (exfalso; omega)
  | exact hrow 0 hev
  | exact hrow 1 hev
  | exact hrow 2 hev
  | exact hrow 3 hev
  | (simp only [Fm.ev, Bool.and_eq_true] at hev; exact all1 .expr _ E hev.2)
  | (simp only [Fm.ev, Bool.and_eq_true] at hev; exact all1 .target _ G hev.2)
  | (simp only [Fm.ev, Bool.and_eq_true] at hev
     refine all1 (.or2 (.of 39) (.of 40)) _ (fun t ht => ?_) hev.2
     rcases Bool.or_eq_true _ _ ▸ (show ((Sh.of 39).ev Nd.right t || (Sh.of 40).ev Nd.right t) = true from ht) with h | h
     ·exact O 39 lq28 t h
     ·exact O 40 lq28 t h)
  | exact hcmp _ E hev
  | exact hcmp _ (O 39 lq28) hev
  | exact hcll hev
end
section
open Go.RowKit Go.Shelf
open List (length_append length_cons length_nil length_singleton)
theorem byte_info : (Tryz.prog.info? 5).map (fun i => (i.zero, i.size, i.bytes)) = some (some (.int .u8 0), 1, 1) := by kernel_rfl
set_option maxRecDepth 100000 in
theorem bWrite (B b g : Nat) (bs : List Value) (cs : Array Value) (T : TypeId) (w : World) (h : Lib.IsBuilderF 56 5 B b bs w) (hlen : bs.length + cs.size ≤ 140737488355328) (hBw : B ≤ w.heap.size)
  (hgb : g ≠ b) (hT : T ≠ 5) (hg : w.heap[g]? = some (.cells cs T (0, 0))) (h1 : ∀ u ∈ cs.toList, u.oneCell' = true) :
  Calls Tryz.prog 189 #[.pointer (some ⟨b, 0, none⟩), .slice (some ⟨g, 0, none⟩) cs.size cs.size] w fun e w' => e = .returned (.tuple #[.int .i64 cs.size, .nilIface]) ∧ (Lib.BuilderAtF 56 5 B b (.pointer (some ⟨b, 0, none⟩)) (bs ++ cs.toList) w' ∧ Below B w w' ∧ Lib.OthersKept 5 (some b) w w') := by
 obtain ⟨i0, hi, hz0, hz1, hz2⟩ := info_parts byte_info
 have hcc := Tryz.bCopyCheck B b bs w h
 go_enter Tryz.func189, Tryz.ntmps189
 go_wp2_with fail
 go_at_call 193
 refine hcc.mono ?_
 rintro e w1 ⟨rfl, hA, hb1, hk1⟩
 obtain ⟨hB, v, hbk, hown, hne⟩ := hA
 have c0 : w1.cell? ⟨b, 0, none⟩ = some (.pointer (some ⟨b, 0, none⟩)) := by rw [Lib.cell_of_heap hbk]; rfl
 have c1 : w1.cell? ⟨b, 1, none⟩ = some v := by rw [Lib.cell_of_heap hbk]; rfl
 have hg1 : w1.heap[g]? = some (.cells cs T (0, 0)) := hk1 g _ hg (fun e => hgb (Option.some.inj e)) (fun c fz e => by injection e with _ e _; exact hT e)
 have hnews : ∀ j u, cs.toList[j]? = some u → w1.cell? ((⟨g, 0, none⟩ : Addr).add j) = some u := fun j u hu => by
  rw [Addr.add_lit, Lib.cell_of_heap hg1, Nat.zero_add]; simpa using hu
 go_wp2_with (at_builtin; refine wpList_append_ownF _ rfl _ _ 40 rfl B 5 i0 _ 1 1 Tryz.underlying40 hi hz0 hz1 hz2 rfl lq28 _ _ _ rfl hown ⟨g, 0, none⟩ cs.size cs.size cs.toList rfl lq30 hnews h1 ?c3 ?c4 ?c5 ?_)
 case c3 => unfold maxLen; omega
 case c4 => omega
 case c5 => have := hb1.size; omega
 intro v' w2 hown' hgrow _
 have hlt : b < w1.heap.size := by
  rcases Nat.lt_or_ge b w1.heap.size with h' | h'
  ·exact h'
  ·simp [Array.getElem?_eq_none h'] at hbk
 have hb2 : w2.heap[b]? = some (.cells #[.pointer (some ⟨b, 0, none⟩), v] 56 (0, 0)) := by
  rw [hgrow.block b hlt (fun e => hne e.symm)]; exact hbk
 have d0 : w2.cell? ⟨b, 0, none⟩ = some (.pointer (some ⟨b, 0, none⟩)) := by rw [Lib.cell_of_heap hb2]; rfl
 have d1 : w2.cell? ⟨b, 1, none⟩ = some v := by rw [Lib.cell_of_heap hb2]; rfl
 have f1 : w2.frozen? ⟨b, 1, none⟩ = false := Lib.frozen_of_heap hb2 1
 obtain ⟨ao, n', cap, rfl⟩ : ∃ ao n' cap, v' = .slice ao n' cap := by
  rcases hown'.2 with ⟨hv, _⟩ | ⟨g, cap, cur, fz, hv, _⟩
  ·exact ⟨_, _, _, hv⟩
  ·exact ⟨_, _, _, hv⟩
 go_wp2
 go_ret2
 refine ⟨rfl, ?_, ?_, (hk1.grown hgrow (Lib.ownsRowF_kind hown)).setCell ⟨b, 1, none⟩ rfl _⟩
 ·exact Lib.BuilderAtF.put (T := 56) (e := 5) hB hb2 (bs' := bs ++ cs.toList) (by simpa using hown') lq28
 ·exact (hb1.grown hgrow (by have := hb1.size; omega) (fun k hk => (hown.lt k hk).1)).setCell (p := ⟨b, 1, none⟩) hB _
end
section
open Go.RowKit
open List (length_append length_cons length_nil length_singleton)
theorem div32_ok (hi lo y : Int) (w : World) (h0 : 0 ≤ hi) (h1 : hi < y) (hy : y ≤ 4294967295) (hl0 : 0 ≤ lo) (hl1 : lo ≤ 4294967295) :
  Calls Tryz.prog 186 #[.int .u32 hi, .int .u32 lo, .int .u32 y] w fun e w' => e = .returned (.tuple #[.int .u32 ((hi * 4294967296 + lo) / y), .int .u32 ((hi * 4294967296 + lo) % y)]) ∧ Below w.heap.size w w' := by
 have e1 : IntKind.u64.wrap (hi * 4294967296) = hi * 4294967296 := by rw [IntKind.wrap_u64]; omega
 have e2 : bits BinOp.or IntKind.u64 (hi * 4294967296) lo = hi * 4294967296 + lo := by
  refine or_join 32 _ _ lq29 lq29 lq29 lq29 ?_ ?_
  ·obtain ⟨n, hn⟩ := Int.eq_ofNat_of_zero_le h0; rw [hn]; have : ((n : Int) * 4294967296).toNat = n * 4294967296 := by omega
   rw [this]; exact Nat.mul_mod_left n (2 ^ 32)
  ·have : (2 : Nat) ^ 32 = 4294967296 := by rfl
   omega
 obtain ⟨Z, hZ⟩ : ∃ Z, hi * 4294967296 + lo = Z := ⟨_, rfl⟩
 rw [hZ] at e2 ⊢
 have hZ0 : 0 ≤ Z := by omega
 have hZ1 : Z < y * 4294967296 := by omega
 have hZ2 : Z < 18446744073709551616 := by omega
 have hy0 : 0 < y := by omega
 have d1 : Z / y < 4294967296 := Int.ediv_lt_of_lt_mul hy0 (by rw [Int.mul_comm]; exact hZ1)
 have d0 : 0 ≤ Z / y := Int.ediv_nonneg hZ0 lq29
 have m0 := Int.emod_nonneg Z (show y ≠ 0 by omega)
 have m1 := Int.emod_lt_of_pos Z hy0
 have t1 : Z.tdiv y = Z / y := Int.tdiv_eq_ediv_of_nonneg hZ0
 have t2 : Z.tmod y = Z % y := Int.tmod_eq_emod_of_nonneg hZ0
 obtain ⟨q, hq⟩ : ∃ q, Z / y = q := ⟨_, rfl⟩
 obtain ⟨r, hr⟩ : ∃ r, Z % y = r := ⟨_, rfl⟩
 rw [hq] at d1 d0 t1 ⊢
 rw [hr] at m0 m1 t2 ⊢
 have w1 : IntKind.u32.wrap q = q := by rw [IntKind.wrap_u32]; omega
 have w2 : IntKind.u32.wrap r = r := by rw [IntKind.wrap_u32]; omega
 have x0 : (y != 0) = true := by simp; omega
 have x1 : (y == 0) = false := by simp; omega
 clear hZ
 go_enter Tryz.func186, Tryz.ntmps186
 go_wp2
 go_quiet (fail)
 go_wp2
 go_ret2
 exact ⟨rfl, ⟨rfl, rfl, rfl, Nat.le_refl _, fun _ _ => rfl⟩⟩
def dsign (n : Nat) (k : Nat) : Int := 48 + ((n / 10 ^ k % 10 : Nat) : Int)
def digCell (n k j : Nat) : Value := if 8 - j < k then .int .u8 (dsign n (8 - j)) else .int .u8 0
def digCells (n k : Nat) : Array Value := #[digCell n k 0, digCell n k 1, digCell n k 2, digCell n k 3, digCell n k 4, digCell n k 5, digCell n k 6, digCell n k 7, digCell n k 8]
theorem digCells9 (n : Nat) : digCells n 9 = #[.int .u8 (dsign n 8), .int .u8 (dsign n 7), .int .u8 (dsign n 6), .int .u8 (dsign n 5), .int .u8 (dsign n 4), .int .u8 (dsign n 3), .int .u8 (dsign n 2), .int .u8 (dsign n 1), .int .u8 (dsign n 0)] := by simp [digCells, digCell]
theorem digits_ok (n : Nat) (w : World) (hn : n ≤ 4294967295) :
  Calls Tryz.prog 188 #[.int .u32 n] w fun e w' => e = .returned (.agg #[.int .u8 (dsign n 8), .int .u8 (dsign n 7), .int .u8 (dsign n 6), .int .u8 (dsign n 5), .int .u8 (dsign n 4), .int .u8 (dsign n 3), .int .u8 (dsign n 2), .int .u8 (dsign n 1), .int .u8 (dsign n 0)]) ∧ Below w.heap.size w w' := by
 go_enter Tryz.func188, Tryz.ntmps188
 go_wp2
 go_loopw [0, 5] (fun v0 v5 wr => ∃ k : Nat, v0 = .int .u32 (n / 10 ^ k : Nat) ∧ v5 = .int .i64 k ∧ k ≤ 9 ∧ wr = (w.alloc (.cells #[.int .u8 0, .int .u8 0, .int .u8 0, .int .u8 0, .int .u8 0, .int .u8 0, .int .u8 0, .int .u8 0, .int .u8 0] 147)).alloc (.cells (digCells n k) 147)) (fun _ v5 _ => 9 - (intOf v5).toNat)
 case atStart => exact ⟨0, by simp, rfl, by omega, rfl⟩
 case round =>
  obtain ⟨k, rfl, rfl, hk, rfl⟩ := hrel; have hcase : k = 0 ∨ k = 1 ∨ k = 2 ∨ k = 3 ∨ k = 4 ∨ k = 5 ∨ k = 6 ∨ k = 7 ∨ k = 8 ∨ k = 9 := by omega
  obtain ⟨q, hq⟩ : ∃ q, n / 10 ^ k = q := ⟨_, rfl⟩; have hql : q ≤ 4294967295 := by rw [← hq]; exact Nat.le_trans (Nat.div_le_self _ _) hn
  obtain ⟨m, hm⟩ : ∃ m, q % 10 = m := ⟨_, rfl⟩; have hml : m < 10 := by rw [← hm]; exact Nat.mod_lt _ lq28
  have hnx : n / 10 ^ (k + 1) = q / 10 := by rw [← hq, Nat.pow_succ, Nat.div_div_eq_div_mul]
  have ha : (q : Int).tmod 10 = (m : Int) := by rw [Int.tmod_eq_emod_of_nonneg lq29, ← hm]; omega
  have ha2 : (q : Int) % 10 = (m : Int) := by rw [← hm]; omega
  have e8 : IntKind.u8.wrap (48 + (m : Int)) = 48 + (m : Int) := by rw [IntKind.wrap_u8]; omega
  rw [hq]; have HQ := Lh hq; have HM := Lh hm; have HN := Lh hnx; clear hq hm hk hnx
  rcases hcase with rfl | rfl | rfl | rfl | rfl | rfl | rfl | rfl | rfl | rfl
  ·simp only [digCells]; go_wp2
   go_roundw
   case rel => exact ⟨1, by rw [HN.out]; simp, rfl, by omega, by rw [← HM.out, ← HQ.out]; simp [digCells, digCell, dsign]⟩
   case measure => simp [intOf]
  ·simp only [digCells]; go_wp2
   go_roundw
   case rel => exact ⟨2, by rw [HN.out]; simp, rfl, by omega, by rw [← HM.out, ← HQ.out]; simp [digCells, digCell, dsign]⟩
   case measure => simp [intOf]
  ·simp only [digCells]; go_wp2
   go_roundw
   case rel => exact ⟨3, by rw [HN.out]; simp, rfl, by omega, by rw [← HM.out, ← HQ.out]; simp [digCells, digCell, dsign]⟩
   case measure => simp [intOf]
  ·simp only [digCells]; go_wp2
   go_roundw
   case rel => exact ⟨4, by rw [HN.out]; simp, rfl, by omega, by rw [← HM.out, ← HQ.out]; simp [digCells, digCell, dsign]⟩
   case measure => simp [intOf]
  ·simp only [digCells]; go_wp2
   go_roundw
   case rel => exact ⟨5, by rw [HN.out]; simp, rfl, by omega, by rw [← HM.out, ← HQ.out]; simp [digCells, digCell, dsign]⟩
   case measure => simp [intOf]
  ·simp only [digCells]; go_wp2
   go_roundw
   case rel => exact ⟨6, by rw [HN.out]; simp, rfl, by omega, by rw [← HM.out, ← HQ.out]; simp [digCells, digCell, dsign]⟩
   case measure => simp [intOf]
  ·simp only [digCells]; go_wp2
   go_roundw
   case rel => exact ⟨7, by rw [HN.out]; simp, rfl, by omega, by rw [← HM.out, ← HQ.out]; simp [digCells, digCell, dsign]⟩
   case measure => simp [intOf]
  ·simp only [digCells]; go_wp2
   go_roundw
   case rel => exact ⟨8, by rw [HN.out]; simp, rfl, by omega, by rw [← HM.out, ← HQ.out]; simp [digCells, digCell, dsign]⟩
   case measure => simp [intOf]
  ·simp only [digCells]; go_wp2
   go_roundw
   case rel => exact ⟨9, by rw [HN.out]; simp, rfl, by omega, by rw [← HM.out, ← HQ.out]; simp [digCells, digCell, dsign]⟩
   case measure => simp [intOf]
  ·simp only [digCells9]; go_wp2; exact bodyPost_ret (v := .agg #[.int .u8 (dsign n 8), .int .u8 (dsign n 7), .int .u8 (dsign n 6), .int .u8 (dsign n 5), .int .u8 (dsign n 4), .int .u8 (dsign n 3), .int .u8 (dsign n 2), .int .u8 (dsign n 1), .int .u8 (dsign n 0)]) (by simp [results, Tryz.results188, go_sem]) rfl ⟨rfl, ((Below.refl _ w).alloc (Nat.le_refl _) _).alloc lq30 _⟩
end
end Go.Proofs.YtjefhdlncikhmaaGreatDoor
