/- Joined by a program: Trim, WPlain, WDec, PPlain, Bits, Refa, R2, W3, W5, W8, R4, Clone, W11. -/
import Derived.Test.YtjefhdlncikhmaaGreatDoorPT02
namespace Go.Proofs.YtjefhdlncikhmaaGreatDoor
set_option linter.unusedVariables false
set_option linter.unusedSimpArgs false
set_option maxRecDepth 1000000
set_option maxHeartbeats 16000000
section
open Go.RowKit
open List (length_append length_cons length_nil length_singleton)
def trimLen (zs : List Int) : Nat → Nat
 | 0 => 0
 | k + 1 => if zs[k]?.getD 0 = 0 then trimLen zs k else k + 1
theorem trimLen_le (zs : List Int) : ∀ k, trimLen zs k ≤ k
 | 0 => Nat.le_refl _
 | k + 1 => by rw [trimLen]; split; exact Nat.le_succ_of_le (trimLen_le zs k); exact Nat.le_refl _
def trimN (zs : List Int) : List Int := zs.take (trimLen zs zs.length)
theorem trimN_length (zs : List Int) : (trimN zs).length = trimLen zs zs.length := by
 rw [trimN, List.length_take]; exact Nat.min_eq_left (trimLen_le _ _)
theorem trimN_le (zs : List Int) : (trimN zs).length ≤ zs.length := by rw [trimN_length]; exact trimLen_le _ _
def val : List Int → Int
 | [] => 0
 | z :: zs => z + 4294967296 * val zs
theorem val_append (xs ys : List Int) : val (xs ++ ys) = val xs + 4294967296 ^ xs.length * val ys := by
 induction xs with
 | nil => simp [val]
 | cons x xs ih => simp only [List.cons_append, val, ih, length_cons, Int.pow_succ]; grind
theorem val_take_trim (zs : List Int) : ∀ k, k ≤ zs.length → val (zs.take (trimLen zs k)) = val (zs.take k)
 | 0, _ => rfl
 | k + 1, h => by
  rw [trimLen]
  split
  ·rename_i h0
   rw [val_take_trim zs k lq29, List.take_succ_eq_append_getElem lq29, val_append]; rw [gEo] at h0
   simp at h0
   simp [val, h0]
  ·rfl
theorem val_trimN (zs : List Int) : val (trimN zs) = val zs := by rw [trimN, val_take_trim zs _ (Nat.le_refl _), List.take_length]
theorem RdI.take {w : World} {k : IntKind} {A : Option Addr} {zs : List Int} (h : RdI w k A zs) (j : Nat) : RdI w k A (zs.take j) := fun i hi => by
 have hi' : i < j ∧ i < zs.length := by simpa [List.length_take, Nat.lt_min] using hi
 obtain ⟨b, off, z, hA, hz, hc⟩ := h i hi'.2
 exact ⟨b, off, z, hA, by rw [List.getElem?_take_of_lt hi'.1]; exact hz, hc⟩
theorem trim_any (A : Option Addr) (c : Nat) (zs : List Int) (w : World) (hr : RdI w .u32 A zs) (hl : zs.length ≤ c) (hm : c ≤ 9223372036854775807) :
  Calls Tryz.prog 185 #[.slice A zs.length c] w fun e w' => e = .returned (.slice A (trimN zs).length c) ∧ w = w' := by
 rw [trimN_length]
 go_enter Tryz.func185, Tryz.ntmps185
 go_wp2
 go_loop [0] (fun v => ∃ k : Nat, k ≤ zs.length ∧ v = .slice A k c ∧ Hid (trimLen zs k = trimLen zs zs.length)) (fun v => match v with | .slice _ k _ => k | _ => 0)
 case atStart => exact ⟨zs.length, Nat.le_refl _, rfl, rfl⟩
 case round =>
  obtain ⟨k, hk, rfl, hT⟩ := hrel
  cases k with
  | zero =>
   go_wp2; go_ret; exact ⟨by rw [← hT.out]; rfl, rfl⟩
  | succ k =>
   obtain ⟨b, off, z, rfl, hz, hc⟩ := hr k lq29; have hT' := hT.out; rw [trimLen, hz] at hT'; simp only [Option.getD_some] at hT'; have HZ := Lh hz; clear hz
   by_cases h0 : z = 0
   ·rw [if_pos h0] at hT'; have HT := Lh hT'; have h0' : (z == 0) = true := by simp [h0]
    clear hT' h0; go_wp2
    go_round
    case rel => exact ⟨k, by omega, rfl, HT⟩
    case measure => simp
   ·rw [if_neg h0] at hT'; have HT := Lh hT'; have h0' : (z == 0) = false := by simp [h0]
    clear hT' h0; go_wp2; go_ret; exact ⟨by rw [← HT.out]; rfl, rfl⟩
def W32 (zs : List Int) : Prop := ∀ z ∈ zs, 0 ≤ z ∧ z ≤ 4294967295
def NT : List Int → Prop
 | [] => True
 | [z] => z ≠ 0
 | _ :: z :: zs => NT (z :: zs)
theorem W32.tail {z : Int} {zs : List Int} (h : W32 (z :: zs)) : W32 zs := fun x hx => h x (List.mem_cons_of_mem _ hx)
theorem W32.head {z : Int} {zs : List Int} (h : W32 (z :: zs)) : 0 ≤ z ∧ z ≤ 4294967295 := h z (List.mem_cons_self ..)
theorem W32.nil : W32 [] := by simp [W32]
theorem W32.cons {z : Int} {zs : List Int} (h0 : 0 ≤ z) (h1 : z ≤ 4294967295) (h : W32 zs) : W32 (z :: zs) := by
 intro x hx
 rcases List.mem_cons.1 hx with rfl | hx
 ·exact ⟨h0, h1⟩
 ·exact h x hx
theorem W32.take {a : List Int} (h : W32 a) (n : Nat) : W32 (a.take n) := fun x hx => h x (List.mem_of_mem_take hx)
theorem W32.get {a : List Int} (h : W32 a) (i : Nat) (hi : i < a.length) : 0 ≤ a[i] ∧ a[i] ≤ 4294967295 := h _ (List.getElem_mem hi)
theorem pow_pos (n : Nat) : (0 : Int) < 4294967296 ^ n := Int.pow_pos lq28
theorem val_nn : ∀ {zs : List Int}, W32 zs → 0 ≤ val zs
 | [], _ => Int.le_refl _
 | z :: zs, h => by
  have h1 := val_nn h.tail; have h2 := h.head; rw [val]; omega
theorem val_bound : ∀ {zs : List Int}, W32 zs → val zs < 4294967296 ^ zs.length
 | [], _ => by simp [val]
 | z :: zs, h => by
  have h1 := val_bound h.tail; have h2 := h.head; rw [val, length_cons, Int.pow_succ]; omega
theorem nt_low : ∀ {zs : List Int}, W32 zs → NT zs → zs ≠ [] → 4294967296 ^ (zs.length - 1) ≤ val zs
 | [], _, _, h => absurd rfl h
 | [z], h, hn, _ => by
  have := h.head; simp only [NT] at hn
  simp [val]; omega
 | x :: z :: zs, h, hn, _ => by
  have ih := nt_low h.tail hn lq30; have h2 := h.head; rw [val]; simp only [length_cons, Nat.add_sub_cancel] at ih ⊢; rw [Int.pow_succ]
  omega
theorem nt_pos {zs : List Int} (h : W32 zs) (hn : NT zs) (he : zs ≠ []) : 0 < val zs := Int.lt_of_lt_of_le (pow_pos _) (nt_low h hn he)
theorem nt_zero {zs : List Int} (h : W32 zs) (hn : NT zs) : val zs = 0 ↔ zs = [] := by
 constructor
 ·intro h0
  by_cases he : zs = []
  ·exact he
  ·have := nt_pos h hn he; omega
 ·rintro rfl; rfl
theorem nt_tail {z : Int} {zs : List Int} (h : NT (z :: zs)) : NT zs := by
 cases zs with
 | nil => trivial
 | cons y zs => exact h
theorem canon : ∀ {a b : List Int}, W32 a → W32 b → NT a → NT b → val a = val b → a = b
 | [], b, _, hb, _, nb, h => ((nt_zero hb nb).1 h.symm).symm
 | x :: a, [], ha, _, na, _, h => (nt_zero ha na).1 h
 | x :: a, y :: b, ha, hb, na, nb, h => by
  have h1 := ha.head; have h2 := hb.head; rw [val, val] at h; have hxy : x = y := by omega
  have ht : val a = val b := by omega
  rw [hxy, canon ha.tail hb.tail (nt_tail na) (nt_tail nb) ht]
theorem pow_mono {a b : Nat} (h : a ≤ b) : (4294967296 : Int) ^ a ≤ 4294967296 ^ b := by
 obtain ⟨d, rfl⟩ := Nat.exists_eq_add_of_le h
 rw [Int.pow_add]
 have h1 := pow_pos a
 have h2 := pow_pos d
 have h3 := Int.mul_le_mul_of_nonneg_left (show (1 : Int) ≤ 4294967296 ^ d by omega) (Int.le_of_lt h1)
 rwa [Int.mul_one] at h3
theorem nt_len {zs : List Int} (h : W32 zs) (hn : NT zs) (k : Nat) : k < zs.length ↔ 4294967296 ^ k ≤ val zs := by
 constructor
 ·intro hk; have he : zs ≠ [] := by intro e; rw [e] at hk; simp at hk
  exact Int.le_trans (pow_mono lq29) (nt_low h hn he)
 ·intro hv
  rcases Nat.lt_or_ge k zs.length with h1 | h1
  ·exact h1
  ·have := val_bound h; have := pow_mono h1
   omega
theorem nt_snoc (zs : List Int) (z : Int) (hz : z ≠ 0) : NT (zs ++ [z]) := by
 induction zs with
 | nil => exact hz
 | cons x zs ih =>
  cases zs with
  | nil => exact hz
  | cons y zs => exact ih
theorem trimLen_nt (zs : List Int) : ∀ k, k ≤ zs.length → NT (zs.take (trimLen zs k))
 | 0, _ => by simp [trimLen, NT]
 | k + 1, h => by
  rw [trimLen]
  split
  ·exact trimLen_nt zs k lq29
  ·rename_i h0
   rw [List.take_succ_eq_append_getElem lq29]
   apply nt_snoc
   rw [gEo] at h0
   simpa using h0
theorem trimN_nt (zs : List Int) : NT (trimN zs) := trimLen_nt zs _ (Nat.le_refl _)
theorem trimN_w32 {zs : List Int} (h : W32 zs) : W32 (trimN zs) := h.take _
theorem trimN_of_nt {zs : List Int} (h : W32 zs) (hn : NT zs) : trimN zs = zs := canon (trimN_w32 h) h (trimN_nt zs) hn (val_trimN zs)
def valI (b : Bool) (zs : List Int) : Int := if b then -(val zs) else val zs
theorem valI_abs {b : Bool} {zs : List Int} (h : W32 zs) : (valI b zs).natAbs = val zs := by
 have := val_nn h
 unfold valI
 split <;> omega
def digs (n : Nat) : Nat → List Nat
 | 0 => []
 | K + 1 => (n / 10 ^ K % 10) :: digs n K
theorem digs_length (n K : Nat) : (digs n K).length = K := by
 induction K with
 | zero => rfl
 | succ K ih => simp [digs, ih]
theorem digs_lt (n K : Nat) : ∀ d ∈ digs n K, d < 10 := by
 induction K with
 | zero => simp [digs]
 | succ K ih =>
  intro d hd; rw [digs] at hd
  rcases List.mem_cons.1 hd with rfl | hd
  ·exact Nat.mod_lt _ lq28
  ·exact ih d hd
theorem digs_app (n K L : Nat) : digs n (K + L) = digs (n / 10 ^ L) K ++ digs n L := by
 induction K with
 | zero => simp [digs]
 | succ K ih =>
  rw [show K + 1 + L = (K + L) + 1 by omega, digs, ih, digs, List.cons_append, Nat.div_div_eq_div_mul, ← Nat.pow_add, Nat.add_comm L K]
theorem digs_low (p q L : Nat) : ∀ K, K ≤ L → digs (p + 10 ^ L * q) K = digs p K
 | 0, _ => rfl
 | K + 1, h => by
  rw [digs, digs, digs_low p q L K lq29]
  congr 1
  have e : 10 ^ L = 10 ^ K * (10 * 10 ^ (L - K - 1)) := by
   rw [← Nat.mul_assoc, ← Nat.pow_succ, ← Nat.pow_add]; congr 1; omega
  rw [e, Nat.mul_assoc, Nat.add_mul_div_left _ _ (Nat.pow_pos lq28), Nat.mul_assoc, Nat.add_mul_mod_self_left]
theorem digs_zero (n : Nat) : ∀ K L, n < 10 ^ L → digs n (K + L) = List.replicate K 0 ++ digs n L
 | 0, L, _ => by simp
 | K + 1, L, h => by
  rw [show K + 1 + L = (K + L) + 1 by omega, digs, digs_zero n K L h, List.replicate_succ, List.cons_append]; have : n / 10 ^ (K + L) = 0 := Nat.div_eq_of_lt (Nat.lt_of_lt_of_le h (Nat.pow_le_pow_right lq28 lq29)); rw [this]
def pval : List Nat → Nat
 | [] => 0
 | p :: ps => p + 1000000000 * pval ps
theorem pval_snoc (ps : List Nat) (r : Nat) : pval (ps ++ [r]) = pval ps + 10 ^ (9 * ps.length) * r := by
 induction ps with
 | nil => simp [pval]
 | cons p ps ih =>
  rw [List.cons_append, pval, ih, pval, length_cons, show 9 * (ps.length + 1) = 9 + 9 * ps.length by omega, Nat.pow_add]; have : (10 : Nat) ^ 9 = 1000000000 := by decide
  rw [this]
  generalize 10 ^ (9 * ps.length) = P
  grind
theorem digs_pval : ∀ (ps : List Nat), (∀ p ∈ ps, p < 1000000000) → digs (pval ps) (9 * ps.length) = ps.reverse.flatMap (fun p => digs p 9)
 | [], _ => rfl
 | p :: ps, h => by
  have h1 := h p (List.mem_cons_self ..); rw [length_cons, show 9 * (ps.length + 1) = 9 * ps.length + 9 by omega, digs_app, pval, List.reverse_cons, List.flatMap_append, ← digs_pval ps (fun q hq => h q (List.mem_cons_of_mem _ hq))]; have e : (10 : Nat) ^ 9 = 1000000000 := by decide
  have e2 := digs_low p (pval ps) 9 9 (Nat.le_refl _); rw [e] at e2; rw [e, e2, Nat.add_mul_div_left _ _ lq28, Nat.div_eq_of_lt h1, Nat.zero_add]
  simp
theorem pval_lt : ∀ (ps : List Nat), (∀ p ∈ ps, p < 1000000000) → pval ps < 10 ^ (9 * ps.length)
 | [], _ => by decide
 | p :: ps, h => by
  have h1 := h p (List.mem_cons_self ..); have h2 := pval_lt ps (fun q hq => h q (List.mem_cons_of_mem _ hq)); rw [pval, length_cons, show 9 * (ps.length + 1) = 9 + 9 * ps.length by omega, Nat.pow_add]; have : (10 : Nat) ^ 9 = 1000000000 := by decide
  rw [this]
  generalize 10 ^ (9 * ps.length) = P at *
  omega
def dchr (d : Nat) : UInt8 := UInt8.ofNat (48 + d)
theorem dchr_toNat (d : Nat) (h : d < 10) : (dchr d).toNat = 48 + d := by
 rw [dchr, UInt8.toNat_ofNat']; omega
theorem dchr_zero (d : Nat) (h : d < 10) : dchr d = 48 ↔ d = 0 := by
 constructor
 ·intro e; have := congrArg UInt8.toNat e; rw [dchr_toNat d h] at this; have e2 : (48 : UInt8).toNat = 48 := rfl
  omega
 ·rintro rfl; rfl
def decD (n K : Nat) : List Nat := (digs n K).dropWhile (· == 0)
theorem decD_any (n K L : Nat) (hK : n < 10 ^ K) (hL : n < 10 ^ L) : decD n K = decD n L := by
 have : ∀ K L, K ≤ L → n < 10 ^ K → decD n L = decD n K := by
  intro K L h hK; obtain ⟨d, rfl⟩ := Nat.exists_eq_add_of_le h; rw [Nat.add_comm, decD, digs_zero n d K hK, decD]; clear hL h
  induction d with
  | zero => rfl
  | succ d ih => rw [List.replicate_succ, List.cons_append, List.dropWhile_cons_of_pos (by rfl), ih]
 rcases Nat.le_total K L with h | h
 ·exact (this K L h hK).symm
 ·exact this L K h hL
def decB (n : Nat) : List UInt8 := (decD n n).map dchr
theorem decB_any (n K : Nat) (h : n < 10 ^ K) : decB n = (decD n K).map dchr := by
 rw [decB, decD_any n n K (Nat.lt_pow_self lq28) h]
theorem dropWhile_map_dchr : ∀ l : List Nat, (∀ d ∈ l, d < 10) → (l.map dchr).dropWhile (· == 48) = (l.dropWhile (· == 0)).map dchr
 | [], _ => rfl
 | d :: l, h => by
  have hd := h d (List.mem_cons_self ..); rw [List.map_cons]
  by_cases h0 : d = 0
  ·subst h0; rw [List.dropWhile_cons_of_pos (by rfl), List.dropWhile_cons_of_pos (by rfl), dropWhile_map_dchr l (fun x hx => h x (List.mem_cons_of_mem _ hx))]
  ·rw [List.dropWhile_cons_of_neg (by simp only [beq_iff_eq]; exact fun e => h0 ((dchr_zero d hd).1 e)), List.dropWhile_cons_of_neg (by simpa using h0), List.map_cons]
theorem decB_of_pieces (ps : List Nat) (h : ∀ p ∈ ps, p < 1000000000) : ((ps.reverse.flatMap (fun p => digs p 9)).map dchr).dropWhile (· == 48) = decB (pval ps) := by
 rw [← digs_pval ps h, dropWhile_map_dchr _ (digs_lt _ _), decB_any (pval ps) _ (pval_lt ps h)]; rfl
def textL (X : Int) : List UInt8 := if X = 0 then [48] else if X < 0 then 45 :: decB X.natAbs else decB X.natAbs
def decVal (d : List UInt8) : Nat := d.foldl (fun v c => 10 * v + (c.toNat - 48)) 0
theorem decVal_go : ∀ (d : List UInt8) (v : Nat), d.foldl (fun v c => 10 * v + (c.toNat - 48)) v = v * 10 ^ d.length + decVal d
 | [], v => by simp [decVal]
 | c :: d, v => by
  have h2 : decVal (c :: d) = d.foldl (fun v c => 10 * v + (c.toNat - 48)) (10 * 0 + (c.toNat - 48)) := rfl; rw [h2, List.foldl_cons, decVal_go d (10 * v + (c.toNat - 48)), decVal_go d (10 * 0 + (c.toNat - 48)), length_cons, Nat.pow_succ]; simp only [Nat.mul_zero, Nat.zero_add]
  generalize 10 ^ d.length = P
  generalize c.toNat - 48 = x
  generalize decVal d = y
  grind
theorem decVal_cons (c : UInt8) (d : List UInt8) : decVal (c :: d) = (c.toNat - 48) * 10 ^ d.length + decVal d := by
 rw [decVal, List.foldl_cons, decVal_go]; simp
theorem decVal_digs (n : Nat) : ∀ K, decVal ((digs n K).map dchr) = n % 10 ^ K
 | 0 => by simp [digs, decVal, Nat.mod_one]
 | K + 1 => by
  rw [digs, List.map_cons, decVal_cons, List.length_map, digs_length, decVal_digs n K, dchr_toNat _ (Nat.mod_lt _ lq28)]; have h := Nat.mod_mul (x := n) (a := 10 ^ K) (b := 10); rw [Nat.pow_succ, h]; have : 48 + n / 10 ^ K % 10 - 48 = n / 10 ^ K % 10 := by omega
  rw [this, Nat.mul_comm, Nat.add_comm]
theorem decVal_zeros : ∀ (d : List Nat), decVal ((d.dropWhile (· == 0)).map dchr) = decVal (d.map dchr)
 | [] => rfl
 | x :: d => by
  by_cases h : x = 0
  ·subst h; rw [List.dropWhile_cons_of_pos (by rfl), decVal_zeros d, List.map_cons, decVal_cons]; have : (dchr 0).toNat - 48 = 0 := by rw [dchr_toNat 0 lq28]
   rw [this, Nat.zero_mul, Nat.zero_add]
  ·rw [List.dropWhile_cons_of_neg (by simpa using h)]
theorem decVal_decB (n : Nat) : decVal (decB n) = n := by
 rw [decB, decD, decVal_zeros, decVal_digs]
 exact Nat.mod_eq_of_lt (Nat.lt_pow_self lq28)
theorem decB_head (n : Nat) (h : n ≠ 0) : ∃ c d, decB n = c :: d ∧ c ≠ 48 := by
 have hv := decVal_decB n
 cases hd : decB n with
 | nil => rw [hd] at hv; simp [decVal] at hv; omega
 | cons c d =>
  refine ⟨c, d, rfl, fun e => ?_⟩
  rw [decB, decD] at hd
  cases hw : (digs n n).dropWhile (· == 0) with
  | nil => rw [hw] at hd; simp at hd
  | cons x l =>
   rw [hw, List.map_cons] at hd; injection hd with hx _
   have hmem : x ∈ digs n n := (List.dropWhile_sublist _).mem (by rw [hw]; exact List.mem_cons_self ..); have hx0 := (dchr_zero x (digs_lt n n x hmem)).1 (hx.trans e); have := List.head?_dropWhile_not (p := (· == 0)) (l := digs n n); rw [hw] at this
   simp [hx0] at this
theorem wrapU64 (n : Int) : IntKind.u64.wrap n = n % 18446744073709551616 := by simp [IntKind.wrap, IntKind.bits, IntKind.signed]
theorem wrapU32 (n : Int) : IntKind.u32.wrap n = n % 4294967296 := by simp [IntKind.wrap, IntKind.bits, IntKind.signed]
theorem or_join (i : Nat) (a b : Int) (ha0 : 0 ≤ a) (ha : a < 18446744073709551616) (hb0 : 0 ≤ b) (hb : b < 18446744073709551616)
  (hm : a.toNat % 2 ^ i = 0) (hl : b.toNat < 2 ^ i) : bits BinOp.or IntKind.u64 a b = a + b := by
 rw [u64_or a b ha0 ha hb0 hb, nat_join i _ _ hm hl]
 omega
def RetRow (w : World) (k : IntKind) (zs : List Int) (e : Ending) (w' : World) : Prop :=
 ∃ A c, e = .returned (.slice A zs.length c) ∧ zs.length ≤ c ∧ c ≤ 9223372036854775807 ∧ FrI w' w.heap.size k A zs ∧ Below w.heap.size w w'
def RetInt (w : World) (b : Bool) (zs : List Int) (e : Ending) (w' : World) : Prop :=
 ∃ A c, e = .returned (.agg #[.bool b, .slice A zs.length c]) ∧ zs.length ≤ c ∧ c ≤ 9223372036854775807 ∧ FrI w' w.heap.size .u32 A zs ∧ Below w.heap.size w w'
theorem retRow_own {w w1 : World} {e : TypeId} {k : IntKind} {v : Value} {n : Nat} {zs : List Int} (hn : zs.length = n) (h : w1.ownsRow w.heap.size e 1 v (0 + n) (([] ++ zs).map (Value.int k))) (hg : w.grownBy w1 (Value.slice none 0 0).ownBlock) :
  RetRow w k zs (.returned v) w1 := by
 subst hn
 simp only [Nat.zero_add, List.nil_append] at h
 obtain ⟨A, c, rfl, h1, h2, _⟩ := own_form h
 exact ⟨A, c, rfl, h1, h2, FrI.of_own h, (Below.refl _ _).grown hg (Nat.le_refl _) (by simp [Value.ownBlock])⟩
theorem u32_info : (Tryz.prog.info? 61).map (fun i => (i.zero, i.size, i.bytes)) = some (some (.int .u32 0), 1, 4) := by kernel_rfl
theorem refTrim_any (A : Option Addr) (c : Nat) (zs : List Int) (w : World) (hr : RdI w .u32 A zs) (hl : zs.length ≤ c) (hc : c ≤ 9223372036854775807) (hm : zs.length ≤ 1000000) :
  Calls Tryz.prog 197 #[.slice A zs.length c] w (RetRow w .u32 (trimN zs)) := by
 obtain ⟨i0, hi0, hz0, hz1, hz2⟩ := info_parts u32_info
 go_enter Tryz.func197, Tryz.ntmps197
 go_wp2
 go_loop [3] (fun v => ∃ k : Nat, k ≤ zs.length ∧ v = .int .i64 k ∧ Hid (trimLen zs k = trimLen zs zs.length)) (fun v => (intOf v).toNat)
 case atStart => exact ⟨zs.length, Nat.le_refl _, rfl, rfl⟩
 case round =>
  obtain ⟨k, hk, rfl, hT⟩ := hrel; have hrk := hr.take k; have hlk : (zs.take k).length = k := by rw [List.length_take]; omega
  by_cases h0 : k = 0 ∨ zs[k-1]?.getD 0 ≠ 0
  ·have hkk : trimLen zs k = k := by
    rcases h0 with h0 | h0
    ·subst h0; rfl
    ·cases k with
     | zero => rfl
     | succ k => simp at h0; rw [trimLen, if_neg h0]
   have hu : zs.take k = trimN zs := by rw [trimN, ← hT.out, hkk]
   rw [hu] at hrk hlk; clear hkk hu; have HL := Lh hlk; clear hlk; have hex : k = 0 ∨ ∃ (j b off : Nat) (z : Int), k = j + 1 ∧ A = some ⟨b, off, none⟩ ∧ w.cell? ⟨b, off + j, none⟩ = some (.int .u32 z) ∧ (z == 0) = false := by
    rcases h0 with h0 | h0
    ·exact .inl h0
    ·cases k with
     | zero => exact .inl rfl
     | succ j =>
      obtain ⟨b, off, z, hA, hz, hc⟩ := hr j lq29
      refine .inr ⟨j, b, off, z, rfl, hA, hc, ?_⟩
      simp [hz] at h0
      simp [h0]
   clear h0
   rcases hex with rfl | ⟨j, b, off, z, rfl, rfl, hcz, hzn⟩
   all_goals
    go_wp2_with (at_builtin; refine wpList_append_ints _ rfl (.tmp 19) (.tmp 22) _ rfl w.heap.size 61 i0 _ 4 .u32 Tryz.underlying22 hi0 hz0 hz1 hz2 rfl (.slice none 0 0) 0 [] rfl (World.ownsRow_nil _ _ _ _) _ _ _ (trimN zs) rfl HL.out.symm hrk lq24 lq29 (Nat.le_refl _) ?_; intro v1 w1 hown hg _); go_ret; exact retRow_own HL.out hown hg
  ·cases k with
   | zero => exact absurd (.inl rfl) h0
   | succ k =>
    obtain ⟨b, off, z, rfl, hz, hc⟩ := hr k lq29; have hzz : z = 0 := by
     rcases Int.lt_trichotomy z 0 with h | h | h
     ·exact absurd (.inr (by simp [hz]; omega)) h0
     ·exact h
     ·exact absurd (.inr (by simp [hz]; omega)) h0
    have hzn : (z == 0) = true := by simp [hzz]
    have HT : Hid (trimLen zs k = trimLen zs zs.length) := by
     rw [← hT.out, trimLen, hz, if_pos (by simpa using hzz)]; rfl
    clear h0 hzz hz hrk hlk; go_wp2
    go_round
    case rel => exact ⟨k, by omega, by go_num, HT⟩
    case measure => simp [intOf]
theorem retInt_close {w w' : World} {X : Obj} {b : Bool} {A : Option Addr} {ts : List Int} {c : Nat} (l1 : ts.length ≤ c) (l2 : c ≤ 9223372036854775807) (fr : FrI w' (w.alloc X).heap.size .u32 A ts) (hb : Below (w.alloc X).heap.size (w.alloc X) w') (x y : Value) :
  RetInt w b ts (.returned (.agg #[.bool b, .slice A ts.length c])) ((w'.setCell ⟨w.heap.size, 0, none⟩ x).setCell ⟨w.heap.size, 1, none⟩ y) := by
 refine ⟨A, c, rfl, l1, l2, ?_, ?_⟩
 ·have h1 : FrI w' (w.heap.size + 1) .u32 A ts := by simpa using fr
  exact ((h1.setCell (p := ⟨w.heap.size, 0, none⟩) lq30 _).setCell (p := ⟨w.heap.size, 1, none⟩) lq30 _).mono lq29
 ·exact ((((Below.refl _ w).alloc (Nat.le_refl _) X).trans (hb.mono lq30)).setCell (p := ⟨w.heap.size, 0, none⟩) (Nat.le_refl _) _).setCell (p := ⟨w.heap.size, 1, none⟩) (Nat.le_refl _) _
def negN (neg : Bool) (zs : List Int) : Bool := neg && decide (0 < (trimN zs).length)
theorem made_any (neg : Bool) (A : Option Addr) (c : Nat) (zs : List Int) (w : World) (hr : RdI w .u32 A zs) (hl : zs.length ≤ c) (hc : c ≤ 9223372036854775807) (hm : zs.length ≤ 1000000) :
  Calls Tryz.prog 218 #[.bool neg, .slice A zs.length c] w (RetInt w (negN neg zs) (trimN zs)) := by
 have hl2 := trimN_le zs
 have HN : Hid (negN neg zs = (neg && decide (0 < (trimN zs).length))) := rfl
 obtain ⟨ts, hts⟩ : ∃ ts, ts = trimN zs := ⟨_, rfl⟩
 have HC := Lh (fun W (hb : Below w.heap.size w W) => refTrim_any A c zs W (hr.later hb) hl hc hm)
 rw [← hts] at HN HC hl2
 have HT := Lh hts
 clear hts
 rw [← HT.out, HN.out]
 clear HN
 cases neg
 all_goals
  by_cases h0 : 0 < ts.length
  all_goals
   go_enter Tryz.func218, Tryz.ntmps218; go_wp2_with (go_at_call 197; refine (HC.out _ ((Below.refl _ _).alloc (Nat.le_refl _) _)).mono ?_; rintro e w' ⟨A', c', rfl, l1, l2, fr, hb⟩; obtain ⟨ko, kf⟩ := oldCells hb; have hsz : w.heap.size + 1 ≤ w'.heap.size := by have := hb.size; simpa using this); exact bodyPost_ret (v := .agg #[.bool _, .slice A' ts.length c']) (by simp [results, Tryz.results218, go_sem, ko, hsz]; rfl) rfl (by first | exact retInt_close l1 l2 fr hb _ _ | (simp only [h0, decide_true, decide_false, Bool.and_true, Bool.and_false]; exact retInt_close l1 l2 fr hb _ _))
theorem retInt_at {w W1 w' : World} {g : Nat} {b : Bool} {A : Option Addr} {ts : List Int} {c : Nat} (h01 : Below w.heap.size w W1) (hg : g < W1.heap.size) (hgw : w.heap.size ≤ g) (l1 : ts.length ≤ c) (l2 : c ≤ 9223372036854775807)
  (fr : FrI w' W1.heap.size .u32 A ts) (hb : Below W1.heap.size W1 w') (x y : Value) :
  RetInt w b ts (.returned (.agg #[.bool b, .slice A ts.length c])) ((w'.setCell ⟨g, 0, none⟩ x).setCell ⟨g, 1, none⟩ y) := by
 refine ⟨A, c, rfl, l1, l2, ?_, ?_⟩
 ·exact ((fr.setCell (p := ⟨g, 0, none⟩) hg _).setCell (p := ⟨g, 1, none⟩) hg _).mono h01.size
 ·exact ((h01.trans (hb.mono h01.size)).setCell (p := ⟨g, 0, none⟩) hgw _).setCell (p := ⟨g, 1, none⟩) hgw _
theorem form_any (neg : Bool) (A : Option Addr) (c : Nat) (zs : List Int) (w : World) (hr : RdI w .u32 A zs) (hl : zs.length ≤ c) (hc : c ≤ 9223372036854775807) (hm : zs.length ≤ 1000000) :
  Calls Tryz.prog 194 #[.agg #[.bool neg, .slice A zs.length c]] w (RetInt w (negN neg zs) (trimN zs)) := by
 have HC := Lh (fun W (hb : Below w.heap.size w W) => made_any neg A c zs W (hr.later hb) hl hc hm)
 obtain ⟨ts, hts⟩ : ∃ ts, ts = trimN zs := ⟨_, rfl⟩
 obtain ⟨bb, hbb⟩ : ∃ bb, bb = negN neg zs := ⟨_, rfl⟩
 rw [← hts, ← hbb] at HC ⊢
 clear hts hbb
 have hb1 : Below w.heap.size w ((w.alloc (.cells #[.bool neg, .slice A zs.length c] 24)).alloc (.cells #[.bool false, .slice none 0 0] 24)) := ((Below.refl _ _).alloc (Nat.le_refl _) _).alloc lq30 _
 go_enter Tryz.func194, Tryz.ntmps194
 go_wp2_with (go_at_call 218; refine (HC.out _ hb1).mono ?_; rintro e w' ⟨A', c', rfl, l1, l2, fr, hb⟩; obtain ⟨ko, kf⟩ := oldCells hb; have hsz : w.heap.size + 1 + 1 ≤ w'.heap.size := by have := hb.size; simpa using this)
 exact bodyPost_ret (v := .agg #[.bool bb, .slice A' ts.length c']) (by simp [results, Tryz.results194, go_sem, ko, hsz]) rfl (retInt_at hb1 lq30 lq29 l1 l2 fr hb _ _)
theorem news_oneW (w : World) (v : Value) (t : TypeId) : ∀ j u, [v][j]? = some u → (w.alloc (.cells #[v] t)).cell? ((⟨w.heap.size, 0, none⟩ : Addr).add j) = some u := by
 exact lv177
theorem own_baseW {base : Nat} {e : TypeId} {size : Nat} {v : Value} {n : Nat} {xs : List Value} {w : World} (h : w.ownsRow base e size v n xs) : ∀ k, v.ownBlock = some k → base ≤ k := fun k hk => (h.lt k hk).1
def IntAt (w : World) (base : Nat) (X : Int) (v : Value) : Prop :=
 ∃ b A c zs, v = .agg #[.bool b, .slice A zs.length c] ∧ zs.length ≤ c ∧ c ≤ 9223372036854775807 ∧ FrI w base .u32 A zs ∧ W32 zs ∧ NT zs ∧ valI b zs = X ∧ (b = true → zs ≠ [])
theorem IntAt.later {w w' : World} {base : Nat} {X : Int} {v : Value} (h : IntAt w base X v) (hb : Below w.heap.size w w') : IntAt w' base X v := by
 obtain ⟨b, A, c, zs, h1, h2, h3, h4, h5⟩ := h
 exact ⟨b, A, c, zs, h1, h2, h3, h4.later hb, h5⟩
theorem IntAt.mono {w : World} {base base' : Nat} {X : Int} {v : Value} (h : IntAt w base X v) (hb : base' ≤ base) : IntAt w base' X v := by
 obtain ⟨b, A, c, zs, h1, h2, h3, h4, h5⟩ := h
 exact ⟨b, A, c, zs, h1, h2, h3, h4.mono hb, h5⟩
theorem W32.set {fs : List Int} (h : W32 fs) (k : Nat) (z : Int) (h0 : 0 ≤ z) (h1 : z ≤ 4294967295) : W32 (fs.set k z) := by
 intro x hx
 rcases List.mem_or_eq_of_mem_set hx with hx | rfl
 ·exact h x hx
 ·exact ⟨h0, h1⟩
theorem hown_lt {w : World} {base : Nat} {e : TypeId} {g n c : Nat} {xs : List Value} (h : w.ownsRow base e 1 (.slice (some ⟨g, 0, none⟩) n c) n xs) : g < w.heap.size := by
 rcases h.2 with ⟨hv, _⟩ | ⟨g', cap, cur, hv, _, hg, _⟩
 ·cases hv
 ·injection hv with hA _ _
  injection hA with hA
  injection hA with hA _ _
  rw [hA]; exact (Array.getElem?_eq_some_iff.1 hg).1
theorem IntAt.setCell {S : Int} {v : Value} {base : Nat} {w : World} (h : IntAt w base S v) {p : Addr} (hp : p.block < base) (u : Value) : IntAt (w.setCell p u) base S v := by
 obtain ⟨b, A, c, zs, h1, h2, h3, h4, h5⟩ := h
 exact ⟨b, A, c, zs, h1, h2, h3, h4.setCell hp u, h5⟩
def RetI (w : World) (X : Int) (e : Ending) (w' : World) : Prop :=
 ∃ b' A' n' c', e = .returned (.agg #[.bool b', .slice A' n' c']) ∧ IntAt w' w.heap.size X (.agg #[.bool b', .slice A' n' c']) ∧ Below w.heap.size w w'
theorem retInt_i {w w' : World} {neg : Bool} {zs : List Int} {e : Ending} (hW : W32 zs) (h : RetInt w (negN neg zs) (trimN zs) e w') : RetI w (valI neg zs) e w' := by
 obtain ⟨A, c, rfl, h1, h2, h3, h4⟩ := h
 refine ⟨_, _, _, _, rfl, ⟨_, A, c, trimN zs, rfl, h1, h2, h3, trimN_w32 hW, trimN_nt zs, ?_, ?_⟩, h4⟩
 ·have h0 := nt_zero (trimN_w32 hW) (trimN_nt zs); rw [val_trimN] at h0; unfold valI negN; rw [val_trimN]
  cases neg
  ·simp
  ·by_cases ht : trimN zs = []
   ·have hv := h0.2 ht; rw [ht, hv]; simp
   ·have : 0 < (trimN zs).length := List.length_pos_iff.2 ht
    simp [this]
 ·intro hb; unfold negN at hb; simp only [Bool.and_eq_true, decide_eq_true_eq] at hb; exact List.length_pos_iff.1 hb.2
theorem refForm_int (neg : Bool) (A : Option Addr) (c : Nat) (zs : List Int) (w : World) (hW : W32 zs) (hr : RdI w .u32 A zs) (hl : zs.length ≤ c) (hc : c ≤ 9223372036854775807) (hm : zs.length ≤ 1000000) :
  Calls Tryz.prog 194 #[.agg #[.bool neg, .slice A zs.length c]] w (RetI w (valI neg zs)) :=
 (form_any neg A c zs w hr hl hc hm).mono fun e w' h => retInt_i hW h
theorem clone_zero (A : Option Addr) (c : Nat) (w : World) (hc : c ≤ 9223372036854775807) :
  Calls Tryz.prog 59 #[.slice A 0 c] w fun e w' => (∃ A' c', e = .returned (.slice A' 0 c') ∧ c' ≤ 9223372036854775807) ∧ Below w.heap.size w w' := by
 cases A with
 | none =>
  refine (Tryz.slices_Clone_nil 0 c w).mono ?_
  rintro e w' ⟨rfl, rfl⟩; exact ⟨⟨none, 0, rfl, by omega⟩, Below.refl _ _⟩
 | some a =>
  have hnil : ∀ W : World, (binOp BinOp.eql 22 (.slice (some a) 0 c) (.slice none 0 0)).run Tryz.prog W = .ok (.bool false) W := fun W => by first | rfl | simp [binOp, go_sem, Tryz.underlying22]
  go_enter Tryz.func59, Tryz.ntmps59; go_wp2; go_ret; exact ⟨⟨_, _, rfl, by omega⟩, (Below.refl _ w).alloc (Nat.le_refl _) _⟩
theorem IntAt.get {w : World} {base : Nat} {X : Int} {b : Bool} {A : Option Addr} {n c : Nat} (h : IntAt w base X (.agg #[.bool b, .slice A n c])) : ∃ zs, n = zs.length ∧ zs.length ≤ c ∧ c ≤ 9223372036854775807 ∧ FrI w base .u32 A zs ∧ W32 zs ∧ NT zs ∧ valI b zs = X ∧ (b = true → zs ≠ []) := by
 obtain ⟨b', A', c', zs, hv, rest⟩ := h
 injection hv with hv
 injection hv with hv
 simp only [List.cons.injEq, Value.bool.injEq, Value.slice.injEq, and_true] at hv
 obtain ⟨rfl, rfl, rfl, rfl⟩ := hv
 exact ⟨zs, rfl, rest⟩
end
end Go.Proofs.YtjefhdlncikhmaaGreatDoor
