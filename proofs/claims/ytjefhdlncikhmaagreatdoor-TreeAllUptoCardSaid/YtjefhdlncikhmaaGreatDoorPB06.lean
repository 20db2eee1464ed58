/- Joined by a program: WPlain, WDec, Bits, Refa, R2, W5, Clone, TxP, BWrite, W10, Backward, T0. -/
import Derived.WalkKit
import Derived.BigQuiet
import Derived.Deep.QuietTactic
import Derived.Lib.OthersKept
import Derived.Deep.OwnRows
import Derived.Deep.RegionHeld3
import Derived.Deep.RegionWith
import Derived.Lib.FrozenHead2
import Derived.RangeFuncBox
import Derived.RangeFuncNested
import Derived.RangeFuncBound
import Derived.RangeFuncCalls
import Derived.RangeFuncLeaves
import Derived.Shelf.Abstract
import Derived.Shelf.RegionOpen
import Derived.OwnWalkIn
import Derived.TacticsInMore
import Derived.LoopNIn
import Derived.LoopIn
import Derived.Test.YtjefhdlncikhmaaGreatDoorRows
import Derived.Deep.DeepCutAuto
import Derived.Deep.CutBlock
import Derived.Test.YtjefhdlncikhmaaGreatDoorPB01
import Derived.Test.YtjefhdlncikhmaaGreatDoorShelf
import Derived.Test.YtjefhdlncikhmaaGreatDoorPB03
import Derived.Test.YtjefhdlncikhmaaGreatDoorPB05
namespace Go.Proofs.YtjefhdlncikhmaaGreatDoor
section
set_option linter.unusedVariables false
set_option linter.unusedSimpArgs false
open Go.RowKit
set_option maxRecDepth 1000000
/-- each is a word of 32 bits. -/
def W32 (zs : List Int) : Prop := ∀ z ∈ zs, 0 ≤ z ∧ z ≤ 4294967295
/-- the highest word is not 0. -/
def NT : List Int → Prop
  | [] => True
  | [z] => z ≠ 0
  | _ :: z :: zs => NT (z :: zs)
theorem W32.tail {z : Int} {zs : List Int} (h : W32 (z :: zs)) : W32 zs := fun x hx => h x (List.mem_cons_of_mem _ hx)
theorem W32.head {z : Int} {zs : List Int} (h : W32 (z :: zs)) : 0 ≤ z ∧ z ≤ 4294967295 := h z (List.mem_cons_self ..)
theorem W32.nil : W32 [] := by simp [W32]
theorem W32.cons {z : Int} {zs : List Int} (h0 : 0 ≤ z) (h1 : z ≤ 4294967295) (h : W32 zs) : W32 (z :: zs) := by
  intro x hx
  rcases List.mem_cons.1 hx with rfl | hx
  · exact ⟨h0, h1⟩
  · exact h x hx
theorem W32.take {a : List Int} (h : W32 a) (n : Nat) : W32 (a.take n) := fun x hx => h x (List.mem_of_mem_take hx)
theorem W32.get {a : List Int} (h : W32 a) (i : Nat) (hi : i < a.length) : 0 ≤ a[i] ∧ a[i] ≤ 4294967295 := h _ (List.getElem_mem hi)
theorem pow_pos (n : Nat) : (0 : Int) < 4294967296 ^ n := Int.pow_pos (by decide)
theorem val_nn : ∀ {zs : List Int}, W32 zs → 0 ≤ val zs
  | [], _ => Int.le_refl _
  | z :: zs, h => by
    have h1 := val_nn h.tail
    have h2 := h.head
    rw [val]; omega
theorem val_bound : ∀ {zs : List Int}, W32 zs → val zs < 4294967296 ^ zs.length
  | [], _ => by simp [val]
  | z :: zs, h => by
    have h1 := val_bound h.tail
    have h2 := h.head
    rw [val, List.length_cons, Int.pow_succ]; omega
/-- the number's size says how many words. -/
theorem nt_low : ∀ {zs : List Int}, W32 zs → NT zs → zs ≠ [] → 4294967296 ^ (zs.length - 1) ≤ val zs
  | [], _, _, h => absurd rfl h
  | [z], h, hn, _ => by
    have := h.head
    simp only [NT] at hn
    simp [val]; omega
  | x :: z :: zs, h, hn, _ => by
    have ih := nt_low h.tail hn (by simp)
    have h2 := h.head
    rw [val]
    simp only [List.length_cons, Nat.add_sub_cancel] at ih ⊢
    rw [Int.pow_succ]
    omega
theorem nt_pos {zs : List Int} (h : W32 zs) (hn : NT zs) (he : zs ≠ []) : 0 < val zs := Int.lt_of_lt_of_le (pow_pos _) (nt_low h hn he)
theorem nt_snoc (zs : List Int) (z : Int) (hz : z ≠ 0) : NT (zs ++ [z]) := by
  induction zs with
  | nil => exact hz
  | cons x zs ih =>
    cases zs with
    | nil => exact hz
    | cons y zs => exact ih
theorem trimLen_nt (zs : List Int) : ∀ k, k ≤ zs.length → NT (zs.take (trimLen zs k))
  | 0, _ => by simp [trimLen, NT]
  | k + 1, h => by
    rw [trimLen]
    split
    · exact trimLen_nt zs k (by omega)
    · rename_i h0
      rw [List.take_succ_eq_append_getElem (by omega)]
      apply nt_snoc
      rw [List.getElem?_eq_getElem (by omega)] at h0
      simpa using h0
theorem trimN_nt (zs : List Int) : NT (trimN zs) := trimLen_nt zs _ (Nat.le_refl _)
theorem trimN_w32 {zs : List Int} (h : W32 zs) : W32 (trimN zs) := h.take _
/-- an Int's number. -/
def valI (b : Bool) (zs : List Int) : Int := if b then -(val zs) else val zs
end
section
set_option linter.unusedVariables false
set_option linter.unusedSimpArgs false
open Go.RowKit
set_option maxRecDepth 1000000
/-- so many digits, the highest first. -/
def digs (n : Nat) : Nat → List Nat
  | 0 => []
  | K + 1 => (n / 10 ^ K % 10) :: digs n K
theorem digs_length (n K : Nat) : (digs n K).length = K := by
  induction K with
  | zero => rfl
  | succ K ih => simp [digs, ih]
theorem digs_lt (n K : Nat) : ∀ d ∈ digs n K, d < 10 := by
  induction K with
  | zero => simp [digs]
  | succ K ih =>
    intro d hd
    rw [digs] at hd
    rcases List.mem_cons.1 hd with rfl | hd
    · exact Nat.mod_lt _ (by decide)
    · exact ih d hd
theorem digs_app (n K L : Nat) : digs n (K + L) = digs (n / 10 ^ L) K ++ digs n L := by
  induction K with
  | zero => simp [digs]
  | succ K ih =>
    rw [show K + 1 + L = (K + L) + 1 by omega, digs, ih, digs, List.cons_append, Nat.div_div_eq_div_mul, ← Nat.pow_add, Nat.add_comm L K]
theorem digs_low (p q L : Nat) : ∀ K, K ≤ L → digs (p + 10 ^ L * q) K = digs p K
  | 0, _ => rfl
  | K + 1, h => by
    rw [digs, digs, digs_low p q L K (by omega)]
    congr 1
    have e : 10 ^ L = 10 ^ K * (10 * 10 ^ (L - K - 1)) := by
      rw [← Nat.mul_assoc, ← Nat.pow_succ, ← Nat.pow_add]; congr 1; omega
    rw [e, Nat.mul_assoc, Nat.add_mul_div_left _ _ (Nat.pow_pos (by decide)), Nat.mul_assoc, Nat.add_mul_mod_self_left]
theorem digs_zero (n : Nat) : ∀ K L, n < 10 ^ L → digs n (K + L) = List.replicate K 0 ++ digs n L
  | 0, L, _ => by simp
  | K + 1, L, h => by
    rw [show K + 1 + L = (K + L) + 1 by omega, digs, digs_zero n K L h, List.replicate_succ, List.cons_append]
    have : n / 10 ^ (K + L) = 0 := Nat.div_eq_of_lt (Nat.lt_of_lt_of_le h (Nat.pow_le_pow_right (by decide) (by omega)))
    rw [this]
/-- pieces of nine digits, the lowest first. -/
def pval : List Nat → Nat
  | [] => 0
  | p :: ps => p + 1000000000 * pval ps
theorem pval_snoc (ps : List Nat) (r : Nat) : pval (ps ++ [r]) = pval ps + 10 ^ (9 * ps.length) * r := by
  induction ps with
  | nil => simp [pval]
  | cons p ps ih =>
    rw [List.cons_append, pval, ih, pval, List.length_cons, show 9 * (ps.length + 1) = 9 + 9 * ps.length by omega, Nat.pow_add]
    have : (10 : Nat) ^ 9 = 1000000000 := by decide
    rw [this]
    generalize 10 ^ (9 * ps.length) = P
    grind
theorem digs_pval : ∀ (ps : List Nat), (∀ p ∈ ps, p < 1000000000) → digs (pval ps) (9 * ps.length) = ps.reverse.flatMap (fun p => digs p 9)
  | [], _ => rfl
  | p :: ps, h => by
    have h1 := h p (List.mem_cons_self ..)
    rw [List.length_cons, show 9 * (ps.length + 1) = 9 * ps.length + 9 by omega, digs_app, pval, List.reverse_cons, List.flatMap_append, ← digs_pval ps (fun q hq => h q (List.mem_cons_of_mem _ hq))]
    have e : (10 : Nat) ^ 9 = 1000000000 := by decide
    have e2 := digs_low p (pval ps) 9 9 (Nat.le_refl _)
    rw [e] at e2
    rw [e, e2, Nat.add_mul_div_left _ _ (by decide), Nat.div_eq_of_lt h1, Nat.zero_add]
    simp
theorem pval_lt : ∀ (ps : List Nat), (∀ p ∈ ps, p < 1000000000) → pval ps < 10 ^ (9 * ps.length)
  | [], _ => by decide
  | p :: ps, h => by
    have h1 := h p (List.mem_cons_self ..)
    have h2 := pval_lt ps (fun q hq => h q (List.mem_cons_of_mem _ hq))
    rw [pval, List.length_cons, show 9 * (ps.length + 1) = 9 + 9 * ps.length by omega, Nat.pow_add]
    have : (10 : Nat) ^ 9 = 1000000000 := by decide
    rw [this]
    generalize 10 ^ (9 * ps.length) = P at *
    omega
/-- a digit's sign. -/
def dchr (d : Nat) : UInt8 := UInt8.ofNat (48 + d)
theorem dchr_toNat (d : Nat) (h : d < 10) : (dchr d).toNat = 48 + d := by
  rw [dchr, UInt8.toNat_ofNat']; omega
theorem dchr_zero (d : Nat) (h : d < 10) : dchr d = 48 ↔ d = 0 := by
  constructor
  · intro e
    have := congrArg UInt8.toNat e
    rw [dchr_toNat d h] at this
    have e2 : (48 : UInt8).toNat = 48 := rfl
    omega
  · rintro rfl; rfl
/-- decimal digits without noughts ahead. -/
def decD (n K : Nat) : List Nat := (digs n K).dropWhile (· == 0)
theorem decD_any (n K L : Nat) (hK : n < 10 ^ K) (hL : n < 10 ^ L) : decD n K = decD n L := by
  have : ∀ K L, K ≤ L → n < 10 ^ K → decD n L = decD n K := by
    intro K L h hK
    obtain ⟨d, rfl⟩ := Nat.exists_eq_add_of_le h
    rw [Nat.add_comm, decD, digs_zero n d K hK, decD]
    clear hL h
    induction d with
    | zero => rfl
    | succ d ih => rw [List.replicate_succ, List.cons_append, List.dropWhile_cons_of_pos (by rfl), ih]
  rcases Nat.le_total K L with h | h
  · exact (this K L h hK).symm
  · exact this L K h hL
/-- the digits of a number. -/
def decB (n : Nat) : List UInt8 := (decD n n).map dchr
theorem decB_any (n K : Nat) (h : n < 10 ^ K) : decB n = (decD n K).map dchr := by
  rw [decB, decD_any n n K (Nat.lt_pow_self (by decide)) h]
theorem dropWhile_map_dchr : ∀ l : List Nat, (∀ d ∈ l, d < 10) → (l.map dchr).dropWhile (· == 48) = (l.dropWhile (· == 0)).map dchr
  | [], _ => rfl
  | d :: l, h => by
    have hd := h d (List.mem_cons_self ..)
    rw [List.map_cons]
    by_cases h0 : d = 0
    · subst h0
      rw [List.dropWhile_cons_of_pos (by rfl), List.dropWhile_cons_of_pos (by rfl), dropWhile_map_dchr l (fun x hx => h x (List.mem_cons_of_mem _ hx))]
    · rw [List.dropWhile_cons_of_neg (by simp only [beq_iff_eq]; exact fun e => h0 ((dchr_zero d hd).1 e)), List.dropWhile_cons_of_neg (by simpa using h0), List.map_cons]
theorem decB_of_pieces (ps : List Nat) (h : ∀ p ∈ ps, p < 1000000000) : ((ps.reverse.flatMap (fun p => digs p 9)).map dchr).dropWhile (· == 48) = decB (pval ps) := by
  rw [← digs_pval ps h, dropWhile_map_dchr _ (digs_lt _ _), decB_any (pval ps) _ (pval_lt ps h)]; rfl
/-- a number's text. -/
def textL (X : Int) : List UInt8 := if X = 0 then [48] else if X < 0 then 45 :: decB X.natAbs else decB X.natAbs
end
section
set_option linter.unusedVariables false
set_option linter.unusedSimpArgs false
open Go.RowKit
/-- 'or' of two words whose bits lie apart: a multiple of 2^i, and less than 2^i. -/
theorem or_join (i : Nat) (a b : Int) (ha0 : 0 ≤ a) (ha : a < 18446744073709551616) (hb0 : 0 ≤ b) (hb : b < 18446744073709551616)
    (hm : a.toNat % 2 ^ i = 0) (hl : b.toNat < 2 ^ i) : bits BinOp.or IntKind.u64 a b = a + b := by
  rw [u64_or a b ha0 ha hb0 hb, nat_join i _ _ hm hl]
  omega
end
section
set_option linter.unusedVariables false
set_option linter.unusedSimpArgs false
open Go.RowKit
theorem u32_info : (Tryz.prog.info? 61).map (fun i => (i.zero, i.size, i.bytes)) = some (some (.int .u32 0), 1, 4) := by kernel_rfl
end
section
set_option linter.unusedVariables false
set_option linter.unusedSimpArgs false
open Go.RowKit
set_option maxRecDepth 1000000
/-- one new value in its own block. -/
theorem news_oneW (w : World) (v : Value) (t : TypeId) : ∀ j u, [v][j]? = some u → (w.alloc (.cells #[v] t)).cell? ((⟨w.heap.size, 0, none⟩ : Addr).add j) = some u := by
  intro j u h
  match j with
  | 0 =>
    simp only [List.getElem?_cons_zero, Option.some.injEq] at h
    subst h
    rw [Addr.add_lit, World.cell?_alloc_at _ _ _ _ rfl]; rfl
  | j + 1 => simp at h
theorem own_baseW {base : Nat} {e : TypeId} {size : Nat} {v : Value} {n : Nat} {xs : List Value} {w : World} (h : w.ownsRow base e size v n xs) : ∀ k, v.ownBlock = some k → base ≤ k := fun k hk => (h.lt k hk).1
end
section
set_option linter.unusedVariables false
set_option linter.unusedSimpArgs false
open Go.RowKit
set_option maxRecDepth 1000000
theorem W32.set {fs : List Int} (h : W32 fs) (k : Nat) (z : Int) (h0 : 0 ≤ z) (h1 : z ≤ 4294967295) : W32 (fs.set k z) := by
  intro x hx
  rcases List.mem_or_eq_of_mem_set hx with hx | rfl
  · exact h x hx
  · exact ⟨h0, h1⟩
theorem hown_lt {w : World} {base : Nat} {e : TypeId} {g n c : Nat} {xs : List Value} (h : w.ownsRow base e 1 (.slice (some ⟨g, 0, none⟩) n c) n xs) : g < w.heap.size := by
  rcases h.2 with ⟨hv, _⟩ | ⟨g', cap, cur, hv, _, hg, _⟩
  · cases hv
  · injection hv with hA _ _
    injection hA with hA
    injection hA with hA _ _
    rw [hA]
    exact (Array.getElem?_eq_some_iff.1 hg).1
end
section
set_option linter.unusedVariables false
set_option linter.unusedSimpArgs false
open Go.RowKit
set_option maxRecDepth 1000000
set_option maxHeartbeats 1000000 in
theorem clone_zero (A : Option Addr) (c : Nat) (w : World) (hc : c ≤ 9223372036854775807) :
    Calls Tryz.prog 59 #[.slice A 0 c] w fun e w' => (∃ A' c', e = .returned (.slice A' 0 c') ∧ c' ≤ 9223372036854775807) ∧ Below w.heap.size w w' := by
  cases A with
  | none =>
    refine (Tryz.slices_Clone_nil 0 c w).mono ?_
    rintro e w' ⟨rfl, rfl⟩
    exact ⟨⟨none, 0, rfl, by omega⟩, Below.refl _ _⟩
  | some a =>
    have hnil : ∀ W : World, (binOp BinOp.eql 22 (.slice (some a) 0 c) (.slice none 0 0)).run Tryz.prog W = .ok (.bool false) W := fun W => by first | rfl | simp [binOp, go_sem, Tryz.underlying22]
    go_enter Tryz.func59, Tryz.ntmps59
    go_wp2
    go_ret
    exact ⟨⟨_, _, rfl, by omega⟩, (Below.refl _ w).alloc (Nat.le_refl _) _⟩
end
section
set_option linter.unusedVariables false
set_option linter.unusedSimpArgs false
set_option maxRecDepth 1000000
def tx (T : Nd) : List UInt8 := T.text.data.toList
/-- rows with something between. -/
def sepL (s : List UInt8) : List (List UInt8) → List UInt8
  | [] => []
  | a :: r => a ++ r.flatMap (fun x => s ++ x)
def gl (L : List (List UInt8)) (i : Nat) : List UInt8 := L.getD i []
/-- " for " .. " in " .. " if " .. -/
def behindL (L : List (List UInt8)) : List UInt8 := [32, 102, 111, 114, 32] ++ gl L 1 ++ [32, 105, 110, 32] ++ gl L 2 ++ (L.drop 3).flatMap (fun x => [32, 105, 102, 32] ++ x)
def com : List UInt8 := [44, 32]
/-- a node's text, over its kids'. -/
def txtOf (T : Nd) (L : List (List UInt8)) : List UInt8 :=
  if T.kind = 31 ∨ T.kind = 34 then tx T
  else if T.kind = 32 then textL (valI T.neg T.mag)
  else if T.kind = 33 then quoteL (pieces (tx T))
  else if T.kind = 23 then sepL com L
  else if T.kind = 35 then (if L.length = 1 then [40] ++ gl L 0 ++ [44, 41] else [40] ++ sepL com L ++ [41])
  else if T.kind = 36 then [91] ++ sepL com L ++ [93]
  else if T.kind = 37 ∨ T.kind = 38 then [123] ++ sepL com L ++ [125]
  else if T.kind = 39 then gl L 0 ++ [58, 32] ++ gl L 1
  else if T.kind = 40 then [42, 42] ++ gl L 0
  else if T.kind = 41 then [91] ++ gl L 0 ++ behindL L ++ [93]
  else if T.kind = 42 ∨ T.kind = 43 then [123] ++ gl L 0 ++ behindL L ++ [125]
  else if T.kind = 44 then [40] ++ gl L 0 ++ [32, 105, 102, 32] ++ gl L 1 ++ [32, 101, 108, 115, 101, 32] ++ gl L 2 ++ [41]
  else if T.kind = 45 then [40] ++ gl L 0 ++ [32, 111, 114, 32] ++ gl L 1 ++ [41]
  else if T.kind = 46 then [40] ++ gl L 0 ++ [32, 97, 110, 100, 32] ++ gl L 1 ++ [41]
  else if T.kind = 48 ∨ T.kind = 49 then [40] ++ gl L 0 ++ [32] ++ tx T ++ [32] ++ gl L 1 ++ [41]
  else if T.kind = 47 then [40, 110, 111, 116, 32] ++ gl L 0 ++ [41]
  else if T.kind = 50 then [40, 45] ++ gl L 0 ++ [41]
  else if T.kind = 51 then gl L 0 ++ [40] ++ sepL com (L.drop 1) ++ [41]
  else if T.kind = 52 then tx T ++ [61] ++ gl L 0
  else if T.kind = 54 then gl L 0 ++ [91] ++ gl L 1 ++ [93]
  else match T.kids with
    | [] => []
    | q :: _ => if q.kind = 32 then [40] ++ gl L 0 ++ [41, 46] ++ tx T else gl L 0 ++ [46] ++ tx T
mutual
def Nd.txt : Nd → List UInt8
  | .mk k a t b m ks => txtOf (.mk k a t b m ks) (txts ks)
def txts : List Nd → List (List UInt8)
  | [] => []
  | t :: r => t.txt :: txts r
end
theorem txts_map : ∀ l : List Nd, txts l = l.map Nd.txt
  | [] => rfl
  | t :: r => by rw [txts, txts_map r, List.map_cons]
theorem txt_eq (T : Nd) : T.txt = txtOf T (T.kids.map Nd.txt) := by
  cases T; rw [Nd.txt, txts_map]; rfl
/-- bytes as a text. -/
def ba (l : List UInt8) : ByteArray := ⟨l.toArray⟩
mutual
def okN : Nd → Prop
  | .mk _ _ _ _ m ks => (∀ z ∈ m, 0 ≤ z ∧ z < 4294967296) ∧ okNs ks
def okNs : List Nd → Prop
  | [] => True
  | t :: r => okN t ∧ okNs r
end
theorem okN_eq (T : Nd) : okN T ↔ (∀ z ∈ T.mag, 0 ≤ z ∧ z < 4294967296) ∧ okNs T.kids := by cases T; rw [okN]; rfl
theorem okNs_mem : ∀ {l : List Nd}, okNs l → ∀ t ∈ l, okN t
  | a :: r, h, t, ht => by
    rw [okNs] at h
    rcases List.mem_cons.1 ht with rfl | ht
    · exact h.1
    · exact okNs_mem h.2 t ht
def total : List (List UInt8) → Nat
  | [] => 0
  | a :: r => a.length + total r
theorem gl_total (L : List (List UInt8)) : (gl L 0).length + (gl L 1).length + (gl L 2).length + total (L.drop 3) = total L := by
  match L with
  | [] => rfl
  | [a] => simp [gl, total]
  | [a, b] => simp [gl, total]
  | a :: b :: c :: r => simp [gl, total]; omega
theorem gl_total1 (L : List (List UInt8)) : (gl L 0).length + total (L.drop 1) = total L := by
  match L with
  | [] => rfl
  | a :: r => simp [gl, total]
theorem flat_total (s : List UInt8) (L : List (List UInt8)) : (L.flatMap (fun x => s ++ x)).length = total L + s.length * L.length := by
  induction L with
  | nil => simp [total]
  | cons a r ih => rw [List.flatMap_cons, List.length_append, List.length_append, ih, total, List.length_cons, Nat.mul_succ]; omega
theorem sep_total (s : List UInt8) (L : List (List UInt8)) : (sepL s L).length ≤ total L + s.length * L.length := by
  cases L with
  | nil => simp [sepL, total]
  | cons a r => rw [sepL, List.length_append, flat_total, total, List.length_cons, Nat.mul_succ]; omega
theorem drop_len (L : List (List UInt8)) (k : Nat) : (L.drop k).length ≤ L.length := by rw [List.length_drop]; omega
theorem dec_len {zs : List Int} (h : W32 zs) : (decB (val zs).natAbs).length ≤ 10 * zs.length := by
  have h1 := val_bound h
  have h2 := val_nn h
  have h3 : (4294967296 : Int) ^ zs.length = ((4294967296 ^ zs.length : Nat) : Int) := (Int.natCast_pow 4294967296 zs.length).symm
  have h4 : (4294967296 : Nat) ^ zs.length ≤ 10 ^ (10 * zs.length) := by
    rw [Nat.pow_mul]
    exact Nat.pow_le_pow_left (by decide) _
  rw [decB_any _ (10 * zs.length) (by omega), List.length_map]
  refine Nat.le_trans (List.dropWhile_sublist _).length_le ?_
  rw [digs_length]
  exact Nat.le_refl _
theorem textL_len (b : Bool) {zs : List Int} (h : W32 zs) : (textL (valI b zs)).length ≤ 10 * zs.length + 1 := by
  have h1 := dec_len h
  have h2 : (valI b zs).natAbs = (val zs).natAbs := by unfold valI; cases b <;> simp
  unfold textL
  split
  · simp
  · split
    · rw [List.length_cons, h2]; omega
    · rw [h2]; omega
theorem txtOf_len (T : Nd) (L : List (List UInt8)) (h : W32 T.mag) : (txtOf T L).length ≤ total L + 6 * L.length + 6 * T.text.size + 10 * T.mag.length + 24 := by
  have ht : (tx T).length = T.text.size := by simp [tx]
  have hq : (quoteL (pieces (tx T))).length = ((pieces (tx T)).flatMap quotedL).length + 2 := by simp [quoteL]
  have hq2 := (quoteds_len (pieces (tx T))).2
  have hq3 := pieces_len (tx T)
  have hn := textL_len T.neg h
  have h3 := gl_total L
  have h1 := gl_total1 L
  have hs := sep_total com L
  have hs1 := sep_total com (L.drop 1)
  have hd1 := drop_len L 1
  have hd3 := drop_len L 3
  have hf := flat_total [32, 105, 102, 32] (L.drop 3)
  have hc : com.length = 2 := rfl
  rw [hc] at hs hs1
  have hb : (behindL L).length = 5 + (gl L 1).length + 4 + (gl L 2).length + (total (L.drop 3) + 4 * (L.drop 3).length) := by
    unfold behindL
    simp only [List.length_append, hf, List.length_cons, List.length_nil]
  unfold txtOf
  by_cases c0 : T.kind = 31 ∨ T.kind = 34
  · rw [if_pos c0]; (try simp only [List.length_append, List.length_cons, List.length_nil]); omega
  rw [if_neg c0]
  by_cases c1 : T.kind = 32
  · rw [if_pos c1]; (try simp only [List.length_append, List.length_cons, List.length_nil]); omega
  rw [if_neg c1]
  by_cases c2 : T.kind = 33
  · rw [if_pos c2]; (try simp only [List.length_append, List.length_cons, List.length_nil]); omega
  rw [if_neg c2]
  by_cases c3 : T.kind = 23
  · rw [if_pos c3]; (try simp only [List.length_append, List.length_cons, List.length_nil]); omega
  rw [if_neg c3]
  by_cases c4 : T.kind = 35
  · rw [if_pos c4]
    by_cases c : L.length = 1
    · rw [if_pos c]; (try simp only [List.length_append, List.length_cons, List.length_nil]); omega
    · rw [if_neg c]; (try simp only [List.length_append, List.length_cons, List.length_nil]); omega
  rw [if_neg c4]
  by_cases c5 : T.kind = 36
  · rw [if_pos c5]; (try simp only [List.length_append, List.length_cons, List.length_nil]); omega
  rw [if_neg c5]
  by_cases c6 : T.kind = 37 ∨ T.kind = 38
  · rw [if_pos c6]; (try simp only [List.length_append, List.length_cons, List.length_nil]); omega
  rw [if_neg c6]
  by_cases c7 : T.kind = 39
  · rw [if_pos c7]; (try simp only [List.length_append, List.length_cons, List.length_nil]); omega
  rw [if_neg c7]
  by_cases c8 : T.kind = 40
  · rw [if_pos c8]; (try simp only [List.length_append, List.length_cons, List.length_nil]); omega
  rw [if_neg c8]
  by_cases c9 : T.kind = 41
  · rw [if_pos c9]; (try simp only [List.length_append, List.length_cons, List.length_nil]); omega
  rw [if_neg c9]
  by_cases c10 : T.kind = 42 ∨ T.kind = 43
  · rw [if_pos c10]; (try simp only [List.length_append, List.length_cons, List.length_nil]); omega
  rw [if_neg c10]
  by_cases c11 : T.kind = 44
  · rw [if_pos c11]; (try simp only [List.length_append, List.length_cons, List.length_nil]); omega
  rw [if_neg c11]
  by_cases c12 : T.kind = 45
  · rw [if_pos c12]; (try simp only [List.length_append, List.length_cons, List.length_nil]); omega
  rw [if_neg c12]
  by_cases c13 : T.kind = 46
  · rw [if_pos c13]; (try simp only [List.length_append, List.length_cons, List.length_nil]); omega
  rw [if_neg c13]
  by_cases c14 : T.kind = 48 ∨ T.kind = 49
  · rw [if_pos c14]; (try simp only [List.length_append, List.length_cons, List.length_nil]); omega
  rw [if_neg c14]
  by_cases c15 : T.kind = 47
  · rw [if_pos c15]; (try simp only [List.length_append, List.length_cons, List.length_nil]); omega
  rw [if_neg c15]
  by_cases c16 : T.kind = 50
  · rw [if_pos c16]; (try simp only [List.length_append, List.length_cons, List.length_nil]); omega
  rw [if_neg c16]
  by_cases c17 : T.kind = 51
  · rw [if_pos c17]; (try simp only [List.length_append, List.length_cons, List.length_nil]); omega
  rw [if_neg c17]
  by_cases c18 : T.kind = 52
  · rw [if_pos c18]; (try simp only [List.length_append, List.length_cons, List.length_nil]); omega
  rw [if_neg c18]
  by_cases c19 : T.kind = 54
  · rw [if_pos c19]; (try simp only [List.length_append, List.length_cons, List.length_nil]); omega
  rw [if_neg c19]
  cases hks : T.kids with
  | nil => simp
  | cons q r =>
    by_cases c : q.kind = 32
    · simp only [if_pos c]; (try simp only [List.length_append, List.length_cons, List.length_nil]); omega
    · simp only [if_neg c]; (try simp only [List.length_append, List.length_cons, List.length_nil]); omega
theorem total_map (l : List Nd) (h : ∀ t ∈ l, t.txt.length + 32 ≤ 64 * t.weight) : total (l.map Nd.txt) + 32 * l.length ≤ 64 * weights l := by
  induction l with
  | nil => simp [total]
  | cons a r ih =>
    have h1 := h a (List.mem_cons_self ..)
    have h2 := ih (fun t ht => h t (List.mem_cons_of_mem _ ht))
    rw [List.map_cons, total, weights, List.length_cons]
    omega
theorem txt_len (T : Nd) : okN T → T.txt.length + 32 ≤ 64 * T.weight := by
  induction T using Nd.ind with
  | h T ih =>
    intro ho
    rw [okN_eq] at ho
    have hk := total_map T.kids (fun t ht => ih t ht (okNs_mem ho.2 t ht))
    have hw : W32 T.mag := fun z hz => by have := ho.1 z hz; omega
    have hl := txtOf_len T (T.kids.map Nd.txt) hw
    rw [List.length_map] at hl
    rw [txt_eq, T.weight_eq]
    omega
/-- an expression, a part of one, or targets, of its shape. -/
def Te (T : Nd) : Prop := T.right = true ∧ (31 ≤ T.kind ∨ T.kind = 23)
/-- an expression or a part of one. -/
def Ex (T : Nd) : Prop := T.right = true ∧ 31 ≤ T.kind
theorem Ex.te {T : Nd} (h : Ex T) : Te T := ⟨h.1, .inl h.2⟩
theorem ev_ex {t : Nd} (h : Sh.expr.ev Nd.right t = true) : Ex t := by
  simp only [Sh.ev, Bool.and_eq_true, decide_eq_true_eq] at h
  exact ⟨h.2, h.1.2⟩
theorem ev_tgt {t : Nd} (h : Sh.target.ev Nd.right t = true) : Ex t := by
  simp only [Sh.ev, isTargetK, Bool.and_eq_true, Bool.or_eq_true, beq_iff_eq] at h
  exact ⟨h.2, by omega⟩
theorem ev_tgts {t : Nd} (h : Sh.targets.ev Nd.right t = true) : Te t := by
  simp only [Sh.ev, isTargetK, Bool.and_eq_true, Bool.or_eq_true, beq_iff_eq] at h
  rcases h with h | h
  · exact ⟨h.2, by omega⟩
  · exact ⟨h.2, .inr h.1⟩
theorem ev_of' {t : Nd} {k : Int} (h : (Sh.of k).ev Nd.right t = true) (hk : 31 ≤ k) : Ex t := by
  simp only [Sh.ev, Bool.and_eq_true, beq_iff_eq] at h
  exact ⟨h.2, by omega⟩
theorem rowB_mem : ∀ {l : List Nd} {L : List (Nd → Bool)} {P : Nd → Prop}, rowB l L = true → (∀ p ∈ L, ∀ t, p t = true → P t) → ∀ t ∈ l, P t
  | a :: r, p :: q, P, h, hp, t, ht => by
    rw [rowB, Bool.and_eq_true] at h
    rcases List.mem_cons.1 ht with rfl | ht
    · exact hp p (List.mem_cons_self ..) _ h.1
    · exact rowB_mem h.2 (fun p hp' => hp p (List.mem_cons_of_mem _ hp')) t ht
  | a :: r, [], P, h, _, _, _ => by simp [rowB] at h
theorem mem_take_drop {l : List Nd} (n : Nat) {t : Nd} (h : t ∈ l) : t ∈ l.take n ∨ t ∈ l.drop n := by
  rw [← List.take_append_drop n l, List.mem_append] at h
  exact h
theorem mem_dropW {p : Nd → Bool} : ∀ {l : List Nd} {t : Nd}, t ∈ l → p t = true ∨ t ∈ l.dropWhile p
  | a :: r, t, h => by
    rw [List.dropWhile_cons]
    by_cases hp : p a = true
    · rw [if_pos hp]
      rcases List.mem_cons.1 h with rfl | h
      · exact .inl hp
      · exact mem_dropW h
    · rw [if_neg hp]; exact .inr h
/-- what is asked of the kids of an expression's kind. -/
theorem te_form {T : Nd} (h : Te T) : ∃ tx fm, formOf T.kind = some (tx, fm) ∧ fm.ev Nd.right T = true ∧ tx.ev T.text = true := by
  have hr := h.1
  rw [right_eq] at hr
  cases hf : formOf T.kind with
  | none => rw [hf] at hr; exact Bool.noConfusion hr
  | some x =>
    rw [hf] at hr
    simp only [Bool.and_eq_true] at hr
    exact ⟨x.1, x.2, rfl, hr.2, hr.1.1⟩
theorem form_at {k : Int} {x : Tx × Fm} (h : formOf k = some x) : (k, x.1, x.2) ∈ forms := by
  unfold formOf at h
  rw [Option.map_eq_some_iff] at h
  obtain ⟨⟨k', t', f'⟩, hf, he⟩ := h
  have hm := List.mem_of_find?_eq_some hf
  have hk := List.find?_some hf
  simp only [beq_iff_eq] at hk
  subst hk
  rw [← he]
  exact hm
theorem te_kids {T : Nd} (h : Te T) : ∀ t ∈ T.kids, Te t := by
  obtain ⟨x, fm, hf, hev, -⟩ := te_form h
  have hm := form_at hf
  have hk := h.2
  have all1 : ∀ (s : Sh) (l : List Nd), (∀ t, s.ev Nd.right t = true → Te t) → l.all (s.ev Nd.right) = true → ∀ t ∈ l, Te t := fun s l hs hl t ht => hs t (List.all_eq_true.1 hl t ht)
  have E : ∀ t, Sh.expr.ev Nd.right t = true → Te t := fun t h => (ev_ex h).te
  have G : ∀ t, Sh.target.ev Nd.right t = true → Te t := fun t h => (ev_tgt h).te
  have O : ∀ k, 31 ≤ k → ∀ t, (Sh.of k).ev Nd.right t = true → Te t := fun k hk t h => (ev_of' h hk).te
  have hrow : ∀ n, rowB T.kids (List.replicate n (Sh.expr.ev Nd.right)) = true → ∀ t ∈ T.kids, Te t := fun n hr => rowB_mem hr (fun p hp t ht => E t (by rw [List.eq_of_mem_replicate hp] at ht; exact ht))
  have hcmp : ∀ s : Sh, (∀ t, s.ev Nd.right t = true → Te t) → (Fm.cmp s).ev Nd.right T = true → ∀ t ∈ T.kids, Te t := by
    intro s hs hc
    simp only [Fm.ev, Bool.and_eq_true] at hc
    intro t ht
    rcases mem_take_drop 3 ht with ht | ht
    · refine rowB_mem (P := Te) hc.1.2 ?_ t ht
      intro p hp t ht
      simp only [List.mem_cons, List.not_mem_nil, or_false] at hp
      rcases hp with rfl | rfl | rfl
      · exact hs t ht
      · exact ev_tgts ht
      · exact E t ht
    · exact all1 .expr _ E hc.2 t ht
  have hcll : Fm.cll.ev Nd.right T = true → ∀ t ∈ T.kids, Te t := by
    intro hc
    simp only [Fm.ev, Bool.and_eq_true] at hc
    intro t ht
    rcases mem_take_drop 1 ht with ht | ht
    · exact all1 .expr _ E hc.1.2 t ht
    · rcases mem_dropW (p := Sh.expr.ev Nd.right) ht with h | ht
      · exact E t h
      · rcases mem_dropW (p := (Sh.of 52).ev Nd.right) ht with h | ht
        · exact O 52 (by decide) t h
        · rcases Bool.or_eq_true _ _ ▸ hc.2 with h | h
          · rw [List.isEmpty_iff] at h; rw [h] at ht; simp at ht
          · refine rowB_mem (P := Te) h ?_ t ht
            intro p hp t ht
            simp only [List.mem_singleton] at hp
            subst hp
            exact O 40 (by decide) t ht
  generalize T.kind = k at *
  simp only [forms, List.mem_cons, List.not_mem_nil, or_false, Prod.mk.injEq] at hm
  rcases hm with ⟨h1, h2, h3⟩ | ⟨h1, h2, h3⟩ | ⟨h1, h2, h3⟩ | ⟨h1, h2, h3⟩ | ⟨h1, h2, h3⟩ | ⟨h1, h2, h3⟩ | ⟨h1, h2, h3⟩ | ⟨h1, h2, h3⟩ | ⟨h1, h2, h3⟩ | ⟨h1, h2, h3⟩ | ⟨h1, h2, h3⟩ | ⟨h1, h2, h3⟩ | ⟨h1, h2, h3⟩ | ⟨h1, h2, h3⟩ | ⟨h1, h2, h3⟩ | ⟨h1, h2, h3⟩ | ⟨h1, h2, h3⟩ | ⟨h1, h2, h3⟩ | ⟨h1, h2, h3⟩ | ⟨h1, h2, h3⟩ | ⟨h1, h2, h3⟩ | ⟨h1, h2, h3⟩ | ⟨h1, h2, h3⟩ | ⟨h1, h2, h3⟩ | ⟨h1, h2, h3⟩ | ⟨h1, h2, h3⟩ | ⟨h1, h2, h3⟩ | ⟨h1, h2, h3⟩ | ⟨h1, h2, h3⟩ | ⟨h1, h2, h3⟩ | ⟨h1, h2, h3⟩ | ⟨h1, h2, h3⟩ | ⟨h1, h2, h3⟩ | ⟨h1, h2, h3⟩ | ⟨h1, h2, h3⟩ | ⟨h1, h2, h3⟩ | ⟨h1, h2, h3⟩ | ⟨h1, h2, h3⟩ | ⟨h1, h2, h3⟩ | ⟨h1, h2, h3⟩ | ⟨h1, h2, h3⟩ | ⟨h1, h2, h3⟩ | ⟨h1, h2, h3⟩ | ⟨h1, h2, h3⟩ | ⟨h1, h2, h3⟩ | ⟨h1, h2, h3⟩ | ⟨h1, h2, h3⟩
  all_goals subst h1 h2 h3
  all_goals first
    | (exfalso; omega)
    | exact hrow 0 hev
    | exact hrow 1 hev
    | exact hrow 2 hev
    | exact hrow 3 hev
    | (simp only [Fm.ev, Bool.and_eq_true] at hev; exact all1 .expr _ E hev.2)
    | (simp only [Fm.ev, Bool.and_eq_true] at hev; exact all1 .target _ G hev.2)
    | (simp only [Fm.ev, Bool.and_eq_true] at hev
       refine all1 (.or2 (.of 39) (.of 40)) _ (fun t ht => ?_) hev.2
       rcases Bool.or_eq_true _ _ ▸ (show ((Sh.of 39).ev Nd.right t || (Sh.of 40).ev Nd.right t) = true from ht) with h | h
       · exact O 39 (by decide) t h
       · exact O 40 (by decide) t h)
    | exact hcmp _ E hev
    | exact hcmp _ (O 39 (by decide)) hev
    | exact hcll hev
end
section
set_option linter.unusedVariables false
set_option linter.unusedSimpArgs false
open Go.RowKit Go.Shelf
theorem byte_info : (Tryz.prog.info? 5).map (fun i => (i.zero, i.size, i.bytes)) = some (some (.int .u8 0), 1, 1) := by kernel_rfl
set_option maxHeartbeats 2000000 in
set_option maxRecDepth 100000 in
theorem bWrite (B b g : Nat) (bs : List Value) (cs : Array Value) (T : TypeId) (w : World) (h : Lib.IsBuilderF 56 5 B b bs w) (hlen : bs.length + cs.size ≤ 140737488355328) (hBw : B ≤ w.heap.size)
    (hgb : g ≠ b) (hT : T ≠ 5) (hg : w.heap[g]? = some (.cells cs T (0, 0))) (h1 : ∀ u ∈ cs.toList, u.oneCell' = true) :
    Calls Tryz.prog 189 #[.pointer (some ⟨b, 0, none⟩), .slice (some ⟨g, 0, none⟩) cs.size cs.size] w fun e w' => e = .returned (.tuple #[.int .i64 cs.size, .nilIface]) ∧ (Lib.BuilderAtF 56 5 B b (.pointer (some ⟨b, 0, none⟩)) (bs ++ cs.toList) w' ∧ Below B w w' ∧ Lib.OthersKept 5 (some b) w w') := by
  obtain ⟨i0, hi, hz0, hz1, hz2⟩ := info_parts byte_info
  have hcc := Tryz.bCopyCheck B b bs w h
  go_enter Tryz.func189, Tryz.ntmps189
  go_wp2_with fail
  go_at_call 193
  refine hcc.mono ?_
  rintro e w1 ⟨rfl, hA, hb1, hk1⟩
  obtain ⟨hB, v, hbk, hown, hne⟩ := hA
  have c0 : w1.cell? ⟨b, 0, none⟩ = some (.pointer (some ⟨b, 0, none⟩)) := by rw [Lib.cell_of_heap hbk]; rfl
  have c1 : w1.cell? ⟨b, 1, none⟩ = some v := by rw [Lib.cell_of_heap hbk]; rfl
  have hg1 : w1.heap[g]? = some (.cells cs T (0, 0)) := hk1 g _ hg (fun e => hgb (Option.some.inj e)) (fun c fz e => by injection e with _ e _; exact hT e)
  have hnews : ∀ j u, cs.toList[j]? = some u → w1.cell? ((⟨g, 0, none⟩ : Addr).add j) = some u := fun j u hu => by
    rw [Addr.add_lit, Lib.cell_of_heap hg1, Nat.zero_add]; simpa using hu
  go_wp2_with (at_builtin; refine wpList_append_ownF _ rfl _ _ 40 rfl B 5 i0 _ 1 1 Tryz.underlying40 hi hz0 hz1 hz2 rfl (by decide) _ _ _ rfl hown ⟨g, 0, none⟩ cs.size cs.size cs.toList rfl (by simp) hnews h1 ?c3 ?c4 ?c5 ?_)
  case c3 => unfold maxLen; omega
  case c4 => omega
  case c5 => have := hb1.size; omega
  intro v' w2 hown' hgrow _
  have hlt : b < w1.heap.size := by
    rcases Nat.lt_or_ge b w1.heap.size with h' | h'
    · exact h'
    · simp [Array.getElem?_eq_none h'] at hbk
  have hb2 : w2.heap[b]? = some (.cells #[.pointer (some ⟨b, 0, none⟩), v] 56 (0, 0)) := by
    rw [hgrow.block b hlt (fun e => hne e.symm)]
    exact hbk
  have d0 : w2.cell? ⟨b, 0, none⟩ = some (.pointer (some ⟨b, 0, none⟩)) := by rw [Lib.cell_of_heap hb2]; rfl
  have d1 : w2.cell? ⟨b, 1, none⟩ = some v := by rw [Lib.cell_of_heap hb2]; rfl
  have f1 : w2.frozen? ⟨b, 1, none⟩ = false := Lib.frozen_of_heap hb2 1
  obtain ⟨ao, n', cap, rfl⟩ : ∃ ao n' cap, v' = .slice ao n' cap := by
    rcases hown'.2 with ⟨hv, _⟩ | ⟨g, cap, cur, fz, hv, _⟩
    · exact ⟨_, _, _, hv⟩
    · exact ⟨_, _, _, hv⟩
  go_wp2
  go_ret2
  refine ⟨rfl, ?_, ?_, (hk1.grown hgrow (Lib.ownsRowF_kind hown)).setCell ⟨b, 1, none⟩ rfl _⟩
  · exact Lib.BuilderAtF.put (T := 56) (e := 5) hB hb2 (bs' := bs ++ cs.toList) (by simpa using hown') (by decide)
  · exact (hb1.grown hgrow (by have := hb1.size; omega) (fun k hk => (hown.lt k hk).1)).setCell (p := ⟨b, 1, none⟩) hB _
end
section
set_option linter.unusedVariables false
set_option linter.unusedSimpArgs false
open Go.RowKit
set_option maxRecDepth 1000000
set_option maxHeartbeats 1000000 in
theorem div32_ok (hi lo y : Int) (w : World) (h0 : 0 ≤ hi) (h1 : hi < y) (hy : y ≤ 4294967295) (hl0 : 0 ≤ lo) (hl1 : lo ≤ 4294967295) :
    Calls Tryz.prog 186 #[.int .u32 hi, .int .u32 lo, .int .u32 y] w fun e w' => e = .returned (.tuple #[.int .u32 ((hi * 4294967296 + lo) / y), .int .u32 ((hi * 4294967296 + lo) % y)]) ∧ Below w.heap.size w w' := by
  have e1 : IntKind.u64.wrap (hi * 4294967296) = hi * 4294967296 := by rw [IntKind.wrap_u64]; omega
  have e2 : bits BinOp.or IntKind.u64 (hi * 4294967296) lo = hi * 4294967296 + lo := by
    refine or_join 32 _ _ (by omega) (by omega) (by omega) (by omega) ?_ ?_
    · obtain ⟨n, hn⟩ := Int.eq_ofNat_of_zero_le h0
      rw [hn]
      have : ((n : Int) * 4294967296).toNat = n * 4294967296 := by omega
      rw [this]; exact Nat.mul_mod_left n (2 ^ 32)
    · have : (2 : Nat) ^ 32 = 4294967296 := by rfl
      omega
  obtain ⟨Z, hZ⟩ : ∃ Z, hi * 4294967296 + lo = Z := ⟨_, rfl⟩
  rw [hZ] at e2 ⊢
  have hZ0 : 0 ≤ Z := by omega
  have hZ1 : Z < y * 4294967296 := by omega
  have hZ2 : Z < 18446744073709551616 := by omega
  have hy0 : 0 < y := by omega
  have d1 : Z / y < 4294967296 := Int.ediv_lt_of_lt_mul hy0 (by rw [Int.mul_comm]; exact hZ1)
  have d0 : 0 ≤ Z / y := Int.ediv_nonneg hZ0 (by omega)
  have m0 := Int.emod_nonneg Z (show y ≠ 0 by omega)
  have m1 := Int.emod_lt_of_pos Z hy0
  have t1 : Z.tdiv y = Z / y := Int.tdiv_eq_ediv_of_nonneg hZ0
  have t2 : Z.tmod y = Z % y := Int.tmod_eq_emod_of_nonneg hZ0
  obtain ⟨q, hq⟩ : ∃ q, Z / y = q := ⟨_, rfl⟩
  obtain ⟨r, hr⟩ : ∃ r, Z % y = r := ⟨_, rfl⟩
  rw [hq] at d1 d0 t1 ⊢
  rw [hr] at m0 m1 t2 ⊢
  have w1 : IntKind.u32.wrap q = q := by rw [IntKind.wrap_u32]; omega
  have w2 : IntKind.u32.wrap r = r := by rw [IntKind.wrap_u32]; omega
  have x0 : (y != 0) = true := by simp; omega
  have x1 : (y == 0) = false := by simp; omega
  clear hZ
  go_enter Tryz.func186, Tryz.ntmps186
  go_wp2
  go_quiet (fail)
  go_wp2
  go_ret2
  exact ⟨rfl, ⟨rfl, rfl, rfl, Nat.le_refl _, fun _ _ => rfl⟩⟩
/-- a digit's sign. -/
def dsign (n : Nat) (k : Nat) : Int := 48 + ((n / 10 ^ k % 10 : Nat) : Int)
/-- the array behind k digits. -/
def digCell (n k j : Nat) : Value := if 8 - j < k then .int .u8 (dsign n (8 - j)) else .int .u8 0
def digCells (n k : Nat) : Array Value := #[digCell n k 0, digCell n k 1, digCell n k 2, digCell n k 3, digCell n k 4, digCell n k 5, digCell n k 6, digCell n k 7, digCell n k 8]
theorem digCells9 (n : Nat) : digCells n 9 = #[.int .u8 (dsign n 8), .int .u8 (dsign n 7), .int .u8 (dsign n 6), .int .u8 (dsign n 5), .int .u8 (dsign n 4), .int .u8 (dsign n 3), .int .u8 (dsign n 2), .int .u8 (dsign n 1), .int .u8 (dsign n 0)] := by simp [digCells, digCell]
set_option maxHeartbeats 2000000 in
theorem digits_ok (n : Nat) (w : World) (hn : n ≤ 4294967295) :
    Calls Tryz.prog 188 #[.int .u32 n] w fun e w' => e = .returned (.agg #[.int .u8 (dsign n 8), .int .u8 (dsign n 7), .int .u8 (dsign n 6), .int .u8 (dsign n 5), .int .u8 (dsign n 4), .int .u8 (dsign n 3), .int .u8 (dsign n 2), .int .u8 (dsign n 1), .int .u8 (dsign n 0)]) ∧ Below w.heap.size w w' := by
  go_enter Tryz.func188, Tryz.ntmps188
  go_wp2
  go_loopw [0, 5] (fun v0 v5 wr => ∃ k : Nat, v0 = .int .u32 (n / 10 ^ k : Nat) ∧ v5 = .int .i64 k ∧ k ≤ 9 ∧ wr = (w.alloc (.cells #[.int .u8 0, .int .u8 0, .int .u8 0, .int .u8 0, .int .u8 0, .int .u8 0, .int .u8 0, .int .u8 0, .int .u8 0] 147)).alloc (.cells (digCells n k) 147)) (fun _ v5 _ => 9 - (intOf v5).toNat)
  case atStart => exact ⟨0, by simp, rfl, by omega, rfl⟩
  case round =>
    obtain ⟨k, rfl, rfl, hk, rfl⟩ := hrel
    have hcase : k = 0 ∨ k = 1 ∨ k = 2 ∨ k = 3 ∨ k = 4 ∨ k = 5 ∨ k = 6 ∨ k = 7 ∨ k = 8 ∨ k = 9 := by omega
    obtain ⟨q, hq⟩ : ∃ q, n / 10 ^ k = q := ⟨_, rfl⟩
    have hql : q ≤ 4294967295 := by rw [← hq]; exact Nat.le_trans (Nat.div_le_self _ _) hn
    obtain ⟨m, hm⟩ : ∃ m, q % 10 = m := ⟨_, rfl⟩
    have hml : m < 10 := by rw [← hm]; exact Nat.mod_lt _ (by decide)
    have hnx : n / 10 ^ (k + 1) = q / 10 := by rw [← hq, Nat.pow_succ, Nat.div_div_eq_div_mul]
    have ha : (q : Int).tmod 10 = (m : Int) := by rw [Int.tmod_eq_emod_of_nonneg (by omega), ← hm]; omega
    have ha2 : (q : Int) % 10 = (m : Int) := by rw [← hm]; omega
    have e8 : IntKind.u8.wrap (48 + (m : Int)) = 48 + (m : Int) := by rw [IntKind.wrap_u8]; omega
    rw [hq]
    have HQ := Lib.hid hq
    have HM := Lib.hid hm
    have HN := Lib.hid hnx
    clear hq hm hk hnx
    rcases hcase with rfl | rfl | rfl | rfl | rfl | rfl | rfl | rfl | rfl | rfl
    · simp only [digCells]
      go_wp2
      go_roundw
      case rel => exact ⟨1, by rw [HN.out]; simp, rfl, by omega, by rw [← HM.out, ← HQ.out]; simp [digCells, digCell, dsign]⟩
      case measure => simp [intOf]
    · simp only [digCells]
      go_wp2
      go_roundw
      case rel => exact ⟨2, by rw [HN.out]; simp, rfl, by omega, by rw [← HM.out, ← HQ.out]; simp [digCells, digCell, dsign]⟩
      case measure => simp [intOf]
    · simp only [digCells]
      go_wp2
      go_roundw
      case rel => exact ⟨3, by rw [HN.out]; simp, rfl, by omega, by rw [← HM.out, ← HQ.out]; simp [digCells, digCell, dsign]⟩
      case measure => simp [intOf]
    · simp only [digCells]
      go_wp2
      go_roundw
      case rel => exact ⟨4, by rw [HN.out]; simp, rfl, by omega, by rw [← HM.out, ← HQ.out]; simp [digCells, digCell, dsign]⟩
      case measure => simp [intOf]
    · simp only [digCells]
      go_wp2
      go_roundw
      case rel => exact ⟨5, by rw [HN.out]; simp, rfl, by omega, by rw [← HM.out, ← HQ.out]; simp [digCells, digCell, dsign]⟩
      case measure => simp [intOf]
    · simp only [digCells]
      go_wp2
      go_roundw
      case rel => exact ⟨6, by rw [HN.out]; simp, rfl, by omega, by rw [← HM.out, ← HQ.out]; simp [digCells, digCell, dsign]⟩
      case measure => simp [intOf]
    · simp only [digCells]
      go_wp2
      go_roundw
      case rel => exact ⟨7, by rw [HN.out]; simp, rfl, by omega, by rw [← HM.out, ← HQ.out]; simp [digCells, digCell, dsign]⟩
      case measure => simp [intOf]
    · simp only [digCells]
      go_wp2
      go_roundw
      case rel => exact ⟨8, by rw [HN.out]; simp, rfl, by omega, by rw [← HM.out, ← HQ.out]; simp [digCells, digCell, dsign]⟩
      case measure => simp [intOf]
    · simp only [digCells]
      go_wp2
      go_roundw
      case rel => exact ⟨9, by rw [HN.out]; simp, rfl, by omega, by rw [← HM.out, ← HQ.out]; simp [digCells, digCell, dsign]⟩
      case measure => simp [intOf]
    · simp only [digCells9]
      go_wp2
      exact bodyPost_ret (v := .agg #[.int .u8 (dsign n 8), .int .u8 (dsign n 7), .int .u8 (dsign n 6), .int .u8 (dsign n 5), .int .u8 (dsign n 4), .int .u8 (dsign n 3), .int .u8 (dsign n 2), .int .u8 (dsign n 1), .int .u8 (dsign n 0)]) (by simp [results, Tryz.results188, go_sem]) rfl ⟨rfl, ((Below.refl _ w).alloc (Nat.le_refl _) _).alloc (by simp) _⟩
end
section
set_option linter.unusedVariables false
set_option linter.unusedSimpArgs false
open Go.RowKit Go.Shelf
attribute [local go_sem] Oper.semAt_some
/-- A word of 32 bits. -/
abbrev U32 := { z : Int // 0 ≤ z ∧ z ≤ 4294967295 }
abbrev u32at (zs : List U32) (i : Nat) : U32 := zs[i]?.getD ⟨0, by omega, by omega⟩
def vals (zs : List U32) : List Int := zs.map (·.1)
theorem vals_length (zs : List U32) : (vals zs).length = zs.length := by simp [vals]
theorem vals_get (zs : List U32) (i : Nat) (h : i < zs.length) : (vals zs)[i]? = some (u32at zs i).1 := by
  simp [vals, u32at, List.getElem?_eq_getElem h]
/-- What has come when k rounds are over: f 0, .., f (k - 1). -/
def upto {α : Type} (f : Nat → α) (k : Nat) : List α := (List.range k).map f
theorem upto_succ {α : Type} (f : Nat → α) (k : Nat) : upto f (k + 1) = upto f k ++ [f k] := by simp [upto, List.range_succ]
theorem upto_length {α : Type} (f : Nat → α) (k : Nat) : (upto f k).length = k := by simp [upto]
/-- The j-th pair that Backward hands out. -/
def backAt (zs : List U32) (j : Nat) : Nat × U32 := (zs.length - 1 - j, u32at zs (zs.length - 1 - j))
/-- What a round must keep: all below n₀, and the box of the slice. -/
structure KpB (n₀ Bs : Nat) (W W' : World) : Prop where
  below : Below n₀ W W'
  box : ∀ v, W.cell? ⟨Bs, 0, none⟩ = some v → W'.cell? ⟨Bs, 0, none⟩ = some v
theorem kpB_t {n₀ Bs : Nat} {A B C : World} (h : KpB n₀ Bs A B) (k : KpB n₀ Bs B C) : KpB n₀ Bs A C := ⟨h.below.trans k.below, fun v hv => k.box v (h.box v hv)⟩
theorem kpB_b {n₀ Bs : Nat} {w : World} (hn : n₀ ≤ w.heap.size) (W : World) (l : Nat) (o o' : Obj) (hl : w.heap.size ≤ l) (h : W.heap[l]? = some o) (ho : o.isCells = false) (hw : o.isWalk = false) : KpB n₀ Bs W (W.putObj l o') :=
  ⟨belowK_b hn W l o o' hl h ho hw, fun v hv => cell_kept hv (grownBy_putObj' W l o') (fun r e => by cases e; exact ⟨o, h, ho⟩)⟩
set_option maxRecDepth 100000 in
set_option maxHeartbeats 2000000 in
theorem backward1_in (n : Nat) (hn : 1 ≤ n) (l Bs n₀ : Nat) (A : Option Addr) (cap : Nat) (zs : List U32) (hreach : zs.length ≤ 9223372036854775807) (J Jx : List (Nat × U32) → World → Prop)
    (W : World) (hI : ∀ W', Below n₀ W W' → RdI W' .u32 A (vals zs)) (hBs : W.cell? ⟨Bs, 0, none⟩ = some (.slice A zs.length cap)) (h0 : J [] W)
    (hY : ∀ pre x W, J pre W → pre.length < zs.length → YieldAt Fence.wide (n - 1) Tryz.prog l #[.int .i64 (x.1 : Int), .int .u32 x.2.1] W fun e W' =>
      (e = .returned (.bool true) ∧ J (pre ++ [x]) W' ∧ KpB n₀ Bs W W') ∨ (e = .returned (.bool false) ∧ Jx (pre ++ [x]) W')) :
    CallsIn Fence.wide n Tryz.prog 211 #[.func (.yield l) #[] #[], .pointer (some ⟨Bs, 0, none⟩)] W fun e W' => (∃ v, e = .returned v) ∧
      ((∃ ys, ys = upto (backAt zs) zs.length ∧ J ys W') ∨ (∃ pre, (∃ k, k ≤ zs.length ∧ pre = upto (backAt zs) k) ∧ Jx pre W')) := by
  refine callsIn_of_wp Tryz.func211 rfl trivial ?_ rfl
  simp only [Tryz.ntmps211, List.size_toArray, List.length_cons, List.length_nil, Nat.reduceAdd, Nat.reduceSub, Array.replicate_succ, Array.replicate_zero, List.push_toArray, List.append_toArray, List.nil_append, List.cons_append]
  gi_wp2
  gi_loopw [3] (fun i wr => ∃ k : Nat, k ≤ zs.length ∧ i = .int .i64 ((zs.length : Int) - 1 - k) ∧ J (upto (backAt zs) k) wr ∧ KpB n₀ Bs W wr)
    (fun i _ => (intOf i + 1).toNat)
  case atStart => exact ⟨0, Nat.zero_le _, by simp, h0, ⟨Below.refl _ _, fun _ h => h⟩⟩
  case round =>
    obtain ⟨k, hk, rfl, hJs, hnx⟩ := hrel
    have hBs' : wr.cell? ⟨Bs, 0, none⟩ = some (.slice A zs.length cap) := hnx.box _ hBs
    by_cases hlt : k < zs.length
    · obtain ⟨b, off, z, rfl, hz, hc⟩ := hI wr hnx.below (zs.length - 1 - k) (by rw [vals_length]; omega)
      rw [vals_get _ _ (by omega)] at hz
      injection hz with hz
      subst hz
      obtain ⟨m, hm⟩ : ∃ m, m = zs.length - 1 - k := ⟨_, rfl⟩
      rw [← hm] at hc
      have e : (zs.length : Int) - 1 - k = (m : Int) := by omega
      obtain ⟨fn, tmps, assign, body, hy, hR⟩ := hY _ (m, u32at zs m) wr hJs (by rw [upto_length]; exact hlt)
      dsimp only at hy
      rw [e]
      have hm' : m < zs.length := by omega
      have HM := Lib.hid hm
      clear hm e
      gi_wp2
      refine hR.mono ?_
      rintro e W3 (⟨rfl, hJ3, hk3⟩ | ⟨rfl, hJx3⟩)
      · gi_wp2
        go_roundw
        case rel => exact ⟨k + 1, by omega, by have := HM.out; congr 1; omega, by rw [upto_succ, backAt, ← HM.out]; exact hJ3, kpB_t hnx hk3⟩
        case measure => simp [intOf]
      · gi_wp2
        refine bodyPost_ret (results_none rfl _ _ _) rfl ?_
        exact ⟨⟨_, rfl⟩, .inr ⟨_, ⟨k + 1, by omega, by rw [upto_succ, backAt, ← HM.out]⟩, hJx3⟩⟩
    · obtain rfl : k = zs.length := by omega
      gi_wp2
      go_end0
      exact ⟨⟨_, rfl⟩, .inl ⟨_, rfl, hJs⟩⟩
theorem backward_any (A : Option Addr) (len cap : Nat) (w : World) :
    Calls Tryz.prog 187 #[.slice A len cap] w fun e w' => e = .returned (.func (.func 211) #[] #[.pointer (some ⟨w.heap.size, 0, none⟩)]) ∧ w' = w.alloc (.cells #[.slice A len cap] 22) := by
  go_enter Tryz.func187, Tryz.ntmps187
  go_wp2
  go_ret
  exact ⟨rfl, rfl⟩
theorem backward_stops (n : Nat) (hn : 1 ≤ n) (Bs n₀ : Nat) (A : Option Addr) (cap : Nat) (zs : List U32) (hreach : zs.length ≤ 9223372036854775807) (w : World) (hn₀ : n₀ ≤ w.heap.size)
    (hc : w.cell? ⟨Bs, 0, none⟩ = some (.slice A zs.length cap)) (hI : ∀ W', Below n₀ w W' → RdI W' .u32 A (vals zs)) :
    SeqStopsK Fence.wide n Tryz.prog 211 #[.pointer (some ⟨Bs, 0, none⟩)] (fun x : Nat × U32 => #[Value.int .i64 (x.1 : Int), Value.int .u32 x.2.1]) (KpB n₀ Bs) (fun ys => ys = upto (backAt zs) zs.length)
      (fun pre => ∃ k, k ≤ zs.length ∧ pre = upto (backAt zs) k) zs.length w := fun l J Jx W hW _ _ hY h0 =>
  backward1_in n hn l Bs n₀ A cap zs hreach J Jx W (fun W' hb => hI W' ((hW.mono hn₀).trans hb)) (cell_later hW hc) h0 hY
end
section
set_option linter.unusedVariables false
set_option linter.unusedSimpArgs false
open Go.RowKit Go.Shelf
set_option maxRecDepth 1000000
theorem heap_laterW {w w' : World} (hb : Below w.heap.size w w') {k : Nat} {o : Obj} (h : w.heap[k]? = some o) : w'.heap[k]? = some o :=
  (hb.block k (Array.getElem?_eq_some_iff.1 h).1).trans h
theorem bAt_laterW {T e : TypeId} {B b : Nat} {p : Value} {bs : List Value} {w w' : World} (h : Lib.BuilderAtF T e B b p bs w) (hb : Below w.heap.size w w') : Lib.BuilderAtF T e B b p bs w' := by
  obtain ⟨hB, v, hbk, hown, hne⟩ := h
  refine ⟨hB, v, heap_laterW hb hbk, ⟨hown.1, ?_⟩, hne⟩
  rcases hown.2 with hn | ⟨g, cap, cur, fz, hv, hbg, hg, rest⟩
  · exact .inl hn
  · exact .inr ⟨g, cap, cur, fz, hv, hbg, heap_laterW hb hg, rest⟩
theorem isB_later {T e : TypeId} {B b : Nat} {bs : List Value} {w w' : World} (h : Lib.IsBuilderF T e B b bs w) (hb : Below w.heap.size w w') : Lib.IsBuilderF T e B b bs w' :=
  h.elim (fun x => .inl (bAt_laterW x hb)) (fun x => .inr (bAt_laterW x hb))
theorem bAt_own {T e : TypeId} {B b : Nat} {p : Value} {bs : List Value} {w w' : World} {row : Option Nat} (h : Lib.BuilderAtF T e B b p bs w) (hg : w.grownBy w' row) (hr : ∀ r, row = some r → ∃ o : Obj, w.heap[r]? = some o ∧ o.isCells = false) : Lib.BuilderAtF T e B b p bs w' := by
  obtain ⟨hB, v, hbk, hown, hne⟩ := h
  have hlt : b < w.heap.size := (Array.getElem?_eq_some_iff.1 hbk).1
  refine ⟨hB, v, (hg.block b hlt (fun e => ?_)).trans hbk, hown.kept hg ?_, hne⟩
  · obtain ⟨o, ho, hc⟩ := hr b e.symm
    rw [hbk] at ho
    injection ho with ho
    subst ho
    cases hc
  · rcases hv : v.ownBlock with _ | k
    · exact .inl rfl
    · refine .inr fun e => ?_
      obtain ⟨c, fz, hk⟩ := Lib.ownsRowF_kind hown k hv
      obtain ⟨o, ho, hc⟩ := hr k e.symm
      rw [hk] at ho
      injection ho with ho
      subst ho
      cases hc
theorem isB_own {T e : TypeId} {B b : Nat} {bs : List Value} {w w' : World} {row : Option Nat} (h : Lib.IsBuilderF T e B b bs w) (hg : w.grownBy w' row) (hr : ∀ r, row = some r → ∃ o : Obj, w.heap[r]? = some o ∧ o.isCells = false) : Lib.IsBuilderF T e B b bs w' :=
  h.elim (fun x => .inl (bAt_own x hg hr)) (fun x => .inr (bAt_own x hg hr))
theorem heap_own {k : Nat} {cs : Array Value} {t : TypeId} {fz : Nat × Nat} {w w' : World} {row : Option Nat} (h : w.heap[k]? = some (.cells cs t fz)) (hg : w.grownBy w' row) (hr : ∀ r, row = some r → ∃ o : Obj, w.heap[r]? = some o ∧ o.isCells = false) : w'.heap[k]? = some (.cells cs t fz) := by
  refine (hg.block k (Array.getElem?_eq_some_iff.1 h).1 (fun e => ?_)).trans h
  obtain ⟨o, ho, hc⟩ := hr k e.symm
  rw [h] at ho
  injection ho with ho
  subst ho
  cases hc
theorem own_later {B : Nat} {e : TypeId} {k : Nat} {v : Value} {n : Nat} {xs : List Value} {w w' : World} (h : w.ownsRow B e k v n xs) (hb : Below w.heap.size w w') : w'.ownsRow B e k v n xs :=
  h.kept (row := none) ⟨hb.os, hb.tape, hb.output, hb.size, fun j hj _ => hb.block j hj⟩ (by cases hv : v.ownBlock <;> simp)
theorem set_mid (l : List Int) (i : Nat) (q : Int) (qs : List Int) (h : i < l.length) : (l.take (i + 1) ++ qs).set i q = l.take i ++ (q :: qs) := by
  have hl : (l.take i).length = i := by rw [List.length_take]; omega
  rw [List.take_succ_eq_append_getElem h, List.append_assoc, List.set_append_right _ _ (by omega), hl, Nat.sub_self]
  rfl
theorem clone_own (A : Option Addr) (c : Nat) (zs : List Int) (w : World) (hr : RdI w .u32 A zs) (hm : zs.length ≤ 1000000) (h0 : 0 < zs.length) :
    Calls Tryz.prog 59 #[.slice A zs.length c] w fun e w' => ∃ g c', e = .returned (.slice (some ⟨g, 0, none⟩) zs.length c') ∧ zs.length ≤ c' ∧ c' ≤ 9223372036854775807 ∧ w'.ownsRow w.heap.size 61 1 (.slice (some ⟨g, 0, none⟩) zs.length c') zs.length (zs.map (Value.int .u32)) ∧ Below w.heap.size w w' := by
  obtain ⟨i0, hi0, hz0, hz1, hz2⟩ := info_parts u32_info
  obtain ⟨b, off, z, hA, _, _⟩ := hr 0 h0
  subst hA
  refine (Tryz.slices_Clone i0 _ 1 4 hi0 hz0 hz1 hz2 rfl (by decide) Tryz.sizeOf61 b off zs.length c (zs.map (Value.int .u32)) w (by simp) (by unfold maxLen; omega) (by omega) ?_ (by simp [Value.oneCell'])).mono ?_
  · intro j u hu
    rw [List.getElem?_map] at hu
    by_cases hj : j < zs.length
    · obtain ⟨b2, o2, z2, hA2, hz2, hcell⟩ := hr j hj
      injection hA2 with hA2
      injection hA2 with e1 e2 _
      subst e1 e2
      rw [hz2] at hu
      simp only [Option.map_some, Option.some.injEq] at hu
      rw [← hu]; exact hcell
    · rw [List.getElem?_eq_none (by omega)] at hu; simp at hu
  · rintro e w' ⟨v', rfl, hown, _, hb⟩
    obtain ⟨A', c', rfl, h1, h2, _⟩ := own_form hown
    have hA' : ∃ g, A' = some ⟨g, 0, none⟩ := by
      rcases hown.2 with ⟨hv, hn⟩ | ⟨g, cap, cur, hv, _⟩
      · omega
      · injection hv with hv _ _
        exact ⟨g, hv⟩
    obtain ⟨g, rfl⟩ := hA'
    exact ⟨g, c', rfl, h1, h2, hown, hb⟩
/-- an own row of words reads as its words. -/
theorem rd_of_own {w : World} {base : Nat} {g n c : Nat} {xs ys : List Int} (h : w.ownsRow base 61 1 (.slice (some ⟨g, 0, none⟩) n c) n ((xs ++ ys).map (Value.int .u32))) : RdI w .u32 (some ⟨g, 0, none⟩) xs := fun i hi => by
  have hn : n = (xs ++ ys).length := by have := h.1; simp at this; simp; omega
  rw [List.length_append] at hn
  refine ⟨g, 0, xs[i], rfl, List.getElem?_eq_getElem hi, ?_⟩
  rw [Nat.zero_add, h.cellAt i (by omega), List.getElem?_map, List.getElem?_append_left hi, List.getElem?_eq_getElem hi]
  rfl
/-- the nine digits of a piece. -/
def dig9 (n : Nat) : List Value := [.int .u8 (dsign n 8), .int .u8 (dsign n 7), .int .u8 (dsign n 6), .int .u8 (dsign n 5), .int .u8 (dsign n 4), .int .u8 (dsign n 3), .int .u8 (dsign n 2), .int .u8 (dsign n 1), .int .u8 (dsign n 0)]
theorem dig9_bytes (n : Nat) : dig9 n = Lib.byteCells ((digs n 9).map dchr) := by
  have h : ∀ k, dsign n k = ((dchr (n / 10 ^ k % 10)).toNat : Int) := fun k => by
    rw [dchr_toNat _ (Nat.mod_lt _ (by decide)), dsign]; simp
  simp only [dig9, h, digs, Lib.byteCells, List.map_cons, List.map_nil]
/-- what the builder holds when some pieces have come, the highest first. -/
def flat9 (pre : List (Nat × U32)) : List Value := pre.flatMap fun x => dig9 x.2.1.toNat
theorem flat9_snoc (pre : List (Nat × U32)) (x : Nat × U32) : flat9 (pre ++ [x]) = flat9 pre ++ dig9 x.2.1.toNat := by simp [flat9]
theorem flat9_len (pre : List (Nat × U32)) : (flat9 pre).length = 9 * pre.length := by
  induction pre with
  | nil => rfl
  | cons x pre ih => rw [flat9, List.flatMap_cons, List.length_append] ; rw [flat9] at ih; rw [ih]; simp [dig9]; omega
theorem byteCells_append (a b : List UInt8) : Lib.byteCells (a ++ b) = Lib.byteCells a ++ Lib.byteCells b := by simp [Lib.byteCells]
theorem backAt_snd (us : List U32) (k : Nat) (h : k < us.length) : (backAt us k).2 = us[us.length - 1 - k]'(by omega) := by
  simp only [backAt, u32at]
  rw [List.getElem?_eq_getElem (by omega)]; rfl
theorem flat9_upto (us : List U32) : ∀ k, k ≤ us.length → flat9 (upto (backAt us) k) = Lib.byteCells (((us.drop (us.length - k)).reverse.flatMap fun u => digs u.1.toNat 9).map dchr)
  | 0, _ => by simp [upto, flat9, Lib.byteCells]
  | k + 1, h => by
    obtain ⟨j, hj⟩ : ∃ j, j = us.length - (k + 1) := ⟨_, rfl⟩
    have e1 : us.length - k = j + 1 := by omega
    have e2 : us.length - 1 - k = j := by omega
    have hjl : j < us.length := by omega
    rw [upto_succ, flat9_snoc, flat9_upto us k (by omega), ← hj, e1, List.drop_eq_getElem_cons hjl, List.reverse_cons, List.flatMap_append, List.map_append, byteCells_append, dig9_bytes, backAt_snd us k (by omega)]
    simp only [e2, List.flatMap_cons, List.flatMap_nil, List.append_nil]
theorem flat9_all (us : List U32) : flat9 (upto (backAt us) us.length) = Lib.byteCells ((us.reverse.flatMap fun u => digs u.1.toNat 9).map dchr) := by
  rw [flat9_upto us _ (Nat.le_refl _), Nat.sub_self, List.drop_zero]
/-- pieces as words. -/
theorem words_pcs : ∀ pcs : List Nat, (∀ p ∈ pcs, p < 1000000000) → ∃ us : List U32, vals us = pcs.map (fun p : Nat => (p : Int)) ∧ us.map (fun u => u.1.toNat) = pcs
  | [], _ => ⟨[], rfl, rfl⟩
  | p :: pcs, h => by
    obtain ⟨us, h1, h2⟩ := words_pcs pcs (fun q hq => h q (List.mem_cons_of_mem _ hq))
    have := h p (List.mem_cons_self ..)
    have h0 : (0 : Int) ≤ (p : Int) := by omega
    have h3 : (p : Int) ≤ 4294967295 := by omega
    exact ⟨⟨(p : Int), h0, h3⟩ :: us, by rw [vals, List.map_cons, List.map_cons]; exact congrArg _ h1, by rw [List.map_cons, h2]; rfl⟩
theorem flat9_pcs (us : List U32) (pcs : List Nat) (h : us.map (fun u => u.1.toNat) = pcs) : flat9 (upto (backAt us) us.length) = Lib.byteCells ((pcs.reverse.flatMap fun p => digs p 9).map dchr) := by
  rw [flat9_all, ← h, ← List.map_reverse, List.flatMap_map]
/-- how many pieces there can be. -/
theorem pcs_few (n L : Nat) (V M : Int) (hV : V < 4294967296 ^ n) (h : ((10 ^ (9 * L) : Nat) : Int) * M ≤ V) (hM : 1 ≤ M) : 9 * L < 10 * n := by
  have h1 : ((10 ^ (9 * L) : Nat) : Int) ≤ V := by
    have := Int.mul_le_mul_of_nonneg_left hM (Int.natCast_nonneg (10 ^ (9 * L)))
    omega
  have h2 : (4294967296 : Int) ^ n ≤ ((10 ^ (10 * n) : Nat) : Int) := by
    rw [Nat.pow_mul]
    have := Nat.pow_le_pow_left (show 4294967296 ≤ 10 ^ 10 by decide) n
    have e : (4294967296 : Int) ^ n = ((4294967296 ^ n : Nat) : Int) := by simp
    rw [e]
    exact Int.ofNat_le.2 this
  have h3 : (10 ^ (9 * L) : Nat) < 10 ^ (10 * n) := by omega
  exact (Nat.pow_lt_pow_iff_right (by decide)).1 h3
end
end Go.Proofs.YtjefhdlncikhmaaGreatDoor
