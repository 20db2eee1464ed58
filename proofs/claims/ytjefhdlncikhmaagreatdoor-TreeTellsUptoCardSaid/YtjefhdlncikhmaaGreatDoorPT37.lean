/- Joined by a program: Q8, Rt1, LawHelp. -/
import Derived.Test.YtjefhdlncikhmaaGreatDoorPT36
namespace Go.Proofs.YtjefhdlncikhmaaGreatDoor
set_option linter.unusedVariables false
set_option linter.unusedSimpArgs false
set_option maxRecDepth 1000000
set_option maxHeartbeats 16000000
section
open Go.RowKit
open List (length_append length_cons length_nil length_singleton)
theorem chk_at (T : Nd) : chk T = if (decide (T.depth ≤ 300) && (T.kind == 1) && (T.text.size == 0) && noNumB T && rowB T.kids [(Sh.of 2).ev Nd.right]) = true then 0 else 11 := by
 unfold chk
 congr 1
 by_cases hk : T.kind = 1
 ·rw [right_at hk (tx := .non) (fm := .row [.of 2]) rfl lq28]
  show (_ ∧ _ ∧ ((T.text.size == 0) && noNumB T && rowB T.kids [(Sh.of 2).ev Nd.right]) = true) = _
  simp [hk, Bool.and_assoc]
 ·simp [hk]
theorem rCheck_ok (T : Nd) (A : Option Addr) (c : Nat) (K : Option Addr) (d : Nat) (w : World) (hN : NodeAt w T A c K d) (hW : T.weight ≤ 1000000) :
  Calls Tryz.prog 14 #[ndV T A c K d] w fun e w' => e = .returned (.int .i64 (chk T)) ∧ Below w.heap.size w w' := by
 obtain ⟨D, hD⟩ : ∃ D, T.depth ≤ D + 1 := ⟨T.depth, by omega⟩
 have HDe := Lh (fun W (hb : Below w.heap.size w W) => by
  have := refDepth_ok T A c K d W (hN.later hb); unfold ndV at this
  exact this)
 have HBa := Lh (fun W (hb : Below w.heap.size w W) => by
  have := rBare_ok T A c K d W (hN.later hb); unfold ndV at this
  exact this)
 have HTE := Lh (text_empty T.text)
 have HEV := Lh (chk_at T)
 obtain ⟨m, hm⟩ : ∃ m, min T.depth 302 = m := ⟨_, rfl⟩
 rw [hm] at HDe
 by_cases h1' : T.depth ≤ 300
 ·have g1 : decide (T.depth ≤ 300) = true := by simp [h1']
  have em : decide ((300 : Int) < (m : Int)) = false := dFo; have em' : decide (300 < m) = false := dFo
  by_cases h2' : T.kind = 1
  ·have g2 : (T.kind == 1) = true := by simp [h2']
   have ek : (T.kind == 1) = true := by simpa using h2'
   have ek' : (T.kind != 1) = false := by simp [h2']
   by_cases h3' : T.text.size = 0
   ·have g3 : (T.text.size == 0) = true := by simp [h3']
    have et : T.text.toList.isEmpty = true := by rw [HTE.out, g3]
    cases hc4 : noNumB T with
    | true =>
     have G4 := Lh hc4; clear hc4
     by_cases h5' : T.kids.length = 1
     ·have g5 : (T.kids.length == 1) = true := by simp [h5']
      have el : ((T.kids.length : Int) == 1) = true := by rw [h5']; rfl
      have elb : ((T.kids.length : Int) != 1) = false := by rw [h5']; rfl
      obtain ⟨t0, hks⟩ := kids_1 (l := T.kids) lq29; have hg0 : T.kids[0]? = some t0 := by rw [hks]; rfl
      obtain ⟨b, off, A0, c0, K0, d0, hKe0, hC0, hN0⟩ := hN.kid hg0; have hd0 := wKM hD hW t0 (mog hg0); rw [Nat.zero_mul, Nat.add_zero] at hC0; subst hKe0
      have HLi := Lh (fun W (hb : Below w.heap.size w W) => by
       have := rLines_ok D (rStmt_ok D) t0 A0 c0 K0 d0 W lq29 hd0.2 (hN0.later hb); unfold ndV at this
       exact this)
      have HEVk := Lh (show chk T = if (decide (T.depth ≤ 300) && (T.kind == 1) && (T.text.size == 0) && noNumB T && (Sh.of 2).ev Nd.right t0) = true then 0 else 11 by rw [HEV.out, hks]; simp [rowB]); have j0 : (0 : Int) < (T.kids.length : Int) := by omega
      have j1 : 0 < T.kids.length := by omega
      clear hks hg0 hN0 hd0
      cases hc6 : (Sh.of 2).ev Nd.right t0 with
      | true =>
       have G6 := Lh hc6; clear hc6; have HV := Lh (show chk T = 0 by rw [HEVk.out]; simp [g1, g2, g3, G4.out, g5, G6.out]); exact lv38
      | false =>
       have G6 := Lh hc6; clear hc6; have HV := Lh (show chk T = 11 by rw [HEVk.out]; simp [g1, g2, g3, G4.out, g5, G6.out]); exact lv38
     ·have g5 : (T.kids.length == 1) = false := by simp [h5']
      have el : ((T.kids.length : Int) == 1) = false := bFo; have elb : ((T.kids.length : Int) != 1) = true := bne_iff_ne.2 lq29; have HV := Lh (show chk T = 11 by rw [HEV.out, rowB_len (l := T.kids) (L := [(Sh.of 2).ev Nd.right]) (by simpa using h5')]; simp [g1, g2, g3, G4.out, g5]); clear h1' h2' h3' h5'; exact lv92
    | false =>
     have G4 := Lh hc4; clear hc4; have HV := Lh (show chk T = 11 by rw [HEV.out]; simp [g1, g2, g3, G4.out]); clear h1' h2' h3'; exact lv92
   ·have g3 : (T.text.size == 0) = false := by simp [h3']
    have et : T.text.toList.isEmpty = false := by rw [HTE.out, g3]
    have HV := Lh (show chk T = 11 by rw [HEV.out]; simp [g1, g2, g3]); clear h1' h2' h3'; exact lv114
  ·have g2 : (T.kind == 1) = false := by simp [h2']
   have ek : (T.kind == 1) = false := by simpa using h2'
   have ek' : (T.kind != 1) = true := by simp [h2']
   have HV := Lh (show chk T = 11 by rw [HEV.out]; simp [g1, g2]); clear h1' h2'; exact lv114
 ·have g1 : decide (T.depth ≤ 300) = false := by simp [h1']
  have em : decide ((300 : Int) < (m : Int)) = true := dTo; have em' : decide (300 < m) = true := dTo; have HV := Lh (show chk T = 11 by rw [HEV.out]; simp [g1]); clear h1'; exact lv114
def RTxOk (D : Nat) : Prop := ∀ (T : Nd) (A : Option Addr) (c : Nat) (K : Option Addr) (d : Nat) (W : World), Te T → T.depth ≤ D → T.weight ≤ 1000000 → NodeAt W T A c K d →
 Calls Tryz.prog 99 #[ndV T A c K d] W fun e w' => e = .returned (.string (ba T.txt)) ∧ Below W.heap.size W w'
theorem ba_len {T : Nd} (h : okN T) (hw : T.weight ≤ 1000000) : (ba T.txt).size ≤ 64000000 := by
 have := txt_len T h
 rw [ba_size]
 omega
theorem sep_bound (s : List UInt8) (l : List Nd) (h : ∀ t ∈ l, okN t) (hs : s.length ≤ 1000) : (sepL s (l.map Nd.txt)).length ≤ 64 * weights l + 1000 * l.length := by
 have h1 := sep_total s (l.map Nd.txt)
 have h2 := total_any (f := Nd.txt) l (fun t ht => by have := txt_len t (h t ht); omega)
 rw [List.length_map] at h1
 have h3 : s.length * l.length ≤ 1000 * l.length := Nat.mul_le_mul_right _ hs
 omega
theorem kidsAt_okN {w : World} {l : List Nd} {K : Option Addr} (h : KidsAt w l K 0) : ∀ t ∈ l, okN t := fun t ht => by
 obtain ⟨i, hi⟩ := List.mem_iff_getElem?.1 ht
 obtain ⟨_, _, _, _, _, _, _, _, hn⟩ := h.kid hi
 exact nodeAt_okN t hn
theorem rRow_ok (D : Nat) (hR : RTxOk D) (s : List UInt8) (l : List Nd) (n : Nat) (K : Option Addr) (d : Nat) (w : World) (hn : l.length = n) (hl : KidsAt w l K 0) (hte : ∀ t ∈ l, Te t) (hWi : WithinM D l) (hwl : weights l ≤ 1000000) (hs : s.length ≤ 1000) (hnd : n ≤ d) (hd : d ≤ maxLen) :
  Calls Tryz.prog 101 #[.slice K n d, .string (ba s)] w fun e w' => e = .returned (.string (ba (sepL s (l.map Nd.txt)))) ∧ Below w.heap.size w w' := by
 unfold maxLen at hd
 have HSB := Lh (sep_bound s l (kidsAt_okN hl) hs)
 have HOK := Lh (kidsAt_okN hl)
 have hlw := weights_len l
 have hss : (ba s).size ≤ 1000 := by rw [ba_size]; exact hs
 have HK := Lh hl
 have HN := Lh hn
 have HT := Lh hte
 have HW := Lh hWi
 have HR := Lh hR
 have hnw : n ≤ 1000000 := by omega
 clear hl hn hte hWi hR hs hlw
 go_enter Tryz.func101, Tryz.ntmps101
 go_wp2_with fail
 go_loopw [5, 6] (fun sv iv wr => ∃ k : Nat, iv = .int .i64 k ∧ sv = .string (ba (sepL s ((l.map Nd.txt).take k))) ∧ k ≤ n ∧ Below w.heap.size w wr) (fun _ iv _ => n - (intOf iv).toNat)
 case atStart => exact ⟨0, rfl, by simp [sepL, ba], Nat.zero_le _, Below.refl _ _⟩
 case round =>
  obtain ⟨k, rfl, rfl, hk, hbr⟩ := hrel
  by_cases hkl : k < n
  ·have o1 : decide ((k : Int) < (n : Int)) = true := dTo; have o2 : decide (k < n) = true := dTr hkl; obtain ⟨t, ht⟩ : ∃ t, l[k]? = some t := ⟨_, List.getElem?_eq_getElem (by rw [HN.out]; exact hkl)⟩; obtain ⟨b, off, A', c', K', d', hKe, hC, hNt⟩ := HK.out.kid ht; rw [Nat.zero_add] at hC; subst hKe; obtain ⟨n0, n1, n2, n3, n4, n5⟩ := hC.later hbr; have hm := mog ht; have hI := HR.out t A' c' K' d' wr (HT.out t hm) (HW.out t hm).1 (HW.out t hm).2 (hNt.later hbr); unfold ndV at hI; have HI := Lh hI; have hmt : (l.map Nd.txt)[k]? = some t.txt := by rw [List.getElem?_map, ht]; rfl
   have hst := sep_take s hmt; have hle := sep_le s (l.map Nd.txt) k; have hz1 : (ba (sepL s ((l.map Nd.txt).take k))).size ≤ 2000000000 := by rw [ba_size]; have := HSB.out; have := HN.out; omega
   have hz2 : (ba t.txt).size ≤ 64000000 := ba_len (HOK.out t hm) (HW.out t hm).2; have HST := Lh hst; clear hI hC hNt ht hm hmt hst hle
   by_cases h0 : k = 0
   ·have q0 : decide ((0 : Int) < (k : Int)) = false := dFo; have q1 : decide (0 < k) = false := dFo; have HV := Lh (show ba (sepL s ((l.map Nd.txt).take k)) ++ ba t.txt = ba (sepL s ((l.map Nd.txt).take (k + 1))) by rw [HST.out, if_pos h0, ba_app]; simp); exact lv155
   ·have q0 : decide ((0 : Int) < (k : Int)) = true := dTo; have q1 : decide (0 < k) = true := dTo; have HV := Lh (show ba (sepL s ((l.map Nd.txt).take k)) ++ ba s ++ ba t.txt = ba (sepL s ((l.map Nd.txt).take (k + 1))) by rw [HST.out, if_neg h0, ba_app, ba_app]; simp); exact lv155
  ·have o1 : decide ((k : Int) < (n : Int)) = false := dFo; have o2 : decide (k < n) = false := dFa hkl; have hv : (l.map Nd.txt).take k = l.map Nd.txt := List.take_of_length_le (by rw [List.length_map]; have := HN.out; omega); have HV := Lh (show ba (sepL s ((l.map Nd.txt).take k)) = ba (sepL s (l.map Nd.txt)) by rw [hv]); clear hv; go_wp2_with fail; go_ret; exact ⟨by rw [← HV.out]; rfl, hbr⟩
theorem FrI.set {w : World} {base : Nat} {k : IntKind} {b off : Nat} {zs : List Int} (h : FrI w base k (some ⟨b, off, none⟩) zs) (i : Nat) (hi : i < zs.length) (z : Int) : FrI (w.setCell ⟨b, off + i, none⟩ (.int k z)) base k (some ⟨b, off, none⟩) (zs.set i z) := fun j hj => by
 rw [List.length_set] at hj
 obtain ⟨b', off', z', hA, hB, hz, hc, hf⟩ := h j hj
 injection hA with hA
 injection hA with e1 e2 _
 subst e1 e2
 by_cases hij : j = i
 ·subst hij
  refine ⟨b, off, z, rfl, hB, by rw [List.getElem?_set_self hj], World.cell?_setCell_same' _ _ _ (by rw [hc]; rfl), by rw [World.frozen?_setCell]; exact hf⟩
 ·refine ⟨b, off, z', rfl, hB, by rw [List.getElem?_set_ne lq29]; exact hz, ?_, by rw [World.frozen?_setCell]; exact hf⟩
  rw [World.cell?_setCell_other _ _ _ _ (fun e => by injection e; omega)]; exact hc
theorem own_some {w : World} {base : Nat} {e : TypeId} {v : Value} {n : Nat} {xs : List Value} (h : w.ownsRow base e 1 v n xs) (hn : 0 < n) : ∃ g c, v = .slice (some ⟨g, 0, none⟩) n c ∧ n ≤ c ∧ c ≤ maxLen := by
 obtain ⟨A, c, rfl, h1, h2, _⟩ := own_form h
 rcases h.2 with ⟨hv, hn0⟩ | ⟨g, cap, cur, hv, _⟩
 ·omega
 ·injection hv with hv _ _
  exact ⟨g, c, by rw [hv], h1, h2⟩
end
end Go.Proofs.YtjefhdlncikhmaaGreatDoor
