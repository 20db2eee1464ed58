/- The reference's All: the runes of a text, each as a text. -/
import Derived.Test.YtooamagefbhgdaaDoorRefHex
namespace Go.Proofs.YtooamagefbhgdaaDoor
open Go.RowKit Go.Shelf
set_option maxRecDepth 1000000

theorem str_info : (Tryd.prog.info? 9).map (fun i => (i.zero, i.size, i.bytes)) = some (some (.string ⟨#[]⟩), 1, 16) := by kernel_rfl
theorem news_one (w : World) (x : Value) (t : TypeId) : ∀ j u, [x][j]? = some u → (w.alloc (.cells #[x] t)).cell? ((⟨w.heap.size, 0, none⟩ : Addr).add j) = some u := by
  intro j u h
  match j with
  | 0 =>
    simp only [List.getElem?_cons_zero, Option.some.injEq] at h
    subst h
    rw [Addr.add_lit, World.cell?_alloc_at _ _ _ _ rfl]; rfl
  | j + 1 => simp at h
theorem news_two (w : World) (x y : Value) (t : TypeId) : ∀ j u, [x, y][j]? = some u → (w.alloc (.cells #[x, y] t)).cell? ((⟨w.heap.size, 0, none⟩ : Addr).add j) = some u := by
  intro j u h
  match j with
  | 0 =>
    simp only [List.getElem?_cons_zero, Option.some.injEq] at h
    subst h
    rw [Addr.add_lit, World.cell?_alloc_at _ _ _ _ rfl]; rfl
  | 1 =>
    simp only [List.getElem?_cons_succ, List.getElem?_cons_zero, Option.some.injEq] at h
    subst h
    rw [Addr.add_lit, World.cell?_alloc_at _ _ _ _ rfl]; rfl
  | j + 2 => simp at h
theorem own_mono {base base' : Nat} {e : TypeId} {size : Nat} {v : Value} {n : Nat} {xs : List Value} {w : World} (h : w.ownsRow base e size v n xs) (hb : base' ≤ base) : w.ownsRow base' e size v n xs := by
  refine ⟨h.1, ?_⟩
  rcases h.2 with hn | ⟨g, cap, cur, hv, hg, rest⟩
  · exact .inl hn
  · exact .inr ⟨g, cap, cur, hv, Nat.le_trans hb hg, rest⟩
/-- runes as texts. -/
def strsOf (rs : List Nat) : List Value := rs.map fun (r : Nat) => Value.string (Utf8.encode (r : Int))
theorem strsOf_len (rs : List Nat) : (strsOf rs).length = rs.length := by simp [strsOf]

set_option maxHeartbeats 1000000 in
theorem refAll_ok (s : ByteArray) (w : World) (hs : s.size ≤ 1099511627776) :
    Calls Tryd.prog 15 #[.string s] w fun e w' => ∃ v, e = .returned v ∧ w'.ownsRow w.heap.size 9 1 v (pieces s.data.toList).length (strsOf (pieces s.data.toList)) ∧ Below w.heap.size w w' := by
  obtain ⟨i0, hi0, hz0, hz1, hz2⟩ := info_parts str_info
  have hpc := fun wx => pieces_ok s wx hs
  have hpl := pieces_len s.data.toList
  rw [show s.data.toList.length = s.size by simp] at hpl
  obtain ⟨rs, hrs⟩ : ∃ rs, pieces s.data.toList = rs := ⟨_, rfl⟩
  simp only [hrs] at hpc
  rw [hrs] at hpl ⊢
  clear hrs
  go_enter Tryd.func15, Tryd.ntmps15
  go_wp2_with (go_at_call 33; refine (hpc w).mono ?_; rintro e w1 ⟨A, c, rfl, l1, l2, fr, hb1⟩)
  have hrd := fr.rd
  have HF := Lib.hid hrd
  have hsz1 := hb1.size
  clear fr hrd
  go_loopw [4, 5] (fun v iv wr => ∃ k : Nat, iv = .int .i64 k ∧ k ≤ rs.length ∧ wr.ownsRow w1.heap.size 9 1 v k (strsOf (rs.take k)) ∧ Below w1.heap.size w1 wr) (fun _ iv _ => rs.length - (intOf iv).toNat)
  case atStart => exact ⟨0, rfl, Nat.zero_le _, World.ownsRow_nil w1 w1.heap.size 9 1, Below.refl _ _⟩
  case round =>
    obtain ⟨k, rfl, hk, hown, hbw⟩ := hrel
    have hsz := hbw.size
    obtain ⟨B, cB, rfl, _, _, _⟩ := own_form hown
    by_cases hp : k < rs.length
    · obtain ⟨b, off, t, hA, ht, hct⟩ := HF.out k (by rw [nums_length]; exact hp)
      have htr : t = (rs[k] : Int) := by
        simp only [nums, List.getElem?_map, List.getElem?_eq_getElem hp, Option.map_some, Option.some.injEq] at ht
        exact ht.symm
      subst htr
      have hbl : b < w1.heap.size := World.block_lt_of_cell? w1 _ hct
      have hct2 : wr.cell? ⟨b, off + k, none⟩ = some (.int .i32 (rs[k] : Int)) := cell_later hbw hct
      have hbr : b < wr.heap.size := by omega
      have htk : rs.take (k + 1) = rs.take k ++ [rs[k]] := (List.take_append_getElem hp).symm
      have HT := Lib.hid htk
      clear htk ht
      generalize rs[k] = r at *
      subst hA
      have HS := Lib.hid (show (k + 1) * 16 ≤ 140737488355328 by omega)
      have hbw2 : Below w1.heap.size w1 (wr.alloc (.cells #[.string (Utf8.encode (r : Int))] 9)) := hbw.alloc hsz _
      have hown2 := hown.alloc (.cells #[.string (Utf8.encode (r : Int))] 9)
      go_wp2_with (at_builtin; refine wpList_append_own _ rfl _ _ 34 rfl w1.heap.size 9 i0 _ 1 16 Tryd.underlying34 hi0 hz0 hz1 hz2 rfl (by decide) _ k _ rfl hown2 _ 1 1 [.string (Utf8.encode (r : Int))] rfl rfl (news_one _ _ _) (by simp [Value.oneCell']) (by unfold maxLen; omega) HS.out hbw2.size ?_; intro v3 w3 hown3 hg3 _)
      have hg4 : (wr.alloc (.cells #[.string (Utf8.encode (r : Int))] 9)).grownBy w3 (Value.slice B k cB).ownBlock := hg3
      go_roundw
      case rel =>
        refine ⟨k + 1, by go_num, by omega, ?_, hbw2.grown hg4 hbw2.size (own_base hown2)⟩
        rw [HT.out, strsOf, List.map_append]
        exact hown3
      case measure => simp [intOf]; omega
    · have hk2 : k = rs.length := by omega
      subst hk2
      rw [List.take_length] at hown
      go_wp2
      go_ret
      exact ⟨_, rfl, own_mono hown hsz1, hb1.trans (hbw.mono hsz1)⟩
end Go.Proofs.YtooamagefbhgdaaDoor
