/- The lexer's quoted, sign and token. -/
import Derived.Test.YtgheejogpbhokaaDoorLx5
import Derived.Test.YtgheejogpbhokaaDoorLet7
namespace Go.Proofs.YtgheejogpbhokaaDoor
set_option linter.unusedVariables false
set_option linter.unusedSimpArgs false
open Go.RowKit
set_option maxRecDepth 1000000

theorem rest_list (s : ByteArray) (p : Nat) : (s.extract p s.size).data.toList = s.data.toList.drop p := by
  rw [ext_list, List.take_of_length_le (by simp)]
theorem rest_size (s : ByteArray) (p : Nat) : (s.extract p s.size).size ≤ s.size := by
  have : (s.extract p s.size).data.toList.length = (s.extract p s.size).size := by simp
  rw [← this, rest_list, List.length_drop]; simp
theorem unq_text : ∀ (f : Nat) (q : UInt8) (l : List UInt8) (x : List UInt8 × Nat), unq f q l = some x → x.1.length ≤ 4 * x.2
  | 0, _, _, _, h => by simp [unq] at h
  | _ + 1, _, [], _, h => by simp [unq] at h
  | f + 1, q, c :: t, x, h => by
    unfold unq at h
    split at h
    · injection h with h; subst h; simp
    · split at h
      · cases he : esc t with
        | none => rw [he] at h; simp at h
        | some y =>
          rw [he] at h
          simp only at h
          cases hu : unq f q (t.drop y.2) with
          | none => rw [hu] at h; simp at h
          | some z =>
            rw [hu] at h
            simp only [Option.map_some, Option.some.injEq] at h
            subst h
            have h1 := unq_text f q _ z hu
            have h2 := enc_len y.1
            simp only [List.length_append]
            omega
      · split at h
        · simp at h
        · cases hu : unq f q ((c :: t).drop (Lib.decodeL (c :: t)).2) with
          | none => rw [hu] at h; simp at h
          | some z =>
            rw [hu] at h
            simp only [Option.map_some, Option.some.injEq] at h
            subst h
            have h1 := unq_text f q _ z hu
            have h2 := enc_len (Lib.decodeL (c :: t)).1
            have h3 := Lib.decodeL_width (c :: t)
            simp only [List.length_append]
            have h4 : 1 ≤ (Lib.decodeL (c :: t)).2 := by omega
            omega
theorem unquote_text (l : List UInt8) (x : List UInt8 × Nat) (h : unquote l = some x) : x.1.length ≤ 4 * x.2 := by
  cases l with
  | nil => simp [unquote] at h
  | cons c t =>
    simp only [unquote] at h
    split at h
    · cases hu : unq (c :: t).length c t with
      | none => rw [hu] at h; simp at h
      | some y =>
        rw [hu] at h
        have := unq_text _ c t y hu
        simp only [Option.map_some, Option.some.injEq] at h
        subst h
        simp only
        omega
    · simp at h
section
variable {w : World} {base X : Nat} {s : ByteArray} {p o : Nat} {st : List Nat} {toks : List Tk}
/-- what the reading of a text in quotes comes to. -/
def quoT (l : List UInt8) (o : Nat) : T1 := match unquote l with | none => .bad 104 | some (t, n) => .tok 4 t n o
set_option maxHeartbeats 2000000 in
theorem lxQuoted_ok (hL : LxS w base X s p o st toks) (hz : base ≤ w.heap.size) (hs : s.size ≤ 1099511) (hp : p ≤ s.size) (hn : toks.length ≤ 1000000) (hT : Lib.Utf8Tabs 1 2 w) :
    Calls Tryd.prog 44 #[.pointer (some ⟨X, 0, none⟩)] w (TokR w base X s p st toks (quoT (s.data.toList.drop p) o)) := by
  have hU := fun W h => unquote_ok (s.extract p s.size) W (by have := rest_size s p; omega) h
  rw [rest_list] at hU
  have hT2 : Lib.Utf8Tabs 1 2 w.drew := Utf8Tabs_below hT ⟨rfl, rfl, rfl, Nat.le_refl _, fun _ _ => rfl⟩
  obtain ⟨q0, q1, q3, f1, f3, hX, hbX⟩ := hL.cells
  have i1 : (p : Int) ≤ (s.size : Int) := by omega
  have i2 : (0 : Int) ≤ (p : Int) := by omega
  unfold quoT
  have hB0 : ∀ W : World, Below W.heap.size W W.drew := fun W => ⟨rfl, rfl, rfl, Nat.le_refl _, fun _ _ => rfl⟩
  cases hu : unquote (s.data.toList.drop p) with
  | none =>
    rw [hu] at hU
    simp only [unqR] at hU
    clear hu
    unfold TokR
    dsimp only
    go_enter Tryd.func44, Tryd.ntmps44
    go_wp2_with fail
    go_region_held3 (fun W => W.cell? ⟨X, 0, none⟩ = some (.string s) ∧ W.cell? ⟨X, 1, none⟩ = some (.int .i64 p)) (first | exact ⟨q0, q1⟩ | exact ⟨cell_later hb q0, cell_later hb q1⟩ | go_keep) (first | (go_at_call 51; refine (hU _ hT2).mono ?_; rintro e w1 ⟨rfl, hb⟩; have hb := undrew hb))
    clear q0 q1 q3 f1 f3
    replace hL := hL.later hb
    have hz1 := Nat.le_trans hz hb.size
    replace hb := hb.mono hz
    obtain ⟨q0, q1, q3, f1, f3, hX, hbX⟩ := hL.cells
    go_wp2_with (go_at_call 39; refine (lxFail_ok X 104 p _).mono ?_; rintro e w' ⟨rfl, rfl⟩)
    exact ⟨rfl, rfl, hb⟩
  | some y =>
    obtain ⟨t, n⟩ := y
    rw [hu] at hU
    simp only [unqR] at hU
    have hl := unquote_len _ _ hu
    have ht := unquote_text _ _ hu
    rw [List.length_drop] at hl
    simp only [Array.length_toList] at hl
    have hsz : s.data.size = s.size := rfl
    rw [hsz] at hl
    dsimp only at hl ht
    clear hu hsz
    obtain ⟨T, hTe⟩ : ∃ T : ByteArray, (⟨t.toArray⟩ : ByteArray) = T := ⟨_, rfl⟩
    have hTl : T.data.toList = t := by rw [← hTe]
    have hTs : T.size ≤ 4398044 := by
      have : T.data.toList.length = T.size := by simp
      rw [← this, hTl]; omega
    rw [hTe] at hU
    have hP := fun (k : Int) (W : World) (h : LxS W base X s p o st toks) (h2 : base ≤ W.heap.size) => lxPut_ok k T p h h2 (by omega) hn
    rw [hTl] at hP
    have hln : p + n ≤ s.size := by omega
    clear hTe hTl ht hl
    unfold TokR
    dsimp only
    go_enter Tryd.func44, Tryd.ntmps44
    go_wp2_with fail
    go_region_held3 (fun W => W.cell? ⟨X, 0, none⟩ = some (.string s) ∧ W.cell? ⟨X, 1, none⟩ = some (.int .i64 p)) (first | exact ⟨q0, q1⟩ | exact ⟨cell_later hb q0, cell_later hb q1⟩ | go_keep) (first | (go_at_call 51; refine (hU _ hT2).mono ?_; rintro e w1 ⟨rfl, hb⟩; have hb := undrew hb))
    clear q0 q1 q3 f1 f3
    replace hL := hL.later hb
    have hz1 := Nat.le_trans hz hb.size
    replace hb := hb.mono hz
    obtain ⟨q0, q1, q3, f1, f3, hX, hbX⟩ := hL.cells
    go_wp2_with (go_at_call 28; refine (hP _ _ hL hz1).mono ?_; rintro e w2 ⟨rfl, hL2, hb2⟩; clear q0 q1 q3 f1 f3; obtain ⟨q0, q1, q3, f1, f3, hX, hbX⟩ := hL2.cells)
    go_end0
    exact ⟨rfl, hL2.setPos _ _ (by omega), Below.setCell (p := ⟨X, 1, none⟩) (hb.trans hb2) hbX _⟩
end
end Go.Proofs.YtgheejogpbhokaaDoor
