/- The law LexerBlocks: three rows of the call's own. -/
import Derived.Test.YtgheejogpbhokaaDoorBlocks
import Derived.Lib.AppendStr
namespace Go.Proofs.YtgheejogpbhokaaDoor
set_option linter.unusedVariables false
set_option linter.unusedSimpArgs false
open Go.RowKit
set_option maxRecDepth 1000000

/-- rows of unlike element types do not share a block. -/
theorem own_unlike {w : World} {b1 b2 s1 s2 n1 n2 : Nat} {e1 e2 : TypeId} {v1 v2 : Value} {xs ys : List Value} (h1 : w.ownsRow b1 e1 s1 v1 n1 xs) (h2 : w.ownsRow b2 e2 s2 v2 n2 ys) (he : e1 ≠ e2) : v1.ownBlock = none ∨ v2.ownBlock ≠ v1.ownBlock := by
  rcases h1.2 with ⟨hv, _⟩ | ⟨g, cap, cur, hv, hg, hh, _⟩
  · subst hv; exact .inl rfl
  · subst hv
    right
    intro e
    rcases h2.2 with ⟨hv2, _⟩ | ⟨g2, cap2, cur2, hv2, hg2, hh2, _⟩
    · subst hv2; simp [Value.ownBlock] at e
    · subst hv2
      simp only [Value.ownBlock, Option.some.injEq] at e
      subst e
      rw [hh] at hh2
      injection hh2 with hh2
      injection hh2 with _ hh2 _
      exact he hh2
theorem own_keep {w w' : World} {b1 b2 s1 s2 n1 n2 : Nat} {e1 e2 : TypeId} {v1 v2 : Value} {xs ys : List Value} (h1 : w.ownsRow b1 e1 s1 v1 n1 xs) (h2 : w.ownsRow b2 e2 s2 v2 n2 ys) (he : e1 ≠ e2) (hg : w.grownBy w' v1.ownBlock) : w'.ownsRow b2 e2 s2 v2 n2 ys :=
  h2.kept hg (by
    rcases own_unlike h1 h2 he with h | h
    · cases hv : v2.ownBlock with
      | none => exact Or.inl rfl
      | some b => exact Or.inr (by rw [h]; simp)
    · exact Or.inr h)
/-- the three rows: the source, the tokens that are wanted, the depths. -/
structure Bk (w0 w : World) (A1 : Option Addr) (C1 : Nat) (u : ByteArray) (A2 : Option Addr) (C2 : Nat) (T : List Tk) (A3 : Option Addr) (C3 : Nat) (st : List Nat) : Prop where
  os : w.ownsRow w0.heap.size 5 1 (.slice A1 u.size C1) u.size (Lib.strCells u)
  ow : w.ownsRow w0.heap.size 35 3 (.slice A2 T.length C2) T.length (tkVs T)
  od : w.ownsRow w0.heap.size 3 1 (.slice A3 st.length C3) st.length (stVs st)
  hb : Below w0.heap.size w0 w
section
variable {w0 w w' : World} {A1 A2 A3 : Option Addr} {C1 C2 C3 : Nat} {u : ByteArray} {T : List Tk} {st : List Nat}
theorem Bk.later (h : Bk w0 w A1 C1 u A2 C2 T A3 C3 st) (hb : Below w.heap.size w w') : Bk w0 w' A1 C1 u A2 C2 T A3 C3 st :=
  ⟨own_later h.os hb, own_later h.ow hb, own_later h.od hb, h.hb.trans (hb.mono h.hb.size)⟩
theorem Bk.appS {A : Option Addr} {C : Nat} {v : ByteArray} (h : Bk w0 w A1 C1 u A2 C2 T A3 C3 st) (hg : w.grownBy w' (Value.slice A1 u.size C1).ownBlock) (ho : w'.ownsRow w0.heap.size 5 1 (.slice A v.size C) v.size (Lib.strCells v)) : Bk w0 w' A C v A2 C2 T A3 C3 st :=
  ⟨ho, own_keep h.os h.ow (by decide) hg, own_keep h.os h.od (by decide) hg, h.hb.grown hg h.hb.size (fun j hj => (h.os.lt j hj).1)⟩
theorem Bk.appW {A : Option Addr} {C : Nat} {T' : List Tk} (h : Bk w0 w A1 C1 u A2 C2 T A3 C3 st) (hg : w.grownBy w' (Value.slice A2 T.length C2).ownBlock) (ho : w'.ownsRow w0.heap.size 35 3 (.slice A T'.length C) T'.length (tkVs T')) : Bk w0 w' A1 C1 u A C T' A3 C3 st :=
  ⟨own_keep h.ow h.os (by decide) hg, ho, own_keep h.ow h.od (by decide) hg, h.hb.grown hg h.hb.size (fun j hj => (h.ow.lt j hj).1)⟩
theorem Bk.appD {A : Option Addr} {C : Nat} {st' : List Nat} (h : Bk w0 w A1 C1 u A2 C2 T A3 C3 st) (hg : w.grownBy w' (Value.slice A3 st.length C3).ownBlock) (ho : w'.ownsRow w0.heap.size 3 1 (.slice A st'.length C) st'.length (stVs st')) : Bk w0 w' A1 C1 u A2 C2 T A C st' :=
  ⟨own_keep h.od h.os (by decide) hg, own_keep h.od h.ow (by decide) hg, ho, h.hb.grown hg h.hb.size (fun j hj => (h.od.lt j hj).1)⟩
theorem Bk.popD {d : Nat} (h : Bk w0 w A1 C1 u A2 C2 T A3 C3 (d :: st)) : Bk w0 w A1 C1 u A2 C2 T A3 C3 st := by
  have hb := own_cut h.od (m := st.length) (by simp) (by simp)
  rw [stVs_cons, List.take_left' (by rw [stVs_len])] at hb
  exact ⟨h.os, h.ow, hb, h.hb⟩
theorem Bk.top {d : Nat} (h : Bk w0 w A1 C1 u A2 C2 T A3 C3 (d :: st)) : ∃ g, A3 = some ⟨g, 0, none⟩ ∧ w.cell? ⟨g, st.length, none⟩ = some (.int .i64 d) ∧ st.length + 1 ≤ C3 ∧ C3 ≤ maxLen := by
  obtain ⟨g, e, h1, h2, _, _, hc⟩ := own_some h.od (by simp)
  exact ⟨g, e, hc _ _ (by rw [stVs_cons, List.getElem?_append_right (by rw [stVs_len]; exact Nat.le_refl _), stVs_len, Nat.sub_self]; rfl), by simpa using h1, h2⟩
theorem Bk.fits (h : Bk w0 w A1 C1 u A2 C2 T A3 C3 st) : u.size ≤ C1 ∧ C1 ≤ maxLen ∧ T.length ≤ C2 ∧ C2 ≤ maxLen ∧ st.length ≤ C3 ∧ C3 ≤ maxLen :=
  ⟨(own_fits h.os).1, (own_fits h.os).2, (own_fits h.ow).1, (own_fits h.ow).2, (own_fits h.od).1, (own_fits h.od).2⟩
end
def spB (j : Nat) : ByteArray := ⟨(List.replicate j 32).toArray⟩
theorem spB_size (j : Nat) : (spB j).size = j := by show (List.replicate j (32 : UInt8)).toArray.size = j; simp
theorem spB_list (j : Nat) : (spB j).data.toList = List.replicate j 32 := rfl
theorem app_list (a b : ByteArray) : (a ++ b).data.toList = a.data.toList ++ b.data.toList := by simp
theorem ba_ext {a b : ByteArray} (h : a.data.toList = b.data.toList) : a = b := ((text_eq (x := a.data.toList) (s := a)).2 rfl).symm.trans (text_eq.2 h)
theorem spB_succ (u : ByteArray) (j : Nat) : u ++ spB (j + 1) = (u ++ spB j) ++ ⟨#[32]⟩ := by
  apply ba_ext
  rw [app_list, app_list, app_list, spB_list, spB_list, List.replicate_succ', List.append_assoc]
def lnB (m : Nat) : ByteArray := spB m ++ ⟨#[97, 10]⟩
theorem lnB_list (m : Nat) : (lnB m).data.toList = lineB m := by rw [lnB, app_list, spB_list]; rfl
theorem lnB_app (u : ByteArray) (m : Nat) : (u ++ spB m) ++ ⟨#[97, 10]⟩ = u ++ lnB m := by
  apply ba_ext
  rw [lnB, app_list, app_list, app_list, app_list, List.append_assoc]
theorem lnB_size (m : Nat) : (lnB m).size = m + 2 := by
  have : (lnB m).data.toList.length = (lnB m).size := by simp
  rw [← this, lnB_list, lineB_len]
theorem bsAt_cells {w : World} {base : Nat} {e : TypeId} {A : Option Addr} {n C : Nat} {s : ByteArray} (h : w.ownsRow base e 1 (.slice A n C) n (Lib.strCells s)) : BsAt w A s := by
  refine bsAt_own (base := base) (e := e) (n := n) (C := C) ?_
  have he : Lib.strCells s = (bsI s).map (Value.int .u8) := by simp [Lib.strCells, bsI, List.map_map, Function.comp_def]
  rw [← he]; exact h
theorem cells_app (a b : ByteArray) : Lib.strCells (a ++ b) = Lib.strCells a ++ Lib.strCells b := by simp [Lib.strCells]
theorem one_cell (v : Value) (w : World) (t : TypeId) : ∀ j u, [v][j]? = some u → (w.alloc (.cells #[v] t)).cell? ((⟨w.heap.size, 0, none⟩ : Addr).add j) = some u := World.news_of_block (cs := #[v]) (t := t) (fr := (0, 0)) (heap_alloc_new w _)
/-- a line is laid. -/
theorem line_made {w0 w w' : World} {A1 A2 A3 : Option Addr} {C1 C2 C3 m : Nat} {u U : ByteArray} {T : List Tk} {st : List Nat} {v3 : Value} (hb2 : Bk w0 w A1 C1 U A2 C2 T A3 C3 st) (hU : Hid (U = u ++ spB m)) (hUs : Hid (U.size = u.size + m))
    (hown3 : w'.ownsRow w0.heap.size 5 1 v3 (U.size + (⟨#[97, 10]⟩ : ByteArray).size) (Lib.strCells U ++ Lib.strCells ⟨#[97, 10]⟩)) (hg3 : w.grownBy w' (Value.slice A1 U.size C1).ownBlock) :
    ∃ (V : ByteArray) (AV : Option Addr) (CV : Nat), v3 = .slice AV V.size CV ∧ Hid (V = u ++ lnB m) ∧ Hid (V.size = u.size + m + 2) ∧ Bk w0 w' AV CV V A2 C2 T A3 C3 st := by
  have hVs : (u ++ lnB m).size = U.size + 2 := by rw [hUs.out]; simp [lnB_size]; omega
  have h2 : (⟨#[97, 10]⟩ : ByteArray).size = 2 := rfl
  rw [h2, ← hVs, ← cells_app, hU.out, lnB_app] at hown3
  obtain ⟨AV, CV, hv, _⟩ := own_form hown3
  subst hv
  exact ⟨u ++ lnB m, AV, CV, rfl, Lib.hid rfl, Lib.hid (by rw [hVs, hUs.out]), hb2.appS hg3 hown3⟩
/-- how the lines have come so far. -/
def Far (u : ByteArray) (st : List Nat) (T : List Tk) (bd : Int) : Prop := (bd = -1 ∧ Come u st T ∧ st.getLast? = some 0 ∧ offB T.getLast? = false) ∨ ∃ a : Nat, bd = (a : Int) ∧ Stuck u a
set_option maxHeartbeats 64000000 in
theorem lawBlocks_any (A : Option Addr) (c : Nat) (zs : List Int) (w : World) (hr : RdI w .i64 A zs) (hl : zs.length ≤ c) (hm : c ≤ maxLen) (hz : ∀ z ∈ zs, -9223372036854775808 ≤ z ∧ z ≤ 9223372036854775807) (hT : Lib.Utf8Tabs 1 2 w) :
    Calls Tryd.prog 8 #[.slice A zs.length c] w fun e w' => e = .returned (.bool true) ∧ Below w.heap.size w w' := by
  unfold maxLen at hm
  by_cases h : zs.length ≤ 100
  · have e1 : decide (100 < (zs.length : Int)) = false := decide_eq_false (by omega)
    have e1' : decide (100 < zs.length) = false := decide_eq_false (by omega)
    obtain ⟨i0, hi0, hz0, hz1, hz2⟩ := info_parts byte_info
    obtain ⟨k0, hk0, kz0, kz1, kz2⟩ := info_parts tok_info
    obtain ⟨d0, hd0, dz0, dz1, dz2⟩ := info_parts int_info
    have hBk : Bk w (w.alloc (.cells #[.int .i64 0] 3)) none 0 ⟨#[]⟩ none 0 [] (some ⟨w.heap.size, 0, none⟩) 1 [0] :=
      ⟨World.ownsRow_nil _ _ _ _, World.ownsRow_nil _ _ _ _, ⟨by simp [stVs], .inr ⟨w.heap.size, 1, #[.int .i64 0], rfl, Nat.le_refl _, heap_alloc_new w _, Nat.le_refl _, by unfold maxLen; omega, by simp, by simp [stVs]⟩⟩, (Below.refl _ _).alloc (Nat.le_refl _) _⟩
    have HFar := Lib.hid (show Far ⟨#[]⟩ [0] [] (-1) from .inl ⟨rfl, come_start, rfl, rfl⟩)
    have HZ := Lib.hid hz
    have HR := Lib.hid hr
    clear hz hr
    go_enter Tryd.func8, Tryd.ntmps8
    go_wp2_with fail
    go_loopw [3, 4, 5, 6, 7] (fun sv tv dv bv iv wr => ∃ (k : Nat) (A1 : Option Addr) (C1 : Nat) (u : ByteArray) (A2 : Option Addr) (C2 : Nat) (T : List Tk) (A3 : Option Addr) (C3 : Nat) (st : List Nat) (bd : Int), iv = .int .i64 k ∧ k ≤ zs.length ∧ sv = .slice A1 u.size C1 ∧ tv = .slice A2 T.length C2 ∧ dv = .slice A3 st.length C3 ∧ bv = .int .i64 bd ∧ Bk w wr A1 C1 u A2 C2 T A3 C3 st ∧ Hid (Far u st T bd) ∧ u.size ≤ 62 * k ∧ T.length + st.length ≤ 4 * k + 1) (fun _ _ _ _ iv _ => zs.length - (intOf iv).toNat)
    case atStart => exact ⟨0, none, 0, ⟨#[]⟩, none, 0, [], some ⟨w.heap.size, 0, none⟩, 1, [0], -1, rfl, Nat.zero_le _, rfl, rfl, rfl, rfl, hBk, HFar, Nat.zero_le _, by simp⟩
    case round =>
      obtain ⟨k, A1, C1, u, A2, C2, T, A3, C3, st, bd, rfl, hk, rfl, rfl, rfl, rfl, hb, hfar, hu, hTs⟩ := hrel
      clear hBk HFar
      have hfits := hb.fits
      have hbel := hb.hb
      by_cases hlt : k < zs.length
      · obtain ⟨z, hzk⟩ : ∃ z, zs[k]? = some z := ⟨_, List.getElem?_eq_getElem hlt⟩
        obtain ⟨b0, off, z', hAe, hz', hc0⟩ := HR.out.later hbel k hlt
        rw [hzk] at hz'
        injection hz' with hz'
        subst hz'
        subst hAe
        clear hzk
        by_cases hneg : z < 0
        · have n1 : decide (z < 0) = true := decide_eq_true hneg
          go_wp2_with (go_at_call 9; refine (lxAwake_ok _ (Utf8Tabs_below hT hbel)).mono ?_; rintro e w1 ⟨rfl, hb1⟩)
          go_ret
          exact ⟨rfl, hbel.trans (hb1.mono hbel.size)⟩
        · have n1 : decide (z < 0) = false := decide_eq_false hneg
          by_cases hbig : 60 < z
          · have n2 : decide (60 < z) = true := decide_eq_true hbig
            go_wp2_with (go_at_call 9; refine (lxAwake_ok _ (Utf8Tabs_below hT hbel)).mono ?_; rintro e w1 ⟨rfl, hb1⟩)
            go_ret
            exact ⟨rfl, hbel.trans (hb1.mono hbel.size)⟩
          · have n2 : decide (60 < z) = false := decide_eq_false hbig
            obtain ⟨m, rfl⟩ : ∃ m : Nat, z = (m : Int) := ⟨z.toNat, by omega⟩
            have hm60 : m ≤ 60 := by omega
            clear hneg hbig
            go_wp2_with fail
            clear hc0 n1 n2
            go_loopw [3, 9] (fun sv jv wr2 => ∃ (j : Nat) (A1' : Option Addr) (C1' : Nat) (U : ByteArray), jv = .int .i64 j ∧ j ≤ m ∧ sv = .slice A1' U.size C1' ∧ Bk w wr2 A1' C1' U A2 C2 T A3 C3 st ∧ Hid (U = u ++ spB j) ∧ Hid (U.size = u.size + j)) (fun _ jv _ => m - (intOf jv).toNat)
            case atStart =>
              have he : u = u ++ spB 0 := by apply ba_ext; rw [app_list, spB_list]; simp
              exact ⟨0, A1, C1, u, rfl, Nat.zero_le _, rfl, hb, Lib.hid he, Lib.hid rfl⟩
            case round =>
              obtain ⟨j, A1', C1', U, rfl, hj, rfl, hb2, hU, hUs⟩ := hrel
              clear hb hfits hbel
              have hus := hUs.out
              have hUb : U.size ≤ 70000 := by omega
              clear hus
              by_cases hjl : j < m
              · have hb3 := hb2.later ((Below.refl _ _).alloc (Nat.le_refl _) (.cells #[.int .u8 32] 5))
                go_wp2_with (at_builtin; refine wpList_append_lies _ rfl _ _ 22 rfl w.heap.size 5 i0 _ 1 1 Tryd.underlying22 hi0 hz0 hz1 hz2 rfl (by decide) (.slice A1' U.size C1') U.size (Lib.strCells U) rfl hb3.os ⟨wr.heap.size, 0, none⟩ 1 1 [.int .u8 32] rfl rfl (one_cell _ _ _) (by simp [Value.oneCell']) (by decide) (by unfold maxLen; omega) (by omega) hb3.hb.size (wr.heap.size + 1) (by simp) ?_; intro gg cap w4 hown4 hgrow hat hlt4)
                go_roundw
                case rel =>
                  have hsz2 : (u ++ spB (j + 1)).size = U.size + 1 := by rw [hUs.out]; simp [spB_size]; omega
                  refine ⟨j + 1, some ⟨gg, 0, none⟩, cap, u ++ spB (j + 1), by go_num, by omega, by rw [hsz2], ?_, Lib.hid rfl, Lib.hid (by rw [hsz2, hUs.out]; omega)⟩
                  refine hb3.appS hgrow ?_
                  rw [hsz2, spB_succ, ← hU.out, cells_app]
                  exact hown4
                case measure => simp [intOf]; omega
              · have hje : j = m := by omega
                subst hje
                clear hjl hj
                have hbel := hb2.hb
                rcases hfar.out with ⟨hbd, hcome, hlast, hoff⟩ | ⟨a, hbd, hstk⟩
                · subst hbd
                  cases st with
                  | nil => exact absurd hlast (by simp)
                  | cons d r =>
                    have HC := Lib.hid hcome
                    have HLst := Lib.hid hlast
                    have HO := Lib.hid hoff
                    have hrl : r.length ≤ 500 := by simp at hTs; omega
                    have hTl : T.length ≤ 500 := by omega
                    clear hcome hlast hoff hfar
                    have i0' : (0 : Int) ≤ (r.length : Int) := by omega
                    have i1 : (r.length : Int) < ((r.length + 1 : Nat) : Int) := by omega
                    have i2 : ((r.length + 1 : Nat) : Int) - 1 = (r.length : Int) := by omega
                    have i3 : (r.length : Int) + 1 - 1 = (r.length : Int) := by omega
                    by_cases hdj : d < j
                    · have n3 : decide ((d : Int) < (j : Int)) = true := decide_eq_true (by omega)
                      have n3' : decide (d < j) = true := decide_eq_true hdj
                      by_cases h40 : 40 < r.length + 1
                      · have n4 : decide ((40 : Int) < (r.length : Int) + 1) = true := decide_eq_true (by omega)
                        have n4' : decide (40 < r.length + 1) = true := decide_eq_true h40
                        have n4'' : decide ((40 : Int) < ((r.length + 1 : Nat) : Int)) = true := decide_eq_true (by omega)
                        go_wp2_with (first
                          | (at_builtin; refine Lib.wpList_append_own_string _ rfl _ _ 22 9 rfl w.heap.size 5 i0 Tryd.underlying22 Tryd.underlying9 hi0 hz0 hz1 hz2 (.slice A1' U.size C1') U.size _ rfl hb2.os (⟨#[97, 10]⟩ : ByteArray) rfl (by unfold maxLen; show U.size + 2 ≤ _; omega) (by show U.size + 2 ≤ _; omega) hbel.size ?_; intro v3 w3 hown3 hg3 _; obtain ⟨V, AV, CV, rfl, hV, hVs, hb3⟩ := line_made hb2 hU hUs hown3 hg3; obtain ⟨gD, hgD, cD, fD, mD⟩ := hb3.top; subst hgD; have hbe3 := hb3.hb)
                          | (go_at_call 9; refine (lxAwake_ok _ (Utf8Tabs_below hT hbe3)).mono ?_; rintro e w5 ⟨rfl, hb5⟩))
                        go_ret
                        exact ⟨rfl, hbe3.trans (hb5.mono hbe3.size)⟩
                      · have n4 : decide ((40 : Int) < (r.length : Int) + 1) = false := decide_eq_false (by omega)
                        have n4' : decide (40 < r.length + 1) = false := decide_eq_false h40
                        have n4'' : decide ((40 : Int) < ((r.length + 1 : Nat) : Int)) = false := decide_eq_false (by omega)
                        have HB := Lib.hid (show beginL j U.size (d :: r) T = (if (popL j (j :: d :: r)).headD 0 = j then .inl (popL j (j :: d :: r), (T ++ [⟨7, [], U.size⟩]) ++ List.replicate ((j :: d :: r).length - (popL j (j :: d :: r)).length) ⟨8, [], U.size⟩) else .inr 103) by
                          rw [beginL, List.headD_cons, if_pos hdj, if_neg (by rw [List.length_cons]; exact h40), pop_done (Nat.lt_irrefl j), List.headD_cons, if_pos rfl, Nat.sub_self, List.replicate_zero, List.append_nil])
                        clear hdj h40
                        go_wp2_with (first
                          | (at_builtin; refine Lib.wpList_append_own_string _ rfl _ _ 22 9 rfl w.heap.size 5 i0 Tryd.underlying22 Tryd.underlying9 hi0 hz0 hz1 hz2 (.slice A1' U.size C1') U.size _ rfl hb2.os (⟨#[97, 10]⟩ : ByteArray) rfl (by unfold maxLen; show U.size + 2 ≤ _; omega) (by show U.size + 2 ≤ _; omega) hbel.size ?_; intro v3 w3 hown3 hg3 _; obtain ⟨V, AV, CV, rfl, hV, hVs, hb3⟩ := line_made hb2 hU hUs hown3 hg3; obtain ⟨gD, hgD, cD, fD, mD⟩ := hb3.top; subst hgD; have hb4 := hb3.later ((Below.refl _ _).alloc (Nat.le_refl _) (.cells #[.int .i64 j] 3)))
                          | (at_builtin; refine wpList_append_lies _ rfl _ _ 37 rfl w.heap.size 3 d0 _ 1 8 Tryd.underlying37 hd0 dz0 dz1 dz2 rfl (by decide) (.slice (some ⟨gD, 0, none⟩) (d :: r).length C3) (d :: r).length (stVs (d :: r)) rfl hb4.od ⟨w3.heap.size, 0, none⟩ 1 1 [.int .i64 j] rfl rfl (one_cell _ _ _) (by simp [Value.oneCell']) (by decide) (by unfold maxLen; simp; omega) (by simp; omega) hb4.hb.size (w3.heap.size + 1) (by simp) ?_; intro g5 c5 w5 hown5 hgr5 hat5 hlt5; have hb5 : Bk w w5 AV CV V A2 C2 T (some ⟨g5, 0, none⟩) c5 (j :: d :: r) := hb4.appD hgr5 (by rw [stVs_cons]; exact hown5); obtain ⟨gF, hgF, cF, fF, mF⟩ := hb5.top; injection hgF with hgF; injection hgF with hgF; subst hgF)
                          | (at_builtin; have hq7 := (hb5).later ((Below.refl _ _).alloc (Nat.le_refl _) (.cells #[.int .i64 7, .string ⟨#[]⟩, .int .i64 U.size] 35)); refine wpList_append_lies _ rfl _ _ 24 rfl w.heap.size 35 k0 _ 3 32 Tryd.underlying24 hk0 kz0 kz1 kz2 rfl (by decide) (.slice A2 T.length C2) T.length (tkVs T) rfl hq7.ow ⟨w5.heap.size, 0, none⟩ 1 1 [.int .i64 7, .string ⟨#[]⟩, .int .i64 U.size] rfl rfl (World.news_of_block (cs := #[.int .i64 7, .string ⟨#[]⟩, .int .i64 U.size]) (t := 35) (fr := (0, 0)) (heap_alloc_new w5 _)) (by simp [Value.oneCell']) (by decide) (by unfold maxLen; omega) (by omega) hq7.hb.size (w5.heap.size + 1) (by simp) ?_; intro g7 c7 w7 hown7 hgr7 hat7 hlt7))
                        have hb7 : Bk w w7 AV CV V (some ⟨g7, 0, none⟩) c7 (T ++ [⟨7, [], U.size⟩]) (some ⟨g5, 0, none⟩) c5 (j :: d :: r) := hq7.appW hgr7 (by rw [List.length_append, tkVs_snoc]; exact hown7)
                        replace HLst := Lib.hid (show (j :: d :: r).getLast? = some 0 by rw [List.getLast?_cons_cons]; exact HLst.out)
                        go_loopw [4, 5] (fun tv dv wr3 => ∃ (A2' : Option Addr) (C2' : Nat) (T' : List Tk) (A3' : Option Addr) (C3' : Nat) (st' : List Nat), tv = .slice A2' T'.length C2' ∧ dv = .slice A3' st'.length C3' ∧ Bk w wr3 AV CV V A2' C2' T' A3' C3' st' ∧ Hid (st'.getLast? = some 0) ∧ Hid (popL j st' = popL j (j :: d :: r)) ∧ Hid (T' = ((T ++ [(⟨7, [], U.size⟩ : Tk)])) ++ List.replicate ((j :: d :: r).length - st'.length) (⟨8, [], U.size⟩ : Tk)) ∧ st'.length ≤ (j :: d :: r).length ∧ T'.length + st'.length ≤ 4 * k + 3) (fun _ dv _ => lenN dv)
                        case atStart => exact ⟨(some ⟨g7, 0, none⟩), c7, (T ++ [(⟨7, [], U.size⟩ : Tk)]), (some ⟨g5, 0, none⟩), c5, j :: d :: r, by simp, rfl, hb7, HLst, Lib.hid rfl, Lib.hid (by simp), Nat.le_refl _, by simp; simp at hTs; omega⟩
                        case round =>
                          obtain ⟨A2', C2', T', A3', C3', st', rfl, rfl, hbr, hl0, hpop, htk, hlen, hcnt⟩ := hrel
                          cases st' with
                          | nil => exact absurd hl0.out (by simp)
                          | cons d' r' =>
                            obtain ⟨gE, hgE, cE, fE, mE⟩ := hbr.top
                            subst hgE
                            have hcnt2 : T'.length + r'.length ≤ 4 * k + 2 := by simp at hcnt; omega
                            have o0 : (0 : Int) ≤ (r'.length : Int) := by omega
                            have o1 : (r'.length : Int) < ((r'.length + 1 : Nat) : Int) := by omega
                            have o2 : ((r'.length + 1 : Nat) : Int) - 1 = (r'.length : Int) := by omega
                            have o3 : (r'.length : Int) + 1 - 1 = (r'.length : Int) := by omega
                            have o4 : (r'.length : Int) ≤ (C3' : Int) := by omega
                            have o5 : r'.length ≤ C3' := by omega
                            have o6 : IntKind.i64.wrap (r'.length : Int) = (r'.length : Int) := by rw [IntKind.wrap_i64]; omega
                            have o7 : IntKind.i64.wrap ((r'.length : Int) + 1 - 1) = (r'.length : Int) := by rw [IntKind.wrap_i64]; omega
                            have o8 : IntKind.i64.wrap (((r'.length + 1 : Nat) : Int) - 1) = (r'.length : Int) := by rw [IntKind.wrap_i64]; omega
                            by_cases hjd : j < d'
                            · have p1 : decide ((j : Int) < (d' : Int)) = true := decide_eq_true (by omega)
                              have p2 : decide (j < d') = true := decide_eq_true hjd
                              have hbp := hbr.popD
                              have hl0' := Lib.hid (last_more hl0.out (by omega))
                              have hpop' := Lib.hid (show popL j r' = popL j (j :: d :: r) by rw [← hpop.out, pop_more hjd])
                              clear hl0 hpop hjd
                              go_wp2_with (at_builtin; have hq8 := (hbp).later ((Below.refl _ _).alloc (Nat.le_refl _) (.cells #[.int .i64 8, .string ⟨#[]⟩, .int .i64 U.size] 35)); refine wpList_append_lies _ rfl _ _ 24 rfl w.heap.size 35 k0 _ 3 32 Tryd.underlying24 hk0 kz0 kz1 kz2 rfl (by decide) (.slice A2' T'.length C2') T'.length (tkVs T') rfl hq8.ow ⟨wr.heap.size, 0, none⟩ 1 1 [.int .i64 8, .string ⟨#[]⟩, .int .i64 U.size] rfl rfl (World.news_of_block (cs := #[.int .i64 8, .string ⟨#[]⟩, .int .i64 U.size]) (t := 35) (fr := (0, 0)) (heap_alloc_new wr _)) (by simp [Value.oneCell']) (by decide) (by unfold maxLen; omega) (by omega) hq8.hb.size (wr.heap.size + 1) (by simp) ?_; intro g8 c8 w8 hown8 hgr8 hat8 hlt8)
                              go_roundw
                              case rel =>
                                refine ⟨some ⟨g8, 0, none⟩, c8, T' ++ [⟨8, [], U.size⟩], _, _, r', by simp, rfl, hq8.appW hgr8 (by rw [List.length_append, tkVs_snoc]; exact hown8), hl0', hpop', Lib.hid ?_, by simp at hlen ⊢; omega, by simp; omega⟩
                                rw [htk.out, List.append_assoc]
                                congr 1
                                rw [show (j :: d :: r).length - r'.length = (j :: d :: r).length - (d' :: r').length + 1 by simp at hlen ⊢; omega, List.replicate_succ']
                              case measure => simp [lenN]
                            · have p1 : decide ((j : Int) < (d' : Int)) = false := decide_eq_false (by omega)
                              have p2 : decide (j < d') = false := decide_eq_false hjd
                              have hpe : popL j (j :: d :: r) = d' :: r' := by rw [← hpop.out, pop_done hjd]
                              have HB2 := HB.out
                              rw [hpe, List.headD_cons, ← htk.out] at HB2
                              by_cases he : d' = j
                              · have p3 : ((j : Int) != (d' : Int)) = false := by simp; omega
                                have p4 : (j != d') = false := by simp; omega
                                rw [if_pos he] at HB2
                                have HC2 := Lib.hid (HC.out.line (lnB_list j) (by rw [← hUs.out]; exact HB2))
                                clear HB2 hpe he hjd hpop htk
                                go_wp2_with (at_builtin; have hq2 := (hbr).later ((Below.refl _ _).alloc (Nat.le_refl _) (.cells #[.int .i64 1, .string ⟨#[97]⟩, .int .i64 U.size, .int .i64 6, .string ⟨#[]⟩, .int .i64 ((U.size : Int) + 1)] 35)); refine wpList_append_lies _ rfl _ _ 24 rfl w.heap.size 35 k0 _ 3 32 Tryd.underlying24 hk0 kz0 kz1 kz2 rfl (by decide) (.slice A2' T'.length C2') T'.length (tkVs T') rfl hq2.ow ⟨wr.heap.size, 0, none⟩ 2 2 [.int .i64 1, .string ⟨#[97]⟩, .int .i64 U.size, .int .i64 6, .string ⟨#[]⟩, .int .i64 ((U.size : Int) + 1)] rfl rfl (World.news_of_block (cs := #[.int .i64 1, .string ⟨#[97]⟩, .int .i64 U.size, .int .i64 6, .string ⟨#[]⟩, .int .i64 ((U.size : Int) + 1)]) (t := 35) (fr := (0, 0)) (heap_alloc_new wr _)) (by simp [Value.oneCell']) (by decide) (by unfold maxLen; omega) (by omega) hq2.hb.size (wr.heap.size + 1) (by simp) ?_; intro g2 c2 w2 hown2 hgr2 hat2 hlt2)
                                go_roundw
                                case rel =>
                                  refine ⟨k + 1, AV, CV, V, some ⟨g2, 0, none⟩, c2, T' ++ [⟨1, [97], U.size⟩] ++ [⟨6, [], U.size + 1⟩], _, _, d' :: r', -1, by go_num, by omega, rfl, by simp, rfl, rfl, hq2.appW hgr2 ?_, Lib.hid (.inl ⟨rfl, ?_, hl0.out, ?_⟩), by rw [hVs.out]; omega, by simp at hcnt ⊢; omega⟩
                                  · have h2 : (T' ++ [(⟨1, [97], U.size⟩ : Tk)] ++ [(⟨6, [], U.size + 1⟩ : Tk)]).length = T'.length + 2 := by simp
                                    rw [h2, tkVs_snoc, tkVs_snoc, List.append_assoc]
                                    exact hown2
                                  · rw [hV.out, hUs.out]; exact HC2.out
                                  · rw [List.getLast?_concat]; rfl
                                case measure => simp [intOf]; omega
                              · have p3 : ((j : Int) != (d' : Int)) = true := by simp; omega
                                have p4 : (j != d') = true := by simp; omega
                                rw [if_neg he] at HB2
                                have HS2 := Lib.hid (HC.out.stuck (lnB_list j) (by rw [← hUs.out]; exact HB2))
                                clear HB2 hpe he hjd hpop htk
                                go_wp2_with (at_builtin; have hq2 := (hbr).later ((Below.refl _ _).alloc (Nat.le_refl _) (.cells #[.int .i64 1, .string ⟨#[97]⟩, .int .i64 U.size, .int .i64 6, .string ⟨#[]⟩, .int .i64 ((U.size : Int) + 1)] 35)); refine wpList_append_lies _ rfl _ _ 24 rfl w.heap.size 35 k0 _ 3 32 Tryd.underlying24 hk0 kz0 kz1 kz2 rfl (by decide) (.slice A2' T'.length C2') T'.length (tkVs T') rfl hq2.ow ⟨wr.heap.size, 0, none⟩ 2 2 [.int .i64 1, .string ⟨#[97]⟩, .int .i64 U.size, .int .i64 6, .string ⟨#[]⟩, .int .i64 ((U.size : Int) + 1)] rfl rfl (World.news_of_block (cs := #[.int .i64 1, .string ⟨#[97]⟩, .int .i64 U.size, .int .i64 6, .string ⟨#[]⟩, .int .i64 ((U.size : Int) + 1)]) (t := 35) (fr := (0, 0)) (heap_alloc_new wr _)) (by simp [Value.oneCell']) (by decide) (by unfold maxLen; omega) (by omega) hq2.hb.size (wr.heap.size + 1) (by simp) ?_; intro g2 c2 w2 hown2 hgr2 hat2 hlt2)
                                go_roundw
                                case rel =>
                                  refine ⟨k + 1, AV, CV, V, some ⟨g2, 0, none⟩, c2, T' ++ [⟨1, [97], U.size⟩] ++ [⟨6, [], U.size + 1⟩], _, _, d' :: r', (U.size : Int), by go_num, by omega, rfl, by simp, rfl, rfl, hq2.appW hgr2 ?_, Lib.hid (.inr ⟨U.size, rfl, ?_⟩), by rw [hVs.out]; omega, by simp at hcnt ⊢; omega⟩
                                  · have h2 : (T' ++ [(⟨1, [97], U.size⟩ : Tk)] ++ [(⟨6, [], U.size + 1⟩ : Tk)]).length = T'.length + 2 := by simp
                                    rw [h2, tkVs_snoc, tkVs_snoc, List.append_assoc]
                                    exact hown2
                                  · rw [hV.out, hUs.out]; exact HS2.out
                                case measure => simp [intOf]; omega
                    · have n3 : decide ((d : Int) < (j : Int)) = false := decide_eq_false (by omega)
                      have n3' : decide (d < j) = false := decide_eq_false hdj
                      have HB := Lib.hid (show beginL j U.size (d :: r) T = (if (popL j (d :: r)).headD 0 = j then .inl (popL j (d :: r), T ++ List.replicate ((d :: r).length - (popL j (d :: r)).length) ⟨8, [], U.size⟩) else .inr 103) by rw [beginL, List.headD_cons, if_neg hdj])
                      clear hdj
                      go_wp2_with (at_builtin; refine Lib.wpList_append_own_string _ rfl _ _ 22 9 rfl w.heap.size 5 i0 Tryd.underlying22 Tryd.underlying9 hi0 hz0 hz1 hz2 (.slice A1' U.size C1') U.size _ rfl hb2.os (⟨#[97, 10]⟩ : ByteArray) rfl (by unfold maxLen; show U.size + 2 ≤ _; omega) (by show U.size + 2 ≤ _; omega) hbel.size ?_; intro v3 w3 hown3 hg3 _; obtain ⟨V, AV, CV, rfl, hV, hVs, hb3⟩ := line_made hb2 hU hUs hown3 hg3; obtain ⟨gD, hgD, cD, fD, mD⟩ := hb3.top; subst hgD)
                      go_loopw [4, 5] (fun tv dv wr3 => ∃ (A2' : Option Addr) (C2' : Nat) (T' : List Tk) (A3' : Option Addr) (C3' : Nat) (st' : List Nat), tv = .slice A2' T'.length C2' ∧ dv = .slice A3' st'.length C3' ∧ Bk w wr3 AV CV V A2' C2' T' A3' C3' st' ∧ Hid (st'.getLast? = some 0) ∧ Hid (popL j st' = popL j (d :: r)) ∧ Hid (T' = (T) ++ List.replicate ((d :: r).length - st'.length) (⟨8, [], U.size⟩ : Tk)) ∧ st'.length ≤ (d :: r).length ∧ T'.length + st'.length ≤ 4 * k + 3) (fun _ dv _ => lenN dv)
                      case atStart => exact ⟨A2, C2, T, (some ⟨gD, 0, none⟩), C3, d :: r, by simp, rfl, hb3, HLst, Lib.hid rfl, Lib.hid (by simp), Nat.le_refl _, by simp; simp at hTs; omega⟩
                      case round =>
                        obtain ⟨A2', C2', T', A3', C3', st', rfl, rfl, hbr, hl0, hpop, htk, hlen, hcnt⟩ := hrel
                        cases st' with
                        | nil => exact absurd hl0.out (by simp)
                        | cons d' r' =>
                          obtain ⟨gE, hgE, cE, fE, mE⟩ := hbr.top
                          subst hgE
                          have hcnt2 : T'.length + r'.length ≤ 4 * k + 2 := by simp at hcnt; omega
                          have o0 : (0 : Int) ≤ (r'.length : Int) := by omega
                          have o1 : (r'.length : Int) < ((r'.length + 1 : Nat) : Int) := by omega
                          have o2 : ((r'.length + 1 : Nat) : Int) - 1 = (r'.length : Int) := by omega
                          have o3 : (r'.length : Int) + 1 - 1 = (r'.length : Int) := by omega
                          have o4 : (r'.length : Int) ≤ (C3' : Int) := by omega
                          have o5 : r'.length ≤ C3' := by omega
                          have o6 : IntKind.i64.wrap (r'.length : Int) = (r'.length : Int) := by rw [IntKind.wrap_i64]; omega
                          have o7 : IntKind.i64.wrap ((r'.length : Int) + 1 - 1) = (r'.length : Int) := by rw [IntKind.wrap_i64]; omega
                          have o8 : IntKind.i64.wrap (((r'.length + 1 : Nat) : Int) - 1) = (r'.length : Int) := by rw [IntKind.wrap_i64]; omega
                          by_cases hjd : j < d'
                          · have p1 : decide ((j : Int) < (d' : Int)) = true := decide_eq_true (by omega)
                            have p2 : decide (j < d') = true := decide_eq_true hjd
                            have hbp := hbr.popD
                            have hl0' := Lib.hid (last_more hl0.out (by omega))
                            have hpop' := Lib.hid (show popL j r' = popL j (d :: r) by rw [← hpop.out, pop_more hjd])
                            clear hl0 hpop hjd
                            go_wp2_with (at_builtin; have hq8 := (hbp).later ((Below.refl _ _).alloc (Nat.le_refl _) (.cells #[.int .i64 8, .string ⟨#[]⟩, .int .i64 U.size] 35)); refine wpList_append_lies _ rfl _ _ 24 rfl w.heap.size 35 k0 _ 3 32 Tryd.underlying24 hk0 kz0 kz1 kz2 rfl (by decide) (.slice A2' T'.length C2') T'.length (tkVs T') rfl hq8.ow ⟨wr.heap.size, 0, none⟩ 1 1 [.int .i64 8, .string ⟨#[]⟩, .int .i64 U.size] rfl rfl (World.news_of_block (cs := #[.int .i64 8, .string ⟨#[]⟩, .int .i64 U.size]) (t := 35) (fr := (0, 0)) (heap_alloc_new wr _)) (by simp [Value.oneCell']) (by decide) (by unfold maxLen; omega) (by omega) hq8.hb.size (wr.heap.size + 1) (by simp) ?_; intro g8 c8 w8 hown8 hgr8 hat8 hlt8)
                            go_roundw
                            case rel =>
                              refine ⟨some ⟨g8, 0, none⟩, c8, T' ++ [⟨8, [], U.size⟩], _, _, r', by simp, rfl, hq8.appW hgr8 (by rw [List.length_append, tkVs_snoc]; exact hown8), hl0', hpop', Lib.hid ?_, by simp at hlen ⊢; omega, by simp; omega⟩
                              rw [htk.out, List.append_assoc]
                              congr 1
                              rw [show (d :: r).length - r'.length = (d :: r).length - (d' :: r').length + 1 by simp at hlen ⊢; omega, List.replicate_succ']
                            case measure => simp [lenN]
                          · have p1 : decide ((j : Int) < (d' : Int)) = false := decide_eq_false (by omega)
                            have p2 : decide (j < d') = false := decide_eq_false hjd
                            have hpe : popL j (d :: r) = d' :: r' := by rw [← hpop.out, pop_done hjd]
                            have HB2 := HB.out
                            rw [hpe, List.headD_cons, ← htk.out] at HB2
                            by_cases he : d' = j
                            · have p3 : ((j : Int) != (d' : Int)) = false := by simp; omega
                              have p4 : (j != d') = false := by simp; omega
                              rw [if_pos he] at HB2
                              have HC2 := Lib.hid (HC.out.line (lnB_list j) (by rw [← hUs.out]; exact HB2))
                              clear HB2 hpe he hjd hpop htk
                              go_wp2_with (at_builtin; have hq2 := (hbr).later ((Below.refl _ _).alloc (Nat.le_refl _) (.cells #[.int .i64 1, .string ⟨#[97]⟩, .int .i64 U.size, .int .i64 6, .string ⟨#[]⟩, .int .i64 ((U.size : Int) + 1)] 35)); refine wpList_append_lies _ rfl _ _ 24 rfl w.heap.size 35 k0 _ 3 32 Tryd.underlying24 hk0 kz0 kz1 kz2 rfl (by decide) (.slice A2' T'.length C2') T'.length (tkVs T') rfl hq2.ow ⟨wr.heap.size, 0, none⟩ 2 2 [.int .i64 1, .string ⟨#[97]⟩, .int .i64 U.size, .int .i64 6, .string ⟨#[]⟩, .int .i64 ((U.size : Int) + 1)] rfl rfl (World.news_of_block (cs := #[.int .i64 1, .string ⟨#[97]⟩, .int .i64 U.size, .int .i64 6, .string ⟨#[]⟩, .int .i64 ((U.size : Int) + 1)]) (t := 35) (fr := (0, 0)) (heap_alloc_new wr _)) (by simp [Value.oneCell']) (by decide) (by unfold maxLen; omega) (by omega) hq2.hb.size (wr.heap.size + 1) (by simp) ?_; intro g2 c2 w2 hown2 hgr2 hat2 hlt2)
                              go_roundw
                              case rel =>
                                refine ⟨k + 1, AV, CV, V, some ⟨g2, 0, none⟩, c2, T' ++ [⟨1, [97], U.size⟩] ++ [⟨6, [], U.size + 1⟩], _, _, d' :: r', -1, by go_num, by omega, rfl, by simp, rfl, rfl, hq2.appW hgr2 ?_, Lib.hid (.inl ⟨rfl, ?_, hl0.out, ?_⟩), by rw [hVs.out]; omega, by simp at hcnt ⊢; omega⟩
                                · have h2 : (T' ++ [(⟨1, [97], U.size⟩ : Tk)] ++ [(⟨6, [], U.size + 1⟩ : Tk)]).length = T'.length + 2 := by simp
                                  rw [h2, tkVs_snoc, tkVs_snoc, List.append_assoc]
                                  exact hown2
                                · rw [hV.out, hUs.out]; exact HC2.out
                                · rw [List.getLast?_concat]; rfl
                              case measure => simp [intOf]; omega
                            · have p3 : ((j : Int) != (d' : Int)) = true := by simp; omega
                              have p4 : (j != d') = true := by simp; omega
                              rw [if_neg he] at HB2
                              have HS2 := Lib.hid (HC.out.stuck (lnB_list j) (by rw [← hUs.out]; exact HB2))
                              clear HB2 hpe he hjd hpop htk
                              go_wp2_with (at_builtin; have hq2 := (hbr).later ((Below.refl _ _).alloc (Nat.le_refl _) (.cells #[.int .i64 1, .string ⟨#[97]⟩, .int .i64 U.size, .int .i64 6, .string ⟨#[]⟩, .int .i64 ((U.size : Int) + 1)] 35)); refine wpList_append_lies _ rfl _ _ 24 rfl w.heap.size 35 k0 _ 3 32 Tryd.underlying24 hk0 kz0 kz1 kz2 rfl (by decide) (.slice A2' T'.length C2') T'.length (tkVs T') rfl hq2.ow ⟨wr.heap.size, 0, none⟩ 2 2 [.int .i64 1, .string ⟨#[97]⟩, .int .i64 U.size, .int .i64 6, .string ⟨#[]⟩, .int .i64 ((U.size : Int) + 1)] rfl rfl (World.news_of_block (cs := #[.int .i64 1, .string ⟨#[97]⟩, .int .i64 U.size, .int .i64 6, .string ⟨#[]⟩, .int .i64 ((U.size : Int) + 1)]) (t := 35) (fr := (0, 0)) (heap_alloc_new wr _)) (by simp [Value.oneCell']) (by decide) (by unfold maxLen; omega) (by omega) hq2.hb.size (wr.heap.size + 1) (by simp) ?_; intro g2 c2 w2 hown2 hgr2 hat2 hlt2)
                              go_roundw
                              case rel =>
                                refine ⟨k + 1, AV, CV, V, some ⟨g2, 0, none⟩, c2, T' ++ [⟨1, [97], U.size⟩] ++ [⟨6, [], U.size + 1⟩], _, _, d' :: r', (U.size : Int), by go_num, by omega, rfl, by simp, rfl, rfl, hq2.appW hgr2 ?_, Lib.hid (.inr ⟨U.size, rfl, ?_⟩), by rw [hVs.out]; omega, by simp at hcnt ⊢; omega⟩
                                · have h2 : (T' ++ [(⟨1, [97], U.size⟩ : Tk)] ++ [(⟨6, [], U.size + 1⟩ : Tk)]).length = T'.length + 2 := by simp
                                  rw [h2, tkVs_snoc, tkVs_snoc, List.append_assoc]
                                  exact hown2
                                · rw [hV.out, hUs.out]; exact HS2.out
                              case measure => simp [intOf]; omega
                · subst hbd
                  have HS := Lib.hid hstk
                  have na : (0 : Int) ≤ (a : Int) := by omega
                  clear hstk hfar
                  go_wp2_with (at_builtin; refine Lib.wpList_append_own_string _ rfl _ _ 22 9 rfl w.heap.size 5 i0 Tryd.underlying22 Tryd.underlying9 hi0 hz0 hz1 hz2 (.slice A1' U.size C1') U.size _ rfl hb2.os (⟨#[97, 10]⟩ : ByteArray) rfl (by unfold maxLen; show U.size + 2 ≤ _; omega) (by show U.size + 2 ≤ _; omega) hbel.size ?_; intro v3 w3 hown3 hg3 _; obtain ⟨V, AV, CV, rfl, hV, hVs, hb3⟩ := line_made hb2 hU hUs hown3 hg3)
                  go_roundw
                  case rel => exact ⟨k + 1, AV, CV, V, A2, C2, T, A3, C3, st, a, by go_num, by omega, rfl, rfl, rfl, rfl, hb3, Lib.hid (.inr ⟨a, rfl, by rw [hV.out]; exact HS.out.app⟩), by rw [hVs.out]; omega, by omega⟩
                  case measure => simp [intOf]; omega
      · have hke : k = zs.length := by omega
        subst hke
        clear hfits hbel hlt
        have hu2 : u.size ≤ 6200 := by omega
        have hTs2 : T.length + st.length ≤ 401 := by omega
        go_wp2_with fail
        go_loopw [4, 11] (fun tv iv wr3 => ∃ (q : Nat) (A2' : Option Addr) (C2' : Nat) (T' : List Tk), iv = .int .i64 ((q + 1 : Nat) : Int) ∧ q ≤ st.length - 1 ∧ tv = .slice A2' T'.length C2' ∧ Bk w wr3 A1 C1 u A2' C2' T' A3 C3 st ∧ Hid (T' = T ++ List.replicate q (⟨8, [], u.size⟩ : Tk)) ∧ T'.length ≤ 1000) (fun _ iv _ => st.length - (intOf iv).toNat)
        case atStart => exact ⟨0, A2, C2, T, rfl, Nat.zero_le _, rfl, hb, Lib.hid (by simp), by omega⟩
        case round =>
          obtain ⟨q, A2', C2', T', rfl, hq, rfl, hbr, hTq, hTl⟩ := hrel
          clear hb
          have hTq2 : T'.length = T.length + q := by rw [hTq.out]; simp
          by_cases hql : q + 1 < st.length
          · have n1 : decide (((q + 1 : Nat) : Int) < (st.length : Int)) = true := decide_eq_true (by omega)
            have n2 : decide (q + 1 < st.length) = true := decide_eq_true hql
            have n3 : decide ((q : Int) + 1 < (st.length : Int)) = true := decide_eq_true (by omega)
            have hTl2 : T'.length ≤ 990 := by omega
            clear hTq2
            go_wp2_with (at_builtin; have hq8 := (hbr).later ((Below.refl _ _).alloc (Nat.le_refl _) (.cells #[.int .i64 8, .string ⟨#[]⟩, .int .i64 u.size] 35)); refine wpList_append_lies _ rfl _ _ 24 rfl w.heap.size 35 k0 _ 3 32 Tryd.underlying24 hk0 kz0 kz1 kz2 rfl (by decide) (.slice A2' T'.length C2') T'.length (tkVs T') rfl hq8.ow ⟨wr.heap.size, 0, none⟩ 1 1 [.int .i64 8, .string ⟨#[]⟩, .int .i64 u.size] rfl rfl (World.news_of_block (cs := #[.int .i64 8, .string ⟨#[]⟩, .int .i64 u.size]) (t := 35) (fr := (0, 0)) (heap_alloc_new wr _)) (by simp [Value.oneCell']) (by decide) (by unfold maxLen; omega) (by omega) hq8.hb.size (wr.heap.size + 1) (by simp) ?_; intro g8 c8 w8 hown8 hgr8 hat8 hlt8)
            go_roundw
            case rel =>
              refine ⟨q + 1, some ⟨g8, 0, none⟩, c8, T' ++ [⟨8, [], u.size⟩], by go_num, by omega, by simp, hq8.appW hgr8 (by rw [List.length_append, tkVs_snoc]; exact hown8), Lib.hid ?_, by simp; omega⟩
              rw [hTq.out, List.append_assoc, ← List.replicate_succ']
            case measure => simp [intOf]; omega
          · have n1 : decide (((q + 1 : Nat) : Int) < (st.length : Int)) = false := decide_eq_false (by omega)
            have n2 : decide (q + 1 < st.length) = false := decide_eq_false hql
            have n3 : decide ((q : Int) + 1 < (st.length : Int)) = false := decide_eq_false (by omega)
            have hTl2 : T'.length ≤ 990 := by omega
            clear hTq2
            go_wp2_with (at_builtin; have hq9 := (hbr).later ((Below.refl _ _).alloc (Nat.le_refl _) (.cells #[.int .i64 9, .string ⟨#[]⟩, .int .i64 u.size] 35)); refine wpList_append_lies _ rfl _ _ 24 rfl w.heap.size 35 k0 _ 3 32 Tryd.underlying24 hk0 kz0 kz1 kz2 rfl (by decide) (.slice A2' T'.length C2') T'.length (tkVs T') rfl hq9.ow ⟨wr.heap.size, 0, none⟩ 1 1 [.int .i64 9, .string ⟨#[]⟩, .int .i64 u.size] rfl rfl (World.news_of_block (cs := #[.int .i64 9, .string ⟨#[]⟩, .int .i64 u.size]) (t := 35) (fr := (0, 0)) (heap_alloc_new wr _)) (by simp [Value.oneCell']) (by decide) (by unfold maxLen; omega) (by omega) hq9.hb.size (wr.heap.size + 1) (by simp) ?_; intro g9 c9 w9 hown9 hgr9 hat9 hlt9)
            have hb9 : Bk w w9 A1 C1 u (some ⟨g9, 0, none⟩) c9 (T' ++ [⟨9, [], u.size⟩]) A3 C3 st := hq9.appW hgr9 (by rw [List.length_append, tkVs_snoc]; exact hown9)
            have hTk := lxTokens_any (s := u) C1 w9 (bsAt_cells hb9.os) hb9.fits.1 hb9.fits.2.1 (Utf8Tabs_below hT hb9.hb)
            have hany : anyR u = lexR u.data.toList lexS := by unfold anyR; rw [if_pos (by omega)]
            rw [hany] at hTk
            clear hany
            rcases hfar.out with ⟨hbd, hcome, hlast, hoff⟩ | ⟨a, hbd, hstk⟩
            · subst hbd
              cases st with
              | nil => exact absurd hlast (by simp)
              | cons d r =>
                have hqe : q = r.length := by simp at hq hql; omega
                have hend : lexR u.data.toList lexS = .ok (T' ++ [⟨9, [], u.size⟩]) := by
                  rw [hcome.done, endL_eq, hoff, if_neg (by decide), List.append_nil, hTq.out, hqe]
                rw [hend] at hTk
                obtain ⟨L9, hL9⟩ : ∃ L9, T' ++ [(⟨9, [], u.size⟩ : Tk)] = L9 := ⟨_, rfl⟩
                have hlen9 : T'.length + 1 = L9.length := by rw [← hL9]; simp
                rw [hL9] at hTk hb9
                unfold TokensR at hTk
                dsimp only at hTk
                rw [hlen9]
                clear hend hL9 hlen9 hcome hlast hoff hfar hTq hTl hTl2 hqe hq hql n1 n2 n3 hown9 hgr9 hat9 hq9 hbr
                go_wp2_with (first
                  | (go_at_call 10; refine hTk.mono ?_; rintro e w10 ⟨A10, C10, rfl, ho10, hC10⟩; have hbA := (hb9.hb.trans (hC10.mono hb9.hb.size)).alloc (hb9.hb.trans (hC10.mono hb9.hb.size)).size (.cells #[.int .i64 0, .int .i64 0] 26); have y3 := (tkAt_own ho10 rfl).later ((Below.refl _ _).alloc (Nat.le_refl w10.heap.size) (.cells #[.int .i64 0, .int .i64 0] 26)); obtain ⟨v3, m3⟩ := own_fits ho10; have y5 := (tkAt_own hb9.ow rfl).later (hC10.alloc hC10.size (.cells #[.int .i64 0, .int .i64 0] 26)); obtain ⟨v5, m5⟩ := own_fits hb9.ow)
                  | (go_at_call 13; refine (tokens_true _ _ _ _ L9 L9 true _ y3 y5 v3 v5 m3 m5 rfl (fun i a b h1 h2 => by rw [h1] at h2; injection h2 with h2; subst h2; exact ⟨rfl, rfl, fun _ => rfl⟩)).mono ?_; rintro e w11 ⟨rfl, hb11⟩; have hbZ := hbA.trans (hb11.mono hbA.size))
                  | (go_at_call 9; refine (lxAwake_ok _ (Utf8Tabs_below hT hbZ)).mono ?_; rintro e w12 ⟨rfl, hb12⟩))
                go_ret
                exact ⟨rfl, hbZ.trans (hb12.mono hbZ.size)⟩
            · subst hbd
              have na : (0 : Int) ≤ (a : Int) := by omega
              have hend := hstk u (Begins.self u)
              rw [hend] at hTk
              unfold TokensR at hTk
              dsimp only at hTk
              clear hend hstk hfar hTq hTl hTl2 hq hql n1 n2 n3 hown9 hgr9 hat9 hq9 hbr
              go_wp2_with (first
                | (go_at_call 10; refine hTk.mono ?_; rintro e w10 ⟨rfl, hC10⟩; have hbA := (hb9.hb.trans (hC10.mono hb9.hb.size)).alloc (hb9.hb.trans (hC10.mono hb9.hb.size)).size (.cells #[.int .i64 103, .int .i64 a] 26); have hbZ := hbA)
                | (go_at_call 9; refine (lxAwake_ok _ (Utf8Tabs_below hT hbZ)).mono ?_; rintro e w12 ⟨rfl, hb12⟩))
              go_ret
              exact ⟨rfl, hbZ.trans (hb12.mono hbZ.size)⟩
  · have e1 : decide (100 < (zs.length : Int)) = true := decide_eq_true (by omega)
    have e1' : decide (100 < zs.length) = true := decide_eq_true (by omega)
    go_enter Tryd.func8, Tryd.ntmps8
    go_wp2_with (go_at_call 9; refine (lxAwake_ok _ hT).mono ?_; rintro e w1 ⟨rfl, hb1⟩)
    go_ret
    exact ⟨rfl, hb1⟩
end Go.Proofs.YtgheejogpbhokaaDoor
