/- The reference's Parse (chapter 1). -/
import Derived.Test.YtegdbcnloodljaaDoorParT
import Derived.Test.YtegdbcnloodljaaDoorM1
import Derived.Test.YtegdbcnloodljaaDoorR6
import Derived.Deep.RegionHeld3
import Derived.Deep.DeepCutAuto
namespace Go.Proofs.YtegdbcnloodljaaDoor
set_option linter.unusedVariables false
set_option linter.unusedSimpArgs false
open Go.RowKit Go.Shelf
set_option maxRecDepth 1000000
attribute [local go_sem] Oper.semAt_some

/-- what digits write grows. -/
theorem decVal_take_le (d : List UInt8) (k : Nat) : decVal (d.take k) ≤ decVal d := by
  have h : d = d.take k ++ d.drop k := (List.take_append_drop k d).symm
  have h2 : decVal d = decVal (d.take k) * 10 ^ (d.drop k).length + decVal (d.drop k) := by
    conv => lhs; rw [h]
    rw [decVal, List.foldl_append, decVal_go]; rfl
  have h3 : 1 ≤ 10 ^ (d.drop k).length := Nat.pow_pos (by decide)
  have h4 : decVal (d.take k) * 1 ≤ decVal (d.take k) * 10 ^ (d.drop k).length := Nat.mul_le_mul_left _ h3
  omega

theorem rdI_at (w : World) (k : IntKind) (z : Int) (t : TypeId) (n : Nat) (hn : n = w.heap.size) : RdI (w.alloc (.cells #[.int k z] t)) k (some ⟨n, 0, none⟩) [z] := by
  subst hn; exact rdI_one w k z t

set_option maxHeartbeats 4000000 in
theorem refParse_ok (s : ByteArray) (w : World) (hs : s.size ≤ 100000) :
    Calls Tryd.prog 17 #[.string s] w (RetP w s) := by
  have hBad := fun w' => retP_bad (w := w) (w' := w') (s := s) (A := none)
  have h3 : (s.toList.isEmpty = true ∧ negS s = false ∧ restS s = s) ∨ (s.toList.isEmpty = false ∧ negS s = false ∧ restS s = s ∧ ∃ h : 0 < s.size, ((s[0].toNat : Int) == 45) = false) ∨ (s.toList.isEmpty = false ∧ negS s = true ∧ restS s = s.extract 1 s.size ∧ ∃ h : 0 < s.size, ((s[0].toNat : Int) == 45) = true) := by
    rw [Lib.toList_data]
    cases hl : s.data.toList with
    | nil =>
      obtain ⟨h1, h2⟩ := rest_plain (s := s) (by rw [hl]; simp)
      exact .inl ⟨rfl, h2, h1⟩
    | cons c l =>
      have hsz : 0 < s.size := by
        show 0 < s.data.size
        rw [← Array.length_toList, hl]; simp
      have hc : s[0] = c := by
        have : s.data.toList[0]? = some c := by rw [hl]; rfl
        rw [List.getElem?_eq_getElem (by simpa using hsz)] at this
        injection this
      by_cases h45 : c = 45
      · obtain ⟨h1, h2⟩ := rest_sign (s := s) (by rw [hl, h45]; rfl)
        refine .inr (.inr ⟨rfl, h2, ?_, hsz, by rw [hc, h45]; rfl⟩)
        rw [h1]
        refine ByteArray.ext (Array.ext' ?_)
        simp [ByteArray.data_extract]
        exact (List.take_of_length_le (by rw [List.length_tail, Array.length_toList]; exact Nat.le_refl _)).symm
      · obtain ⟨h1, h2⟩ := rest_plain (s := s) (by rw [hl]; simpa using h45)
        refine .inr (.inl ⟨rfl, h2, h1, hsz, ?_⟩)
        rw [hc]
        simp only [beq_eq_false_iff_ne, ne_eq]
        intro e
        exact h45 (UInt8.toNat_inj.1 (by show _ = 45; omega))
  go_enter Tryd.func17, Tryd.ntmps17
  go_upto_region 3 with fail
  go_cut [16] (fun v wx => v = .bool (negS s) ∧ wx = w.alloc (.cells #[.bool false, .slice none 0 0] 24))
  case first =>
    rcases h3 with ⟨h1, h2, h3⟩ | ⟨h1, h2, h3, h4, h5⟩ | ⟨h1, h2, h3, h4, h5⟩
    all_goals
      have h6 : ¬ s.toList = [] ∨ s.toList = [] := by
        by_cases h : s.toList = []
        · exact .inr h
        · exact .inl h
      rcases h6 with h6 | h6
      all_goals first
        | (exfalso; rw [h6] at h1; simp at h1; done)
        | (exfalso; simp [h6] at h1; done)
        | skip
      go_wp2_with fail
      go_meet
      exact ⟨by rw [h2], rfl⟩
  case rest =>
    obtain ⟨rfl, rfl⟩ := hcut
    have h7 : negS s = true ∨ negS s = false := by cases negS s <;> simp
    go_upto_if 16 with fail
    go_cut [4, 5] (fun v u wx => v = .string (restS s) ∧ u = .bool (negS s) ∧ wx = w.alloc (.cells #[.bool false, .slice none 0 0] 24))
    case first =>
      rcases h3 with ⟨h1, h2, h3⟩ | ⟨h1, h2, h3, h4, h5⟩ | ⟨h1, h2, h3, h4, h5⟩
      all_goals
        rw [h2]
        go_wp2_with fail
        go_meet
        exact ⟨by rw [h3], by rw [h2], rfl⟩
    case rest =>
      obtain ⟨rfl, rfl, rfl⟩ := hcut
      clear h3 h7
      have hF1 : ∀ h : 0 < (restS s).size, (restS s)[0] = 48 → (negS s = true ∨ 1 < (restS s).size) → okS s = false := fun h h0 h1 => okS_nought h h0 (fun e => by
        obtain ⟨e1, e2⟩ := rest_plain (s := s) (by rw [e]; simp)
        rw [e2, e1, e] at h1
        rcases h1 with h1 | h1
        · exact absurd h1 (by decide)
        · exact absurd h1 (by decide))
      have hF2 : ∀ h : 0 < (restS s).size, negS s = false → (restS s).size ≤ 1 → (restS s)[0] = 48 → s = ⟨#[48]⟩ := fun h hn h1 h0 => by
        have hh : s.data.toList.head? ≠ some 45 := fun e => by
          have := (rest_sign e).2
          rw [hn] at this; exact absurd this (by decide)
        obtain ⟨e1, -⟩ := rest_plain hh
        have e3 : s.size = 1 := by rw [e1] at h h1; omega
        have e4 : s.data.toList = [48] := by
          have hl : s.data.toList.length = 1 := by simpa using e3
          match hd : s.data.toList with
          | [c] =>
            have h5 : (restS s).data.toList[0]? = some 48 := by
              rw [List.getElem?_eq_getElem (by simpa using h)]
              exact congrArg some h0
            rw [e1, hd] at h5
            simp at h5
            rw [h5]
          | [] => rw [hd] at hl; simp at hl
          | _ :: _ :: _ => rw [hd] at hl; simp at hl
        exact ByteArray.ext (Array.ext' e4)
      have hE := okS_empty (s := s)
      have hSg := okS_sign (s := s)
      have hY := okS_yes (s := s)
      have hG := par_good (s := s)
      have hds : (restS s).size ≤ s.size := by
        show (Lib.trimPrefix s.data.toList [45]).toArray.size ≤ _
        rw [List.size_toArray, Lib.trimPrefix]
        split <;> simp
      obtain ⟨d, hd⟩ : ∃ d, restS s = d := ⟨_, rfl⟩
      obtain ⟨ng, hng⟩ : ∃ ng, negS s = ng := ⟨_, rfl⟩
      have hV : valS s = if ng then -(decVal d.data.toList : Int) else (decVal d.data.toList : Int) := by rw [valS, hng, hd]
      rw [hd] at hE hY hds hSg hF1 hF2 ⊢
      rw [hng] at hF1 hF2 ⊢
      clear hd hng
      have hBB : ∃ BB : Bool, (BB = true → okS s = false) ∧ (BB = false → ∃ h : 0 < d.size, d[0] ≠ 48 ∨ s = ⟨#[48]⟩) ∧ ((d.toList.isEmpty = true ∧ d.toList = [] ∧ BB = true) ∨ (d.toList.isEmpty = false ∧ ¬ d.toList = [] ∧ ∃ h : 0 < d.size, ((((d[0].toNat : Int) == 48) = true ∧ (d[0].toNat : Int) = 48 ∧ ((ng = true ∧ BB = true) ∨ (ng = false ∧ decide ((1 : Int) < (d.size : Int)) = true ∧ BB = true) ∨ (ng = false ∧ decide ((1 : Int) < (d.size : Int)) = false ∧ BB = false))) ∨ (((d[0].toNat : Int) == 48) = false ∧ ¬ (d[0].toNat : Int) = 48 ∧ BB = false)))) := by
        by_cases h0 : d = ⟨#[]⟩
        · refine ⟨true, fun _ => hE h0, (fun h => by cases h), .inl ?_⟩
          rw [Lib.toList_data, h0]; exact ⟨rfl, rfl, rfl⟩
        · have hpos : 0 < d.size := by
            rcases Nat.eq_zero_or_pos d.size with e | e
            · exact absurd (ByteArray.ext (Array.eq_empty_of_size_eq_zero e)) h0
            · exact e
          have hl1 : ¬ d.toList = [] := by
            rw [Lib.toList_data]; intro e
            have : d.size = 0 := by
              show d.data.size = 0
              rw [← Array.length_toList, e]; rfl
            omega
          have hl2 : d.toList.isEmpty = false := by simpa using hl1
          by_cases h48 : d[0] = 48
          · have g1 : (d[0].toNat : Int) = 48 := by rw [h48]; rfl
            have g2 : ((d[0].toNat : Int) == 48) = true := by simpa using g1
            cases ng with
            | true => exact ⟨true, fun _ => hF1 hpos h48 (.inl rfl), (fun h => by cases h), .inr ⟨hl2, hl1, hpos, .inl ⟨g2, g1, .inl ⟨rfl, rfl⟩⟩⟩⟩
            | false =>
              by_cases h1 : 1 < d.size
              · exact ⟨true, fun _ => hF1 hpos h48 (.inr h1), (fun h => by cases h), .inr ⟨hl2, hl1, hpos, .inl ⟨g2, g1, .inr (.inl ⟨rfl, decide_eq_true (by omega), rfl⟩)⟩⟩⟩
              · exact ⟨false, (fun h => by cases h), fun _ => ⟨hpos, .inr (hF2 hpos rfl (by omega) h48)⟩, .inr ⟨hl2, hl1, hpos, .inl ⟨g2, g1, .inr (.inr ⟨rfl, decide_eq_false (by omega), rfl⟩)⟩⟩⟩
          · have g1 : ¬ (d[0].toNat : Int) = 48 := fun e => h48 (UInt8.toNat_inj.1 (by show _ = 48; omega))
            exact ⟨false, (fun h => by cases h), fun _ => ⟨hpos, .inl h48⟩, .inr ⟨hl2, hl1, hpos, .inr ⟨by simpa using g1, g1, rfl⟩⟩⟩
      obtain ⟨BB, hB1, hB2, hB3⟩ := hBB
      have hB1 := fun h => hBad (w.alloc (.cells #[.bool false, .slice none 0 0] 24)) (hB1 h) ((Below.refl _ _).alloc (Nat.le_refl _) _)
      have hSg := fun i hi h => hBad (w.alloc (.cells #[.bool false, .slice none 0 0] 24)) (hSg i hi h) ((Below.refl _ _).alloc (Nat.le_refl _) _)
      have HY := Lib.hid hY
      have HG := Lib.hid hG
      have HV := Lib.hid hV
      clear hBad hE hF1 hF2 hY hG hV
      go_upto_region 6 with fail
      go_cut [33] (fun v wx => v = .bool BB ∧ wx = w.alloc (.cells #[.bool false, .slice none 0 0] 24))
      case first =>
        rcases hB3 with ⟨g1, g2, rfl⟩ | ⟨g1, g2, g3, ⟨g4, g5, ⟨rfl, rfl⟩ | ⟨rfl, g7, rfl⟩ | ⟨rfl, g7, rfl⟩⟩ | ⟨g4, g5, rfl⟩⟩
        all_goals
          go_wp2_with fail
          go_meet
          exact ⟨rfl, rfl⟩
      case rest =>
        obtain ⟨rfl, rfl⟩ := hcut
        cases BB with
        | true =>
          have hb := hB1 rfl
          clear hB1 hB2 hB3 hSg
          go_wp2
          exact bodyPost_ret (v := .tuple #[.agg #[.bool false, .slice none 0 0], .int .i64 4]) (by simp [results, Tryd.results17, go_sem]) rfl hb
        | false =>
          obtain ⟨hpos, h49⟩ := hB2 rfl
          clear hB1 hB2 hB3
          go_wp2
          go_loop [6] (fun v => ∃ i : Nat, v = .int .i64 i ∧ i ≤ d.size ∧ Hid (∀ j (h : j < d.size), j < i → isD d[j] = true)) (fun v => d.size - (intOf v).toNat)
          case atStart => exact ⟨0, rfl, Nat.zero_le _, Lib.hid (fun j h h0 => absurd h0 (by omega))⟩
          case round =>
            obtain ⟨i, rfl, hi, hT⟩ := hrel
            by_cases hp : i < d.size
            · cases hx : isD d[i] with
              | false =>
                have hb := hSg i hp hx
                simp only [isD, decide_eq_false_iff_not] at hx
                have hlt : d[i].toNat < 48 ∨ 48 ≤ d[i].toNat ∧ 57 < d[i].toNat := by omega
                rcases hlt with g0 | ⟨g0, g1⟩
                · have g2 : (d[i].toNat : Int) < 48 := by omega
                  clear hSg hT hx
                  go_wp2
                  exact bodyPost_ret (v := .tuple #[.agg #[.bool false, .slice none 0 0], .int .i64 4]) (by simp [results, Tryd.results17, go_sem]) rfl hb
                · have g2 : (48 : Int) ≤ (d[i].toNat : Int) := by omega
                  have g3 : (57 : Int) < (d[i].toNat : Int) := by omega
                  clear hSg hT hx
                  go_wp2
                  exact bodyPost_ret (v := .tuple #[.agg #[.bool false, .slice none 0 0], .int .i64 4]) (by simp [results, Tryd.results17, go_sem]) rfl hb
              | true =>
                have hT2 : Hid (∀ j (h : j < d.size), j < i + 1 → isD d[j] = true) := Lib.hid (fun j h hj => by
                  by_cases e : j = i
                  · subst e; exact hx
                  · exact hT.out j h (by omega))
                simp only [isD, decide_eq_true_eq] at hx
                have g2 : (48 : Int) ≤ (d[i].toNat : Int) := by omega
                have g3 : (d[i].toNat : Int) ≤ 57 := by omega
                clear hSg hT hx
                go_wp2
                go_round
                case rel => exact ⟨i + 1, by go_num, by omega, hT2⟩
                case measure => simp [intOf]; omega
            · have hall : ∀ j (h : j < d.size), isD d[j] = true := fun j h => hT.out j h (by omega)
              obtain ⟨hG1, hG2⟩ := HG.out (HY.out hpos hall h49)
              have hR : ∀ e w', RetO w (keepO (valS s)) e w' → RetP w s e w' := fun e w' h => by rw [RetP, hG1, hG2]; exact h
              have HA := Lib.hid hall
              generalize RetP w s = RR at *
              generalize valS s = X at *
              clear hT hSg HG HY hG1 hG2 hall h49
              have hw0 : Below (w.heap.size + 1) (w.alloc (.cells #[.bool false, .slice none 0 0] 24)) (w.alloc (.cells #[.bool false, .slice none 0 0] 24)) := Below.refl _ _
              have hbig : ∀ (k : Nat) (zs : List Int), W32 zs → NT zs → val zs = (decVal (d.data.toList.take k) : Int) → 256 < zs.length → keepO X = none := fun k zs h1 h2 h3 h4 => by
                have h5 := (nt_len h1 h2 256).1 h4
                have h6 := decVal_take_le d.data.toList k
                have h7 : BIG ≤ (X.natAbs : Int) := by
                  rw [HV.out]
                  unfold BIG
                  generalize (4294967296 : Int) ^ 256 = P at *
                  generalize decVal d.data.toList = D at *
                  split <;> omega
                rw [keepO, big, decide_eq_true h7, if_pos rfl]
              have hsmall : ∀ (zs : List Int), W32 zs → NT zs → val zs = (decVal d.data.toList : Int) → zs.length ≤ 256 → keepO X = some X := fun zs h1 h2 h3 h4 => by
                have h5 : ¬ (4294967296 : Int) ^ 256 ≤ val zs := fun h => by have := (nt_len h1 h2 256).2 h; omega
                have h7 : ¬ BIG ≤ (X.natAbs : Int) := by
                  rw [HV.out]
                  unfold BIG
                  generalize (4294967296 : Int) ^ 256 = P at *
                  generalize decVal d.data.toList = D at *
                  split <;> omega
                rw [keepO, big, decide_eq_false h7, if_neg (by decide)]
              have HB := Lib.hid hbig
              have HS := Lib.hid hsmall
              clear hbig hsmall
              go_wp2
              go_loopw [7, 8] (fun v7 v8 wr => ∃ (k : Nat) (ms : List Int) (A : Option Addr) (cA : Nat), v7 = .slice A ms.length cA ∧ v8 = .int .i64 k ∧ k ≤ d.size ∧ ms.length ≤ cA ∧ cA ≤ 9223372036854775807 ∧ ms.length ≤ 256 ∧ FrI wr (w.heap.size + 1) .u32 A ms ∧ Below (w.heap.size + 1) (w.alloc (.cells #[.bool false, .slice none 0 0] 24)) wr ∧ Hid (W32 ms ∧ NT ms ∧ val ms = (decVal (d.data.toList.take k) : Int))) (fun _ v8 _ => d.size - (intOf v8).toNat)
              case atStart => exact ⟨0, [], none, 0, rfl, rfl, Nat.zero_le _, Nat.le_refl _, by decide, by decide, fun i hi => absurd hi (by simp), hw0, Lib.hid ⟨W32.nil, trivial, rfl⟩⟩
              case round =>
                obtain ⟨k, ms, A, cA, rfl, rfl, hk, lA, mA, hm, hf, hbw, hT⟩ := hrel
                have hsz := hbw.size
                simp at hsz
                by_cases hp : k < d.size
                · have hx := HA.out k hp
                  simp only [isD, decide_eq_true_eq] at hx
                  obtain ⟨x, hxx⟩ : ∃ x, d[k].toNat - 48 = x := ⟨_, rfl⟩
                  have hdk : ((d[k].toNat : Int) - 48) % 256 = (x : Int) := by omega
                  have hx9 : x ≤ 9 := by omega
                  have hT2 : Hid (W32 ms ∧ val ms * 10 + (x : Int) = (decVal (d.data.toList.take (k + 1)) : Int)) := Lib.hid (by
                    refine ⟨hT.out.1, ?_⟩
                    have h1 : d.data.toList.take (k + 1) = d.data.toList.take k ++ [d[k]] := by
                      rw [List.take_succ_eq_append_getElem (by simpa using hp)]; rfl
                    rw [h1, decVal_snoc, hT.out.2.2, hxx]; omega)
                  clear hT hx hxx
                  go_upto_region 17 with fail
                  go_cut [7] (fun v wx => ∃ (A' : Option Addr) (c' : Nat) (zs : List Int), v = .slice A' zs.length c' ∧ zs.length ≤ c' ∧ c' ≤ 9223372036854775807 ∧ zs.length ≤ 260 ∧ FrI wx (w.heap.size + 1) .u32 A' zs ∧ Below wr.heap.size wr wx ∧ Hid (W32 zs ∧ NT zs ∧ val zs = val ms * 10 + (x : Int)))
                  case first =>
                    have HPK : ∀ W, Below wr.heap.size wr W → wr.heap.size ≤ W.heap.size := fun W h => h.size
                    have HW := hT2.out.1
                    have hw8 : IntKind.u8.wrap ((d[k].toNat : Int) - 48) = (x : Int) := by rw [IntKind.wrap_u8]; omega
                    have hw9 : IntKind.u32.wrap (x : Int) = (x : Int) := by rw [wrapU32]; omega
                    have w10 : W32 [(10 : Int)] := W32.cons (by decide) (by decide) W32.nil
                    have wx : W32 [(x : Int)] := W32.cons (by omega) (by omega) W32.nil
                    have hD0 : Below wr.heap.size wr wr := Below.refl _ _
                    have hA : Below wr.heap.size wr (wr.alloc (.cells #[.int .u32 10] 62)) := hD0.alloc (Nat.le_refl _) _
                    have hX : Below wr.heap.size wr (wr.alloc (.cells #[.int .u32 (x : Int)] 62)) := hD0.alloc (Nat.le_refl _) _
                    have hAX : Below wr.heap.size wr ((wr.alloc (.cells #[.int .u32 10] 62)).alloc (.cells #[.int .u32 (x : Int)] 62)) := hA.alloc (by simp) _
                    have hXA : Below wr.heap.size wr ((wr.alloc (.cells #[.int .u32 (x : Int)] 62)).alloc (.cells #[.int .u32 10] 62)) := hX.alloc (by simp) _
                    have fX2 : RdI ((wr.alloc (.cells #[.int .u32 10] 62)).alloc (.cells #[.int .u32 (x : Int)] 62)) .u32 (some ⟨wr.heap.size + 1, 0, none⟩) [(x : Int)] := rdI_at _ _ _ _ _ (by simp)
                    have fX3 : RdI ((wr.alloc (.cells #[.int .u32 (x : Int)] 62)).alloc (.cells #[.int .u32 10] 62)) .u32 (some ⟨wr.heap.size, 0, none⟩) [(x : Int)] := (rdI_at _ _ _ _ _ (by simp)).later ((Below.refl _ _).alloc (Nat.le_refl _) _)
                    have fX2d := RdI.later fX2 (below_drew (Below.refl _ _))
                    have fX3d := RdI.later fX3 (below_drew (Below.refl _ _))
                    go_region_held3 (fun W => wr.heap.size ≤ W.heap.size) (exact HPK _ (by repeat first | with_reducible exact Below.refl _ _ | with_reducible assumption | with_reducible refine below_drew ?_ | with_reducible refine Below.alloc ?_ (by first | exact Nat.le_refl _ | (simp; done) | (simp; omega) | omega) _)) (first
                      | (go_at_call 51; refine (refTimes_ok A _ cA 1 ms [10] _ HW w10 (hf.rd.later (by repeat first | with_reducible exact Below.refl _ _ | with_reducible assumption | with_reducible refine below_drew ?_ | with_reducible refine Below.alloc ?_ (by first | exact Nat.le_refl _ | (simp; done) | (simp; omega) | omega) _)) (by first | with_reducible exact rdI_at _ _ _ _ _ (by simp) | with_reducible exact (rdI_at _ _ _ _ _ (by simp)).later (below_drew (Below.refl _ _)) | with_reducible exact (rdI_at _ _ _ _ _ (by simp)).later ((Below.refl _ _).alloc (Nat.le_refl _) _) | with_reducible exact (rdI_at _ _ _ _ _ (by simp)).later (below_drew ((Below.refl _ _).alloc (Nat.le_refl _) _)) | fail) lA mA (by decide) (by decide) (by omega) (by decide)).mono ?_; rintro e w5 ⟨zs5, q1, q2, q3, A5, c5, rfl, l5, m5, f5, b5⟩; have H5 : Below wr.heap.size wr w5 := (by first | with_reducible exact (hA).trans (b5.mono (hA).size) | with_reducible exact (below_drew hA).trans (b5.mono (below_drew hA).size) | with_reducible exact (hAX).trans (b5.mono (hAX).size) | with_reducible exact (below_drew hAX).trans (b5.mono (below_drew hAX).size) | with_reducible exact (hXA).trans (b5.mono (hXA).size) | with_reducible exact (below_drew hXA).trans (b5.mono (below_drew hXA).size)); first | with_reducible have hX5 := RdI.later fX2 b5 | with_reducible have hX5 := RdI.later fX2d b5 | with_reducible have hX5 := RdI.later fX3 b5 | with_reducible have hX5 := RdI.later fX3d b5 | have hX5 := True.intro)
                      | (go_at_call 49; refine (refTrim_any A6 c6 zs6 _ (f6.rd.later (by repeat first | with_reducible exact Below.refl _ _ | with_reducible assumption | with_reducible refine below_drew ?_ | with_reducible refine Below.alloc ?_ (by first | exact Nat.le_refl _ | (simp; done) | (simp; omega) | omega) _)) l6 m6 (by simp at p3 q3; omega)).mono ?_; rintro e w7 ⟨A7, c7, rfl, l7, m7, f7, b7⟩; have H7 : Below wr.heap.size wr w7 := (by first | with_reducible exact (H6).trans (b7.mono (H6).size) | with_reducible exact (below_drew H6).trans (b7.mono (below_drew H6).size) | with_reducible exact (H6.alloc H6.size _).trans (b7.mono (H6.alloc H6.size _).size) | with_reducible exact (below_drew (H6.alloc H6.size _)).trans (b7.mono (below_drew (H6.alloc H6.size _)).size)))
                      | (go_at_call 50; refine (refPlus_ok A5 _ c5 1 zs5 [(x : Int)] _ q1 wx (f5.rd.later (by repeat first | with_reducible exact Below.refl _ _ | with_reducible assumption | with_reducible refine below_drew ?_ | with_reducible refine Below.alloc ?_ (by first | exact Nat.le_refl _ | (simp; done) | (simp; omega) | omega) _)) (by first | with_reducible exact rdI_at _ _ _ _ _ (by simp) | with_reducible exact (rdI_at _ _ _ _ _ (by simp)).later (below_drew (Below.refl _ _)) | with_reducible exact (rdI_at _ _ _ _ _ (by simp)).later ((Below.refl _ _).alloc (Nat.le_refl _) _) | with_reducible exact (rdI_at _ _ _ _ _ (by simp)).later (below_drew ((Below.refl _ _).alloc (Nat.le_refl _) _)) | with_reducible exact hX5 | with_reducible exact RdI.later hX5 (below_drew (Below.refl _ _)) | fail) l5 m5 (by simp) (by decide) (by simp at q3; omega) (by simp)).mono ?_; rintro e w6 ⟨zs6, p1, p2, p3, A6, c6, rfl, l6, m6, f6, b6⟩; have H6 : Below wr.heap.size wr w6 := (by first | with_reducible exact (H5).trans (b6.mono (H5).size) | with_reducible exact (below_drew H5).trans (b6.mono (below_drew H5).size) | with_reducible exact (H5.alloc H5.size _).trans (b6.mono (H5.alloc H5.size _).size) | with_reducible exact (below_drew (H5.alloc H5.size _)).trans (b6.mono (below_drew (H5.alloc H5.size _)).size))))
                    all_goals
                      go_wp2_with fail
                      go_meet
                      have hl7 := trimN_le zs6
                      exact ⟨A7, c7, trimN zs6, rfl, l7, m7, by simp at p3 q3; omega, f7.mono (Nat.le_trans hsz H6.size), H7, Lib.hid ⟨trimN_w32 p1, trimN_nt _, by rw [val_trimN, p2, q2]; simp [val]⟩⟩
                  case rest =>
                    obtain ⟨A2, c2, zs, rfl, l2, m2, n2, f2, b2, hZ⟩ := hcut
                    have hbw2 := hbw.trans (b2.mono (by simpa using hsz))
                    by_cases hz : 256 < zs.length
                    · have hk0 := HB.out (k + 1) zs hZ.out.1 hZ.out.2.1 (by rw [hZ.out.2.2, hT2.out.2]) hz
                      have g1 : (256 : Int) < (zs.length : Int) := by omega
                      have k0 := (hbw2.cell (p := ⟨w.heap.size, 0, none⟩) (by simp)).trans (show _ = some (.bool false) by simp [go_sem])
                      have k1 := (hbw2.cell (p := ⟨w.heap.size, 1, none⟩) (by simp)).trans (show _ = some (.slice none 0 0) by simp [go_sem])
                      have f0 := (hbw2.frozen (p := ⟨w.heap.size, 0, none⟩) (by simp)).trans (show _ = false by simp [go_sem])
                      have f1 := (hbw2.frozen (p := ⟨w.heap.size, 1, none⟩) (by simp)).trans (show _ = false by simp [go_sem])
                      have hs6 := hbw2.size
                      simp at hs6
                      have hBr : Below w.heap.size w wc := ((Below.refl _ _).alloc (Nat.le_refl _) _).trans (hbw2.mono (by omega))
                      rw [hk0] at hR
                      have hb := hR _ _ ⟨none, 0, rfl, can_none ((wc.setCell ⟨w.heap.size, 0, none⟩ (.bool false)).setCell ⟨w.heap.size, 1, none⟩ (.slice none 0 0)) _, (hBr.setCell (p := ⟨w.heap.size, 0, none⟩) (by simp) _).setCell (p := ⟨w.heap.size, 1, none⟩) (by simp) _⟩
                      clear HB HS hR hZ hT2
                      go_wp2
                      exact bodyPost_ret (v := .tuple #[.agg #[.bool false, .slice none 0 0], .int .i64 3]) (by simp [results, Tryd.results17, go_sem, k0, k1, f0, f1, hs6]) rfl hb
                    · have g1 : (zs.length : Int) ≤ 256 := by omega
                      have HZ2 := Lib.hid (show val zs = (decVal (d.data.toList.take (k + 1)) : Int) by rw [hZ.out.2.2, hT2.out.2])
                      go_wp2
                      go_roundw
                      case rel => exact ⟨k + 1, zs, A2, c2, rfl, by go_num, by omega, l2, m2, by omega, f2, hbw2, Lib.hid ⟨hZ.out.1, hZ.out.2.1, HZ2.out⟩⟩
                      case measure => simp [intOf]; omega
                · have h1 : val ms = (decVal d.data.toList : Int) := by
                    have h1 := hT.out.2.2
                    rwa [List.take_of_length_le (by simp; omega)] at h1
                  have hk0 := HS.out ms hT.out.1 hT.out.2.1 h1 hm
                  have hv : valI ng ms = X := by rw [HV.out, valI, h1]
                  have hFm := made_int ng A cA ms wr hT.out.1 hf.rd lA mA (by omega) X hv
                  clear hT h1 hv HB HS
                  rw [hk0] at hR
                  have hBr : Below w.heap.size w wr := ((Below.refl _ _).alloc (Nat.le_refl _) _).trans (hbw.mono (by omega))
                  go_wp2_with fail
                  go_at_call 52
                  refine hFm.mono ?_
                  rintro e w6 h6
                  obtain ⟨A6, c6, rfl, hc6, b6⟩ := retI_can h6
                  have b7 := hbw.trans (b6.mono (by simpa using hsz))
                  have hB6 := hBr.trans (b6.mono hBr.size)
                  have k0 := (b7.cell (p := ⟨w.heap.size, 0, none⟩) (by simp)).trans (show _ = some (.bool false) by simp [go_sem])
                  have k1 := (b7.cell (p := ⟨w.heap.size, 1, none⟩) (by simp)).trans (show _ = some (.slice none 0 0) by simp [go_sem])
                  have f0 := (b7.frozen (p := ⟨w.heap.size, 0, none⟩) (by simp)).trans (show _ = false by simp [go_sem])
                  have f1 := (b7.frozen (p := ⟨w.heap.size, 1, none⟩) (by simp)).trans (show _ = false by simp [go_sem])
                  have hs6 := b7.size
                  simp at hs6
                  go_wp2
                  exact bodyPost_ret (v := .tuple #[.agg #[.bool (cb (some X)), .slice A6 (cz (some X)).length c6], .int .i64 0]) (by simp [results, Tryd.results17, go_sem, k0, k1, f0, f1, hs6]) rfl (hR _ _ ⟨_, _, rfl, (((hc6.mono (show w.heap.size + 1 ≤ _ from hsz)).setCell (p := ⟨w.heap.size, 0, none⟩) (by simp) _).setCell (p := ⟨w.heap.size, 1, none⟩) (by simp) _).mono (by omega), (hB6.setCell (p := ⟨w.heap.size, 0, none⟩) (by simp) _).setCell (p := ⟨w.heap.size, 1, none⟩) (by simp) _⟩)
end Go.Proofs.YtegdbcnloodljaaDoor
