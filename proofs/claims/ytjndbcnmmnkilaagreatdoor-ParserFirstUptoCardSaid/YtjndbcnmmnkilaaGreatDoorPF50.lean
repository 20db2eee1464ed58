/- Joined by a program: Awk, LFst, Tabs, LiftK. -/
import Derived.Test.YtjndbcnmmnkilaaGreatDoorPF49
namespace Go.Proofs.YtjndbcnmmnkilaaGreatDoor
set_option linter.unusedVariables false
set_option linter.unusedSimpArgs false
set_option maxRecDepth 1000000
set_option maxHeartbeats 16000000
section
open Go.RowKit
open List (length_append length_cons length_nil length_singleton)
def awS : ByteArray := ⟨#[97, 32, 61, 32, 98]⟩
def awL : List Tk := [⟨1, [97], 0⟩, ⟨5, [61], 2⟩, ⟨1, [98], 4⟩, ⟨6, [], 5⟩, ⟨9, [], 5⟩]
def awP : Nd := .mk 1 0 ⟨#[]⟩ false [] [.mk 2 0 ⟨#[]⟩ false [] [.mk 4 0 ⟨#[]⟩ false [] [.mk 31 0 ⟨#[97]⟩ false [] [], .mk 31 4 ⟨#[98]⟩ false [] []]]]
theorem aw_lex : lexR awS.data.toList lexS = .ok awL := by rfl
theorem aw_ok : ∀ t ∈ awL.map tokOf, OkT t := by
 intro t ht
 simp only [awL, tokOf, List.map_cons, List.map_nil, List.mem_cons, List.not_mem_nil, or_false] at ht
 rcases ht with rfl | rfl | rfl | rfl | rfl <;> exact ⟨⟨by decide, by decide⟩, ⟨by decide, by decide⟩, by decide⟩
theorem aw_parse : parseF nOf goodB mOf 200 (awL.map tokOf) = .ok awP [⟨9, ⟨#[]⟩, 5⟩] := by rfl
theorem aw_ne : modQ (Pp nOf goodB mOf (endAt (awL.map tokOf)) 200) (awL.map tokOf) ≠ .oof := by
 have h := aw_parse
 unfold parseF at h
 intro e
 rw [e] at h
 cases h
theorem aw_smk : awP.smk = true := by rfl
theorem aw_depth : awP.depth = 4 := by rfl
theorem aw_weight : awP.weight ≤ 1000 := by decide
theorem aw_chk : chk awP = 0 := by
 unfold chk
 rw [if_pos ⟨by rw [aw_depth]; omega, rfl, by rfl⟩]
theorem aw_prt : prt awP = ⟨#[97, 32, 61, 32, 98, 10]⟩ := by
 unfold prt
 rw [if_pos aw_chk]
 rfl
theorem awake15_ok (w : World) (hT : Lib.Utf8Tabs 0 1 w) : Calls Tryz.prog 9 #[] w fun E w' => E = .returned (.bool true) ∧ Below w.heap.size w w' := by
 have kc := Lib.run_convert_bytes_const (P := Tryz.prog) w 22 5 #[.int .u8 97, .int .u8 32, .int .u8 61, .int .u8 32, .int .u8 98] 5 5 Tryz.underlying22 Tryz.underlying5
 obtain ⟨W1, hW1⟩ : ∃ W1, w.alloc (.cells #[.int .u8 97, .int .u8 32, .int .u8 61, .int .u8 32, .int .u8 98] 5 (5, 6)) = W1 := ⟨_, rfl⟩
 have hb1 : Below w.heap.size w W1 := by rw [← hW1]; exact (Below.refl _ _).alloc (Nat.le_refl _) _
 have hB : BsAt W1 (some ⟨w.heap.size, 0, none⟩) awS := by
  rw [← hW1]; intro i hi; have hi5 : i < 5 := hi
  match i, hi5 with
  | 0, _ => exact ⟨w.heap.size, 0, 97, rfl, rfl, World.cell?_alloc_mark w _ _ _ _⟩
  | 1, _ => exact ⟨w.heap.size, 0, 32, rfl, rfl, World.cell?_alloc_mark w _ _ _ _⟩
  | 2, _ => exact ⟨w.heap.size, 0, 61, rfl, rfl, World.cell?_alloc_mark w _ _ _ _⟩
  | 3, _ => exact ⟨w.heap.size, 0, 32, rfl, rfl, World.cell?_alloc_mark w _ _ _ _⟩
  | 4, _ => exact ⟨w.heap.size, 0, 98, rfl, rfl, World.cell?_alloc_mark w _ _ _ _⟩
 have hS := Lh (source_good deps cst 200 awS (some ⟨w.heap.size, 0, none⟩) 5 W1 hB lq16 lq16 lq16 (Utf8Tabs_below hT hb1) awL aw_lex aw_ok lq16 aw_ne)
 rw [aw_parse] at hS
 have hs : awS.size = 5 := rfl
 rw [hs] at hS
 have hkc : (Array.size #[Value.int .u8 97, .int .u8 32, .int .u8 61, .int .u8 32, .int .u8 98], Array.size #[Value.int .u8 97, .int .u8 32, .int .u8 61, .int .u8 32, .int .u8 98] + 1) = (5, 6) := rfl
 rw [hkc, hW1] at kc
 clear hB hs hkc
 go_enter Tryz.func9, Tryz.ntmps9
 go_wp2_with fail
 go_at_call 10
 refine hS.out.mono ?_
 intro E w2 hE
 clear hS
 rcases hE with ⟨c, p, he, _⟩ | ⟨T, r, A1, c1, K1, d1, he, rfl, hF, hq⟩
 ·cases he
 have hTa : awP = T := by injection he
 have hc0 : chk T = 0 := hTa ▸ aw_chk
 have hp0 : prt T = ⟨#[97, 32, 61, 32, 98, 10]⟩ := hTa ▸ aw_prt
 have hsm : T.smk = true := hTa ▸ aw_smk
 have hdp : T.depth = 4 := hTa ▸ aw_depth
 have hwt : T.weight ≤ 1000 := hTa ▸ aw_weight
 have hb2 := hb1.trans (hq.mono hb1.size)
 have hN2 := hF.now
 clear he hTa hF hq hb1
 unfold ndV
 go_upto_region 2 with fail
 have hbx := ((Below.refl w2.heap.size w2).alloc (Nat.le_refl _) (.cells #[.int .i64 T.kind, .int .i64 T.pos, .string T.text, .bool T.neg, .slice A1 T.mag.length c1, .slice K1 T.kids.length d1] 29)).alloc lq18 (.cells #[.int .i64 0, .int .i64 0] 31)
 have hn3 : ((w2.alloc (.cells #[.int .i64 T.kind, .int .i64 T.pos, .string T.text, .bool T.neg, .slice A1 T.mag.length c1, .slice K1 T.kids.length d1] 29)).alloc (.cells #[.int .i64 0, .int .i64 0] 31)).heap[w2.heap.size]? = some (.cells #[.int .i64 T.kind, .int .i64 T.pos, .string T.text, .bool T.neg, .slice A1 T.mag.length c1, .slice K1 T.kids.length d1] 29) := by rw [heap_alloc_old _ _ lq18]; exact heap_alloc_new _ _
 have hf3 : ((w2.alloc (.cells #[.int .i64 T.kind, .int .i64 T.pos, .string T.text, .bool T.neg, .slice A1 T.mag.length c1, .slice K1 T.kids.length d1] 29)).alloc (.cells #[.int .i64 0, .int .i64 0] 31)).heap[w2.heap.size + 1]? = some (.cells #[.int .i64 0, .int .i64 0] 31) := by
  have := heap_alloc_new (w2.alloc (.cells #[.int .i64 T.kind, .int .i64 T.pos, .string T.text, .bool T.neg, .slice A1 T.mag.length c1, .slice K1 T.kids.length d1] 29)) (.cells #[.int .i64 0, .int .i64 0] 31)
  simpa using this
 generalize ((w2.alloc (.cells #[.int .i64 T.kind, .int .i64 T.pos, .string T.text, .bool T.neg, .slice A1 T.mag.length c1, .slice K1 T.kids.length d1] 29)).alloc (.cells #[.int .i64 0, .int .i64 0] 31)) = w3 at *
 have hb3 := hb2.trans (hbx.mono hb2.size)
 have hN3 := hN2.later hbx
 have hz2 := (Array.getElem?_eq_some_iff.1 hn3).1
 have hCh := Lh (tCheck_ok T hsm lq17 A1 c1 K1 d1 w3 hN3 lq17 (Utf8Tabs_below hT hb3))
 have hPr := Lh (fun W (hb : Below w3.heap.size w3 W) => tPrint_ok T hsm lq17 A1 c1 K1 d1 W (hN3.later hb) lq17 (Utf8Tabs_below hT (hb3.trans (hb.mono hb3.size))))
 unfold ndV at hCh hPr
 rw [hc0] at hCh
 rw [hp0] at hPr
 obtain ⟨n0, n1, n2, n3, n4, n5⟩ := bx_cells hn3
 obtain ⟨g0, g1⟩ := bx_two2 hf3
 clear hbx hf3 hN2 hc0 hp0 hsm hdp hwt hN3 hb2
 go_wp2_with fail
 go_at_call 22
 refine hCh.out.mono ?_
 rintro E w4 ⟨rfl, hq⟩
 have hn4 := (hq.5 _ hz2).trans hn3
 obtain ⟨m0, m1, m2, m3, m4, m5⟩ := bx_cells hn4
 have hb4 := hb3.trans (hq.mono hb3.size)
 have hP4 := Lh (hPr.out w4 hq)
 clear hCh hPr n0 n1 n2 n3 n4 n5 g0 g1 hn3 hq hn4
 go_wp2_with fail
 go_at_call 23
 refine hP4.out.mono ?_
 rintro E w5 ⟨rfl, hq⟩
 clear hP4
 go_wp2_with fail
 go_ret
 exact ⟨rfl, hb4.trans (hq.mono hb4.size)⟩
theorem parserFirst_any (l : List Tok) (A : Option Addr) (C : Nat) (o : List Tok) (B : Option Addr) (C2 : Nat) (w : World) (hl : TksAt w w.heap.size A l) (hlC : l.length ≤ C) (hC1 : C ≤ maxLen) (hll : l.length ≤ 1048576) (hlw : wei l ≤ 1048576) (hlk : ∀ t ∈ l, I64 t.kind)
  (ho : TksAt w w.heap.size B o) (hoC : o.length ≤ C2) (hC22 : C2 ≤ maxLen) (hol : o.length ≤ 1048576) (how : wei o ≤ 1048576) (hok : ∀ t ∈ o, I64 t.kind)
  (hT : Lib.Utf8Tabs 0 1 w) : Calls Tryz.prog 6 #[.slice A l.length C, .slice B o.length C2] w fun E w' => E = .returned (.bool true) ∧ Below w.heap.size w w' :=
 first_any deps cst awake15_ok l A C o B C2 w hl hlC hC1 hll hlw hlk ho hoC hC22 hol how hok hT
end
section
open Go.Shelf
open List (length_append length_cons length_nil length_singleton)
def u8ren : Ren := ⟨fun n => n, fun | 5 => 5 | 119 => 196 | 138 => 198 | 139 => 199 | n => n, fun | 3 => 0 | 4 => 1 | n => n⟩
theorem u8types : U8Types Tryz.prog u8ren := ⟨Tryz.underlying5, Tryz.underlying196, by kernel_rfl, Tryz.underlying199⟩
theorem u8extra : U8Extra Tryz.prog u8ren := ⟨by kernel_rfl, by kernel_rfl, by kernel_rfl, by kernel_rfl, by kernel_rfl, by kernel_rfl, by kernel_rfl⟩
theorem firstEq : Rows.laid_unicode_utf8_first = Lib.firstData := by kernel_rfl
theorem acceptEq : (Rows.laid_unicode_utf8_acceptRanges : DataW Unit) = Lib.acceptData := by kernel_rfl
theorem tabs_of {w : World} (h : laidMet Tryz.prog [("unicode/utf8.acceptRanges", Rows.laid_unicode_utf8_acceptRanges), ("unicode/utf8.first", Rows.laid_unicode_utf8_first)] w) : Lib.Utf8Tabs 0 1 w := by
 rw [firstEq, acceptEq] at h
 exact utf8Tabs_of_readsT u8types u8extra (Lib.laidMet.reads h (.tail _ (.head _))) (Lib.laidMet.reads h (.head _))
noncomputable def laidWorld (os : Os) : World :=
 let w0 := World.holding Tryz.prog os ⟨#[], #[], []⟩
 let put (h : Array Obj) (g : Nat) (cs : Array Value) : Array Obj := h.modify g fun
  | .cells _ t frozen => .cells cs t frozen
  | o => o
 let h1 := put w0.heap 0 (Lib.firstTab.map fun z => Value.int .u8 z).toArray
 let h2 := put h1 1 ((List.range 16).flatMap fun i => [Value.int .u8 (Lib.accLo i), Value.int .u8 (Lib.accHi i)]).toArray
 { w0 with heap := h2 }
theorem laid_met (os : Os) (args : Array Value) : laidMet Tryz.prog [("unicode/utf8.acceptRanges", Rows.laid_unicode_utf8_acceptRanges), ("unicode/utf8.first", Rows.laid_unicode_utf8_first)] ((laidWorld os).forCall (fun _ _ => 0) ⟨#[], args, []⟩).memory :=
 (LaidIn.of_run (l := [("unicode/utf8.acceptRanges", Rows.laid_unicode_utf8_acceptRanges), ("unicode/utf8.first", Rows.laid_unicode_utf8_first)]) [0, 1] 8 lq15 lq15 lq15 lq15).met
end
section
open Go.ChangeShapes Go.WideShapes Go.ChangeAt Go.RowKit Go.Joins
open List (length_append length_cons length_nil length_singleton)
section
variable {H : Type} {enc : TypeId × Value → H} {w : World} {base : Nat} {spare : Nat → Bool} {held : Bool}
theorem addr_litK {w : World} {x : Addr} {v : Value} (h : w.cell? x = some v) : x = ⟨x.block, x.off, none⟩ := by
 obtain ⟨b, o, s⟩ := x
 cases s with
 | none => rfl
 | some s => simp [World.cell?] at h; split at h <;> simp at h
theorem add_zeroK (x : Addr) : x.add 0 = x := by simp [Addr.add]
theorem cells_atK {w : World} {base : Nat} {a : Addr} {n : Nat} {cs : List Value} (h : w.cells? base a n = some cs) (hn : 0 < n) : a = ⟨a.block, a.off, none⟩ ∧ cs.length = n ∧ ∀ i, i < n → w.cell? ⟨a.block, a.off + i, none⟩ = cs[i]? := by
 obtain ⟨_, h1, h2⟩ := World.cells?_some h
 obtain ⟨v, hv⟩ : ∃ v, cs[0]? = some v := ⟨_, gEo⟩
 have ha := addr_litK (x := a) (by rw [← hv, ← h2 0 hn, add_zeroK])
 refine ⟨ha, h1, fun i hi => ?_⟩
 have := h2 i hi
 rw [ha, Addr.add_lit] at this
 exact this
theorem trod_tok {n : Nat} {cs : List Value} {y : DataW H × List MemPlace} (h : DataW.trod enc Tryz.prog w base spare held n 39 cs = some y) :
  ∃ t : Tok, cs = tkC t ∧ I64 t.kind ∧ 1 + t.text.size ≤ Rows.uptoBulk y.1 := by
 cases n with
 | zero => simp [DataW.trod] at h
 | succ n =>
  obtain ⟨xs, n', hn, rfl, hl, hlen, hx⟩ := DataW.trod_struct Tryz.underlying39 h; rw [show Tryz.prog.cellsOf 39 = 3 by kernel_rfl] at hl; injection hn with hn
  subst hn
  match xs, hlen, hx with
  | [y0, y1, y2], _, hx =>
  match cs, hl with
  | [v0, v1, v2], _ =>
  have q0 : DataW.trod enc Tryz.prog w base spare held n 3 (List.take (Tryz.prog.cellsOf 3) (List.drop 0 [v0, v1, v2])) = some y0 := hx 0 _ rfl; have q1 : DataW.trod enc Tryz.prog w base spare held n 9 (List.take (Tryz.prog.cellsOf 9) (List.drop 1 [v0, v1, v2])) = some y1 := hx 1 _ rfl; have q2 : DataW.trod enc Tryz.prog w base spare held n 3 (List.take (Tryz.prog.cellsOf 3) (List.drop 2 [v0, v1, v2])) = some y2 := hx 2 _ rfl; rw [show Tryz.prog.cellsOf 3 = 1 by kernel_rfl] at q0 q2; rw [show Tryz.prog.cellsOf 9 = 1 by kernel_rfl] at q1
  obtain ⟨k, e0, r0, f0⟩ := DataW.trod_int Tryz.underlying3 q0; obtain ⟨s, e1, r1, f1⟩ := DataW.trod_string Tryz.underlying9 q1; obtain ⟨a, e2, r2, f2⟩ := DataW.trod_int Tryz.underlying3 q2; have w0 : I64 k := by
   unfold I64
   simpa [Lit.wf, IntKind.min, IntKind.max, IntKind.signed, IntKind.bits] using f0
  have e0' : v0 = .int .i64 k := by simpa using e0
  have e1' : v1 = .string s := by simpa using e1
  have e2' : v2 = .int .i64 a := by simpa using e2
  have hbs : s.size ≤ Rows.uptoBulk y1.1 := by
   rw [r1]
   simp [Rows.uptoBulk]
  refine ⟨⟨k, s, a⟩, by rw [e0', e1', e2']; rfl, w0, ?_⟩
  simp only [List.map_cons, List.map_nil, Rows.uptoBulk, Rows.uptoBulkAll]
  show 1 + s.size ≤ _
  omega
theorem toks_bulk : ∀ (l : List Tok) (ds : List (DataW H)), l.length = ds.length → (∀ (i : Nat) (t : Tok) (D : DataW H), l[i]? = some t → ds[i]? = some D → 1 + t.text.size ≤ Rows.uptoBulk D) → l.length + wei l ≤ Rows.uptoBulkAll ds
 | [], _, _, _ => Nat.zero_le _
 | t :: r, [], h, _ => by simp at h
 | t :: r, D :: ds, h, hx => by
  have := toks_bulk r ds (by simpa using h) fun i t D h1 h2 => hx (i + 1) t D h1 h2
  have h0 := hx 0 t D rfl rfl; rw [Rows.uptoBulkAll, length_cons, show wei (t :: r) = t.text.size + wei r by unfold wei; simp]
  omega
theorem trod_toks {n : Nat} {v : Value} {y : DataW H × List MemPlace} (h : DataW.trod enc Tryz.prog w base spare held n 36 [v] = some y) :
  ∃ A l c, v = .slice A l.length c ∧ l.length ≤ c ∧ c ≤ maxLen ∧ TksAt w w.heap.size A l ∧ (∀ t ∈ l, I64 t.kind) ∧ l.length + wei l ≤ Rows.uptoBulk y.1 := by
 rcases DataW.trod_slice Tryz.underlying36 h with ⟨hv, hy⟩ | ⟨ad, len, cap, elems, rest, n4, hn4, hv, hy, _, hlc, hcm, hle, hel, _, _⟩
 ·exact ⟨none, [], 0, by simpa using hv, Nat.le_refl _, Nat.zero_le _, fun i t hi => by simp at hi, fun t ht => (by cases ht), Nat.zero_le _⟩
 ·rw [show Tryz.prog.cellsOf 39 = 3 by kernel_rfl] at hel; have had : 0 < len → ad = ⟨ad.block, ad.off, none⟩ := by
   intro h0; obtain ⟨D, hD⟩ : ∃ D, elems[0]? = some D := ⟨_, gEo⟩; have h1 := hel 0 h0; rw [hD, Option.bind_eq_some_iff] at h1; obtain ⟨cs', h2, _⟩ := h1; have := (cells_atK h2 lq16).1; rw [Nat.zero_mul, add_zeroK] at this; exact this
  have each : ∀ i, i < len → ∃ t : Tok, ∃ D, elems[i]? = some D ∧ (w.cell? ⟨ad.block, ad.off + i * 3, none⟩ = some (.int .i64 t.kind) ∧ w.cell? ⟨ad.block, ad.off + i * 3 + 1, none⟩ = some (.string t.text) ∧ w.cell? ⟨ad.block, ad.off + i * 3 + 2, none⟩ = some (.int .i64 t.pos)) ∧ ad = ⟨ad.block, ad.off, none⟩ ∧ I64 t.kind ∧ 1 + t.text.size ≤ Rows.uptoBulk D.1 := by
   intro i hi; obtain ⟨D, hD⟩ : ∃ D, elems[i]? = some D := ⟨_, gEo⟩; have h1 := hel i hi; rw [hD, Option.bind_eq_some_iff] at h1; obtain ⟨cs', h2, h3⟩ := h1; obtain ⟨t, hc, hk, hW⟩ := trod_tok h3; obtain ⟨ha, _, hcell⟩ := cells_atK h2 lq16; have had := had lq17; have hab : ad.add (i * 3) = ⟨ad.block, ad.off + i * 3, none⟩ := by
    rw [had]; exact Addr.add_lit _ _ _
   rw [hab] at hcell; rw [hc] at hcell; exact ⟨t, D, hD, ⟨hcell 0 lq16, hcell 1 lq16, hcell 2 lq16⟩, had, hk, hW⟩
  obtain ⟨f, hf⟩ : ∃ f : Nat → Tok, ∀ i, i < len → ∃ D, elems[i]? = some D ∧ (w.cell? ⟨ad.block, ad.off + i * 3, none⟩ = some (.int .i64 (f i).kind) ∧ w.cell? ⟨ad.block, ad.off + i * 3 + 1, none⟩ = some (.string (f i).text) ∧ w.cell? ⟨ad.block, ad.off + i * 3 + 2, none⟩ = some (.int .i64 (f i).pos)) ∧ ad = ⟨ad.block, ad.off, none⟩ ∧ I64 (f i).kind ∧ 1 + (f i).text.size ≤ Rows.uptoBulk D.1 := by
   classical
   refine ⟨fun i => if hi : i < len then Classical.choose (each i hi) else ⟨0, ⟨#[]⟩, 0⟩, fun i hi => ?_⟩
   simp only [dif_pos hi]; exact Classical.choose_spec (each i hi)
  have hkl : ((List.range len).map f).length = len := by simp
  have hget : ∀ (i : Nat) (t : Tok), ((List.range len).map f)[i]? = some t → i < len ∧ f i = t := fun i t hi => by
   have hil : i < len := by have := (List.getElem?_eq_some_iff.1 hi).1; omega
   exact ⟨hil, by simpa [hil] using hi⟩
  refine ⟨some ad, (List.range len).map f, cap, by rw [hkl]; simpa using hv, by omega, hcm, fun i t hi => ?_, fun t ht => ?_, ?_⟩
  ·obtain ⟨hil, rfl⟩ := hget i t hi; obtain ⟨D, _, ⟨h1, h2, h3⟩, had, _⟩ := hf i hil; exact ⟨ad.block, ad.off, by rw [← had], (show ad.block < w.heap.size from World.block_lt_of_cell? w ⟨ad.block, ad.off + i * 3, none⟩ h1), h1, h2, h3⟩
  ·obtain ⟨i, hi⟩ := List.mem_iff_getElem?.1 ht; obtain ⟨hil, rfl⟩ := hget i t hi; obtain ⟨D, _, _, _, hk, _⟩ := hf i hil; exact hk
  ·rw [hy]; have := toks_bulk ((List.range len).map f) (elems.map (·.1)) (by rw [hkl, List.length_map]; exact hle.symm) fun i t D h1 h2 => by
    obtain ⟨hil, rfl⟩ := hget i t h1; obtain ⟨D', hD', _, _, _, hb⟩ := hf i hil; rw [List.getElem?_map, hD'] at h2; injection h2 with h2
    subst h2; exact hb
   simp only [Rows.uptoBulk]
   omega
end
end
end Go.Proofs.YtjndbcnmmnkilaaGreatDoor
