/- Joined by a program: Shelf, NdW, Nd1. -/
import Derived.Test.YtjefhdlncikhmaaGreatDoorPT01
namespace Go.Proofs
set_option linter.unusedVariables false
set_option linter.unusedSimpArgs false
set_option maxRecDepth 1000000
set_option maxHeartbeats 16000000
section
open Go.Shelf
def Tryz.lays169_ren : Go.Shelf.Ren := ⟨fun | 169 => 32 | n => n, fun | 70 => 54 | 9 => 9 | 0 => 0 | 72 => 56 | 37 => 40 | 127 => 74 | 3 => 3 | 5 => 5 | n => n, fun | n => n⟩
theorem Tryz.lays169 : Go.Proofs.Lays.n169 Tryz.prog Tryz.lays169_ren := {
  mixed := by kernel_rfl
  f169 := Tryz.func32.trans (congrArg some (by kernel_rfl))
  t0 := Tryz.underlying0
  a0 := Tryz.isAgg0
  z0 := Tryz.sizeOf0
  v0 := Tryz.zeroValue0
  t3 := Tryz.underlying3
  a3 := Tryz.isAgg3
  z3 := Tryz.sizeOf3
  v3 := Tryz.zeroValue3
  t9 := Tryz.underlying9
  a9 := Tryz.isAgg9
  z9 := Tryz.sizeOf9
  v9 := Tryz.zeroValue9
  t37 := Tryz.underlying40
  a37 := Tryz.isAgg40
  z37 := Tryz.sizeOf40
  v37 := Tryz.zeroValue40
  t70 := Tryz.underlying54
  a70 := Tryz.isAgg54
  z70 := Tryz.sizeOf54
  v70 := Tryz.zeroValue54
  t72 := Tryz.underlying56
  a72 := Tryz.isAgg56
  z72 := Tryz.sizeOf56
  v72 := Tryz.zeroValue56
  t127 := Tryz.underlying74
  a127 := Tryz.isAgg74
  z127 := Tryz.sizeOf74
  v127 := Tryz.zeroValue74 }
theorem Tryz.Builder_Extra_169 : Builder.Extra Tryz.prog Tryz.lays169_ren := {
  sizeBuilder := by kernel_rfl
  liesBuilder := by kernel_rfl
  t5 := Tryz.underlying5
  a5 := Tryz.isAgg5
  z5 := Tryz.sizeOf5
  v5 := Tryz.zeroValue5
  infoByte := by kernel_rfl
  cellsByte := by kernel_rfl
  sizeByte := by kernel_rfl
  neB5 := by decide }
def Tryz.lays161_ren : Go.Shelf.Ren := ⟨fun | 161 => 190 | 231 => 212 | 227 => 213 | 233 => 214 | 235 => 215 | 228 => 225 | 197 => 226 | 151 => 227 | 260 => 234 | 152 => 235 | 137 => 237 | 119 => 238 | 224 => 239 | 225 => 240 | 217 => 242 | 266 => 243 | n => n, fun | 9 => 9 | 4 => 4 | 3 => 3 | 5 => 5 | 117 => 175 | 116 => 174 | 0 => 0 | 124 => 178 | 105 => 186 | 21 => 21 | 119 => 164 | 46 => 137 | 139 => 167 | 138 => 166 | n => n, fun | 3 => 0 | 4 => 1 | n => n⟩
theorem Tryz.lays161 : Go.Proofs.Lays.n161 Tryz.prog Tryz.lays161_ren := {
  mixed := by kernel_rfl
  f119 := Tryz.func238.trans (congrArg some (by kernel_rfl))
  f137 := Tryz.func237.trans (congrArg some (by kernel_rfl))
  f151 := Tryz.func227.trans (congrArg some (by kernel_rfl))
  f152 := Tryz.func235.trans (congrArg some (by kernel_rfl))
  f161 := Tryz.func190.trans (congrArg some (by kernel_rfl))
  f197 := Tryz.func226.trans (congrArg some (by kernel_rfl))
  f217 := Tryz.func242.trans (congrArg some (by kernel_rfl))
  f224 := Tryz.func239.trans (congrArg some (by kernel_rfl))
  f225 := Tryz.func240.trans (congrArg some (by kernel_rfl))
  f227 := Tryz.func213.trans (congrArg some (by kernel_rfl))
  f228 := Tryz.func225.trans (congrArg some (by kernel_rfl))
  f231 := Tryz.func212.trans (congrArg some (by kernel_rfl))
  f233 := Tryz.func214.trans (congrArg some (by kernel_rfl))
  f235 := Tryz.func215.trans (congrArg some (by kernel_rfl))
  f260 := Tryz.func234.trans (congrArg some (by kernel_rfl))
  f266 := Tryz.func243.trans (congrArg some (by kernel_rfl))
  t0 := Tryz.underlying0
  a0 := Tryz.isAgg0
  z0 := Tryz.sizeOf0
  v0 := Tryz.zeroValue0
  t3 := Tryz.underlying3
  a3 := Tryz.isAgg3
  z3 := Tryz.sizeOf3
  v3 := Tryz.zeroValue3
  t4 := Tryz.underlying4
  a4 := Tryz.isAgg4
  z4 := Tryz.sizeOf4
  v4 := Tryz.zeroValue4
  t5 := Tryz.underlying5
  a5 := Tryz.isAgg5
  z5 := Tryz.sizeOf5
  v5 := Tryz.zeroValue5
  t9 := Tryz.underlying9
  a9 := Tryz.isAgg9
  z9 := Tryz.sizeOf9
  v9 := Tryz.zeroValue9
  t21 := Tryz.underlying21
  a21 := Tryz.isAgg21
  z21 := Tryz.sizeOf21
  v21 := Tryz.zeroValue21
  t46 := Tryz.underlying137
  a46 := Tryz.isAgg137
  z46 := Tryz.sizeOf137
  v46 := Tryz.zeroValue137
  t105 := Tryz.underlying186
  a105 := Tryz.isAgg186
  z105 := Tryz.sizeOf186
  v105 := Tryz.zeroValue186
  t116 := Tryz.underlying174
  a116 := Tryz.isAgg174
  z116 := Tryz.sizeOf174
  t117 := Tryz.underlying175
  a117 := Tryz.isAgg175
  z117 := Tryz.sizeOf175
  v117 := Tryz.zeroValue175
  t119 := Tryz.underlying164
  a119 := Tryz.isAgg164
  z119 := Tryz.sizeOf164
  t124 := Tryz.underlying178
  a124 := Tryz.isAgg178
  z124 := Tryz.sizeOf178
  v124 := Tryz.zeroValue178
  t138 := Tryz.underlying166
  a138 := Tryz.isAgg166
  z138 := Tryz.sizeOf166
  v138 := Tryz.zeroValue166
  t139 := Tryz.underlying167
  a139 := Tryz.isAgg167
  z139 := Tryz.sizeOf167
  v139 := Tryz.zeroValue167
  g3 := by kernel_rfl
  g4 := by kernel_rfl }
open Go.RowKit in
theorem Tryz.strings_TrimLeft_one (s : ByteArray) (c : UInt8) (hc : c.toNat < 128) (w : World) :
    Calls Tryz.prog 190 #[.string s, .string ⟨#[c]⟩] w fun e w' => e = .returned (.string ⟨(Lib.trimLeftB s.data.toList c).toArray⟩) ∧ w' = w := Any.strings_TrimLeft_one Tryz.lays161 s c hc w
open Go.RowKit in
theorem Tryz.Builder_String_any_k (B b : Nat) (l : List UInt8) (w : World) (h : Lib.IsBuilderF 56 5 B b (Lib.byteCells l) w) (hBw : B ≤ w.heap.size) :
    Calls Tryz.prog 32 #[.pointer (some ⟨b, 0, none⟩)] w fun e w' => e = .returned (.string ⟨l.toArray⟩) ∧ (Lib.IsBuilderF 56 5 B b (Lib.byteCells l) w' ∧ Below B w w' ∧ Lib.OthersKept 5 (some b) w w') := Any.Builder_String_any_k Tryz.lays169 Tryz.Builder_Extra_169 B b l w h hBw
def Tryz.lays105_ren : Go.Shelf.Ren := ⟨fun | 105 => 140 | 212 => 181 | 99 => 182 | 165 => 183 | 166 => 147 | 170 => 184 | 169 => 32 | 263 => 207 | 264 => 208 | 206 => 209 | 240 => 193 | 241 => 210 | 276 => 217 | 277 => 224 | n => n, fun | 9 => 9 | 3 => 3 | 4 => 4 | 20 => 20 | 0 => 0 | 46 => 137 | 109 => 138 | 5 => 5 | 72 => 56 | 76 => 126 | 51 => 61 | 146 => 142 | 53 => 156 | 148 => 169 | 70 => 54 | 37 => 40 | 75 => 125 | 127 => 74 | 164 => 180 | 80 => 59 | n => n, fun | n => n⟩
theorem Tryz.lays105 : Go.Proofs.Lays.n105 Tryz.prog Tryz.lays105_ren := {
  mixed := by kernel_rfl
  f99 := Tryz.func182.trans (congrArg some (by kernel_rfl))
  f105 := Tryz.func140.trans (congrArg some (by kernel_rfl))
  f165 := Tryz.func183.trans (congrArg some (by kernel_rfl))
  f166 := Tryz.func147.trans (congrArg some (by kernel_rfl))
  f169 := Tryz.func32.trans (congrArg some (by kernel_rfl))
  f170 := Tryz.func184.trans (congrArg some (by kernel_rfl))
  f206 := Tryz.func209.trans (congrArg some (by kernel_rfl))
  f212 := Tryz.func181.trans (congrArg some (by kernel_rfl))
  f240 := Tryz.func193.trans (congrArg some (by kernel_rfl))
  f241 := Tryz.func210.trans (congrArg some (by kernel_rfl))
  f263 := Tryz.func207.trans (congrArg some (by kernel_rfl))
  f264 := Tryz.func208.trans (congrArg some (by kernel_rfl))
  f276 := Tryz.func217.trans (congrArg some (by kernel_rfl))
  f277 := Tryz.func224.trans (congrArg some (by kernel_rfl))
  t0 := Tryz.underlying0
  a0 := Tryz.isAgg0
  z0 := Tryz.sizeOf0
  v0 := Tryz.zeroValue0
  t3 := Tryz.underlying3
  a3 := Tryz.isAgg3
  z3 := Tryz.sizeOf3
  v3 := Tryz.zeroValue3
  t4 := Tryz.underlying4
  a4 := Tryz.isAgg4
  z4 := Tryz.sizeOf4
  v4 := Tryz.zeroValue4
  t5 := Tryz.underlying5
  a5 := Tryz.isAgg5
  z5 := Tryz.sizeOf5
  v5 := Tryz.zeroValue5
  t9 := Tryz.underlying9
  a9 := Tryz.isAgg9
  z9 := Tryz.sizeOf9
  v9 := Tryz.zeroValue9
  t20 := Tryz.underlying20
  a20 := Tryz.isAgg20
  z20 := Tryz.sizeOf20
  v20 := Tryz.zeroValue20
  t37 := Tryz.underlying40
  a37 := Tryz.isAgg40
  z37 := Tryz.sizeOf40
  v37 := Tryz.zeroValue40
  t46 := Tryz.underlying137
  a46 := Tryz.isAgg137
  z46 := Tryz.sizeOf137
  v46 := Tryz.zeroValue137
  t51 := Tryz.underlying61
  a51 := Tryz.isAgg61
  z51 := Tryz.sizeOf61
  v51 := Tryz.zeroValue61
  t53 := Tryz.underlying156
  a53 := Tryz.isAgg156
  z53 := Tryz.sizeOf156
  v53 := Tryz.zeroValue156
  t70 := Tryz.underlying54
  a70 := Tryz.isAgg54
  z70 := Tryz.sizeOf54
  v70 := Tryz.zeroValue54
  t72 := Tryz.underlying56
  a72 := Tryz.isAgg56
  z72 := Tryz.sizeOf56
  v72 := Tryz.zeroValue56
  t75 := Tryz.underlying125
  a75 := Tryz.isAgg125
  z75 := Tryz.sizeOf125
  v75 := Tryz.zeroValue125
  t76 := Tryz.underlying126
  a76 := Tryz.isAgg126
  z76 := Tryz.sizeOf126
  v76 := Tryz.zeroValue126
  t109 := Tryz.underlying138
  a109 := Tryz.isAgg138
  z109 := Tryz.sizeOf138
  v109 := Tryz.zeroValue138
  t127 := Tryz.underlying74
  a127 := Tryz.isAgg74
  z127 := Tryz.sizeOf74
  v127 := Tryz.zeroValue74
  t146 := Tryz.underlying142
  a146 := Tryz.isAgg142
  z146 := Tryz.sizeOf142
  v146 := Tryz.zeroValue142
  t148 := Tryz.underlying169
  a148 := Tryz.isAgg169
  z148 := Tryz.sizeOf169
  v148 := Tryz.zeroValue169
  t164 := Tryz.underlying180
  a164 := Tryz.isAgg180
  z164 := Tryz.sizeOf180
  v164 := Tryz.zeroValue180 }
theorem Tryz.Builder_Extra_105 : Builder.Extra Tryz.prog Tryz.lays105_ren := {
  sizeBuilder := by kernel_rfl
  liesBuilder := by kernel_rfl
  t5 := Tryz.underlying5
  a5 := Tryz.isAgg5
  z5 := Tryz.sizeOf5
  v5 := Tryz.zeroValue5
  infoByte := by kernel_rfl
  cellsByte := by kernel_rfl
  sizeByte := by kernel_rfl
  neB5 := by decide }
open Go.RowKit Go.Lib in
theorem Tryz.strings_Repeat (s : ByteArray) (c : Nat) (w : World) (hc : c ≤ 9223372036854775807) (hlen : s.size * c ≤ 140737488355328) :
    Calls Tryz.prog 140 #[.string s, .int .i64 c] w fun e w' => e = .returned (.string ⟨(Lib.repeatL s.data.toList c).toArray⟩) ∧ Below w.heap.size w w' := Any.strings_Repeat Tryz.lays105 Tryz.Builder_Extra_105 s c w hc hlen
def Tryz.lays110_ren : Go.Shelf.Ren := ⟨fun | 110 => 125 | 109 => 175 | n => n, fun | 31 => 111 | 9 => 9 | 4 => 4 | 3 => 3 | 0 => 0 | n => n, fun | n => n⟩
theorem Tryz.lays110 : Go.Proofs.Lays.n110 Tryz.prog Tryz.lays110_ren := {
  mixed := by kernel_rfl
  f109 := Tryz.func175.trans (congrArg some (by kernel_rfl))
  f110 := Tryz.func125.trans (congrArg some (by kernel_rfl))
  t0 := Tryz.underlying0
  a0 := Tryz.isAgg0
  z0 := Tryz.sizeOf0
  v0 := Tryz.zeroValue0
  t3 := Tryz.underlying3
  a3 := Tryz.isAgg3
  z3 := Tryz.sizeOf3
  v3 := Tryz.zeroValue3
  t4 := Tryz.underlying4
  a4 := Tryz.isAgg4
  z4 := Tryz.sizeOf4
  v4 := Tryz.zeroValue4
  t9 := Tryz.underlying9
  a9 := Tryz.isAgg9
  z9 := Tryz.sizeOf9
  v9 := Tryz.zeroValue9
  t31 := Tryz.underlying111
  a31 := Tryz.isAgg111
  z31 := Tryz.sizeOf111
  v31 := Tryz.zeroValue111 }
open Go.Lib in
theorem Tryz.slices_Contains_string (b off n c : Nat) (zs : List ByteArray) (x : ByteArray) (w : World) (hz : n ≤ zs.length) (hbig : n ≤ 9223372036854775807) (hc : ∀ j, j < zs.length → w.cell? ⟨b, off + j, none⟩ = some (.string (zs.getD j ByteArray.empty))) :
    Calls Tryz.prog 125 #[.slice (some ⟨b, off, none⟩) n c, .string x] w fun e w' => e = .returned (.bool (Lib.containsS (zs.take n) x)) ∧ w' = w := Any.slices_Contains_string Tryz.lays110 b off n c zs x w hz hbig hc
def Tryz.laysSlE041_f59_ren : Go.Shelf.Ren := ⟨fun | 41 => 59 | n => n, fun | 22 => 22 | 23 => 61 | 4 => 4 | n => n, fun | n => n⟩
theorem Tryz.laysSlE041_f59 : Go.Proofs.SlLaysE0.n41 Tryz.prog Tryz.laysSlE041_f59_ren := {
  mixed := by kernel_rfl
  f41 := ⟨Tryz.f59.name, by decide, Tryz.func59.trans (congrArg some (by kernel_rfl))⟩
  t4 := Tryz.underlying4
  a4 := Tryz.isAgg4
  z4 := Tryz.sizeOf4
  v4 := Tryz.zeroValue4
  t22 := Tryz.underlying22
  a22 := Tryz.isAgg22
  z22 := Tryz.sizeOf22
  v22 := Tryz.zeroValue22 }
open Go.RowKit Go.Lib in
theorem Tryz.slices_Clone (i0 : TypeInfo) (z : Value) (size bytes : Nat) (hi : Tryz.prog.info? 61 = some i0) (hz0 : i0.zero = some z) (hz1 : i0.size = size) (hz2 : i0.bytes = bytes) (hzs : z.cells.size = size) (hsz : 0 < size) (z23 : ∀ w, (Go.sizeOf 61).run Tryz.prog w = .ok size w) (b off n c : Nat) (news : List Value) (w : World) (hl : news.length = n * size) (hn : n ≤ maxLen) (hbig : n * bytes ≤ 140737488355328) (hc : ∀ j u, news[j]? = some u → w.cell? ⟨b, off + j, none⟩ = some u) (h1 : ∀ u ∈ news, u.oneCell' = true) :
    Calls Tryz.prog 59 #[.slice (some ⟨b, off, none⟩) n c] w fun e w' => ∃ v', e = .returned v' ∧ w'.ownsRow w.heap.size 61 size v' n news ∧ v' ≠ .slice none 0 0 ∧ Below w.heap.size w w' := AnyE.slices_Clone Tryz.laysSlE041_f59 i0 z size bytes hi hz0 hz1 hz2 hzs hsz z23 b off n c news w hl hn hbig hc h1
open Go.RowKit Go.Lib in
theorem Tryz.slices_Clone_nil (n c : Nat) (w : World) :
    Calls Tryz.prog 59 #[.slice none n c] w fun e w' => e = .returned (.slice none 0 0) ∧ w' = w := AnyE.slices_Clone_nil Tryz.laysSlE041_f59 n c w
end
end Go.Proofs
namespace Go.Proofs.YtjefhdlncikhmaaGreatDoor
set_option linter.unusedVariables false
set_option linter.unusedSimpArgs false
set_option maxRecDepth 1000000
set_option maxHeartbeats 16000000
section
open Go.RowKit
open List (length_append length_cons length_nil length_singleton)
theorem weights_take (l : List Nd) (k : Nat) (t : Nd) (h : l[k]? = some t) : weights (l.take (k + 1)) = weights (l.take k) + t.weight := by
 induction l generalizing k with
 | nil => simp at h
 | cons a r ih =>
  cases k with
  | zero => simp at h; subst h; simp [weights]
  | succ k =>
   rw [List.getElem?_cons_succ] at h; rw [List.take_succ_cons, List.take_succ_cons, weights, weights, ih k h]; omega
theorem weights_take_le (l : List Nd) (k : Nat) : weights (l.take k) ≤ weights l := by
 induction l generalizing k with
 | nil => simp
 | cons a r ih =>
  cases k with
  | zero => simp [weights]
  | succ k => rw [List.take_succ_cons, weights, weights]; have := ih k; omega
theorem weights_len : ∀ l : List Nd, l.length ≤ weights l
 | [] => Nat.le_refl _
 | a :: r => by rw [weights, length_cons, a.weight_eq]; have := weights_len r; omega
def WeightR (T : Nd) (left r : Int) : Prop := ((T.weight : Int) ≤ left ∧ r = T.weight) ∨ (left < T.weight ∧ left < r ∧ r ≤ T.weight)
theorem WeightR.bounds {T : Nd} {left r : Int} (h : WeightR T left r) (h0 : 0 ≤ left) : 0 ≤ r ∧ r ≤ T.weight := by
 rcases h with ⟨h1, h2⟩ | ⟨h1, h2, h3⟩
 ·omega
 ·omega
theorem weight_ok (T : Nd) : ∀ (A : Option Addr) (c : Nat) (K : Option Addr) (d : Nat) (left : Int) (w : World), NodeAt w T A c K d → T.weight ≤ 1048576 → -1099511627776 ≤ left → left ≤ 1099511627776 →
  Calls Tryz.prog 20 #[ndV T A c K d, .int .i64 left] w fun e w' => (∃ r, e = .returned (.int .i64 r) ∧ WeightR T left r) ∧ Below w.heap.size w w' := by
 induction T using Nd.ind with
 | h T ih =>
  intro A c K d left w hN hW h0 h1; have hp := hN.parts; obtain ⟨hm1, hm2, _, _, hk1, hk2, hk64, ha64, hts, hKs⟩ := hp; have hwe := T.weight_eq; have HK := Lh (fun (i : Nat) (t : Nd) (hi : T.kids[i]? = some t) => hN.kid hi); obtain ⟨own, hown⟩ : ∃ own, 1 + T.text.size + T.mag.length = own := ⟨_, rfl⟩; have hb1 := (Below.refl w.heap.size w).alloc (Nat.le_refl _) (bx T.kind T A c K d); have hbox := (cellsN_new w T A c K d 27).box; obtain ⟨c0, c1, c2, c3, c4, c5⟩ := hbox; unfold ndV; clear hKs hN; unfold maxLen at hm2 hk2; have hkw : T.kids.length ≤ 1048576 := by have := weights_len T.kids; omega
  go_enter Tryz.func20, Tryz.ntmps20; go_wp2_with fail
  generalize w.alloc (bx T.kind T A c K d) = w1 at *
  go_loopw [5, 6] (fun xv iv wr => ∃ (x : Int) (k : Nat), xv = .int .i64 x ∧ iv = .int .i64 k ∧ k ≤ T.kids.length ∧ ((x = own + weights (T.kids.take k)) ∨ (left < x ∧ x ≤ own + weights (T.kids.take k))) ∧ (own : Int) ≤ x ∧ Below w1.heap.size w1 wr) (fun _ iv _ => T.kids.length - (intOf iv).toNat)
  case atStart => exact ⟨own, 0, by rw [← hown]; simp, rfl, Nat.zero_le _, .inl (by simp [weights]), Int.le_refl _, Below.refl _ _⟩
  case round =>
   obtain ⟨x, k, rfl, rfl, hk, hx, hox, hbr⟩ := hrel; have hwt := weights_take_le T.kids k; have hx1 : x ≤ own + weights (T.kids.take k) := by omega
   have hx2 : x ≤ 1048576 := by omega
   have hx3 : 0 ≤ x := by omega
   have d5 := cLt hbr c5; have hwl : w.heap.size < wr.heap.size := Nat.lt_of_lt_of_le (blt c5) hbr.size; have hbw := hb1.trans (hbr.mono hb1.size)
   by_cases hkl : k < T.kids.length
   ·have o1 : decide ((k : Int) < (T.kids.length : Int)) = true := dTo; have o2 : decide (k < T.kids.length) = true := dTr hkl
    by_cases hxl : x ≤ left
    ·have o3 : decide (x ≤ left) = true := dTr hxl; obtain ⟨t, ht⟩ : ∃ t, T.kids[k]? = some t := ⟨_, List.getElem?_eq_getElem hkl⟩; obtain ⟨b, off, A', c', K', d', hK, hC, hNt⟩ := HK.out k t ht; subst hK; have htm := mog ht; have htw := T.weight_kid htm; obtain ⟨n0, n1, n2, n3, n4, n5⟩ := hC.later hbw; have hwk := weights_take T.kids k t ht; have HI := Lh (fun W hW => ih t htm A' c' K' d' (left - x) W (hNt.later hW) lq29 lq29 lq29); clear hC hNt ht htm
     go_wp2_with (go_at_call 20; refine (HI.out _ hbw).mono ?_; rintro e w3 ⟨⟨r, rfl, hr⟩, hb3⟩; have hr0 := hr.bounds lq29; obtain ⟨hr1, hr2⟩ := hr0)
     go_roundw
     case rel =>
      refine ⟨x + r, k + 1, by go_num, by go_num, by omega, ?_, by omega, hbr.trans (hb3.mono hbr.size)⟩
      rw [hwk]
      rcases hr with ⟨h1, h2⟩ | ⟨h1, h2, h3⟩
      ·rcases hx with hx | hx
       ·left; omega
       ·omega
      ·right; omega
     case measure => simp [intOf]; omega
    ·have o3 : decide (x ≤ left) = false := dFa hxl; go_wp2_with fail; go_ret
     refine ⟨⟨x, rfl, .inr ⟨?_, by omega, ?_⟩⟩, hbw⟩ <;> omega
   ·have o1 : decide ((k : Int) < (T.kids.length : Int)) = false := dFo; have o2 : decide (k < T.kids.length) = false := dFa hkl; have hke : T.kids.take k = T.kids := List.take_of_length_le lq29; rw [hke] at hx hx1; clear hwt hke; go_wp2_with fail; go_ret
    refine ⟨⟨x, rfl, ?_⟩, hbw⟩
    unfold WeightR
    rcases hx with hx | hx <;> omega
theorem depths_take (l : List Nd) (k : Nat) (t : Nd) (h : l[k]? = some t) : depths (l.take (k + 1)) = max (depths (l.take k)) t.depth := by
 induction l generalizing k with
 | nil => simp at h
 | cons a r ih =>
  cases k with
  | zero => simp at h; subst h; simp [depths]
  | succ k =>
   rw [List.getElem?_cons_succ] at h; rw [List.take_succ_cons, List.take_succ_cons, depths, depths, ih k h]; omega
theorem counts_take (l : List Nd) (k : Nat) (t : Nd) (h : l[k]? = some t) : counts (l.take (k + 1)) = counts (l.take k) + t.count := by
 induction l generalizing k with
 | nil => simp at h
 | cons a r ih =>
  cases k with
  | zero => simp at h; subst h; simp [counts]
  | succ k =>
   rw [List.getElem?_cons_succ] at h; rw [List.take_succ_cons, List.take_succ_cons, counts, counts, ih k h]; omega
theorem counts_take_le (l : List Nd) (k : Nat) : counts (l.take k) ≤ counts l := by
 induction l generalizing k with
 | nil => simp
 | cons a r ih =>
  cases k with
  | zero => simp [counts]
  | succ k => rw [List.take_succ_cons, counts, counts]; have := ih k; omega
mutual
theorem Nd.count_weight : ∀ T : Nd, T.count ≤ T.weight
 | .mk _ _ t _ m ks => by rw [Nd.count, Nd.weight]; have := counts_weights ks; omega
theorem counts_weights : ∀ l : List Nd, counts l ≤ weights l
 | [] => Nat.le_refl _
 | t :: r => by rw [counts, weights]; have := Nd.count_weight t; have := counts_weights r; omega
end
mutual
theorem Nd.depth_count : ∀ T : Nd, T.depth ≤ T.count
 | .mk _ _ t _ m ks => by rw [Nd.count, Nd.depth]; have := depths_counts ks; omega
theorem depths_counts : ∀ l : List Nd, depths l ≤ counts l
 | [] => Nat.le_refl _
 | t :: r => by rw [counts, depths]; have := Nd.depth_count t; have := depths_counts r; omega
end
theorem refFull_ok (T : Nd) : ∀ (A : Option Addr) (c : Nat) (K : Option Addr) (d : Nat) (w : World), NodeAt w T A c K d → T.weight ≤ 1048576 →
  Calls Tryz.prog 15 #[ndV T A c K d] w fun e w' => e = .returned (.int .i64 T.depth) ∧ Below w.heap.size w w' := by
 induction T using Nd.ind with
 | h T ih =>
  intro A c K d w hN hW; have hde := T.depth_eq; have hdc : depths T.kids ≤ 1048576 := by have := T.depth_count; have := T.count_weight; omega
  obtain ⟨hm1, hm2, hrm, hw32, hk1, hk2, ⟨hk64a, hk64b⟩, ⟨ha64a, ha64b⟩, hts, hKs, HK⟩ := hN.hd; obtain ⟨hb1, c0, c1, c2, c3, c4, c5⟩ := bxn w T A c K d; unfold ndV; clear hKs hN; go_enter Tryz.func15, Tryz.ntmps15; go_wp2_with fail
  generalize w.alloc (bx T.kind T A c K d) = w1 at *
  go_loopw [3, 4] (fun xv iv wr => ∃ (x k : Nat), xv = .int .i64 x ∧ iv = .int .i64 k ∧ k ≤ T.kids.length ∧ Hid (x = depths (T.kids.take k)) ∧ x ≤ depths T.kids ∧ Below w1.heap.size w1 wr) (fun _ iv _ => T.kids.length - (intOf iv).toNat)
  case atStart => exact ⟨0, 0, rfl, rfl, Nat.zero_le _, Lh (by simp [depths]), Nat.zero_le _, Below.refl _ _⟩
  case round =>
   obtain ⟨x, k, rfl, rfl, hk, hx, hxd, hbr⟩ := hrel; have d5 := cLt hbr c5; have hwl : w.heap.size < wr.heap.size := Nat.lt_of_lt_of_le (blt c5) hbr.size; have hbw := hb1.trans (hbr.mono hb1.size)
   by_cases hkl : k < T.kids.length
   ·have o1 : decide ((k : Int) < (T.kids.length : Int)) = true := dTo; have o2 : decide (k < T.kids.length) = true := dTr hkl; obtain ⟨t, ht⟩ : ∃ t, T.kids[k]? = some t := ⟨_, List.getElem?_eq_getElem hkl⟩; obtain ⟨b, off, A', c', K', d', hK, hC, hNt⟩ := HK.out k t ht; subst hK; have htm := mog ht; obtain ⟨n0, n1, n2, n3, n4, n5⟩ := hC.later hbw; have htw := T.weight_kid htm; have hdt := depths_take T.kids k t ht; have hdl := depths_le htm; have HI := Lh (fun W hW => ih t htm A' c' K' d' W (hNt.later hW) lq29); clear hC hNt ht htm
    by_cases hg : x < t.depth
    ·have g1 : decide ((x : Int) < (t.depth : Int)) = true := dTo; have g2 : decide (x < t.depth) = true := dTr hg; go_wp2_with (go_at_call 15; refine (HI.out _ hbw).mono ?_; rintro e w3 ⟨rfl, hb3⟩)
     go_roundw
     case rel => exact ⟨t.depth, k + 1, rfl, by go_num, by omega, Lh (by rw [hdt, ← hx.out]; omega), hdl, hbr.trans (hb3.mono hbr.size)⟩
     case measure => simp [intOf]; omega
    ·have g1 : decide ((x : Int) < (t.depth : Int)) = false := dFo; have g2 : decide (x < t.depth) = false := dFa hg; go_wp2_with (go_at_call 15; refine (HI.out _ hbw).mono ?_; rintro e w3 ⟨rfl, hb3⟩)
     go_roundw
     case rel => exact ⟨x, k + 1, rfl, by go_num, by omega, Lh (by rw [hdt, ← hx.out]; omega), hxd, hbr.trans (hb3.mono hbr.size)⟩
     case measure => simp [intOf]; omega
   ·have o1 : decide ((k : Int) < (T.kids.length : Int)) = false := dFo; have o2 : decide (k < T.kids.length) = false := dFa hkl; have hke : T.kids.take k = T.kids := List.take_of_length_le lq29; rw [hke] at hx; have hxe := hx.out; go_wp2_with fail; go_ret; exact ⟨by rw [hde, ← hxe]; simp, hbw⟩
theorem refSize_ok (T : Nd) : ∀ (A : Option Addr) (c : Nat) (K : Option Addr) (d : Nat) (w : World), NodeAt w T A c K d → T.weight ≤ 1048576 →
  Calls Tryz.prog 16 #[ndV T A c K d] w fun e w' => e = .returned (.int .i64 T.count) ∧ Below w.heap.size w w' := by
 induction T using Nd.ind with
 | h T ih =>
  intro A c K d w hN hW; have hde := T.count_eq; have hdc : counts T.kids ≤ 1048576 := by have := T.count_weight; omega
  obtain ⟨hm1, hm2, hrm, hw32, hk1, hk2, ⟨hk64a, hk64b⟩, ⟨ha64a, ha64b⟩, hts, hKs, HK⟩ := hN.hd; obtain ⟨hb1, c0, c1, c2, c3, c4, c5⟩ := bxn w T A c K d; unfold ndV; clear hKs hN; go_enter Tryz.func16, Tryz.ntmps16; go_wp2_with fail
  generalize w.alloc (bx T.kind T A c K d) = w1 at *
  go_loopw [3, 4] (fun xv iv wr => ∃ (x k : Nat), xv = .int .i64 x ∧ iv = .int .i64 k ∧ k ≤ T.kids.length ∧ x = counts (T.kids.take k) + 1 ∧ Below w1.heap.size w1 wr) (fun _ iv _ => T.kids.length - (intOf iv).toNat)
  case atStart => exact ⟨1, 0, rfl, rfl, Nat.zero_le _, by simp [counts], Below.refl _ _⟩
  case round =>
   obtain ⟨x, k, rfl, rfl, hk, hx, hbr⟩ := hrel; have hcl := counts_take_le T.kids k; have d5 := cLt hbr c5; have hwl : w.heap.size < wr.heap.size := Nat.lt_of_lt_of_le (blt c5) hbr.size; have hbw := hb1.trans (hbr.mono hb1.size)
   by_cases hkl : k < T.kids.length
   ·have o1 : decide ((k : Int) < (T.kids.length : Int)) = true := dTo; have o2 : decide (k < T.kids.length) = true := dTr hkl; obtain ⟨t, ht⟩ : ∃ t, T.kids[k]? = some t := ⟨_, List.getElem?_eq_getElem hkl⟩; obtain ⟨b, off, A', c', K', d', hK, hC, hNt⟩ := HK.out k t ht; subst hK; have htm := mog ht; obtain ⟨n0, n1, n2, n3, n4, n5⟩ := hC.later hbw; have htw := T.weight_kid htm; have hdt := counts_take T.kids k t ht; have hdl := counts_le htm; have hx2 : x ≤ 1048577 := by omega
    have HX := Lh hx; have HI := Lh (fun W hW => ih t htm A' c' K' d' W (hNt.later hW) lq29); clear hC hNt ht htm hx; go_wp2_with (go_at_call 16; refine (HI.out _ hbw).mono ?_; rintro e w3 ⟨rfl, hb3⟩)
    go_roundw
    case rel => exact ⟨x + t.count, k + 1, by go_num, by go_num, by omega, by rw [hdt, HX.out]; omega, hbr.trans (hb3.mono hbr.size)⟩
    case measure => simp [intOf]; omega
   ·have o1 : decide ((k : Int) < (T.kids.length : Int)) = false := dFo; have o2 : decide (k < T.kids.length) = false := dFa hkl; have hke : T.kids.take k = T.kids := List.take_of_length_le lq29; rw [hke, ← hde] at hx; clear hcl hke; subst hx; go_wp2_with fail; go_ret; exact ⟨rfl, hbw⟩
theorem refDeep_ok (T : Nd) : ∀ (A : Option Addr) (c : Nat) (K : Option Addr) (d : Nat) (m : Nat) (w : World), NodeAt w T A c K d → 1 ≤ m → m ≤ 1000 →
  Calls Tryz.prog 48 #[ndV T A c K d, .int .i64 m] w fun e w' => e = .returned (.int .i64 (min T.depth m : Nat)) ∧ Below w.heap.size w w' := by
 induction T using Nd.ind with
 | h T ih =>
  intro A c K d m w hN hm0 hm3; have hde := T.depth_eq; obtain ⟨hm1, hm2, hrm, hw32, hk1, hk2, ⟨hk64a, hk64b⟩, ⟨ha64a, ha64b⟩, hts, hKs, HK⟩ := hN.hd; obtain ⟨hb1, c0, c1, c2, c3, c4, c5⟩ := bxn w T A c K d; unfold ndV; clear hKs hN; go_enter Tryz.func48, Tryz.ntmps48; go_wp2_with fail
  generalize w.alloc (bx T.kind T A c K d) = w1 at *
  go_loopw [5, 6] (fun xv iv wr => ∃ (x k : Nat), xv = .int .i64 x ∧ iv = .int .i64 k ∧ k ≤ T.kids.length ∧ Hid (x = min (depths (T.kids.take k)) (m - 1)) ∧ x ≤ 1000 ∧ Below w1.heap.size w1 wr) (fun _ iv _ => T.kids.length - (intOf iv).toNat)
  case atStart => exact ⟨0, 0, rfl, rfl, Nat.zero_le _, Lh (by simp [depths]), Nat.zero_le _, Below.refl _ _⟩
  case round =>
   obtain ⟨x, k, rfl, rfl, hk, hx, hxd, hbr⟩ := hrel; have d5 := cLt hbr c5; have hwl : w.heap.size < wr.heap.size := Nat.lt_of_lt_of_le (blt c5) hbr.size; have hbw := hb1.trans (hbr.mono hb1.size)
   by_cases hkl : k < T.kids.length ∧ 1 < m
   ·obtain ⟨hkl, hm1'⟩ := hkl; have o1 : decide ((k : Int) < (T.kids.length : Int)) = true := dTo; have o2 : decide (k < T.kids.length) = true := dTr hkl; have o3 : decide (1 < (m : Int)) = true := dTo; have o4 : decide (1 < m) = true := dTr hm1'; obtain ⟨t, ht⟩ : ∃ t, T.kids[k]? = some t := ⟨_, List.getElem?_eq_getElem hkl⟩; obtain ⟨b, off, A', c', K', d', hK, hC, hNt⟩ := HK.out k t ht; subst hK; have htm := mog ht; obtain ⟨n0, n1, n2, n3, n4, n5⟩ := hC.later hbw; have hdt := depths_take T.kids k t ht; have HI := Lh (fun W hW => ih t htm A' c' K' d' (m - 1) W (hNt.later hW) lq29 lq29)
    rw [show ((m - 1 : Nat) : Int) = (m : Int) - 1 by omega] at HI; obtain ⟨y, hy⟩ : ∃ y : Nat, min t.depth (m - 1) = y := ⟨_, rfl⟩; rw [hy] at HI; have hyd : y ≤ 1000 := by omega
    have HY := Lh hy; clear hC hNt ht htm hy
    by_cases hg : x < y
    ·have g1 : decide ((x : Int) < (y : Int)) = true := dTo; have g2 : decide (x < y) = true := dTr hg; go_wp2_with (go_at_call 48; refine (HI.out _ hbw).mono ?_; rintro e w3 ⟨rfl, hb3⟩)
     go_roundw
     case rel => exact ⟨y, k + 1, rfl, by go_num, by omega, Lh (by rw [hdt]; have := hx.out; have := HY.out; omega), hyd, hbr.trans (hb3.mono hbr.size)⟩
     case measure => simp [intOf]; omega
    ·have g1 : decide ((x : Int) < (y : Int)) = false := dFo; have g2 : decide (x < y) = false := dFa hg; go_wp2_with (go_at_call 48; refine (HI.out _ hbw).mono ?_; rintro e w3 ⟨rfl, hb3⟩)
     go_roundw
     case rel => exact ⟨x, k + 1, rfl, by go_num, by omega, Lh (by rw [hdt]; have := hx.out; have := HY.out; omega), hxd, hbr.trans (hb3.mono hbr.size)⟩
     case measure => simp [intOf]; omega
   ·have hend : x + 1 = min T.depth m := by
     have h1 := hx.out
     by_cases h2 : k < T.kids.length
     ·omega
     ·rw [List.take_of_length_le lq29] at h1; omega
    have hend2 : (x : Int) + 1 = ((min T.depth m : Nat) : Int) := by omega
    rcases (by omega : ¬ k < T.kids.length ∨ (k < T.kids.length ∧ ¬ 1 < m)) with hkl | ⟨hkl, hm1'⟩
    ·have o1 : decide ((k : Int) < (T.kids.length : Int)) = false := dFo; have o2 : decide (k < T.kids.length) = false := dFa hkl; have HE := Lh hend2; clear hend hend2 hde; go_wp2_with fail; go_ret; exact ⟨by rw [← HE.out]; rfl, hbw⟩
    ·have o1 : decide ((k : Int) < (T.kids.length : Int)) = true := dTo; have o2 : decide (k < T.kids.length) = true := dTr hkl; have o3 : decide (1 < (m : Int)) = false := dFo; have o4 : decide (1 < m) = false := dFa hm1'; have HE := Lh hend2; clear hend hend2 hde; go_wp2_with fail; go_ret; exact ⟨by rw [← HE.out]; rfl, hbw⟩
theorem large_ok (T : Nd) (A : Option Addr) (c : Nat) (K : Option Addr) (d : Nat) (w : World) (hN : NodeAt w T A c K d) (hW : T.weight ≤ 1048576) :
  Calls Tryz.prog 7 #[ndV T A c K d] w fun e w' => e = .returned (.bool (decide (3000 < T.weight))) ∧ Below w.heap.size w w' := by
 have hN2 := fun o => hN.later ((Below.refl w.heap.size w).alloc (Nat.le_refl _) o)
 obtain ⟨hm1, hm2, hrm, hw32, hk1, hk2, ⟨hk64a, hk64b⟩, ⟨ha64a, ha64b⟩, hts, hKs, HK⟩ := hN.hd
 obtain ⟨hb1, c0, c1, c2, c3, c4, c5⟩ := bxn w T A c K d
 unfold ndV
 clear hKs hN
 go_enter Tryz.func7, Tryz.ntmps7
 go_wp2_with (go_at_call 20; refine (weight_ok T A c K d 3000 _ (hN2 _) hW lq28 lq28).mono ?_; rintro e w3 ⟨⟨r, rfl, hr⟩, hb3⟩)
 go_ret
 have hd : decide ((3000 : Int) < r) = decide (3000 < T.weight) := by
  rcases hr with ⟨h1, h2⟩ | ⟨h1, h2, h3⟩
  ·rw [dFo, dFo]
  ·rw [dTo, dTo]
 exact ⟨by rw [← hd]; rfl, hb1.trans (hb3.mono hb1.size)⟩
theorem refDepth_ok (T : Nd) (A : Option Addr) (c : Nat) (K : Option Addr) (d : Nat) (w : World) (hN : NodeAt w T A c K d) :
  Calls Tryz.prog 33 #[ndV T A c K d] w fun e w' => e = .returned (.int .i64 (min T.depth 302 : Nat)) ∧ Below w.heap.size w w' := by
 have hN2 := fun o => hN.later ((Below.refl w.heap.size w).alloc (Nat.le_refl _) o)
 obtain ⟨hm1, hm2, hrm, hw32, hk1, hk2, ⟨hk64a, hk64b⟩, ⟨ha64a, ha64b⟩, hts, hKs, HK⟩ := hN.hd
 obtain ⟨hb1, c0, c1, c2, c3, c4, c5⟩ := bxn w T A c K d
 unfold ndV
 clear hKs hN
 go_enter Tryz.func33, Tryz.ntmps33
 go_wp2_with (go_at_call 48; refine (refDeep_ok T A c K d 302 _ (hN2 _) lq28 lq28).mono ?_; rintro e w3 ⟨rfl, hb3⟩)
 go_ret
 exact ⟨rfl, hb1.trans (hb3.mono hb1.size)⟩
end
end Go.Proofs.YtjefhdlncikhmaaGreatDoor
