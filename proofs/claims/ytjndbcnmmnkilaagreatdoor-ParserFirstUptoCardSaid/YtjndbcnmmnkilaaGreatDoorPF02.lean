/- Joined by a program: PaP. -/
import Derived.Test.YtjndbcnmmnkilaaGreatDoorPF01
namespace Go.Proofs.YtjndbcnmmnkilaaGreatDoor
set_option linter.unusedVariables false
set_option linter.unusedSimpArgs false
set_option maxRecDepth 1000000
set_option maxHeartbeats 16000000
section
open List (length_append length_cons length_nil length_singleton)
structure Tok where
 kind : Int
 text : ByteArray
 pos : Int
inductive Rs (α : Type) where
 | ok (a : α) (l : List Tok)
 | bad (code at_ : Int)
 | oof
def Rs.bind {α β : Type} (x : Rs α) (f : α → List Tok → Rs β) : Rs β :=
 match x with
 | .ok a l => f a l
 | .bad c a => .bad c a
 | .oof => .oof
section
variable (e : Int)
def hd : List Tok → Tok
 | [] => ⟨9, ⟨#[]⟩, e⟩
 | t :: _ => t
def isS (s : ByteArray) (l : List Tok) : Bool := (hd e l).kind == 5 && (hd e l).text == s
def isW (s : ByteArray) (l : List Tok) : Bool := (hd e l).kind == 2 && (hd e l).text == s
def isN (l : List Tok) : Bool := (hd 0 l).kind == 1
def needS (s : ByteArray) (l : List Tok) : Rs Unit := if isS e s l then .ok () l.tail else .bad 106 (hd e l).pos
def needW (s : ByteArray) (l : List Tok) : Rs Unit := if isW e s l then .ok () l.tail else .bad 106 (hd e l).pos
def needK (k : Int) (l : List Tok) : Rs Unit := if (hd e l).kind = k then .ok () l.tail else .bad 106 (hd e l).pos
end
def opsOf : Nat → List ByteArray
 | 0 => [⟨#[42]⟩, ⟨#[47, 47]⟩, ⟨#[37]⟩]
 | 1 => [⟨#[43]⟩, ⟨#[45]⟩]
 | 2 => [⟨#[38]⟩]
 | 3 => [⟨#[94]⟩]
 | _ => [⟨#[124]⟩]
def isT (n : Nd) : Bool := n.kind == 31 || n.kind == 53 || n.kind == 54
def badT : List Nd → Option Int
 | [] => none
 | n :: r => if isT n then badT r else some n.pos
def cutLast (s : ByteArray) : ByteArray := ⟨(s.data.toList.take (s.size - 1)).toArray⟩
section
variable (nameB : ByteArray → Bool) (goodB : ByteArray → Bool) (numOf : ByteArray → Option (List Int)) (e : Int)
def tokN (l : List Tok) : Rs Tok := if (hd e l).kind = 1 ∧ nameB (hd e l).text = true then .ok (hd e l) l.tail else .bad 106 (hd e l).pos
def begins (l : List Tok) : Bool := (hd e l).kind == 1 || (hd e l).kind == 3 || (hd e l).kind == 4 || isW e ⟨#[78, 111, 110, 101]⟩ l || isW e ⟨#[84, 114, 117, 101]⟩ l || isW e ⟨#[70, 97, 108, 115, 101]⟩ l || isS e ⟨#[40]⟩ l || isS e ⟨#[91]⟩ l || isS e ⟨#[123]⟩ l || isS e ⟨#[45]⟩ l || isW e ⟨#[110, 111, 116]⟩ l
end
structure Ps where
 qexpr : List Tok → Rs (Nd)
 qor : List Tok → Rs (Nd)
 qorL : Nd → List Tok → Rs (Nd)
 qand : List Tok → Rs (Nd)
 qandL : Nd → List Tok → Rs (Nd)
 qnot : List Tok → Rs (Nd)
 qcompare : List Tok → Rs (Nd)
 qrow : Nat → List Tok → Rs (Nd)
 qrowL : Nat → Nd → List Tok → Rs (Nd)
 qminus : List Tok → Rs (Nd)
 qpostfix : List Tok → Rs (Nd)
 qpostL : Nd → List Tok → Rs (Nd)
 qargs : Nat → List Nd → List Tok → Rs (List Nd)
 qexprs : List Tok → Rs (Nd)
 qrest : List Nd → List Tok → Rs (List Nd)
 qatom : List Tok → Rs (Nd)
 qround : Int → List Tok → Rs (Nd)
 qcomp : Nd → List Tok → Rs (List Nd)
 qcompL : List Nd → List Tok → Rs (List Nd)
 qsquare : Int → List Tok → Rs (Nd)
 qpair : Nd → List Tok → Rs (Nd)
 qitem : List Tok → Rs (Nd)
 qitems : List Nd → List Tok → Rs (List Nd)
 qcurly : Int → List Tok → Rs (Nd)
 qtargets : List Tok → Rs (Nd)
 qtargL : List Nd → List Tok → Rs (List Nd)
 qassign : Int → List Tok → Rs (Nd)
 qnames : List Nd → List Tok → Rs (List Nd)
 qsimple : Int → List Tok → Rs (Nd)
 qblock : List Tok → Rs (Nd)
 qstmts : Int → List Nd → List Tok → Rs (List Nd)
 qchoice : Int → List Tok → Rs (Nd)
 qparams : Bool → List Nd → List Tok → Rs (List Nd)
 qexcepts : Bool → List Nd → List Tok → Rs (List Nd)
 qstmt : List Tok → Rs (Nd)
def Ps.none : Ps := ⟨fun _ => .oof, fun _ => .oof, fun _ _ => .oof, fun _ => .oof, fun _ _ => .oof, fun _ => .oof, fun _ => .oof, fun _ _ => .oof, fun _ _ _ => .oof, fun _ => .oof, fun _ => .oof, fun _ _ => .oof, fun _ _ _ => .oof, fun _ => .oof, fun _ _ => .oof, fun _ => .oof, fun _ _ => .oof, fun _ _ => .oof, fun _ _ => .oof, fun _ _ => .oof, fun _ _ => .oof, fun _ => .oof, fun _ _ => .oof, fun _ _ => .oof, fun _ => .oof, fun _ _ => .oof, fun _ _ => .oof, fun _ _ => .oof, fun _ _ => .oof, fun _ => .oof, fun _ _ _ => .oof, fun _ _ => .oof, fun _ _ _ => .oof, fun _ _ _ => .oof, fun _ => .oof⟩
section
variable (nameB : ByteArray → Bool) (goodB : ByteArray → Bool) (numOf : ByteArray → Option (List Int)) (e : Int)
def s_expr (p : Ps) (l : List Tok) : Rs (Nd) :=
 (p.qor l).bind fun n l => if isW e ⟨#[105, 102]⟩ l then (p.qor l.tail).bind fun t l => (needW e ⟨#[101, 108, 115, 101]⟩ l).bind fun _ l => (p.qexpr l).bind fun x l => .ok (Nd.mk 44 n.pos ⟨#[]⟩ false [] [n, t, x]) l else .ok n l
def s_or (p : Ps) (l : List Tok) : Rs (Nd) :=
 (p.qand l).bind fun n l => p.qorL n l
def s_orL (p : Ps) (n : Nd) (l : List Tok) : Rs (Nd) :=
 if isW e ⟨#[111, 114]⟩ l then (p.qand l.tail).bind fun x l => p.qorL (Nd.mk 45 n.pos ⟨#[]⟩ false [] [n, x]) l else .ok n l
def s_and (p : Ps) (l : List Tok) : Rs (Nd) :=
 (p.qnot l).bind fun n l => p.qandL n l
def s_andL (p : Ps) (n : Nd) (l : List Tok) : Rs (Nd) :=
 if isW e ⟨#[97, 110, 100]⟩ l then (p.qnot l.tail).bind fun x l => p.qandL (Nd.mk 46 n.pos ⟨#[]⟩ false [] [n, x]) l else .ok n l
def s_not (p : Ps) (l : List Tok) : Rs (Nd) :=
 if isW e ⟨#[110, 111, 116]⟩ l then (p.qnot l.tail).bind fun x r => .ok (Nd.mk 47 (hd e l).pos ⟨#[]⟩ false [] [x]) r else p.qcompare l
def s_compare (p : Ps) (l : List Tok) : Rs (Nd) :=
 (p.qrow 4 l).bind fun n l => if [⟨#[61, 61]⟩, ⟨#[33, 61]⟩, ⟨#[60]⟩, ⟨#[60, 61]⟩, ⟨#[62]⟩, ⟨#[62, 61]⟩].any (fun s => isS e s l) || isW e ⟨#[105, 110]⟩ l then (p.qrow 4 l.tail).bind fun x r => .ok (Nd.mk 48 n.pos (hd e l).text false [] [n, x]) r else if isW e ⟨#[110, 111, 116]⟩ l then (needW e ⟨#[105, 110]⟩ l.tail).bind fun _ l => (p.qrow 4 l).bind fun x r => .ok (Nd.mk 48 n.pos ⟨#[110, 111, 116, 32, 105, 110]⟩ false [] [n, x]) r else if isW e ⟨#[105, 115]⟩ l then (if isW e ⟨#[110, 111, 116]⟩ l.tail then (p.qrow 4 l.tail.tail).bind fun x r => .ok (Nd.mk 48 n.pos ⟨#[105, 115, 32, 110, 111, 116]⟩ false [] [n, x]) r else (p.qrow 4 l.tail).bind fun x r => .ok (Nd.mk 48 n.pos ⟨#[105, 115]⟩ false [] [n, x]) r) else .ok n l
def s_row (p : Ps) (k : Nat) (l : List Tok) : Rs (Nd) :=
 (match k with | 0 => p.qminus l | k + 1 => p.qrow k l).bind fun n l => p.qrowL k n l
def s_rowL (p : Ps) (k : Nat) (n : Nd) (l : List Tok) : Rs (Nd) :=
 if (opsOf k).any (fun s => isS e s l) then (match k with | 0 => p.qminus l.tail | k + 1 => p.qrow k l.tail).bind fun x r => p.qrowL k (Nd.mk 49 n.pos (hd e l).text false [] [n, x]) r else .ok n l
def s_minus (p : Ps) (l : List Tok) : Rs (Nd) :=
 if isS e ⟨#[45]⟩ l then (p.qminus l.tail).bind fun x r => .ok (Nd.mk 50 (hd e l).pos ⟨#[]⟩ false [] [x]) r else p.qpostfix l
def s_postfix (p : Ps) (l : List Tok) : Rs (Nd) :=
 (p.qatom l).bind fun n l => p.qpostL n l
def s_postL (p : Ps) (n : Nd) (l : List Tok) : Rs (Nd) :=
 if isS e ⟨#[40]⟩ l then (if isS e ⟨#[41]⟩ l.tail then (needS e ⟨#[41]⟩ l.tail).bind fun _ r => p.qpostL (Nd.mk 51 n.pos ⟨#[]⟩ false [] [n]) r else (p.qargs 0 [n] l.tail).bind fun ks r => (needS e ⟨#[41]⟩ r).bind fun _ r => p.qpostL (Nd.mk 51 n.pos ⟨#[]⟩ false [] ks) r) else if isS e ⟨#[46]⟩ l then (tokN nameB e l.tail).bind fun t r => p.qpostL (Nd.mk 53 n.pos t.text false [] [n]) r else if isS e ⟨#[91]⟩ l then (p.qexprs l.tail).bind fun x r => (needS e ⟨#[93]⟩ r).bind fun _ r => p.qpostL (Nd.mk 54 n.pos ⟨#[]⟩ false [] [n, x]) r else .ok n l
def s_args (p : Ps) (st : Nat) (ks : List Nd) (l : List Tok) : Rs (List Nd) :=
 if 1 < st || (st = 1 && !(isN l && isS e ⟨#[61]⟩ l.tail) && !isS e ⟨#[42, 42]⟩ l) then .bad 106 (hd e l).pos else (if isS e ⟨#[42, 42]⟩ l then (p.qexpr l.tail).bind fun x r => .ok (2, (Nd.mk 40 (hd e l).pos ⟨#[]⟩ false [] [x])) r else if isN l && isS e ⟨#[61]⟩ l.tail then (tokN nameB e l).bind fun t r => (p.qexpr r.tail).bind fun x r => .ok (1, (Nd.mk 52 (hd e l).pos t.text false [] [x])) r else (p.qexpr l).bind fun x r => .ok (st, x) r).bind fun a r => if isS e ⟨#[44]⟩ r then (if begins e r.tail || isS e ⟨#[42, 42]⟩ r.tail then p.qargs a.1 (ks ++ [a.2]) r.tail else .ok (ks ++ [a.2]) r.tail) else .ok (ks ++ [a.2]) r
def s_exprs (p : Ps) (l : List Tok) : Rs (Nd) :=
 (p.qexpr l).bind fun n r => if isS e ⟨#[44]⟩ r then (p.qrest [n] r).bind fun ks r => .ok (Nd.mk 35 n.pos ⟨#[]⟩ false [] ks) r else .ok n r
def s_rest (p : Ps) (ks : List Nd) (l : List Tok) : Rs (List Nd) :=
 if isS e ⟨#[44]⟩ l then (if begins e l.tail then (p.qexpr l.tail).bind fun x r => p.qrest (ks ++ [x]) r else .ok ks l.tail) else .ok ks l
def s_atom (p : Ps) (l : List Tok) : Rs (Nd) :=
 match (hd e l).kind with
  | 1 => (tokN nameB e l).bind fun t r => .ok (Nd.mk 31 (hd e l).pos t.text false [] []) r
  | 3 => (match numOf (hd e l).text with | some m => .ok (Nd.mk 32 (hd e l).pos ⟨#[]⟩ false m []) l.tail | none => .bad 106 (hd e l).pos)
  | 4 => if goodB (hd e l).text then .ok (Nd.mk 33 (hd e l).pos (hd e l).text false [] []) l.tail else .bad 106 (hd e l).pos
  | _ => if isW e ⟨#[78, 111, 110, 101]⟩ l || isW e ⟨#[84, 114, 117, 101]⟩ l || isW e ⟨#[70, 97, 108, 115, 101]⟩ l then .ok (Nd.mk 34 (hd e l).pos (hd e l).text false [] []) l.tail else if isS e ⟨#[40]⟩ l then p.qround (hd e l).pos l.tail else if isS e ⟨#[91]⟩ l then p.qsquare (hd e l).pos l.tail else if isS e ⟨#[123]⟩ l then p.qcurly (hd e l).pos l.tail else .bad 106 (hd e l).pos
def s_round (p : Ps) (at_ : Int) (l : List Tok) : Rs (Nd) :=
 if isS e ⟨#[41]⟩ l then .ok (Nd.mk 35 at_ ⟨#[]⟩ false [] []) l.tail else (p.qexpr l).bind fun n r => (if isS e ⟨#[44]⟩ r then (p.qrest [n] r).bind fun ks r => .ok (Nd.mk 35 at_ ⟨#[]⟩ false [] ks) r else .ok n r).bind fun n r => (needS e ⟨#[41]⟩ r).bind fun _ r => .ok n r
def s_comp (p : Ps) (n : Nd) (l : List Tok) : Rs (List Nd) :=
 (needW e ⟨#[102, 111, 114]⟩ l).bind fun _ l => (p.qtargets l).bind fun t l => (needW e ⟨#[105, 110]⟩ l).bind fun _ l => (p.qor l).bind fun x l => p.qcompL [n, t, x] l
def s_compL (p : Ps) (ks : List Nd) (l : List Tok) : Rs (List Nd) :=
 if isW e ⟨#[105, 102]⟩ l then (p.qor l.tail).bind fun x r => p.qcompL (ks ++ [x]) r else .ok ks l
def s_square (p : Ps) (at_ : Int) (l : List Tok) : Rs (Nd) :=
 (if isS e ⟨#[93]⟩ l then .ok (Nd.mk 36 at_ ⟨#[]⟩ false [] []) l else (p.qexpr l).bind fun n r => if isW e ⟨#[102, 111, 114]⟩ r then (p.qcomp n r).bind fun ks r => .ok (Nd.mk 41 at_ ⟨#[]⟩ false [] ks) r else (p.qrest [n] r).bind fun ks r => .ok (Nd.mk 36 at_ ⟨#[]⟩ false [] ks) r).bind fun n r => (needS e ⟨#[93]⟩ r).bind fun _ r => .ok n r
def s_pair (p : Ps) (k : Nd) (l : List Tok) : Rs (Nd) :=
 (needS e ⟨#[58]⟩ l).bind fun _ l => (p.qexpr l).bind fun x l => .ok (Nd.mk 39 k.pos ⟨#[]⟩ false [] [k, x]) l
def s_item (p : Ps) (l : List Tok) : Rs (Nd) :=
 if isS e ⟨#[42, 42]⟩ l then (p.qexpr l.tail).bind fun x r => .ok (Nd.mk 40 (hd e l).pos ⟨#[]⟩ false [] [x]) r else (p.qexpr l).bind fun k r => p.qpair k r
def s_items (p : Ps) (ks : List Nd) (l : List Tok) : Rs (List Nd) :=
 if isS e ⟨#[44]⟩ l then (if begins e l.tail || isS e ⟨#[42, 42]⟩ l.tail then (p.qitem l.tail).bind fun x r => p.qitems (ks ++ [x]) r else .ok ks l.tail) else .ok ks l
def s_curly (p : Ps) (at_ : Int) (l : List Tok) : Rs (Nd) :=
 (if isS e ⟨#[125]⟩ l then .ok (Nd.mk 38 at_ ⟨#[]⟩ false [] []) l else if isS e ⟨#[42, 42]⟩ l then (p.qitem l).bind fun n r => (p.qitems [n] r).bind fun ks r => .ok (Nd.mk 38 at_ ⟨#[]⟩ false [] ks) r else (p.qexpr l).bind fun n r => if isS e ⟨#[58]⟩ r then (p.qpair n r).bind fun n r => (if isW e ⟨#[102, 111, 114]⟩ r then (p.qcomp n r).bind fun ks r => .ok (Nd.mk 43 at_ ⟨#[]⟩ false [] ks) r else (p.qitems [n] r).bind fun ks r => .ok (Nd.mk 38 at_ ⟨#[]⟩ false [] ks) r) else if isW e ⟨#[102, 111, 114]⟩ r then (p.qcomp n r).bind fun ks r => .ok (Nd.mk 42 at_ ⟨#[]⟩ false [] ks) r else (p.qrest [n] r).bind fun ks r => .ok (Nd.mk 37 at_ ⟨#[]⟩ false [] ks) r).bind fun n r => (needS e ⟨#[125]⟩ r).bind fun _ r => .ok n r
def s_targets (p : Ps) (l : List Tok) : Rs (Nd) :=
 (p.qpostfix l).bind fun n r => (p.qtargL [n] r).bind fun ks r => match badT ks with | some a => .bad 108 a | none => .ok (match ks with | [x] => x | _ => (Nd.mk 23 n.pos ⟨#[]⟩ false [] ks)) r
def s_targL (p : Ps) (ks : List Nd) (l : List Tok) : Rs (List Nd) :=
 if isS e ⟨#[44]⟩ l then (p.qpostfix l.tail).bind fun x r => p.qtargL (ks ++ [x]) r else .ok ks l
def s_assign (p : Ps) (at_ : Int) (l : List Tok) : Rs (Nd) :=
 (p.qexprs l).bind fun n r => if isS e ⟨#[61]⟩ r then (if n.kind = 35 && 2 ≤ n.kids.length && n.kids.all isT then (p.qexprs r.tail).bind fun x r => .ok (Nd.mk 5 at_ ⟨#[]⟩ false [] [Nd.mk 23 n.pos n.text n.neg n.mag n.kids, x]) r else if isT n then (p.qexprs r.tail).bind fun x r => .ok (Nd.mk 4 at_ ⟨#[]⟩ false [] [n, x]) r else .bad 108 n.pos) else if [⟨#[43, 61]⟩, ⟨#[45, 61]⟩, ⟨#[42, 61]⟩, ⟨#[47, 47, 61]⟩, ⟨#[37, 61]⟩, ⟨#[38, 61]⟩, ⟨#[124, 61]⟩, ⟨#[94, 61]⟩].any (fun s => isS e s r) then (if isT n then (p.qexprs r.tail).bind fun x q => .ok (Nd.mk 6 at_ (cutLast (hd e r).text) false [] [n, x]) q else .bad 108 n.pos) else .ok (Nd.mk 3 at_ ⟨#[]⟩ false [] [n]) r
def s_names (p : Ps) (ks : List Nd) (l : List Tok) : Rs (List Nd) :=
 (tokN nameB e l).bind fun t r => if isS e ⟨#[44]⟩ r then p.qnames (ks ++ [(Nd.mk 31 t.pos t.text false [] [])]) r.tail else .ok (ks ++ [(Nd.mk 31 t.pos t.text false [] [])]) r
def s_simple (p : Ps) (at_ : Int) (l : List Tok) : Rs (Nd) :=
 if isW e ⟨#[112, 97, 115, 115]⟩ l then .ok (Nd.mk 8 at_ ⟨#[]⟩ false [] []) l.tail else if isW e ⟨#[98, 114, 101, 97, 107]⟩ l then .ok (Nd.mk 9 at_ ⟨#[]⟩ false [] []) l.tail else if isW e ⟨#[99, 111, 110, 116, 105, 110, 117, 101]⟩ l then .ok (Nd.mk 10 at_ ⟨#[]⟩ false [] []) l.tail else if isW e ⟨#[114, 101, 116, 117, 114, 110]⟩ l then (if begins e l.tail then (p.qexprs l.tail).bind fun x r => .ok (Nd.mk 11 at_ ⟨#[]⟩ false [] [x]) r else .ok (Nd.mk 11 at_ ⟨#[]⟩ false [] [(Nd.mk 0 at_ ⟨#[]⟩ false [] [])]) l.tail) else if isW e ⟨#[114, 97, 105, 115, 101]⟩ l then (if begins e l.tail then (p.qexpr l.tail).bind fun x r => .ok (Nd.mk 12 at_ ⟨#[]⟩ false [] [x]) r else .ok (Nd.mk 12 at_ ⟨#[]⟩ false [] [(Nd.mk 0 at_ ⟨#[]⟩ false [] [])]) l.tail) else if isW e ⟨#[103, 108, 111, 98, 97, 108]⟩ l then (p.qnames [] l.tail).bind fun ks r => .ok (Nd.mk 13 at_ ⟨#[]⟩ false [] ks) r else if isW e ⟨#[110, 111, 110, 108, 111, 99, 97, 108]⟩ l then (p.qnames [] l.tail).bind fun ks r => .ok (Nd.mk 14 at_ ⟨#[]⟩ false [] ks) r else if isW e ⟨#[100, 101, 108]⟩ l then (p.qpostfix l.tail).bind fun n r => (if isT n then .ok (Nd.mk 7 at_ ⟨#[]⟩ false [] [n]) r else .bad 108 n.pos) else p.qassign at_ l
def s_block (p : Ps) (l : List Tok) : Rs (Nd) :=
 (needS e ⟨#[58]⟩ l).bind fun _ l => (needK e 6 l).bind fun _ l => (needK e 7 l).bind fun _ l => (p.qstmt l).bind fun x r => (p.qstmts 8 [x] r).bind fun ks r => .ok (Nd.mk 2 x.pos ⟨#[]⟩ false [] ks) r.tail
def s_stmts (p : Ps) (k : Int) (ks : List Nd) (l : List Tok) : Rs (List Nd) :=
 if (hd e l).kind = k then .ok ks l else (p.qstmt l).bind fun x r => p.qstmts k (ks ++ [x]) r
def s_choice (p : Ps) (at_ : Int) (l : List Tok) : Rs (Nd) :=
 (p.qexpr l).bind fun t r => (p.qblock r).bind fun b r => (if isW e ⟨#[101, 108, 105, 102]⟩ r then (p.qchoice (hd e r).pos r.tail).bind fun x q => .ok (Nd.mk 2 (hd e r).pos ⟨#[]⟩ false [] [x]) q else if isW e ⟨#[101, 108, 115, 101]⟩ r then p.qblock r.tail else .ok (Nd.mk 0 at_ ⟨#[]⟩ false [] []) r).bind fun o r => .ok (Nd.mk 15 at_ ⟨#[]⟩ false [] [t, b, o]) r
def s_params (p : Ps) (given : Bool) (ks : List Nd) (l : List Tok) : Rs (List Nd) :=
 if isS e ⟨#[42, 42]⟩ l then (tokN nameB e l.tail).bind fun t r => .ok (ks ++ [(Nd.mk 19 (hd e l).pos t.text false [] [])]) (if isS e ⟨#[44]⟩ r then r.tail else r) else (tokN nameB e l).bind fun t r => (if isS e ⟨#[61]⟩ r then (p.qexpr r.tail).bind fun x q => .ok (true, (Nd.mk 19 (hd e l).pos t.text false [] [x])) q else if given then .bad 106 (hd e l).pos else .ok (given, (Nd.mk 19 (hd e l).pos t.text false [] [(Nd.mk 0 (hd e l).pos ⟨#[]⟩ false [] [])])) r).bind fun a r => if isS e ⟨#[44]⟩ r then (if isN r.tail || isS e ⟨#[42, 42]⟩ r.tail then p.qparams a.1 (ks ++ [a.2]) r.tail else .ok (ks ++ [a.2]) r.tail) else .ok (ks ++ [a.2]) r
def s_excepts (p : Ps) (bare : Bool) (ks : List Nd) (l : List Tok) : Rs (List Nd) :=
 if isW e ⟨#[101, 120, 99, 101, 112, 116]⟩ l then (if bare then .bad 106 (hd e l).pos else if begins e l.tail then (p.qexpr l.tail).bind fun c r => (if isW e ⟨#[97, 115]⟩ r then (tokN nameB e r.tail).bind fun t q => .ok t.text q else .ok ⟨#[]⟩ r).bind fun tx r => (p.qblock r).bind fun b r => p.qexcepts false (ks ++ [(Nd.mk 22 (hd e l).pos tx false [] [c, b])]) r else (p.qblock l.tail).bind fun b r => p.qexcepts true (ks ++ [(Nd.mk 22 (hd e l).pos ⟨#[]⟩ false [] [(Nd.mk 0 (hd e l).pos ⟨#[]⟩ false [] []), b])]) r) else .ok ks l
def s_stmt (p : Ps) (l : List Tok) : Rs (Nd) :=
 if isW e ⟨#[105, 102]⟩ l then p.qchoice (hd e l).pos l.tail else if isW e ⟨#[119, 104, 105, 108, 101]⟩ l then (p.qexpr l.tail).bind fun t r => (p.qblock r).bind fun b r => .ok (Nd.mk 16 (hd e l).pos ⟨#[]⟩ false [] [t, b]) r else if isW e ⟨#[102, 111, 114]⟩ l then (p.qtargets l.tail).bind fun t r => (needW e ⟨#[105, 110]⟩ r).bind fun _ r => (p.qexprs r).bind fun x r => (p.qblock r).bind fun b r => .ok (Nd.mk 17 (hd e l).pos ⟨#[]⟩ false [] [t, x, b]) r else if isW e ⟨#[100, 101, 102]⟩ l then (tokN nameB e l.tail).bind fun t r => (needS e ⟨#[40]⟩ r).bind fun _ r => (if isS e ⟨#[41]⟩ r then .ok [] r else p.qparams false [] r).bind fun ks r => (needS e ⟨#[41]⟩ r).bind fun _ r => (p.qblock r).bind fun b r => .ok (Nd.mk 18 (hd e l).pos t.text false [] (ks ++ [b])) r else if isW e ⟨#[99, 108, 97, 115, 115]⟩ l then (tokN nameB e l.tail).bind fun t r => (if isS e ⟨#[40]⟩ r then (p.qexpr r.tail).bind fun x r => (needS e ⟨#[41]⟩ r).bind fun _ r => .ok x r else .ok (Nd.mk 0 (hd e l).pos ⟨#[]⟩ false [] []) r).bind fun x r => (p.qblock r).bind fun b r => .ok (Nd.mk 20 (hd e l).pos t.text false [] [x, b]) r else if isW e ⟨#[116, 114, 121]⟩ l then (p.qblock l.tail).bind fun b r => (if isW e ⟨#[101, 120, 99, 101, 112, 116]⟩ r then p.qexcepts false [b] r else .bad 106 (hd e r).pos).bind fun ks r => .ok (Nd.mk 21 (hd e l).pos ⟨#[]⟩ false [] ks) r else (p.qsimple (hd e l).pos l).bind fun n r => (needK e 6 r).bind fun _ r => .ok n r
def step (p : Ps) : Ps := ⟨s_expr e p, s_or p, s_orL e p, s_and p, s_andL e p, s_not e p, s_compare e p, s_row p, s_rowL e p, s_minus e p, s_postfix p, s_postL nameB e p, s_args nameB e p, s_exprs e p, s_rest e p, s_atom nameB goodB numOf e p, s_round e p, s_comp e p, s_compL e p, s_square e p, s_pair e p, s_item e p, s_items e p, s_curly e p, s_targets p, s_targL e p, s_assign e p, s_names nameB e p, s_simple e p, s_block e p, s_stmts e p, s_choice e p, s_params nameB e p, s_excepts nameB e p, s_stmt nameB e p⟩
def Pp : Nat → Ps
 | 0 => Ps.none
 | D + 1 => step nameB goodB numOf e (Pp D)
end
end
end Go.Proofs.YtjndbcnmmnkilaaGreatDoor
