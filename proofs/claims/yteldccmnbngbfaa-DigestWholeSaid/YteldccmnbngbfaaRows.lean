/-
  No cell of these rows narrows 'for every input' (looked for: loops, veiled, ifaces, maps, wideKeys, modest, calm, conditions, laid).
  DERIVED. THE GIVEN ROWS OF THIS SEAT. 5 by the template 'for every input the law returns true; each argument reads behind the call as it read before'; 0 by the template 'total and deterministic' (their statements: YteldccmnbngbfaaTotals.lean).
  GIVEN WITH THE SEED: the statements are not yours to turn. If you find one false, say at which input.
  Laid BY PROGRAM, IN A SANDBOX (cutbox-rows.mjs): the forced cells as the released guide's own fill.sh prints them over the translation f392fce42252f5fe… (all of the seat's roots in one cut). By AI agents, Wed Nov 11 2026. No macro, syntax, notation, axiom, sorry.
-/
import Derived.Test.YteldccmnbngbfaaChecked
import GoSem.Claim
import GoSem.ClaimJoined
import GoSem.ClaimMapViews
import Derived.JoinedTies
import Derived.KernelRfl
namespace Go.Proofs.Yteldccmnbngbfaa
/- THE CELL 'sum', in the pinned program and in every row, IS THE sha256 OF THE DUMP (.gsa) THAT YteldccmnbngbfaaProg.lean LOADS. Nothing in Lean hashes anything: it is a label: what it is worth is what the hold of that sum in a sandbox is worth. -/
noncomputable def Try.pinned : Pinned := { name := "yteldccmnbngbfaa", sum := "f392fce42252f5fe1876d6d58d247b6ce3440c324d587426102a95385f90d06c", checked := Try.checked }
namespace Rows
def none {H : Type} : Left H := { results := [], args := [] }

/-- 'lexiconlaw3.DigestWhole': WHATEVER THE INPUT: true; the input reads as it did. -/
def digestWholeSpec : ChangeSpec := { name := "digestWhole", fn := fun _ => fun
  | [d] => { results := [.lit (.bool true)], args := [d] }
  | _ => none }
def digestWholeRow : OpenClaim := { program := "yteldccmnbngbfaa", sum := "f392fce42252f5fe1876d6d58d247b6ce3440c324d587426102a95385f90d06c", func := "lexicon/lexiconlaw3.DigestWhole", spec := "digestWhole", unfollowed := true, recurses := true, named := ["math/bits.divideError", "math/bits.overflowError"], apart := false }
def DigestWholeSaid : Prop := digestWholeRow.holds Try.pinned (OpenSpec.ofChange digestWholeSpec)

/-- ITS FALSE NEIGHBOUR: 'it returns false'. Refute it at one input. -/
def digestWholeWrong : ChangeSpec := { name := "digestWhole", fn := fun _ => fun
  | [d] => { results := [.lit (.bool false)], args := [d] }
  | _ => none }
def DigestWholeWrongFalsely : Prop := digestWholeRow.holds Try.pinned (OpenSpec.ofChange digestWholeWrong)

/-- 'lexiconlaw3.DigestText': WHATEVER THE INPUT: true; the input reads as it did. -/
def digestTextSpec : ChangeSpec := { name := "digestText", fn := fun _ => fun
  | [d] => { results := [.lit (.bool true)], args := [d] }
  | _ => none }
def digestTextRow : OpenClaim := { program := "yteldccmnbngbfaa", sum := "f392fce42252f5fe1876d6d58d247b6ce3440c324d587426102a95385f90d06c", func := "lexicon/lexiconlaw3.DigestText", spec := "digestText", unfollowed := true, recurses := true, named := ["math/bits.divideError", "math/bits.overflowError"], apart := false }
def DigestTextSaid : Prop := digestTextRow.holds Try.pinned (OpenSpec.ofChange digestTextSpec)

/-- ITS FALSE NEIGHBOUR: 'it returns false'. Refute it at one input. -/
def digestTextWrong : ChangeSpec := { name := "digestText", fn := fun _ => fun
  | [d] => { results := [.lit (.bool false)], args := [d] }
  | _ => none }
def DigestTextWrongFalsely : Prop := digestTextRow.holds Try.pinned (OpenSpec.ofChange digestTextWrong)

/-- 'lexiconlaw3.DigestNumber': WHATEVER THE INPUT: true; the input reads as it did. -/
def digestNumberSpec : ChangeSpec := { name := "digestNumber", fn := fun _ => fun
  | [d1, d2] => { results := [.lit (.bool true)], args := [d1, d2] }
  | _ => none }
def digestNumberRow : OpenClaim := { program := "yteldccmnbngbfaa", sum := "f392fce42252f5fe1876d6d58d247b6ce3440c324d587426102a95385f90d06c", func := "lexicon/lexiconlaw3.DigestNumber", spec := "digestNumber", unfollowed := true, recurses := true, named := ["math/bits.divideError", "math/bits.overflowError"], apart := false }
def DigestNumberSaid : Prop := digestNumberRow.holds Try.pinned (OpenSpec.ofChange digestNumberSpec)

/-- ITS FALSE NEIGHBOUR: 'it returns false'. Refute it at one input. -/
def digestNumberWrong : ChangeSpec := { name := "digestNumber", fn := fun _ => fun
  | [d1, d2] => { results := [.lit (.bool false)], args := [d1, d2] }
  | _ => none }
def DigestNumberWrongFalsely : Prop := digestNumberRow.holds Try.pinned (OpenSpec.ofChange digestNumberWrong)

/-- 'lexiconlaw3.DigestTurns': WHATEVER THE INPUT: true; the input reads as it did. -/
def digestTurnsSpec : ChangeSpec := { name := "digestTurns", fn := fun _ => fun
  | [d1, d2] => { results := [.lit (.bool true)], args := [d1, d2] }
  | _ => none }
def digestTurnsRow : OpenClaim := { program := "yteldccmnbngbfaa", sum := "f392fce42252f5fe1876d6d58d247b6ce3440c324d587426102a95385f90d06c", func := "lexicon/lexiconlaw3.DigestTurns", spec := "digestTurns", unfollowed := true, recurses := true, named := ["math/bits.divideError", "math/bits.overflowError"], apart := false }
def DigestTurnsSaid : Prop := digestTurnsRow.holds Try.pinned (OpenSpec.ofChange digestTurnsSpec)

/-- ITS FALSE NEIGHBOUR: 'it returns false'. Refute it at one input. -/
def digestTurnsWrong : ChangeSpec := { name := "digestTurns", fn := fun _ => fun
  | [d1, d2] => { results := [.lit (.bool false)], args := [d1, d2] }
  | _ => none }
def DigestTurnsWrongFalsely : Prop := digestTurnsRow.holds Try.pinned (OpenSpec.ofChange digestTurnsWrong)

/-- 'lexiconlaw3.DigestRows': WHATEVER THE INPUT: true; the input reads as it did. -/
def digestRowsSpec : ChangeSpec := { name := "digestRows", fn := fun _ => fun
  | [d] => { results := [.lit (.bool true)], args := [d] }
  | _ => none }
def digestRowsRow : OpenClaim := { program := "yteldccmnbngbfaa", sum := "f392fce42252f5fe1876d6d58d247b6ce3440c324d587426102a95385f90d06c", func := "lexicon/lexiconlaw3.DigestRows", spec := "digestRows", unfollowed := true, recurses := true, named := ["math/bits.divideError", "math/bits.overflowError"], apart := false }
def DigestRowsSaid : Prop := digestRowsRow.holds Try.pinned (OpenSpec.ofChange digestRowsSpec)

/-- ITS FALSE NEIGHBOUR: 'it returns false'. Refute it at one input. -/
def digestRowsWrong : ChangeSpec := { name := "digestRows", fn := fun _ => fun
  | [d] => { results := [.lit (.bool false)], args := [d] }
  | _ => none }
def DigestRowsWrongFalsely : Prop := digestRowsRow.holds Try.pinned (OpenSpec.ofChange digestRowsWrong)

/- THE SECOND FORM. 'bulk': how many values and letters a reading holds, each counted each time it is reached (what is shared counts as often as it is met; a slice's spare places count too). A statement '..UptoSaid' is the law's where the arguments, and the package variables that the reading takes, are together of bulk at most 1048576: NARROWER than '..Said'. Prove '..Said' where nothing that the law and all that it calls make is longer than what came in: it says more and counts as full. Else prove '..UptoSaid'. A law counts once. -/
mutual
def uptoBulk {H : Type} : DataW H → Nat
  | .lit (.string bytes) => bytes.length + 1
  | .lit _ => 1
  | .nil => 1
  | .ptr d => uptoBulk d + 1
  | .slice elems spare => uptoBulkAll elems + uptoBulkAll spare + 1
  | .agg parts => uptoBulkAll parts + 1
  | .iface _ d => uptoBulk d + 1
  | .map entries => uptoBulkEntries entries + 1
  | .held _ => 1
def uptoBulkAll {H : Type} : List (DataW H) → Nat
  | [] => 0
  | d :: r => uptoBulk d + uptoBulkAll r
def uptoBulkEntries {H : Type} : List (Lit × DataW H) → Nat
  | [] => 0
  | x :: r => uptoBulkEntry x + uptoBulkEntries r
def uptoBulkEntry {H : Type} : Lit × DataW H → Nat
  | (.string bytes, d) => bytes.length + uptoBulk d + 1
  | (_, d) => uptoBulk d + 1
 end
def uptoSmall : (H : Type) → List (DataW H) → Bool := fun _ ds => decide (uptoBulkAll ds ≤ 1048576)
def OpenSpec.upto (s : _root_.Go.ChangeSpec) : _root_.Go.OpenSpec := { _root_.Go.OpenSpec.ofChange s with cond := some uptoSmall }

/-- 'lexiconlaw3.DigestWhole', WHERE WHAT IT READS IS OF BULK AT MOST 1048576: true; the input reads as it did. -/
def digestWholeUptoRow : OpenClaim := { program := "yteldccmnbngbfaa", sum := "f392fce42252f5fe1876d6d58d247b6ce3440c324d587426102a95385f90d06c", func := "lexicon/lexiconlaw3.DigestWhole", spec := "digestWhole", unfollowed := true, recurses := true, named := ["math/bits.divideError", "math/bits.overflowError"], apart := false, narrowed := true }
def DigestWholeUptoSaid : Prop := digestWholeUptoRow.holds Try.pinned (OpenSpec.upto digestWholeSpec)

/-- 'lexiconlaw3.DigestText', WHERE WHAT IT READS IS OF BULK AT MOST 1048576: true; the input reads as it did. -/
def digestTextUptoRow : OpenClaim := { program := "yteldccmnbngbfaa", sum := "f392fce42252f5fe1876d6d58d247b6ce3440c324d587426102a95385f90d06c", func := "lexicon/lexiconlaw3.DigestText", spec := "digestText", unfollowed := true, recurses := true, named := ["math/bits.divideError", "math/bits.overflowError"], apart := false, narrowed := true }
def DigestTextUptoSaid : Prop := digestTextUptoRow.holds Try.pinned (OpenSpec.upto digestTextSpec)

/-- 'lexiconlaw3.DigestNumber', WHERE WHAT IT READS IS OF BULK AT MOST 1048576: true; the input reads as it did. -/
def digestNumberUptoRow : OpenClaim := { program := "yteldccmnbngbfaa", sum := "f392fce42252f5fe1876d6d58d247b6ce3440c324d587426102a95385f90d06c", func := "lexicon/lexiconlaw3.DigestNumber", spec := "digestNumber", unfollowed := true, recurses := true, named := ["math/bits.divideError", "math/bits.overflowError"], apart := false, narrowed := true }
def DigestNumberUptoSaid : Prop := digestNumberUptoRow.holds Try.pinned (OpenSpec.upto digestNumberSpec)

/-- 'lexiconlaw3.DigestTurns', WHERE WHAT IT READS IS OF BULK AT MOST 1048576: true; the input reads as it did. -/
def digestTurnsUptoRow : OpenClaim := { program := "yteldccmnbngbfaa", sum := "f392fce42252f5fe1876d6d58d247b6ce3440c324d587426102a95385f90d06c", func := "lexicon/lexiconlaw3.DigestTurns", spec := "digestTurns", unfollowed := true, recurses := true, named := ["math/bits.divideError", "math/bits.overflowError"], apart := false, narrowed := true }
def DigestTurnsUptoSaid : Prop := digestTurnsUptoRow.holds Try.pinned (OpenSpec.upto digestTurnsSpec)

/-- 'lexiconlaw3.DigestRows', WHERE WHAT IT READS IS OF BULK AT MOST 1048576: true; the input reads as it did. -/
def digestRowsUptoRow : OpenClaim := { program := "yteldccmnbngbfaa", sum := "f392fce42252f5fe1876d6d58d247b6ce3440c324d587426102a95385f90d06c", func := "lexicon/lexiconlaw3.DigestRows", spec := "digestRows", unfollowed := true, recurses := true, named := ["math/bits.divideError", "math/bits.overflowError"], apart := false, narrowed := true }
def DigestRowsUptoSaid : Prop := digestRowsUptoRow.holds Try.pinned (OpenSpec.upto digestRowsSpec)

end Rows
end Go.Proofs.Yteldccmnbngbfaa
