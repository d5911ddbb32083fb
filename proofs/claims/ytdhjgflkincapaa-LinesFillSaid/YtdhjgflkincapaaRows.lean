/-
  No cell of these rows narrows 'for every input' (looked for: loops, veiled, ifaces, maps, wideKeys, modest, calm, conditions, laid).
  DERIVED. THE GIVEN ROWS OF THIS SEAT. 11 by the template 'for every input the law returns true; each argument reads behind the call as it read before'; 0 by the template 'total and deterministic' (their statements: YtdhjgflkincapaaTotals.lean).
  GIVEN WITH THE SEED: the statements are not yours to turn. If you find one false, say at which input.
  Laid BY PROGRAM, IN A SANDBOX (cutbox-rows.mjs): the forced cells as the released guide's own fill.sh prints them over the translation 268200a1d0ae41e7… (all of the seat's roots in one cut). By AI agents, Wed Nov 11 2026. No macro, syntax, notation, axiom, sorry.
-/
import Derived.Test.YtdhjgflkincapaaChecked
import GoSem.Claim
import GoSem.ClaimJoined
import GoSem.ClaimMapViews
import Derived.JoinedTies
import Derived.KernelRfl
namespace Go.Proofs.Ytdhjgflkincapaa
/- THE CELL 'sum', in the pinned program and in every row, IS THE sha256 OF THE DUMP (.gsa) THAT YtdhjgflkincapaaProg.lean LOADS. Nothing in Lean hashes anything: it is a label: what it is worth is what the hold of that sum in a sandbox is worth. -/
noncomputable def Try.pinned : Pinned := { name := "ytdhjgflkincapaa", sum := "268200a1d0ae41e7a3d6b4df1d824e12f3c78cc3441124a469e901bc9e2c2528", checked := Try.checked }
namespace Rows
def none {H : Type} : Left H := { results := [], args := [] }

/-- 'windowpanelaw10.LinesApart': WHATEVER THE INPUT: true; the input reads as it did. -/
def linesApartSpec : ChangeSpec := { name := "linesApart", fn := fun _ => fun
  | [d1, d2, d3] => { results := [.lit (.bool true)], args := [d1, d2, d3] }
  | _ => none }
def linesApartRow : OpenClaim := { program := "ytdhjgflkincapaa", sum := "268200a1d0ae41e7a3d6b4df1d824e12f3c78cc3441124a469e901bc9e2c2528", func := "windowpane/windowpanelaw10.LinesApart", spec := "linesApart", unfollowed := true, recurses := true, apart := false }
def LinesApartSaid : Prop := linesApartRow.holds Try.pinned (OpenSpec.ofChange linesApartSpec)

/-- ITS FALSE NEIGHBOUR: 'it returns false'. Refute it at one input. -/
def linesApartWrong : ChangeSpec := { name := "linesApart", fn := fun _ => fun
  | [d1, d2, d3] => { results := [.lit (.bool false)], args := [d1, d2, d3] }
  | _ => none }
def LinesApartWrongFalsely : Prop := linesApartRow.holds Try.pinned (OpenSpec.ofChange linesApartWrong)

/-- 'windowpanelaw11.InlinePlaces': WHATEVER THE INPUT: true; the input reads as it did. -/
def inlinePlacesSpec : ChangeSpec := { name := "inlinePlaces", fn := fun _ => fun
  | [d1, d2] => { results := [.lit (.bool true)], args := [d1, d2] }
  | _ => none }
def inlinePlacesRow : OpenClaim := { program := "ytdhjgflkincapaa", sum := "268200a1d0ae41e7a3d6b4df1d824e12f3c78cc3441124a469e901bc9e2c2528", func := "windowpane/windowpanelaw11.InlinePlaces", spec := "inlinePlaces", unfollowed := true, recurses := true, apart := false }
def InlinePlacesSaid : Prop := inlinePlacesRow.holds Try.pinned (OpenSpec.ofChange inlinePlacesSpec)

/-- ITS FALSE NEIGHBOUR: 'it returns false'. Refute it at one input. -/
def inlinePlacesWrong : ChangeSpec := { name := "inlinePlaces", fn := fun _ => fun
  | [d1, d2] => { results := [.lit (.bool false)], args := [d1, d2] }
  | _ => none }
def InlinePlacesWrongFalsely : Prop := inlinePlacesRow.holds Try.pinned (OpenSpec.ofChange inlinePlacesWrong)

/-- 'windowpanelaw10.LinesBlanks': WHATEVER THE INPUT: true; the input reads as it did. -/
def linesBlanksSpec : ChangeSpec := { name := "linesBlanks", fn := fun _ => fun
  | [d1, d2, d3] => { results := [.lit (.bool true)], args := [d1, d2, d3] }
  | _ => none }
def linesBlanksRow : OpenClaim := { program := "ytdhjgflkincapaa", sum := "268200a1d0ae41e7a3d6b4df1d824e12f3c78cc3441124a469e901bc9e2c2528", func := "windowpane/windowpanelaw10.LinesBlanks", spec := "linesBlanks", unfollowed := true, recurses := true, apart := false }
def LinesBlanksSaid : Prop := linesBlanksRow.holds Try.pinned (OpenSpec.ofChange linesBlanksSpec)

/-- ITS FALSE NEIGHBOUR: 'it returns false'. Refute it at one input. -/
def linesBlanksWrong : ChangeSpec := { name := "linesBlanks", fn := fun _ => fun
  | [d1, d2, d3] => { results := [.lit (.bool false)], args := [d1, d2, d3] }
  | _ => none }
def LinesBlanksWrongFalsely : Prop := linesBlanksRow.holds Try.pinned (OpenSpec.ofChange linesBlanksWrong)

/-- 'windowpanelaw11.InlineBeside': WHATEVER THE INPUT: true; the input reads as it did. -/
def inlineBesideSpec : ChangeSpec := { name := "inlineBeside", fn := fun _ => fun
  | [d1, d2] => { results := [.lit (.bool true)], args := [d1, d2] }
  | _ => none }
def inlineBesideRow : OpenClaim := { program := "ytdhjgflkincapaa", sum := "268200a1d0ae41e7a3d6b4df1d824e12f3c78cc3441124a469e901bc9e2c2528", func := "windowpane/windowpanelaw11.InlineBeside", spec := "inlineBeside", unfollowed := true, recurses := true, apart := false }
def InlineBesideSaid : Prop := inlineBesideRow.holds Try.pinned (OpenSpec.ofChange inlineBesideSpec)

/-- ITS FALSE NEIGHBOUR: 'it returns false'. Refute it at one input. -/
def inlineBesideWrong : ChangeSpec := { name := "inlineBeside", fn := fun _ => fun
  | [d1, d2] => { results := [.lit (.bool false)], args := [d1, d2] }
  | _ => none }
def InlineBesideWrongFalsely : Prop := inlineBesideRow.holds Try.pinned (OpenSpec.ofChange inlineBesideWrong)

/-- 'windowpanelaw11.InlineBase': WHATEVER THE INPUT: true; the input reads as it did. -/
def inlineBaseSpec : ChangeSpec := { name := "inlineBase", fn := fun _ => fun
  | [d1, d2] => { results := [.lit (.bool true)], args := [d1, d2] }
  | _ => none }
def inlineBaseRow : OpenClaim := { program := "ytdhjgflkincapaa", sum := "268200a1d0ae41e7a3d6b4df1d824e12f3c78cc3441124a469e901bc9e2c2528", func := "windowpane/windowpanelaw11.InlineBase", spec := "inlineBase", unfollowed := true, recurses := true, apart := false }
def InlineBaseSaid : Prop := inlineBaseRow.holds Try.pinned (OpenSpec.ofChange inlineBaseSpec)

/-- ITS FALSE NEIGHBOUR: 'it returns false'. Refute it at one input. -/
def inlineBaseWrong : ChangeSpec := { name := "inlineBase", fn := fun _ => fun
  | [d1, d2] => { results := [.lit (.bool false)], args := [d1, d2] }
  | _ => none }
def InlineBaseWrongFalsely : Prop := inlineBaseRow.holds Try.pinned (OpenSpec.ofChange inlineBaseWrong)

/-- 'windowpanelaw11.InlineTurned': WHATEVER THE INPUT: true; the input reads as it did. -/
def inlineTurnedSpec : ChangeSpec := { name := "inlineTurned", fn := fun _ => fun
  | [d1, d2, d3] => { results := [.lit (.bool true)], args := [d1, d2, d3] }
  | _ => none }
def inlineTurnedRow : OpenClaim := { program := "ytdhjgflkincapaa", sum := "268200a1d0ae41e7a3d6b4df1d824e12f3c78cc3441124a469e901bc9e2c2528", func := "windowpane/windowpanelaw11.InlineTurned", spec := "inlineTurned", unfollowed := true, recurses := true, apart := false }
def InlineTurnedSaid : Prop := inlineTurnedRow.holds Try.pinned (OpenSpec.ofChange inlineTurnedSpec)

/-- ITS FALSE NEIGHBOUR: 'it returns false'. Refute it at one input. -/
def inlineTurnedWrong : ChangeSpec := { name := "inlineTurned", fn := fun _ => fun
  | [d1, d2, d3] => { results := [.lit (.bool false)], args := [d1, d2, d3] }
  | _ => none }
def InlineTurnedWrongFalsely : Prop := inlineTurnedRow.holds Try.pinned (OpenSpec.ofChange inlineTurnedWrong)

/-- 'windowpanelaw11.InlineMore': WHATEVER THE INPUT: true; the input reads as it did. -/
def inlineMoreSpec : ChangeSpec := { name := "inlineMore", fn := fun _ => fun
  | [d1, d2, d3] => { results := [.lit (.bool true)], args := [d1, d2, d3] }
  | _ => none }
def inlineMoreRow : OpenClaim := { program := "ytdhjgflkincapaa", sum := "268200a1d0ae41e7a3d6b4df1d824e12f3c78cc3441124a469e901bc9e2c2528", func := "windowpane/windowpanelaw11.InlineMore", spec := "inlineMore", unfollowed := true, recurses := true, apart := false }
def InlineMoreSaid : Prop := inlineMoreRow.holds Try.pinned (OpenSpec.ofChange inlineMoreSpec)

/-- ITS FALSE NEIGHBOUR: 'it returns false'. Refute it at one input. -/
def inlineMoreWrong : ChangeSpec := { name := "inlineMore", fn := fun _ => fun
  | [d1, d2, d3] => { results := [.lit (.bool false)], args := [d1, d2, d3] }
  | _ => none }
def InlineMoreWrongFalsely : Prop := inlineMoreRow.holds Try.pinned (OpenSpec.ofChange inlineMoreWrong)

/-- 'windowpanelaw10.LinesFill': WHATEVER THE INPUT: true; the input reads as it did. -/
def linesFillSpec : ChangeSpec := { name := "linesFill", fn := fun _ => fun
  | [d1, d2] => { results := [.lit (.bool true)], args := [d1, d2] }
  | _ => none }
def linesFillRow : OpenClaim := { program := "ytdhjgflkincapaa", sum := "268200a1d0ae41e7a3d6b4df1d824e12f3c78cc3441124a469e901bc9e2c2528", func := "windowpane/windowpanelaw10.LinesFill", spec := "linesFill", unfollowed := true, recurses := true, apart := false }
def LinesFillSaid : Prop := linesFillRow.holds Try.pinned (OpenSpec.ofChange linesFillSpec)

/-- ITS FALSE NEIGHBOUR: 'it returns false'. Refute it at one input. -/
def linesFillWrong : ChangeSpec := { name := "linesFill", fn := fun _ => fun
  | [d1, d2] => { results := [.lit (.bool false)], args := [d1, d2] }
  | _ => none }
def LinesFillWrongFalsely : Prop := linesFillRow.holds Try.pinned (OpenSpec.ofChange linesFillWrong)

/-- 'windowpanelaw10.LinesAll': WHATEVER THE INPUT: true; the input reads as it did. -/
def linesAllSpec : ChangeSpec := { name := "linesAll", fn := fun _ => fun
  | [d1, d2] => { results := [.lit (.bool true)], args := [d1, d2] }
  | _ => none }
def linesAllRow : OpenClaim := { program := "ytdhjgflkincapaa", sum := "268200a1d0ae41e7a3d6b4df1d824e12f3c78cc3441124a469e901bc9e2c2528", func := "windowpane/windowpanelaw10.LinesAll", spec := "linesAll", unfollowed := true, recurses := true, apart := false }
def LinesAllSaid : Prop := linesAllRow.holds Try.pinned (OpenSpec.ofChange linesAllSpec)

/-- ITS FALSE NEIGHBOUR: 'it returns false'. Refute it at one input. -/
def linesAllWrong : ChangeSpec := { name := "linesAll", fn := fun _ => fun
  | [d1, d2] => { results := [.lit (.bool false)], args := [d1, d2] }
  | _ => none }
def LinesAllWrongFalsely : Prop := linesAllRow.holds Try.pinned (OpenSpec.ofChange linesAllWrong)

/-- 'windowpanelaw10.LinesLong': WHATEVER THE INPUT: true; the input reads as it did. -/
def linesLongSpec : ChangeSpec := { name := "linesLong", fn := fun _ => fun
  | [d1, d2] => { results := [.lit (.bool true)], args := [d1, d2] }
  | _ => none }
def linesLongRow : OpenClaim := { program := "ytdhjgflkincapaa", sum := "268200a1d0ae41e7a3d6b4df1d824e12f3c78cc3441124a469e901bc9e2c2528", func := "windowpane/windowpanelaw10.LinesLong", spec := "linesLong", unfollowed := true, recurses := true, apart := false }
def LinesLongSaid : Prop := linesLongRow.holds Try.pinned (OpenSpec.ofChange linesLongSpec)

/-- ITS FALSE NEIGHBOUR: 'it returns false'. Refute it at one input. -/
def linesLongWrong : ChangeSpec := { name := "linesLong", fn := fun _ => fun
  | [d1, d2] => { results := [.lit (.bool false)], args := [d1, d2] }
  | _ => none }
def LinesLongWrongFalsely : Prop := linesLongRow.holds Try.pinned (OpenSpec.ofChange linesLongWrong)

/-- 'windowpanelaw10.LinesWider': WHATEVER THE INPUT: true; the input reads as it did. -/
def linesWiderSpec : ChangeSpec := { name := "linesWider", fn := fun _ => fun
  | [d1, d2, d3] => { results := [.lit (.bool true)], args := [d1, d2, d3] }
  | _ => none }
def linesWiderRow : OpenClaim := { program := "ytdhjgflkincapaa", sum := "268200a1d0ae41e7a3d6b4df1d824e12f3c78cc3441124a469e901bc9e2c2528", func := "windowpane/windowpanelaw10.LinesWider", spec := "linesWider", unfollowed := true, recurses := true, apart := false }
def LinesWiderSaid : Prop := linesWiderRow.holds Try.pinned (OpenSpec.ofChange linesWiderSpec)

/-- ITS FALSE NEIGHBOUR: 'it returns false'. Refute it at one input. -/
def linesWiderWrong : ChangeSpec := { name := "linesWider", fn := fun _ => fun
  | [d1, d2, d3] => { results := [.lit (.bool false)], args := [d1, d2, d3] }
  | _ => none }
def LinesWiderWrongFalsely : Prop := linesWiderRow.holds Try.pinned (OpenSpec.ofChange linesWiderWrong)

/- THE SECOND FORM. 'bulk': how many values and letters a reading holds, each counted each time it is reached (what is shared counts as often as it is met; a slice's spare places count too). A statement '..UptoSaid' is the law's where the arguments, and the package variables that the reading takes, are together of bulk at most 1048576: NARROWER than '..Said'. Prove '..Said' where nothing that the law and all that it calls make is longer than what came in: it says more and counts as full. Else prove '..UptoSaid'. A law counts once. -/
mutual
def uptoBulk {H : Type} : DataW H → Nat
  | .lit (.string bytes) => bytes.length + 1
  | .lit _ => 1
  | .nil => 1
  | .ptr d => uptoBulk d + 1
  | .slice elems spare => uptoBulkAll elems + uptoBulkAll spare + 1
  | .agg parts => uptoBulkAll parts + 1
  | .iface _ d => uptoBulk d + 1
  | .map entries => uptoBulkEntries entries + 1
  | .held _ => 1
def uptoBulkAll {H : Type} : List (DataW H) → Nat
  | [] => 0
  | d :: r => uptoBulk d + uptoBulkAll r
def uptoBulkEntries {H : Type} : List (Lit × DataW H) → Nat
  | [] => 0
  | x :: r => uptoBulkEntry x + uptoBulkEntries r
def uptoBulkEntry {H : Type} : Lit × DataW H → Nat
  | (.string bytes, d) => bytes.length + uptoBulk d + 1
  | (_, d) => uptoBulk d + 1
 end
def uptoSmall : (H : Type) → List (DataW H) → Bool := fun _ ds => decide (uptoBulkAll ds ≤ 1048576)
def OpenSpec.upto (s : _root_.Go.ChangeSpec) : _root_.Go.OpenSpec := { _root_.Go.OpenSpec.ofChange s with cond := some uptoSmall }

/-- 'windowpanelaw10.LinesApart', WHERE WHAT IT READS IS OF BULK AT MOST 1048576: true; the input reads as it did. -/
def linesApartUptoRow : OpenClaim := { program := "ytdhjgflkincapaa", sum := "268200a1d0ae41e7a3d6b4df1d824e12f3c78cc3441124a469e901bc9e2c2528", func := "windowpane/windowpanelaw10.LinesApart", spec := "linesApart", unfollowed := true, recurses := true, apart := false, narrowed := true }
def LinesApartUptoSaid : Prop := linesApartUptoRow.holds Try.pinned (OpenSpec.upto linesApartSpec)

/-- 'windowpanelaw11.InlinePlaces', WHERE WHAT IT READS IS OF BULK AT MOST 1048576: true; the input reads as it did. -/
def inlinePlacesUptoRow : OpenClaim := { program := "ytdhjgflkincapaa", sum := "268200a1d0ae41e7a3d6b4df1d824e12f3c78cc3441124a469e901bc9e2c2528", func := "windowpane/windowpanelaw11.InlinePlaces", spec := "inlinePlaces", unfollowed := true, recurses := true, apart := false, narrowed := true }
def InlinePlacesUptoSaid : Prop := inlinePlacesUptoRow.holds Try.pinned (OpenSpec.upto inlinePlacesSpec)

/-- 'windowpanelaw10.LinesBlanks', WHERE WHAT IT READS IS OF BULK AT MOST 1048576: true; the input reads as it did. -/
def linesBlanksUptoRow : OpenClaim := { program := "ytdhjgflkincapaa", sum := "268200a1d0ae41e7a3d6b4df1d824e12f3c78cc3441124a469e901bc9e2c2528", func := "windowpane/windowpanelaw10.LinesBlanks", spec := "linesBlanks", unfollowed := true, recurses := true, apart := false, narrowed := true }
def LinesBlanksUptoSaid : Prop := linesBlanksUptoRow.holds Try.pinned (OpenSpec.upto linesBlanksSpec)

/-- 'windowpanelaw11.InlineBeside', WHERE WHAT IT READS IS OF BULK AT MOST 1048576: true; the input reads as it did. -/
def inlineBesideUptoRow : OpenClaim := { program := "ytdhjgflkincapaa", sum := "268200a1d0ae41e7a3d6b4df1d824e12f3c78cc3441124a469e901bc9e2c2528", func := "windowpane/windowpanelaw11.InlineBeside", spec := "inlineBeside", unfollowed := true, recurses := true, apart := false, narrowed := true }
def InlineBesideUptoSaid : Prop := inlineBesideUptoRow.holds Try.pinned (OpenSpec.upto inlineBesideSpec)

/-- 'windowpanelaw11.InlineBase', WHERE WHAT IT READS IS OF BULK AT MOST 1048576: true; the input reads as it did. -/
def inlineBaseUptoRow : OpenClaim := { program := "ytdhjgflkincapaa", sum := "268200a1d0ae41e7a3d6b4df1d824e12f3c78cc3441124a469e901bc9e2c2528", func := "windowpane/windowpanelaw11.InlineBase", spec := "inlineBase", unfollowed := true, recurses := true, apart := false, narrowed := true }
def InlineBaseUptoSaid : Prop := inlineBaseUptoRow.holds Try.pinned (OpenSpec.upto inlineBaseSpec)

/-- 'windowpanelaw11.InlineTurned', WHERE WHAT IT READS IS OF BULK AT MOST 1048576: true; the input reads as it did. -/
def inlineTurnedUptoRow : OpenClaim := { program := "ytdhjgflkincapaa", sum := "268200a1d0ae41e7a3d6b4df1d824e12f3c78cc3441124a469e901bc9e2c2528", func := "windowpane/windowpanelaw11.InlineTurned", spec := "inlineTurned", unfollowed := true, recurses := true, apart := false, narrowed := true }
def InlineTurnedUptoSaid : Prop := inlineTurnedUptoRow.holds Try.pinned (OpenSpec.upto inlineTurnedSpec)

/-- 'windowpanelaw11.InlineMore', WHERE WHAT IT READS IS OF BULK AT MOST 1048576: true; the input reads as it did. -/
def inlineMoreUptoRow : OpenClaim := { program := "ytdhjgflkincapaa", sum := "268200a1d0ae41e7a3d6b4df1d824e12f3c78cc3441124a469e901bc9e2c2528", func := "windowpane/windowpanelaw11.InlineMore", spec := "inlineMore", unfollowed := true, recurses := true, apart := false, narrowed := true }
def InlineMoreUptoSaid : Prop := inlineMoreUptoRow.holds Try.pinned (OpenSpec.upto inlineMoreSpec)

/-- 'windowpanelaw10.LinesFill', WHERE WHAT IT READS IS OF BULK AT MOST 1048576: true; the input reads as it did. -/
def linesFillUptoRow : OpenClaim := { program := "ytdhjgflkincapaa", sum := "268200a1d0ae41e7a3d6b4df1d824e12f3c78cc3441124a469e901bc9e2c2528", func := "windowpane/windowpanelaw10.LinesFill", spec := "linesFill", unfollowed := true, recurses := true, apart := false, narrowed := true }
def LinesFillUptoSaid : Prop := linesFillUptoRow.holds Try.pinned (OpenSpec.upto linesFillSpec)

/-- 'windowpanelaw10.LinesAll', WHERE WHAT IT READS IS OF BULK AT MOST 1048576: true; the input reads as it did. -/
def linesAllUptoRow : OpenClaim := { program := "ytdhjgflkincapaa", sum := "268200a1d0ae41e7a3d6b4df1d824e12f3c78cc3441124a469e901bc9e2c2528", func := "windowpane/windowpanelaw10.LinesAll", spec := "linesAll", unfollowed := true, recurses := true, apart := false, narrowed := true }
def LinesAllUptoSaid : Prop := linesAllUptoRow.holds Try.pinned (OpenSpec.upto linesAllSpec)

/-- 'windowpanelaw10.LinesLong', WHERE WHAT IT READS IS OF BULK AT MOST 1048576: true; the input reads as it did. -/
def linesLongUptoRow : OpenClaim := { program := "ytdhjgflkincapaa", sum := "268200a1d0ae41e7a3d6b4df1d824e12f3c78cc3441124a469e901bc9e2c2528", func := "windowpane/windowpanelaw10.LinesLong", spec := "linesLong", unfollowed := true, recurses := true, apart := false, narrowed := true }
def LinesLongUptoSaid : Prop := linesLongUptoRow.holds Try.pinned (OpenSpec.upto linesLongSpec)

/-- 'windowpanelaw10.LinesWider', WHERE WHAT IT READS IS OF BULK AT MOST 1048576: true; the input reads as it did. -/
def linesWiderUptoRow : OpenClaim := { program := "ytdhjgflkincapaa", sum := "268200a1d0ae41e7a3d6b4df1d824e12f3c78cc3441124a469e901bc9e2c2528", func := "windowpane/windowpanelaw10.LinesWider", spec := "linesWider", unfollowed := true, recurses := true, apart := false, narrowed := true }
def LinesWiderUptoSaid : Prop := linesWiderUptoRow.holds Try.pinned (OpenSpec.upto linesWiderSpec)

end Rows
end Go.Proofs.Ytdhjgflkincapaa
