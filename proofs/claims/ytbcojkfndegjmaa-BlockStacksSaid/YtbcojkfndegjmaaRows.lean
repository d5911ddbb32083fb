/-
  No cell of these rows narrows 'for every input' (looked for: loops, veiled, ifaces, maps, wideKeys, modest, calm, conditions, laid).
  DERIVED. THE GIVEN ROWS OF THIS SEAT. 11 by the template 'for every input the law returns true; each argument reads behind the call as it read before'; 0 by the template 'total and deterministic' (their statements: YtbcojkfndegjmaaTotals.lean).
  GIVEN WITH THE SEED: the statements are not yours to turn. If you find one false, say at which input.
  Laid BY PROGRAM, IN A SANDBOX (cutbox-rows.mjs): the forced cells as the released guide's own fill.sh prints them over the translation aa085c410b8e54bf… (all of the seat's roots in one cut). By AI agents, Wed Nov 11 2026. No macro, syntax, notation, axiom, sorry.
-/
import Derived.Test.YtbcojkfndegjmaaChecked
import GoSem.Claim
import GoSem.ClaimJoined
import GoSem.ClaimMapViews
import Derived.JoinedTies
import Derived.KernelRfl
namespace Go.Proofs.Ytbcojkfndegjmaa
/- THE CELL 'sum', in the pinned program and in every row, IS THE sha256 OF THE DUMP (.gsa) THAT YtbcojkfndegjmaaProg.lean LOADS. Nothing in Lean hashes anything: it is a label: what it is worth is what the hold of that sum in a sandbox is worth. -/
noncomputable def Try.pinned : Pinned := { name := "ytbcojkfndegjmaa", sum := "aa085c410b8e54bfed9ce6697d533ae2ced34e979e214b40cbc4a4f0ff9ce296", checked := Try.checked }
namespace Rows
def none {H : Type} : Left H := { results := [], args := [] }

/-- 'windowpanelaw13.MarginJoins': WHATEVER THE INPUT: true; the input reads as it did. -/
def marginJoinsSpec : ChangeSpec := { name := "marginJoins", fn := fun _ => fun
  | [d1, d2] => { results := [.lit (.bool true)], args := [d1, d2] }
  | _ => none }
def marginJoinsRow : OpenClaim := { program := "ytbcojkfndegjmaa", sum := "aa085c410b8e54bfed9ce6697d533ae2ced34e979e214b40cbc4a4f0ff9ce296", func := "windowpane/windowpanelaw13.MarginJoins", spec := "marginJoins", unfollowed := true, recurses := true, apart := false }
def MarginJoinsSaid : Prop := marginJoinsRow.holds Try.pinned (OpenSpec.ofChange marginJoinsSpec)

/-- ITS FALSE NEIGHBOUR: 'it returns false'. Refute it at one input. -/
def marginJoinsWrong : ChangeSpec := { name := "marginJoins", fn := fun _ => fun
  | [d1, d2] => { results := [.lit (.bool false)], args := [d1, d2] }
  | _ => none }
def MarginJoinsWrongFalsely : Prop := marginJoinsRow.holds Try.pinned (OpenSpec.ofChange marginJoinsWrong)

/-- 'windowpanelaw13.MarginOrder': WHATEVER THE INPUT: true; the input reads as it did. -/
def marginOrderSpec : ChangeSpec := { name := "marginOrder", fn := fun _ => fun
  | [d1, d2, d3] => { results := [.lit (.bool true)], args := [d1, d2, d3] }
  | _ => none }
def marginOrderRow : OpenClaim := { program := "ytbcojkfndegjmaa", sum := "aa085c410b8e54bfed9ce6697d533ae2ced34e979e214b40cbc4a4f0ff9ce296", func := "windowpane/windowpanelaw13.MarginOrder", spec := "marginOrder", unfollowed := true, recurses := true, apart := false }
def MarginOrderSaid : Prop := marginOrderRow.holds Try.pinned (OpenSpec.ofChange marginOrderSpec)

/-- ITS FALSE NEIGHBOUR: 'it returns false'. Refute it at one input. -/
def marginOrderWrong : ChangeSpec := { name := "marginOrder", fn := fun _ => fun
  | [d1, d2, d3] => { results := [.lit (.bool false)], args := [d1, d2, d3] }
  | _ => none }
def MarginOrderWrongFalsely : Prop := marginOrderRow.holds Try.pinned (OpenSpec.ofChange marginOrderWrong)

/-- 'windowpanelaw13.MarginComes': WHATEVER THE INPUT: true; the input reads as it did. -/
def marginComesSpec : ChangeSpec := { name := "marginComes", fn := fun _ => fun
  | [d] => { results := [.lit (.bool true)], args := [d] }
  | _ => none }
def marginComesRow : OpenClaim := { program := "ytbcojkfndegjmaa", sum := "aa085c410b8e54bfed9ce6697d533ae2ced34e979e214b40cbc4a4f0ff9ce296", func := "windowpane/windowpanelaw13.MarginComes", spec := "marginComes", unfollowed := true, recurses := true, apart := false }
def MarginComesSaid : Prop := marginComesRow.holds Try.pinned (OpenSpec.ofChange marginComesSpec)

/-- ITS FALSE NEIGHBOUR: 'it returns false'. Refute it at one input. -/
def marginComesWrong : ChangeSpec := { name := "marginComes", fn := fun _ => fun
  | [d] => { results := [.lit (.bool false)], args := [d] }
  | _ => none }
def MarginComesWrongFalsely : Prop := marginComesRow.holds Try.pinned (OpenSpec.ofChange marginComesWrong)

/-- 'windowpanelaw13.MarginMore': WHATEVER THE INPUT: true; the input reads as it did. -/
def marginMoreSpec : ChangeSpec := { name := "marginMore", fn := fun _ => fun
  | [d1, d2, d3] => { results := [.lit (.bool true)], args := [d1, d2, d3] }
  | _ => none }
def marginMoreRow : OpenClaim := { program := "ytbcojkfndegjmaa", sum := "aa085c410b8e54bfed9ce6697d533ae2ced34e979e214b40cbc4a4f0ff9ce296", func := "windowpane/windowpanelaw13.MarginMore", spec := "marginMore", unfollowed := true, recurses := true, apart := false }
def MarginMoreSaid : Prop := marginMoreRow.holds Try.pinned (OpenSpec.ofChange marginMoreSpec)

/-- ITS FALSE NEIGHBOUR: 'it returns false'. Refute it at one input. -/
def marginMoreWrong : ChangeSpec := { name := "marginMore", fn := fun _ => fun
  | [d1, d2, d3] => { results := [.lit (.bool false)], args := [d1, d2, d3] }
  | _ => none }
def MarginMoreWrongFalsely : Prop := marginMoreRow.holds Try.pinned (OpenSpec.ofChange marginMoreWrong)

/-- 'windowpanelaw13.MarginOpposite': WHATEVER THE INPUT: true; the input reads as it did. -/
def marginOppositeSpec : ChangeSpec := { name := "marginOpposite", fn := fun _ => fun
  | [d] => { results := [.lit (.bool true)], args := [d] }
  | _ => none }
def marginOppositeRow : OpenClaim := { program := "ytbcojkfndegjmaa", sum := "aa085c410b8e54bfed9ce6697d533ae2ced34e979e214b40cbc4a4f0ff9ce296", func := "windowpane/windowpanelaw13.MarginOpposite", spec := "marginOpposite", unfollowed := true, recurses := true, apart := false }
def MarginOppositeSaid : Prop := marginOppositeRow.holds Try.pinned (OpenSpec.ofChange marginOppositeSpec)

/-- ITS FALSE NEIGHBOUR: 'it returns false'. Refute it at one input. -/
def marginOppositeWrong : ChangeSpec := { name := "marginOpposite", fn := fun _ => fun
  | [d] => { results := [.lit (.bool false)], args := [d] }
  | _ => none }
def MarginOppositeWrongFalsely : Prop := marginOppositeRow.holds Try.pinned (OpenSpec.ofChange marginOppositeWrong)

/-- 'windowpanelaw14.BlockStacks': WHATEVER THE INPUT: true; the input reads as it did. -/
def blockStacksSpec : ChangeSpec := { name := "blockStacks", fn := fun _ => fun
  | [d1, d2, d3] => { results := [.lit (.bool true)], args := [d1, d2, d3] }
  | _ => none }
def blockStacksRow : OpenClaim := { program := "ytbcojkfndegjmaa", sum := "aa085c410b8e54bfed9ce6697d533ae2ced34e979e214b40cbc4a4f0ff9ce296", func := "windowpane/windowpanelaw14.BlockStacks", spec := "blockStacks", unfollowed := true, recurses := true, apart := false }
def BlockStacksSaid : Prop := blockStacksRow.holds Try.pinned (OpenSpec.ofChange blockStacksSpec)

/-- ITS FALSE NEIGHBOUR: 'it returns false'. Refute it at one input. -/
def blockStacksWrong : ChangeSpec := { name := "blockStacks", fn := fun _ => fun
  | [d1, d2, d3] => { results := [.lit (.bool false)], args := [d1, d2, d3] }
  | _ => none }
def BlockStacksWrongFalsely : Prop := blockStacksRow.holds Try.pinned (OpenSpec.ofChange blockStacksWrong)

/-- 'windowpanelaw14.BlockBelow': WHATEVER THE INPUT: true; the input reads as it did. -/
def blockBelowSpec : ChangeSpec := { name := "blockBelow", fn := fun _ => fun
  | [d] => { results := [.lit (.bool true)], args := [d] }
  | _ => none }
def blockBelowRow : OpenClaim := { program := "ytbcojkfndegjmaa", sum := "aa085c410b8e54bfed9ce6697d533ae2ced34e979e214b40cbc4a4f0ff9ce296", func := "windowpane/windowpanelaw14.BlockBelow", spec := "blockBelow", unfollowed := true, recurses := true, apart := false }
def BlockBelowSaid : Prop := blockBelowRow.holds Try.pinned (OpenSpec.ofChange blockBelowSpec)

/-- ITS FALSE NEIGHBOUR: 'it returns false'. Refute it at one input. -/
def blockBelowWrong : ChangeSpec := { name := "blockBelow", fn := fun _ => fun
  | [d] => { results := [.lit (.bool false)], args := [d] }
  | _ => none }
def BlockBelowWrongFalsely : Prop := blockBelowRow.holds Try.pinned (OpenSpec.ofChange blockBelowWrong)

/-- 'windowpanelaw14.BlockTurned': WHATEVER THE INPUT: true; the input reads as it did. -/
def blockTurnedSpec : ChangeSpec := { name := "blockTurned", fn := fun _ => fun
  | [d] => { results := [.lit (.bool true)], args := [d] }
  | _ => none }
def blockTurnedRow : OpenClaim := { program := "ytbcojkfndegjmaa", sum := "aa085c410b8e54bfed9ce6697d533ae2ced34e979e214b40cbc4a4f0ff9ce296", func := "windowpane/windowpanelaw14.BlockTurned", spec := "blockTurned", unfollowed := true, recurses := true, apart := false }
def BlockTurnedSaid : Prop := blockTurnedRow.holds Try.pinned (OpenSpec.ofChange blockTurnedSpec)

/-- ITS FALSE NEIGHBOUR: 'it returns false'. Refute it at one input. -/
def blockTurnedWrong : ChangeSpec := { name := "blockTurned", fn := fun _ => fun
  | [d] => { results := [.lit (.bool false)], args := [d] }
  | _ => none }
def BlockTurnedWrongFalsely : Prop := blockTurnedRow.holds Try.pinned (OpenSpec.ofChange blockTurnedWrong)

/-- 'windowpanelaw14.BlockOpen': WHATEVER THE INPUT: true; the input reads as it did. -/
def blockOpenSpec : ChangeSpec := { name := "blockOpen", fn := fun _ => fun
  | [d] => { results := [.lit (.bool true)], args := [d] }
  | _ => none }
def blockOpenRow : OpenClaim := { program := "ytbcojkfndegjmaa", sum := "aa085c410b8e54bfed9ce6697d533ae2ced34e979e214b40cbc4a4f0ff9ce296", func := "windowpane/windowpanelaw14.BlockOpen", spec := "blockOpen", unfollowed := true, recurses := true, apart := false }
def BlockOpenSaid : Prop := blockOpenRow.holds Try.pinned (OpenSpec.ofChange blockOpenSpec)

/-- ITS FALSE NEIGHBOUR: 'it returns false'. Refute it at one input. -/
def blockOpenWrong : ChangeSpec := { name := "blockOpen", fn := fun _ => fun
  | [d] => { results := [.lit (.bool false)], args := [d] }
  | _ => none }
def BlockOpenWrongFalsely : Prop := blockOpenRow.holds Try.pinned (OpenSpec.ofChange blockOpenWrong)

/-- 'windowpanelaw14.BlockThrough': WHATEVER THE INPUT: true; the input reads as it did. -/
def blockThroughSpec : ChangeSpec := { name := "blockThrough", fn := fun _ => fun
  | [d] => { results := [.lit (.bool true)], args := [d] }
  | _ => none }
def blockThroughRow : OpenClaim := { program := "ytbcojkfndegjmaa", sum := "aa085c410b8e54bfed9ce6697d533ae2ced34e979e214b40cbc4a4f0ff9ce296", func := "windowpane/windowpanelaw14.BlockThrough", spec := "blockThrough", unfollowed := true, recurses := true, apart := false }
def BlockThroughSaid : Prop := blockThroughRow.holds Try.pinned (OpenSpec.ofChange blockThroughSpec)

/-- ITS FALSE NEIGHBOUR: 'it returns false'. Refute it at one input. -/
def blockThroughWrong : ChangeSpec := { name := "blockThrough", fn := fun _ => fun
  | [d] => { results := [.lit (.bool false)], args := [d] }
  | _ => none }
def BlockThroughWrongFalsely : Prop := blockThroughRow.holds Try.pinned (OpenSpec.ofChange blockThroughWrong)

/-- 'windowpanelaw14.BlockBehind': WHATEVER THE INPUT: true; the input reads as it did. -/
def blockBehindSpec : ChangeSpec := { name := "blockBehind", fn := fun _ => fun
  | [d1, d2, d3] => { results := [.lit (.bool true)], args := [d1, d2, d3] }
  | _ => none }
def blockBehindRow : OpenClaim := { program := "ytbcojkfndegjmaa", sum := "aa085c410b8e54bfed9ce6697d533ae2ced34e979e214b40cbc4a4f0ff9ce296", func := "windowpane/windowpanelaw14.BlockBehind", spec := "blockBehind", unfollowed := true, recurses := true, apart := false }
def BlockBehindSaid : Prop := blockBehindRow.holds Try.pinned (OpenSpec.ofChange blockBehindSpec)

/-- ITS FALSE NEIGHBOUR: 'it returns false'. Refute it at one input. -/
def blockBehindWrong : ChangeSpec := { name := "blockBehind", fn := fun _ => fun
  | [d1, d2, d3] => { results := [.lit (.bool false)], args := [d1, d2, d3] }
  | _ => none }
def BlockBehindWrongFalsely : Prop := blockBehindRow.holds Try.pinned (OpenSpec.ofChange blockBehindWrong)

/- THE SECOND FORM. 'bulk': how many values and letters a reading holds, each counted each time it is reached (what is shared counts as often as it is met; a slice's spare places count too). A statement '..UptoSaid' is the law's where the arguments, and the package variables that the reading takes, are together of bulk at most 1048576: NARROWER than '..Said'. Prove '..Said' where nothing that the law and all that it calls make is longer than what came in: it says more and counts as full. Else prove '..UptoSaid'. A law counts once. -/
mutual
def uptoBulk {H : Type} : DataW H → Nat
  | .lit (.string bytes) => bytes.length + 1
  | .lit _ => 1
  | .nil => 1
  | .ptr d => uptoBulk d + 1
  | .slice elems spare => uptoBulkAll elems + uptoBulkAll spare + 1
  | .agg parts => uptoBulkAll parts + 1
  | .iface _ d => uptoBulk d + 1
  | .map entries => uptoBulkEntries entries + 1
  | .held _ => 1
def uptoBulkAll {H : Type} : List (DataW H) → Nat
  | [] => 0
  | d :: r => uptoBulk d + uptoBulkAll r
def uptoBulkEntries {H : Type} : List (Lit × DataW H) → Nat
  | [] => 0
  | x :: r => uptoBulkEntry x + uptoBulkEntries r
def uptoBulkEntry {H : Type} : Lit × DataW H → Nat
  | (.string bytes, d) => bytes.length + uptoBulk d + 1
  | (_, d) => uptoBulk d + 1
 end
def uptoSmall : (H : Type) → List (DataW H) → Bool := fun _ ds => decide (uptoBulkAll ds ≤ 1048576)
def OpenSpec.upto (s : _root_.Go.ChangeSpec) : _root_.Go.OpenSpec := { _root_.Go.OpenSpec.ofChange s with cond := some uptoSmall }

/-- 'windowpanelaw13.MarginJoins', WHERE WHAT IT READS IS OF BULK AT MOST 1048576: true; the input reads as it did. -/
def marginJoinsUptoRow : OpenClaim := { program := "ytbcojkfndegjmaa", sum := "aa085c410b8e54bfed9ce6697d533ae2ced34e979e214b40cbc4a4f0ff9ce296", func := "windowpane/windowpanelaw13.MarginJoins", spec := "marginJoins", unfollowed := true, recurses := true, apart := false, narrowed := true }
def MarginJoinsUptoSaid : Prop := marginJoinsUptoRow.holds Try.pinned (OpenSpec.upto marginJoinsSpec)

/-- 'windowpanelaw13.MarginOrder', WHERE WHAT IT READS IS OF BULK AT MOST 1048576: true; the input reads as it did. -/
def marginOrderUptoRow : OpenClaim := { program := "ytbcojkfndegjmaa", sum := "aa085c410b8e54bfed9ce6697d533ae2ced34e979e214b40cbc4a4f0ff9ce296", func := "windowpane/windowpanelaw13.MarginOrder", spec := "marginOrder", unfollowed := true, recurses := true, apart := false, narrowed := true }
def MarginOrderUptoSaid : Prop := marginOrderUptoRow.holds Try.pinned (OpenSpec.upto marginOrderSpec)

/-- 'windowpanelaw13.MarginComes', WHERE WHAT IT READS IS OF BULK AT MOST 1048576: true; the input reads as it did. -/
def marginComesUptoRow : OpenClaim := { program := "ytbcojkfndegjmaa", sum := "aa085c410b8e54bfed9ce6697d533ae2ced34e979e214b40cbc4a4f0ff9ce296", func := "windowpane/windowpanelaw13.MarginComes", spec := "marginComes", unfollowed := true, recurses := true, apart := false, narrowed := true }
def MarginComesUptoSaid : Prop := marginComesUptoRow.holds Try.pinned (OpenSpec.upto marginComesSpec)

/-- 'windowpanelaw13.MarginMore', WHERE WHAT IT READS IS OF BULK AT MOST 1048576: true; the input reads as it did. -/
def marginMoreUptoRow : OpenClaim := { program := "ytbcojkfndegjmaa", sum := "aa085c410b8e54bfed9ce6697d533ae2ced34e979e214b40cbc4a4f0ff9ce296", func := "windowpane/windowpanelaw13.MarginMore", spec := "marginMore", unfollowed := true, recurses := true, apart := false, narrowed := true }
def MarginMoreUptoSaid : Prop := marginMoreUptoRow.holds Try.pinned (OpenSpec.upto marginMoreSpec)

/-- 'windowpanelaw13.MarginOpposite', WHERE WHAT IT READS IS OF BULK AT MOST 1048576: true; the input reads as it did. -/
def marginOppositeUptoRow : OpenClaim := { program := "ytbcojkfndegjmaa", sum := "aa085c410b8e54bfed9ce6697d533ae2ced34e979e214b40cbc4a4f0ff9ce296", func := "windowpane/windowpanelaw13.MarginOpposite", spec := "marginOpposite", unfollowed := true, recurses := true, apart := false, narrowed := true }
def MarginOppositeUptoSaid : Prop := marginOppositeUptoRow.holds Try.pinned (OpenSpec.upto marginOppositeSpec)

/-- 'windowpanelaw14.BlockStacks', WHERE WHAT IT READS IS OF BULK AT MOST 1048576: true; the input reads as it did. -/
def blockStacksUptoRow : OpenClaim := { program := "ytbcojkfndegjmaa", sum := "aa085c410b8e54bfed9ce6697d533ae2ced34e979e214b40cbc4a4f0ff9ce296", func := "windowpane/windowpanelaw14.BlockStacks", spec := "blockStacks", unfollowed := true, recurses := true, apart := false, narrowed := true }
def BlockStacksUptoSaid : Prop := blockStacksUptoRow.holds Try.pinned (OpenSpec.upto blockStacksSpec)

/-- 'windowpanelaw14.BlockBelow', WHERE WHAT IT READS IS OF BULK AT MOST 1048576: true; the input reads as it did. -/
def blockBelowUptoRow : OpenClaim := { program := "ytbcojkfndegjmaa", sum := "aa085c410b8e54bfed9ce6697d533ae2ced34e979e214b40cbc4a4f0ff9ce296", func := "windowpane/windowpanelaw14.BlockBelow", spec := "blockBelow", unfollowed := true, recurses := true, apart := false, narrowed := true }
def BlockBelowUptoSaid : Prop := blockBelowUptoRow.holds Try.pinned (OpenSpec.upto blockBelowSpec)

/-- 'windowpanelaw14.BlockTurned', WHERE WHAT IT READS IS OF BULK AT MOST 1048576: true; the input reads as it did. -/
def blockTurnedUptoRow : OpenClaim := { program := "ytbcojkfndegjmaa", sum := "aa085c410b8e54bfed9ce6697d533ae2ced34e979e214b40cbc4a4f0ff9ce296", func := "windowpane/windowpanelaw14.BlockTurned", spec := "blockTurned", unfollowed := true, recurses := true, apart := false, narrowed := true }
def BlockTurnedUptoSaid : Prop := blockTurnedUptoRow.holds Try.pinned (OpenSpec.upto blockTurnedSpec)

/-- 'windowpanelaw14.BlockOpen', WHERE WHAT IT READS IS OF BULK AT MOST 1048576: true; the input reads as it did. -/
def blockOpenUptoRow : OpenClaim := { program := "ytbcojkfndegjmaa", sum := "aa085c410b8e54bfed9ce6697d533ae2ced34e979e214b40cbc4a4f0ff9ce296", func := "windowpane/windowpanelaw14.BlockOpen", spec := "blockOpen", unfollowed := true, recurses := true, apart := false, narrowed := true }
def BlockOpenUptoSaid : Prop := blockOpenUptoRow.holds Try.pinned (OpenSpec.upto blockOpenSpec)

/-- 'windowpanelaw14.BlockThrough', WHERE WHAT IT READS IS OF BULK AT MOST 1048576: true; the input reads as it did. -/
def blockThroughUptoRow : OpenClaim := { program := "ytbcojkfndegjmaa", sum := "aa085c410b8e54bfed9ce6697d533ae2ced34e979e214b40cbc4a4f0ff9ce296", func := "windowpane/windowpanelaw14.BlockThrough", spec := "blockThrough", unfollowed := true, recurses := true, apart := false, narrowed := true }
def BlockThroughUptoSaid : Prop := blockThroughUptoRow.holds Try.pinned (OpenSpec.upto blockThroughSpec)

/-- 'windowpanelaw14.BlockBehind', WHERE WHAT IT READS IS OF BULK AT MOST 1048576: true; the input reads as it did. -/
def blockBehindUptoRow : OpenClaim := { program := "ytbcojkfndegjmaa", sum := "aa085c410b8e54bfed9ce6697d533ae2ced34e979e214b40cbc4a4f0ff9ce296", func := "windowpane/windowpanelaw14.BlockBehind", spec := "blockBehind", unfollowed := true, recurses := true, apart := false, narrowed := true }
def BlockBehindUptoSaid : Prop := blockBehindUptoRow.holds Try.pinned (OpenSpec.upto blockBehindSpec)

end Rows
end Go.Proofs.Ytbcojkfndegjmaa
