/-
  No cell of these rows narrows 'for every input' (looked for: loops, veiled, ifaces, maps, wideKeys, modest, calm, conditions, laid).
  DERIVED. THE GIVEN ROWS OF THIS SEAT. 10 by the template 'for every input the law returns true; each argument reads behind the call as it read before'; 0 by the template 'total and deterministic' (their statements: YtbebihphodafiaaTotals.lean).
  GIVEN WITH THE SEED: the statements are not yours to turn. If you find one false, say at which input.
  Laid BY PROGRAM, IN A SANDBOX (cutbox-rows.mjs): the forced cells as the released guide's own fill.sh prints them over the translation 63b7f69553aad246… (all of the seat's roots in one cut). By AI agents, Wed Nov 11 2026. No macro, syntax, notation, axiom, sorry.
-/
import Derived.Test.YtbebihphodafiaaChecked
import GoSem.Claim
import GoSem.ClaimJoined
import GoSem.ClaimMapViews
import Derived.JoinedTies
import Derived.KernelRfl
namespace Go.Proofs.Ytbebihphodafiaa
/- THE CELL 'sum', in the pinned program and in every row, IS THE sha256 OF THE DUMP (.gsa) THAT YtbebihphodafiaaProg.lean LOADS. Nothing in Lean hashes anything: it is a label: what it is worth is what the hold of that sum in a sandbox is worth. -/
noncomputable def Try.pinned : Pinned := { name := "ytbebihphodafiaa", sum := "63b7f69553aad24691c5c425bae6ccc2b1b9a58aff45446510b57c91673618d9", checked := Try.checked }
namespace Rows
def none {H : Type} : Left H := { results := [], args := [] }

/-- 'scarplaw14.WbufRefused': WHATEVER THE INPUT: true; the input reads as it did. -/
def wbufRefusedSpec : ChangeSpec := { name := "wbufRefused", fn := fun _ => fun
  | [d1, d2, d3, d4] => { results := [.lit (.bool true)], args := [d1, d2, d3, d4] }
  | _ => none }
def wbufRefusedRow : OpenClaim := { program := "ytbebihphodafiaa", sum := "63b7f69553aad24691c5c425bae6ccc2b1b9a58aff45446510b57c91673618d9", func := "scarp/scarplaw14.WbufRefused", spec := "wbufRefused", unfollowed := true, recurses := true, apart := false }
def WbufRefusedSaid : Prop := wbufRefusedRow.holds Try.pinned (OpenSpec.ofChange wbufRefusedSpec)

/-- ITS FALSE NEIGHBOUR: 'it returns false'. Refute it at one input. -/
def wbufRefusedWrong : ChangeSpec := { name := "wbufRefused", fn := fun _ => fun
  | [d1, d2, d3, d4] => { results := [.lit (.bool false)], args := [d1, d2, d3, d4] }
  | _ => none }
def WbufRefusedWrongFalsely : Prop := wbufRefusedRow.holds Try.pinned (OpenSpec.ofChange wbufRefusedWrong)

/-- 'scarplaw14.WbufParts': WHATEVER THE INPUT: true; the input reads as it did. -/
def wbufPartsSpec : ChangeSpec := { name := "wbufParts", fn := fun _ => fun
  | [d1, d2] => { results := [.lit (.bool true)], args := [d1, d2] }
  | _ => none }
def wbufPartsRow : OpenClaim := { program := "ytbebihphodafiaa", sum := "63b7f69553aad24691c5c425bae6ccc2b1b9a58aff45446510b57c91673618d9", func := "scarp/scarplaw14.WbufParts", spec := "wbufParts", unfollowed := true, recurses := true, apart := false }
def WbufPartsSaid : Prop := wbufPartsRow.holds Try.pinned (OpenSpec.ofChange wbufPartsSpec)

/-- ITS FALSE NEIGHBOUR: 'it returns false'. Refute it at one input. -/
def wbufPartsWrong : ChangeSpec := { name := "wbufParts", fn := fun _ => fun
  | [d1, d2] => { results := [.lit (.bool false)], args := [d1, d2] }
  | _ => none }
def WbufPartsWrongFalsely : Prop := wbufPartsRow.holds Try.pinned (OpenSpec.ofChange wbufPartsWrong)

/-- 'scarplaw14.WbufLast': WHATEVER THE INPUT: true; the input reads as it did. -/
def wbufLastSpec : ChangeSpec := { name := "wbufLast", fn := fun _ => fun
  | [d] => { results := [.lit (.bool true)], args := [d] }
  | _ => none }
def wbufLastRow : OpenClaim := { program := "ytbebihphodafiaa", sum := "63b7f69553aad24691c5c425bae6ccc2b1b9a58aff45446510b57c91673618d9", func := "scarp/scarplaw14.WbufLast", spec := "wbufLast", unfollowed := true, recurses := true, apart := false }
def WbufLastSaid : Prop := wbufLastRow.holds Try.pinned (OpenSpec.ofChange wbufLastSpec)

/-- ITS FALSE NEIGHBOUR: 'it returns false'. Refute it at one input. -/
def wbufLastWrong : ChangeSpec := { name := "wbufLast", fn := fun _ => fun
  | [d] => { results := [.lit (.bool false)], args := [d] }
  | _ => none }
def WbufLastWrongFalsely : Prop := wbufLastRow.holds Try.pinned (OpenSpec.ofChange wbufLastWrong)

/-- 'scarplaw15.RsetLimits': WHATEVER THE INPUT: true; the input reads as it did. -/
def rsetLimitsSpec : ChangeSpec := { name := "rsetLimits", fn := fun _ => fun
  | [d1, d2] => { results := [.lit (.bool true)], args := [d1, d2] }
  | _ => none }
def rsetLimitsRow : OpenClaim := { program := "ytbebihphodafiaa", sum := "63b7f69553aad24691c5c425bae6ccc2b1b9a58aff45446510b57c91673618d9", func := "scarp/scarplaw15.RsetLimits", spec := "rsetLimits", unfollowed := true, recurses := true, apart := false }
def RsetLimitsSaid : Prop := rsetLimitsRow.holds Try.pinned (OpenSpec.ofChange rsetLimitsSpec)

/-- ITS FALSE NEIGHBOUR: 'it returns false'. Refute it at one input. -/
def rsetLimitsWrong : ChangeSpec := { name := "rsetLimits", fn := fun _ => fun
  | [d1, d2] => { results := [.lit (.bool false)], args := [d1, d2] }
  | _ => none }
def RsetLimitsWrongFalsely : Prop := rsetLimitsRow.holds Try.pinned (OpenSpec.ofChange rsetLimitsWrong)

/-- 'scarplaw15.RsetSteady': WHATEVER THE INPUT: true; the input reads as it did. -/
def rsetSteadySpec : ChangeSpec := { name := "rsetSteady", fn := fun _ => fun
  | [d1, d2] => { results := [.lit (.bool true)], args := [d1, d2] }
  | _ => none }
def rsetSteadyRow : OpenClaim := { program := "ytbebihphodafiaa", sum := "63b7f69553aad24691c5c425bae6ccc2b1b9a58aff45446510b57c91673618d9", func := "scarp/scarplaw15.RsetSteady", spec := "rsetSteady", unfollowed := true, recurses := true, apart := false }
def RsetSteadySaid : Prop := rsetSteadyRow.holds Try.pinned (OpenSpec.ofChange rsetSteadySpec)

/-- ITS FALSE NEIGHBOUR: 'it returns false'. Refute it at one input. -/
def rsetSteadyWrong : ChangeSpec := { name := "rsetSteady", fn := fun _ => fun
  | [d1, d2] => { results := [.lit (.bool false)], args := [d1, d2] }
  | _ => none }
def RsetSteadyWrongFalsely : Prop := rsetSteadyRow.holds Try.pinned (OpenSpec.ofChange rsetSteadyWrong)

/-- 'scarplaw15.RsetNothing': WHATEVER THE INPUT: true; the input reads as it did. -/
def rsetNothingSpec : ChangeSpec := { name := "rsetNothing", fn := fun _ => fun
  | [d] => { results := [.lit (.bool true)], args := [d] }
  | _ => none }
def rsetNothingRow : OpenClaim := { program := "ytbebihphodafiaa", sum := "63b7f69553aad24691c5c425bae6ccc2b1b9a58aff45446510b57c91673618d9", func := "scarp/scarplaw15.RsetNothing", spec := "rsetNothing", unfollowed := true, recurses := true, apart := false }
def RsetNothingSaid : Prop := rsetNothingRow.holds Try.pinned (OpenSpec.ofChange rsetNothingSpec)

/-- ITS FALSE NEIGHBOUR: 'it returns false'. Refute it at one input. -/
def rsetNothingWrong : ChangeSpec := { name := "rsetNothing", fn := fun _ => fun
  | [d] => { results := [.lit (.bool false)], args := [d] }
  | _ => none }
def RsetNothingWrongFalsely : Prop := rsetNothingRow.holds Try.pinned (OpenSpec.ofChange rsetNothingWrong)

/-- 'scarplaw15.RsetOwn': WHATEVER THE INPUT: true; the input reads as it did. -/
def rsetOwnSpec : ChangeSpec := { name := "rsetOwn", fn := fun _ => fun
  | [d1, d2, d3] => { results := [.lit (.bool true)], args := [d1, d2, d3] }
  | _ => none }
def rsetOwnRow : OpenClaim := { program := "ytbebihphodafiaa", sum := "63b7f69553aad24691c5c425bae6ccc2b1b9a58aff45446510b57c91673618d9", func := "scarp/scarplaw15.RsetOwn", spec := "rsetOwn", unfollowed := true, recurses := true, apart := false }
def RsetOwnSaid : Prop := rsetOwnRow.holds Try.pinned (OpenSpec.ofChange rsetOwnSpec)

/-- ITS FALSE NEIGHBOUR: 'it returns false'. Refute it at one input. -/
def rsetOwnWrong : ChangeSpec := { name := "rsetOwn", fn := fun _ => fun
  | [d1, d2, d3] => { results := [.lit (.bool false)], args := [d1, d2, d3] }
  | _ => none }
def RsetOwnWrongFalsely : Prop := rsetOwnRow.holds Try.pinned (OpenSpec.ofChange rsetOwnWrong)

/-- 'scarplaw15.RsetPlays': WHATEVER THE INPUT: true; the input reads as it did. -/
def rsetPlaysSpec : ChangeSpec := { name := "rsetPlays", fn := fun _ => fun
  | [d1, d2, d3] => { results := [.lit (.bool true)], args := [d1, d2, d3] }
  | _ => none }
def rsetPlaysRow : OpenClaim := { program := "ytbebihphodafiaa", sum := "63b7f69553aad24691c5c425bae6ccc2b1b9a58aff45446510b57c91673618d9", func := "scarp/scarplaw15.RsetPlays", spec := "rsetPlays", unfollowed := true, recurses := true, apart := false }
def RsetPlaysSaid : Prop := rsetPlaysRow.holds Try.pinned (OpenSpec.ofChange rsetPlaysSpec)

/-- ITS FALSE NEIGHBOUR: 'it returns false'. Refute it at one input. -/
def rsetPlaysWrong : ChangeSpec := { name := "rsetPlays", fn := fun _ => fun
  | [d1, d2, d3] => { results := [.lit (.bool false)], args := [d1, d2, d3] }
  | _ => none }
def RsetPlaysWrongFalsely : Prop := rsetPlaysRow.holds Try.pinned (OpenSpec.ofChange rsetPlaysWrong)

/-- 'scarplaw14.WbufPlays': WHATEVER THE INPUT: true; the input reads as it did. -/
def wbufPlaysSpec : ChangeSpec := { name := "wbufPlays", fn := fun _ => fun
  | [d1, d2, d3, d4] => { results := [.lit (.bool true)], args := [d1, d2, d3, d4] }
  | _ => none }
def wbufPlaysRow : OpenClaim := { program := "ytbebihphodafiaa", sum := "63b7f69553aad24691c5c425bae6ccc2b1b9a58aff45446510b57c91673618d9", func := "scarp/scarplaw14.WbufPlays", spec := "wbufPlays", unfollowed := true, recurses := true, apart := false }
def WbufPlaysSaid : Prop := wbufPlaysRow.holds Try.pinned (OpenSpec.ofChange wbufPlaysSpec)

/-- ITS FALSE NEIGHBOUR: 'it returns false'. Refute it at one input. -/
def wbufPlaysWrong : ChangeSpec := { name := "wbufPlays", fn := fun _ => fun
  | [d1, d2, d3, d4] => { results := [.lit (.bool false)], args := [d1, d2, d3, d4] }
  | _ => none }
def WbufPlaysWrongFalsely : Prop := wbufPlaysRow.holds Try.pinned (OpenSpec.ofChange wbufPlaysWrong)

/-- 'scarplaw14.WbufNothing': WHATEVER THE INPUT: true; the input reads as it did. -/
def wbufNothingSpec : ChangeSpec := { name := "wbufNothing", fn := fun _ => fun
  | [d] => { results := [.lit (.bool true)], args := [d] }
  | _ => none }
def wbufNothingRow : OpenClaim := { program := "ytbebihphodafiaa", sum := "63b7f69553aad24691c5c425bae6ccc2b1b9a58aff45446510b57c91673618d9", func := "scarp/scarplaw14.WbufNothing", spec := "wbufNothing", unfollowed := true, recurses := true, apart := false }
def WbufNothingSaid : Prop := wbufNothingRow.holds Try.pinned (OpenSpec.ofChange wbufNothingSpec)

/-- ITS FALSE NEIGHBOUR: 'it returns false'. Refute it at one input. -/
def wbufNothingWrong : ChangeSpec := { name := "wbufNothing", fn := fun _ => fun
  | [d] => { results := [.lit (.bool false)], args := [d] }
  | _ => none }
def WbufNothingWrongFalsely : Prop := wbufNothingRow.holds Try.pinned (OpenSpec.ofChange wbufNothingWrong)

/- THE SECOND FORM. 'bulk': how many values and letters a reading holds, each counted each time it is reached (what is shared counts as often as it is met; a slice's spare places count too). A statement '..UptoSaid' is the law's where the arguments, and the package variables that the reading takes, are together of bulk at most 1048576: NARROWER than '..Said'. Prove '..Said' where nothing that the law and all that it calls make is longer than what came in: it says more and counts as full. Else prove '..UptoSaid'. A law counts once. -/
mutual
def uptoBulk {H : Type} : DataW H → Nat
  | .lit (.string bytes) => bytes.length + 1
  | .lit _ => 1
  | .nil => 1
  | .ptr d => uptoBulk d + 1
  | .slice elems spare => uptoBulkAll elems + uptoBulkAll spare + 1
  | .agg parts => uptoBulkAll parts + 1
  | .iface _ d => uptoBulk d + 1
  | .map entries => uptoBulkEntries entries + 1
  | .held _ => 1
def uptoBulkAll {H : Type} : List (DataW H) → Nat
  | [] => 0
  | d :: r => uptoBulk d + uptoBulkAll r
def uptoBulkEntries {H : Type} : List (Lit × DataW H) → Nat
  | [] => 0
  | x :: r => uptoBulkEntry x + uptoBulkEntries r
def uptoBulkEntry {H : Type} : Lit × DataW H → Nat
  | (.string bytes, d) => bytes.length + uptoBulk d + 1
  | (_, d) => uptoBulk d + 1
 end
def uptoSmall : (H : Type) → List (DataW H) → Bool := fun _ ds => decide (uptoBulkAll ds ≤ 1048576)
def OpenSpec.upto (s : _root_.Go.ChangeSpec) : _root_.Go.OpenSpec := { _root_.Go.OpenSpec.ofChange s with cond := some uptoSmall }

/-- 'scarplaw14.WbufRefused', WHERE WHAT IT READS IS OF BULK AT MOST 1048576: true; the input reads as it did. -/
def wbufRefusedUptoRow : OpenClaim := { program := "ytbebihphodafiaa", sum := "63b7f69553aad24691c5c425bae6ccc2b1b9a58aff45446510b57c91673618d9", func := "scarp/scarplaw14.WbufRefused", spec := "wbufRefused", unfollowed := true, recurses := true, apart := false, narrowed := true }
def WbufRefusedUptoSaid : Prop := wbufRefusedUptoRow.holds Try.pinned (OpenSpec.upto wbufRefusedSpec)

/-- 'scarplaw14.WbufParts', WHERE WHAT IT READS IS OF BULK AT MOST 1048576: true; the input reads as it did. -/
def wbufPartsUptoRow : OpenClaim := { program := "ytbebihphodafiaa", sum := "63b7f69553aad24691c5c425bae6ccc2b1b9a58aff45446510b57c91673618d9", func := "scarp/scarplaw14.WbufParts", spec := "wbufParts", unfollowed := true, recurses := true, apart := false, narrowed := true }
def WbufPartsUptoSaid : Prop := wbufPartsUptoRow.holds Try.pinned (OpenSpec.upto wbufPartsSpec)

/-- 'scarplaw14.WbufLast', WHERE WHAT IT READS IS OF BULK AT MOST 1048576: true; the input reads as it did. -/
def wbufLastUptoRow : OpenClaim := { program := "ytbebihphodafiaa", sum := "63b7f69553aad24691c5c425bae6ccc2b1b9a58aff45446510b57c91673618d9", func := "scarp/scarplaw14.WbufLast", spec := "wbufLast", unfollowed := true, recurses := true, apart := false, narrowed := true }
def WbufLastUptoSaid : Prop := wbufLastUptoRow.holds Try.pinned (OpenSpec.upto wbufLastSpec)

/-- 'scarplaw15.RsetLimits', WHERE WHAT IT READS IS OF BULK AT MOST 1048576: true; the input reads as it did. -/
def rsetLimitsUptoRow : OpenClaim := { program := "ytbebihphodafiaa", sum := "63b7f69553aad24691c5c425bae6ccc2b1b9a58aff45446510b57c91673618d9", func := "scarp/scarplaw15.RsetLimits", spec := "rsetLimits", unfollowed := true, recurses := true, apart := false, narrowed := true }
def RsetLimitsUptoSaid : Prop := rsetLimitsUptoRow.holds Try.pinned (OpenSpec.upto rsetLimitsSpec)

/-- 'scarplaw15.RsetSteady', WHERE WHAT IT READS IS OF BULK AT MOST 1048576: true; the input reads as it did. -/
def rsetSteadyUptoRow : OpenClaim := { program := "ytbebihphodafiaa", sum := "63b7f69553aad24691c5c425bae6ccc2b1b9a58aff45446510b57c91673618d9", func := "scarp/scarplaw15.RsetSteady", spec := "rsetSteady", unfollowed := true, recurses := true, apart := false, narrowed := true }
def RsetSteadyUptoSaid : Prop := rsetSteadyUptoRow.holds Try.pinned (OpenSpec.upto rsetSteadySpec)

/-- 'scarplaw15.RsetNothing', WHERE WHAT IT READS IS OF BULK AT MOST 1048576: true; the input reads as it did. -/
def rsetNothingUptoRow : OpenClaim := { program := "ytbebihphodafiaa", sum := "63b7f69553aad24691c5c425bae6ccc2b1b9a58aff45446510b57c91673618d9", func := "scarp/scarplaw15.RsetNothing", spec := "rsetNothing", unfollowed := true, recurses := true, apart := false, narrowed := true }
def RsetNothingUptoSaid : Prop := rsetNothingUptoRow.holds Try.pinned (OpenSpec.upto rsetNothingSpec)

/-- 'scarplaw15.RsetOwn', WHERE WHAT IT READS IS OF BULK AT MOST 1048576: true; the input reads as it did. -/
def rsetOwnUptoRow : OpenClaim := { program := "ytbebihphodafiaa", sum := "63b7f69553aad24691c5c425bae6ccc2b1b9a58aff45446510b57c91673618d9", func := "scarp/scarplaw15.RsetOwn", spec := "rsetOwn", unfollowed := true, recurses := true, apart := false, narrowed := true }
def RsetOwnUptoSaid : Prop := rsetOwnUptoRow.holds Try.pinned (OpenSpec.upto rsetOwnSpec)

/-- 'scarplaw15.RsetPlays', WHERE WHAT IT READS IS OF BULK AT MOST 1048576: true; the input reads as it did. -/
def rsetPlaysUptoRow : OpenClaim := { program := "ytbebihphodafiaa", sum := "63b7f69553aad24691c5c425bae6ccc2b1b9a58aff45446510b57c91673618d9", func := "scarp/scarplaw15.RsetPlays", spec := "rsetPlays", unfollowed := true, recurses := true, apart := false, narrowed := true }
def RsetPlaysUptoSaid : Prop := rsetPlaysUptoRow.holds Try.pinned (OpenSpec.upto rsetPlaysSpec)

/-- 'scarplaw14.WbufPlays', WHERE WHAT IT READS IS OF BULK AT MOST 1048576: true; the input reads as it did. -/
def wbufPlaysUptoRow : OpenClaim := { program := "ytbebihphodafiaa", sum := "63b7f69553aad24691c5c425bae6ccc2b1b9a58aff45446510b57c91673618d9", func := "scarp/scarplaw14.WbufPlays", spec := "wbufPlays", unfollowed := true, recurses := true, apart := false, narrowed := true }
def WbufPlaysUptoSaid : Prop := wbufPlaysUptoRow.holds Try.pinned (OpenSpec.upto wbufPlaysSpec)

/-- 'scarplaw14.WbufNothing', WHERE WHAT IT READS IS OF BULK AT MOST 1048576: true; the input reads as it did. -/
def wbufNothingUptoRow : OpenClaim := { program := "ytbebihphodafiaa", sum := "63b7f69553aad24691c5c425bae6ccc2b1b9a58aff45446510b57c91673618d9", func := "scarp/scarplaw14.WbufNothing", spec := "wbufNothing", unfollowed := true, recurses := true, apart := false, narrowed := true }
def WbufNothingUptoSaid : Prop := wbufNothingUptoRow.holds Try.pinned (OpenSpec.upto wbufNothingSpec)

end Rows
end Go.Proofs.Ytbebihphodafiaa
