/-
  No cell of these rows narrows 'for every input' (looked for: loops, veiled, ifaces, maps, wideKeys, modest, calm, conditions, laid).
  DERIVED. THE GIVEN ROWS OF THIS SEAT. 5 by the template 'for every input the law returns true; each argument reads behind the call as it read before'; 0 by the template 'total and deterministic' (their statements: YtpoiicfpldbgeaaTotals.lean).
  GIVEN WITH THE SEED: the statements are not yours to turn. If you find one false, say at which input.
  Laid BY PROGRAM, IN A SANDBOX (cutbox-rows.mjs): the forced cells as the released guide's own fill.sh prints them over the translation 851117f0e5ba6a5b… (all of the seat's roots in one cut). By AI agents, Wed Nov 11 2026. No macro, syntax, notation, axiom, sorry.
-/
import Derived.Test.YtpoiicfpldbgeaaChecked
import GoSem.Claim
import GoSem.ClaimJoined
import GoSem.ClaimMapViews
import Derived.JoinedTies
import Derived.KernelRfl
namespace Go.Proofs.Ytpoiicfpldbgeaa
/- THE CELL 'sum', in the pinned program and in every row, IS THE sha256 OF THE DUMP (.gsa) THAT YtpoiicfpldbgeaaProg.lean LOADS. Nothing in Lean hashes anything: it is a label: what it is worth is what the hold of that sum in a sandbox is worth. -/
noncomputable def Try.pinned : Pinned := { name := "ytpoiicfpldbgeaa", sum := "851117f0e5ba6a5bf16ff9b0abb443ba5813e727989120da03ef189ec1bb3197", checked := Try.checked }
namespace Rows
def none {H : Type} : Left H := { results := [], args := [] }

/-- 'scarplaw11.IvalRoom': WHATEVER THE INPUT: true; the input reads as it did. -/
def ivalRoomSpec : ChangeSpec := { name := "ivalRoom", fn := fun _ => fun
  | [d1, d2] => { results := [.lit (.bool true)], args := [d1, d2] }
  | _ => none }
def ivalRoomRow : OpenClaim := { program := "ytpoiicfpldbgeaa", sum := "851117f0e5ba6a5bf16ff9b0abb443ba5813e727989120da03ef189ec1bb3197", func := "scarp/scarplaw11.IvalRoom", spec := "ivalRoom", unfollowed := true, recurses := true, apart := false }
def IvalRoomSaid : Prop := ivalRoomRow.holds Try.pinned (OpenSpec.ofChange ivalRoomSpec)

/-- ITS FALSE NEIGHBOUR: 'it returns false'. Refute it at one input. -/
def ivalRoomWrong : ChangeSpec := { name := "ivalRoom", fn := fun _ => fun
  | [d1, d2] => { results := [.lit (.bool false)], args := [d1, d2] }
  | _ => none }
def IvalRoomWrongFalsely : Prop := ivalRoomRow.holds Try.pinned (OpenSpec.ofChange ivalRoomWrong)

/-- 'scarplaw11.IvalJoins': WHATEVER THE INPUT: true; the input reads as it did. -/
def ivalJoinsSpec : ChangeSpec := { name := "ivalJoins", fn := fun _ => fun
  | [d1, d2] => { results := [.lit (.bool true)], args := [d1, d2] }
  | _ => none }
def ivalJoinsRow : OpenClaim := { program := "ytpoiicfpldbgeaa", sum := "851117f0e5ba6a5bf16ff9b0abb443ba5813e727989120da03ef189ec1bb3197", func := "scarp/scarplaw11.IvalJoins", spec := "ivalJoins", unfollowed := true, recurses := true, apart := false }
def IvalJoinsSaid : Prop := ivalJoinsRow.holds Try.pinned (OpenSpec.ofChange ivalJoinsSpec)

/-- ITS FALSE NEIGHBOUR: 'it returns false'. Refute it at one input. -/
def ivalJoinsWrong : ChangeSpec := { name := "ivalJoins", fn := fun _ => fun
  | [d1, d2] => { results := [.lit (.bool false)], args := [d1, d2] }
  | _ => none }
def IvalJoinsWrongFalsely : Prop := ivalJoinsRow.holds Try.pinned (OpenSpec.ofChange ivalJoinsWrong)

/-- 'scarplaw11.IvalBits': WHATEVER THE INPUT: true; the input reads as it did. -/
def ivalBitsSpec : ChangeSpec := { name := "ivalBits", fn := fun _ => fun
  | [d1, d2, d3] => { results := [.lit (.bool true)], args := [d1, d2, d3] }
  | _ => none }
def ivalBitsRow : OpenClaim := { program := "ytpoiicfpldbgeaa", sum := "851117f0e5ba6a5bf16ff9b0abb443ba5813e727989120da03ef189ec1bb3197", func := "scarp/scarplaw11.IvalBits", spec := "ivalBits", unfollowed := true, recurses := true, apart := false }
def IvalBitsSaid : Prop := ivalBitsRow.holds Try.pinned (OpenSpec.ofChange ivalBitsSpec)

/-- ITS FALSE NEIGHBOUR: 'it returns false'. Refute it at one input. -/
def ivalBitsWrong : ChangeSpec := { name := "ivalBits", fn := fun _ => fun
  | [d1, d2, d3] => { results := [.lit (.bool false)], args := [d1, d2, d3] }
  | _ => none }
def IvalBitsWrongFalsely : Prop := ivalBitsRow.holds Try.pinned (OpenSpec.ofChange ivalBitsWrong)

/-- 'scarplaw11.IvalNothing': WHATEVER THE INPUT: true; the input reads as it did. -/
def ivalNothingSpec : ChangeSpec := { name := "ivalNothing", fn := fun _ => fun
  | [d1, d2] => { results := [.lit (.bool true)], args := [d1, d2] }
  | _ => none }
def ivalNothingRow : OpenClaim := { program := "ytpoiicfpldbgeaa", sum := "851117f0e5ba6a5bf16ff9b0abb443ba5813e727989120da03ef189ec1bb3197", func := "scarp/scarplaw11.IvalNothing", spec := "ivalNothing", unfollowed := true, recurses := true, apart := false }
def IvalNothingSaid : Prop := ivalNothingRow.holds Try.pinned (OpenSpec.ofChange ivalNothingSpec)

/-- ITS FALSE NEIGHBOUR: 'it returns false'. Refute it at one input. -/
def ivalNothingWrong : ChangeSpec := { name := "ivalNothing", fn := fun _ => fun
  | [d1, d2] => { results := [.lit (.bool false)], args := [d1, d2] }
  | _ => none }
def IvalNothingWrongFalsely : Prop := ivalNothingRow.holds Try.pinned (OpenSpec.ofChange ivalNothingWrong)

/-- 'scarplaw11.IvalCuts': WHATEVER THE INPUT: true; the input reads as it did. -/
def ivalCutsSpec : ChangeSpec := { name := "ivalCuts", fn := fun _ => fun
  | [d1, d2] => { results := [.lit (.bool true)], args := [d1, d2] }
  | _ => none }
def ivalCutsRow : OpenClaim := { program := "ytpoiicfpldbgeaa", sum := "851117f0e5ba6a5bf16ff9b0abb443ba5813e727989120da03ef189ec1bb3197", func := "scarp/scarplaw11.IvalCuts", spec := "ivalCuts", unfollowed := true, recurses := true, apart := false }
def IvalCutsSaid : Prop := ivalCutsRow.holds Try.pinned (OpenSpec.ofChange ivalCutsSpec)

/-- ITS FALSE NEIGHBOUR: 'it returns false'. Refute it at one input. -/
def ivalCutsWrong : ChangeSpec := { name := "ivalCuts", fn := fun _ => fun
  | [d1, d2] => { results := [.lit (.bool false)], args := [d1, d2] }
  | _ => none }
def IvalCutsWrongFalsely : Prop := ivalCutsRow.holds Try.pinned (OpenSpec.ofChange ivalCutsWrong)

/- THE SECOND FORM. 'bulk': how many values and letters a reading holds, each counted each time it is reached (what is shared counts as often as it is met; a slice's spare places count too). A statement '..UptoSaid' is the law's where the arguments, and the package variables that the reading takes, are together of bulk at most 1048576: NARROWER than '..Said'. Prove '..Said' where nothing that the law and all that it calls make is longer than what came in: it says more and counts as full. Else prove '..UptoSaid'. A law counts once. -/
mutual
def uptoBulk {H : Type} : DataW H → Nat
  | .lit (.string bytes) => bytes.length + 1
  | .lit _ => 1
  | .nil => 1
  | .ptr d => uptoBulk d + 1
  | .slice elems spare => uptoBulkAll elems + uptoBulkAll spare + 1
  | .agg parts => uptoBulkAll parts + 1
  | .iface _ d => uptoBulk d + 1
  | .map entries => uptoBulkEntries entries + 1
  | .held _ => 1
def uptoBulkAll {H : Type} : List (DataW H) → Nat
  | [] => 0
  | d :: r => uptoBulk d + uptoBulkAll r
def uptoBulkEntries {H : Type} : List (Lit × DataW H) → Nat
  | [] => 0
  | x :: r => uptoBulkEntry x + uptoBulkEntries r
def uptoBulkEntry {H : Type} : Lit × DataW H → Nat
  | (.string bytes, d) => bytes.length + uptoBulk d + 1
  | (_, d) => uptoBulk d + 1
 end
def uptoSmall : (H : Type) → List (DataW H) → Bool := fun _ ds => decide (uptoBulkAll ds ≤ 1048576)
def OpenSpec.upto (s : _root_.Go.ChangeSpec) : _root_.Go.OpenSpec := { _root_.Go.OpenSpec.ofChange s with cond := some uptoSmall }

/-- 'scarplaw11.IvalRoom', WHERE WHAT IT READS IS OF BULK AT MOST 1048576: true; the input reads as it did. -/
def ivalRoomUptoRow : OpenClaim := { program := "ytpoiicfpldbgeaa", sum := "851117f0e5ba6a5bf16ff9b0abb443ba5813e727989120da03ef189ec1bb3197", func := "scarp/scarplaw11.IvalRoom", spec := "ivalRoom", unfollowed := true, recurses := true, apart := false, narrowed := true }
def IvalRoomUptoSaid : Prop := ivalRoomUptoRow.holds Try.pinned (OpenSpec.upto ivalRoomSpec)

/-- 'scarplaw11.IvalJoins', WHERE WHAT IT READS IS OF BULK AT MOST 1048576: true; the input reads as it did. -/
def ivalJoinsUptoRow : OpenClaim := { program := "ytpoiicfpldbgeaa", sum := "851117f0e5ba6a5bf16ff9b0abb443ba5813e727989120da03ef189ec1bb3197", func := "scarp/scarplaw11.IvalJoins", spec := "ivalJoins", unfollowed := true, recurses := true, apart := false, narrowed := true }
def IvalJoinsUptoSaid : Prop := ivalJoinsUptoRow.holds Try.pinned (OpenSpec.upto ivalJoinsSpec)

/-- 'scarplaw11.IvalBits', WHERE WHAT IT READS IS OF BULK AT MOST 1048576: true; the input reads as it did. -/
def ivalBitsUptoRow : OpenClaim := { program := "ytpoiicfpldbgeaa", sum := "851117f0e5ba6a5bf16ff9b0abb443ba5813e727989120da03ef189ec1bb3197", func := "scarp/scarplaw11.IvalBits", spec := "ivalBits", unfollowed := true, recurses := true, apart := false, narrowed := true }
def IvalBitsUptoSaid : Prop := ivalBitsUptoRow.holds Try.pinned (OpenSpec.upto ivalBitsSpec)

/-- 'scarplaw11.IvalNothing', WHERE WHAT IT READS IS OF BULK AT MOST 1048576: true; the input reads as it did. -/
def ivalNothingUptoRow : OpenClaim := { program := "ytpoiicfpldbgeaa", sum := "851117f0e5ba6a5bf16ff9b0abb443ba5813e727989120da03ef189ec1bb3197", func := "scarp/scarplaw11.IvalNothing", spec := "ivalNothing", unfollowed := true, recurses := true, apart := false, narrowed := true }
def IvalNothingUptoSaid : Prop := ivalNothingUptoRow.holds Try.pinned (OpenSpec.upto ivalNothingSpec)

/-- 'scarplaw11.IvalCuts', WHERE WHAT IT READS IS OF BULK AT MOST 1048576: true; the input reads as it did. -/
def ivalCutsUptoRow : OpenClaim := { program := "ytpoiicfpldbgeaa", sum := "851117f0e5ba6a5bf16ff9b0abb443ba5813e727989120da03ef189ec1bb3197", func := "scarp/scarplaw11.IvalCuts", spec := "ivalCuts", unfollowed := true, recurses := true, apart := false, narrowed := true }
def IvalCutsUptoSaid : Prop := ivalCutsUptoRow.holds Try.pinned (OpenSpec.upto ivalCutsSpec)

end Rows
end Go.Proofs.Ytpoiicfpldbgeaa
