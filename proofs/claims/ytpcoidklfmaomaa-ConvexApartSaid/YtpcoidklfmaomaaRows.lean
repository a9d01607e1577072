/-
  No cell of these rows narrows 'for every input' (looked for: loops, veiled, ifaces, maps, wideKeys, modest, calm, conditions, laid).
  DERIVED. THE GIVEN ROWS OF THIS SEAT. 6 by the template 'for every input the law returns true; each argument reads behind the call as it read before'; 0 by the template 'total and deterministic' (their statements: YtpcoidklfmaomaaTotals.lean).
  GIVEN WITH THE SEED: the statements are not yours to turn. If you find one false, say at which input.
  Laid BY PROGRAM, IN A SANDBOX (cutbox-rows.mjs): the forced cells as the released guide's own fill.sh prints them over the translation 57d839b2fead9fc6… (all of the seat's roots in one cut). By AI agents, Wed Nov 11 2026. No macro, syntax, notation, axiom, sorry.
-/
import Derived.Test.YtpcoidklfmaomaaChecked
import GoSem.Claim
import GoSem.ClaimJoined
import GoSem.ClaimMapViews
import Derived.JoinedTies
import Derived.KernelRfl
namespace Go.Proofs.Ytpcoidklfmaomaa
/- THE CELL 'sum', in the pinned program and in every row, IS THE sha256 OF THE DUMP (.gsa) THAT YtpcoidklfmaomaaProg.lean LOADS. Nothing in Lean hashes anything: it is a label: what it is worth is what the hold of that sum in a sandbox is worth. -/
noncomputable def Try.pinned : Pinned := { name := "ytpcoidklfmaomaa", sum := "57d839b2fead9fc63a4113746169b0b70df25a7b69daba5eb8af0679e7ed7d87", checked := Try.checked }
namespace Rows
def none {H : Type} : Left H := { results := [], args := [] }

/-- 'gantrylaw12.ConvexPoints': WHATEVER THE INPUT: true; the input reads as it did. -/
def convexPointsSpec : ChangeSpec := { name := "convexPoints", fn := fun _ => fun
  | [d1, d2, d3] => { results := [.lit (.bool true)], args := [d1, d2, d3] }
  | _ => none }
def convexPointsRow : OpenClaim := { program := "ytpcoidklfmaomaa", sum := "57d839b2fead9fc63a4113746169b0b70df25a7b69daba5eb8af0679e7ed7d87", func := "gantry/gantrylaw12.ConvexPoints", spec := "convexPoints", unfollowed := true, recurses := true, apart := false }
def ConvexPointsSaid : Prop := convexPointsRow.holds Try.pinned (OpenSpec.ofChange convexPointsSpec)

/-- ITS FALSE NEIGHBOUR: 'it returns false'. Refute it at one input. -/
def convexPointsWrong : ChangeSpec := { name := "convexPoints", fn := fun _ => fun
  | [d1, d2, d3] => { results := [.lit (.bool false)], args := [d1, d2, d3] }
  | _ => none }
def ConvexPointsWrongFalsely : Prop := convexPointsRow.holds Try.pinned (OpenSpec.ofChange convexPointsWrong)

/-- 'gantrylaw12.ConvexApart': WHATEVER THE INPUT: true; the input reads as it did. -/
def convexApartSpec : ChangeSpec := { name := "convexApart", fn := fun _ => fun
  | [d1, d2, d3, d4, d5] => { results := [.lit (.bool true)], args := [d1, d2, d3, d4, d5] }
  | _ => none }
def convexApartRow : OpenClaim := { program := "ytpcoidklfmaomaa", sum := "57d839b2fead9fc63a4113746169b0b70df25a7b69daba5eb8af0679e7ed7d87", func := "gantry/gantrylaw12.ConvexApart", spec := "convexApart", unfollowed := true, recurses := true, apart := false }
def ConvexApartSaid : Prop := convexApartRow.holds Try.pinned (OpenSpec.ofChange convexApartSpec)

/-- ITS FALSE NEIGHBOUR: 'it returns false'. Refute it at one input. -/
def convexApartWrong : ChangeSpec := { name := "convexApart", fn := fun _ => fun
  | [d1, d2, d3, d4, d5] => { results := [.lit (.bool false)], args := [d1, d2, d3, d4, d5] }
  | _ => none }
def ConvexApartWrongFalsely : Prop := convexApartRow.holds Try.pinned (OpenSpec.ofChange convexApartWrong)

/-- 'gantrylaw12.ConvexMoved': WHATEVER THE INPUT: true; the input reads as it did. -/
def convexMovedSpec : ChangeSpec := { name := "convexMoved", fn := fun _ => fun
  | [d1, d2, d3, d4, d5, d6] => { results := [.lit (.bool true)], args := [d1, d2, d3, d4, d5, d6] }
  | _ => none }
def convexMovedRow : OpenClaim := { program := "ytpcoidklfmaomaa", sum := "57d839b2fead9fc63a4113746169b0b70df25a7b69daba5eb8af0679e7ed7d87", func := "gantry/gantrylaw12.ConvexMoved", spec := "convexMoved", unfollowed := true, recurses := true, apart := false }
def ConvexMovedSaid : Prop := convexMovedRow.holds Try.pinned (OpenSpec.ofChange convexMovedSpec)

/-- ITS FALSE NEIGHBOUR: 'it returns false'. Refute it at one input. -/
def convexMovedWrong : ChangeSpec := { name := "convexMoved", fn := fun _ => fun
  | [d1, d2, d3, d4, d5, d6] => { results := [.lit (.bool false)], args := [d1, d2, d3, d4, d5, d6] }
  | _ => none }
def ConvexMovedWrongFalsely : Prop := convexMovedRow.holds Try.pinned (OpenSpec.ofChange convexMovedWrong)

/-- 'gantrylaw12.ConvexTurned': WHATEVER THE INPUT: true; the input reads as it did. -/
def convexTurnedSpec : ChangeSpec := { name := "convexTurned", fn := fun _ => fun
  | [d1, d2] => { results := [.lit (.bool true)], args := [d1, d2] }
  | _ => none }
def convexTurnedRow : OpenClaim := { program := "ytpcoidklfmaomaa", sum := "57d839b2fead9fc63a4113746169b0b70df25a7b69daba5eb8af0679e7ed7d87", func := "gantry/gantrylaw12.ConvexTurned", spec := "convexTurned", unfollowed := true, recurses := true, apart := false }
def ConvexTurnedSaid : Prop := convexTurnedRow.holds Try.pinned (OpenSpec.ofChange convexTurnedSpec)

/-- ITS FALSE NEIGHBOUR: 'it returns false'. Refute it at one input. -/
def convexTurnedWrong : ChangeSpec := { name := "convexTurned", fn := fun _ => fun
  | [d1, d2] => { results := [.lit (.bool false)], args := [d1, d2] }
  | _ => none }
def ConvexTurnedWrongFalsely : Prop := convexTurnedRow.holds Try.pinned (OpenSpec.ofChange convexTurnedWrong)

/-- 'gantrylaw12.ConvexSupports': WHATEVER THE INPUT: true; the input reads as it did. -/
def convexSupportsSpec : ChangeSpec := { name := "convexSupports", fn := fun _ => fun
  | [d1, d2, d3, d4] => { results := [.lit (.bool true)], args := [d1, d2, d3, d4] }
  | _ => none }
def convexSupportsRow : OpenClaim := { program := "ytpcoidklfmaomaa", sum := "57d839b2fead9fc63a4113746169b0b70df25a7b69daba5eb8af0679e7ed7d87", func := "gantry/gantrylaw12.ConvexSupports", spec := "convexSupports", unfollowed := true, recurses := true, apart := false }
def ConvexSupportsSaid : Prop := convexSupportsRow.holds Try.pinned (OpenSpec.ofChange convexSupportsSpec)

/-- ITS FALSE NEIGHBOUR: 'it returns false'. Refute it at one input. -/
def convexSupportsWrong : ChangeSpec := { name := "convexSupports", fn := fun _ => fun
  | [d1, d2, d3, d4] => { results := [.lit (.bool false)], args := [d1, d2, d3, d4] }
  | _ => none }
def ConvexSupportsWrongFalsely : Prop := convexSupportsRow.holds Try.pinned (OpenSpec.ofChange convexSupportsWrong)

/-- 'gantrylaw12.ConvexSides': WHATEVER THE INPUT: true; the input reads as it did. -/
def convexSidesSpec : ChangeSpec := { name := "convexSides", fn := fun _ => fun
  | [d1, d2] => { results := [.lit (.bool true)], args := [d1, d2] }
  | _ => none }
def convexSidesRow : OpenClaim := { program := "ytpcoidklfmaomaa", sum := "57d839b2fead9fc63a4113746169b0b70df25a7b69daba5eb8af0679e7ed7d87", func := "gantry/gantrylaw12.ConvexSides", spec := "convexSides", unfollowed := true, recurses := true, apart := false }
def ConvexSidesSaid : Prop := convexSidesRow.holds Try.pinned (OpenSpec.ofChange convexSidesSpec)

/-- ITS FALSE NEIGHBOUR: 'it returns false'. Refute it at one input. -/
def convexSidesWrong : ChangeSpec := { name := "convexSides", fn := fun _ => fun
  | [d1, d2] => { results := [.lit (.bool false)], args := [d1, d2] }
  | _ => none }
def ConvexSidesWrongFalsely : Prop := convexSidesRow.holds Try.pinned (OpenSpec.ofChange convexSidesWrong)

/- THE SECOND FORM. 'bulk': how many values and letters a reading holds, each counted each time it is reached (what is shared counts as often as it is met; a slice's spare places count too). A statement '..UptoSaid' is the law's where the arguments, and the package variables that the reading takes, are together of bulk at most 1048576: NARROWER than '..Said'. Prove '..Said' where nothing that the law and all that it calls make is longer than what came in: it says more and counts as full. Else prove '..UptoSaid'. A law counts once. -/
mutual
def uptoBulk {H : Type} : DataW H → Nat
  | .lit (.string bytes) => bytes.length + 1
  | .lit _ => 1
  | .nil => 1
  | .ptr d => uptoBulk d + 1
  | .slice elems spare => uptoBulkAll elems + uptoBulkAll spare + 1
  | .agg parts => uptoBulkAll parts + 1
  | .iface _ d => uptoBulk d + 1
  | .map entries => uptoBulkEntries entries + 1
  | .held _ => 1
def uptoBulkAll {H : Type} : List (DataW H) → Nat
  | [] => 0
  | d :: r => uptoBulk d + uptoBulkAll r
def uptoBulkEntries {H : Type} : List (Lit × DataW H) → Nat
  | [] => 0
  | x :: r => uptoBulkEntry x + uptoBulkEntries r
def uptoBulkEntry {H : Type} : Lit × DataW H → Nat
  | (.string bytes, d) => bytes.length + uptoBulk d + 1
  | (_, d) => uptoBulk d + 1
 end
def uptoSmall : (H : Type) → List (DataW H) → Bool := fun _ ds => decide (uptoBulkAll ds ≤ 1048576)
def OpenSpec.upto (s : _root_.Go.ChangeSpec) : _root_.Go.OpenSpec := { _root_.Go.OpenSpec.ofChange s with cond := some uptoSmall }

/-- 'gantrylaw12.ConvexPoints', WHERE WHAT IT READS IS OF BULK AT MOST 1048576: true; the input reads as it did. -/
def convexPointsUptoRow : OpenClaim := { program := "ytpcoidklfmaomaa", sum := "57d839b2fead9fc63a4113746169b0b70df25a7b69daba5eb8af0679e7ed7d87", func := "gantry/gantrylaw12.ConvexPoints", spec := "convexPoints", unfollowed := true, recurses := true, apart := false, narrowed := true }
def ConvexPointsUptoSaid : Prop := convexPointsUptoRow.holds Try.pinned (OpenSpec.upto convexPointsSpec)

/-- 'gantrylaw12.ConvexApart', WHERE WHAT IT READS IS OF BULK AT MOST 1048576: true; the input reads as it did. -/
def convexApartUptoRow : OpenClaim := { program := "ytpcoidklfmaomaa", sum := "57d839b2fead9fc63a4113746169b0b70df25a7b69daba5eb8af0679e7ed7d87", func := "gantry/gantrylaw12.ConvexApart", spec := "convexApart", unfollowed := true, recurses := true, apart := false, narrowed := true }
def ConvexApartUptoSaid : Prop := convexApartUptoRow.holds Try.pinned (OpenSpec.upto convexApartSpec)

/-- 'gantrylaw12.ConvexMoved', WHERE WHAT IT READS IS OF BULK AT MOST 1048576: true; the input reads as it did. -/
def convexMovedUptoRow : OpenClaim := { program := "ytpcoidklfmaomaa", sum := "57d839b2fead9fc63a4113746169b0b70df25a7b69daba5eb8af0679e7ed7d87", func := "gantry/gantrylaw12.ConvexMoved", spec := "convexMoved", unfollowed := true, recurses := true, apart := false, narrowed := true }
def ConvexMovedUptoSaid : Prop := convexMovedUptoRow.holds Try.pinned (OpenSpec.upto convexMovedSpec)

/-- 'gantrylaw12.ConvexTurned', WHERE WHAT IT READS IS OF BULK AT MOST 1048576: true; the input reads as it did. -/
def convexTurnedUptoRow : OpenClaim := { program := "ytpcoidklfmaomaa", sum := "57d839b2fead9fc63a4113746169b0b70df25a7b69daba5eb8af0679e7ed7d87", func := "gantry/gantrylaw12.ConvexTurned", spec := "convexTurned", unfollowed := true, recurses := true, apart := false, narrowed := true }
def ConvexTurnedUptoSaid : Prop := convexTurnedUptoRow.holds Try.pinned (OpenSpec.upto convexTurnedSpec)

/-- 'gantrylaw12.ConvexSupports', WHERE WHAT IT READS IS OF BULK AT MOST 1048576: true; the input reads as it did. -/
def convexSupportsUptoRow : OpenClaim := { program := "ytpcoidklfmaomaa", sum := "57d839b2fead9fc63a4113746169b0b70df25a7b69daba5eb8af0679e7ed7d87", func := "gantry/gantrylaw12.ConvexSupports", spec := "convexSupports", unfollowed := true, recurses := true, apart := false, narrowed := true }
def ConvexSupportsUptoSaid : Prop := convexSupportsUptoRow.holds Try.pinned (OpenSpec.upto convexSupportsSpec)

/-- 'gantrylaw12.ConvexSides', WHERE WHAT IT READS IS OF BULK AT MOST 1048576: true; the input reads as it did. -/
def convexSidesUptoRow : OpenClaim := { program := "ytpcoidklfmaomaa", sum := "57d839b2fead9fc63a4113746169b0b70df25a7b69daba5eb8af0679e7ed7d87", func := "gantry/gantrylaw12.ConvexSides", spec := "convexSides", unfollowed := true, recurses := true, apart := false, narrowed := true }
def ConvexSidesUptoSaid : Prop := convexSidesUptoRow.holds Try.pinned (OpenSpec.upto convexSidesSpec)

end Rows
end Go.Proofs.Ytpcoidklfmaomaa
