/-
  No cell of these rows narrows 'for every input' (looked for: loops, veiled, ifaces, maps, wideKeys, modest, calm, conditions, laid).
  DERIVED. THE GIVEN ROWS OF THIS SEAT. 3 by the template 'for every input the law returns true; each argument reads behind the call as it read before'; 0 by the template 'total and deterministic' (their statements: YthhdbchmjfdgmaaTotals.lean).
  GIVEN WITH THE SEED: the statements are not yours to turn. If you find one false, say at which input.
  Laid BY PROGRAM, IN A SANDBOX (cutbox-rows.mjs): the forced cells as the released guide's own fill.sh prints them over the translation da83293e74c12705… (all of the seat's roots in one cut). By AI agents, Wed Nov 11 2026. No macro, syntax, notation, axiom, sorry.
-/
import Derived.Test.YthhdbchmjfdgmaaChecked
import GoSem.Claim
import GoSem.ClaimJoined
import GoSem.ClaimMapViews
import Derived.JoinedTies
import Derived.KernelRfl
namespace Go.Proofs.Ythhdbchmjfdgmaa
/- THE CELL 'sum', in the pinned program and in every row, IS THE sha256 OF THE DUMP (.gsa) THAT YthhdbchmjfdgmaaProg.lean LOADS. Nothing in Lean hashes anything: it is a label: what it is worth is what the hold of that sum in a sandbox is worth. -/
noncomputable def Try.pinned : Pinned := { name := "ythhdbchmjfdgmaa", sum := "da83293e74c127050514280456fa6cfe9ef98187060d8f3d151d9b57106b007c", checked := Try.checked }
namespace Rows
def none {H : Type} : Left H := { results := [], args := [] }

/-- 'gantrylaw06.PolyMakes': WHATEVER THE INPUT: true; the input reads as it did. -/
def polyMakesSpec : ChangeSpec := { name := "polyMakes", fn := fun _ => fun
  | [d1, d2] => { results := [.lit (.bool true)], args := [d1, d2] }
  | _ => none }
def polyMakesRow : OpenClaim := { program := "ythhdbchmjfdgmaa", sum := "da83293e74c127050514280456fa6cfe9ef98187060d8f3d151d9b57106b007c", func := "gantry/gantrylaw06.PolyMakes", spec := "polyMakes", unfollowed := true, recurses := true, apart := false }
def PolyMakesSaid : Prop := polyMakesRow.holds Try.pinned (OpenSpec.ofChange polyMakesSpec)

/-- ITS FALSE NEIGHBOUR: 'it returns false'. Refute it at one input. -/
def polyMakesWrong : ChangeSpec := { name := "polyMakes", fn := fun _ => fun
  | [d1, d2] => { results := [.lit (.bool false)], args := [d1, d2] }
  | _ => none }
def PolyMakesWrongFalsely : Prop := polyMakesRow.holds Try.pinned (OpenSpec.ofChange polyMakesWrong)

/-- 'gantrylaw06.PolyDivisors': WHATEVER THE INPUT: true; the input reads as it did. -/
def polyDivisorsSpec : ChangeSpec := { name := "polyDivisors", fn := fun _ => fun
  | [d1, d2, d3] => { results := [.lit (.bool true)], args := [d1, d2, d3] }
  | _ => none }
def polyDivisorsRow : OpenClaim := { program := "ythhdbchmjfdgmaa", sum := "da83293e74c127050514280456fa6cfe9ef98187060d8f3d151d9b57106b007c", func := "gantry/gantrylaw06.PolyDivisors", spec := "polyDivisors", unfollowed := true, recurses := true, apart := false }
def PolyDivisorsSaid : Prop := polyDivisorsRow.holds Try.pinned (OpenSpec.ofChange polyDivisorsSpec)

/-- ITS FALSE NEIGHBOUR: 'it returns false'. Refute it at one input. -/
def polyDivisorsWrong : ChangeSpec := { name := "polyDivisors", fn := fun _ => fun
  | [d1, d2, d3] => { results := [.lit (.bool false)], args := [d1, d2, d3] }
  | _ => none }
def PolyDivisorsWrongFalsely : Prop := polyDivisorsRow.holds Try.pinned (OpenSpec.ofChange polyDivisorsWrong)

/-- 'gantrylaw06.PolyDerives': WHATEVER THE INPUT: true; the input reads as it did. -/
def polyDerivesSpec : ChangeSpec := { name := "polyDerives", fn := fun _ => fun
  | [d1, d2, d3, d4] => { results := [.lit (.bool true)], args := [d1, d2, d3, d4] }
  | _ => none }
def polyDerivesRow : OpenClaim := { program := "ythhdbchmjfdgmaa", sum := "da83293e74c127050514280456fa6cfe9ef98187060d8f3d151d9b57106b007c", func := "gantry/gantrylaw06.PolyDerives", spec := "polyDerives", unfollowed := true, recurses := true, apart := false }
def PolyDerivesSaid : Prop := polyDerivesRow.holds Try.pinned (OpenSpec.ofChange polyDerivesSpec)

/-- ITS FALSE NEIGHBOUR: 'it returns false'. Refute it at one input. -/
def polyDerivesWrong : ChangeSpec := { name := "polyDerives", fn := fun _ => fun
  | [d1, d2, d3, d4] => { results := [.lit (.bool false)], args := [d1, d2, d3, d4] }
  | _ => none }
def PolyDerivesWrongFalsely : Prop := polyDerivesRow.holds Try.pinned (OpenSpec.ofChange polyDerivesWrong)

/- THE SECOND FORM. 'bulk': how many values and letters a reading holds, each counted each time it is reached (what is shared counts as often as it is met; a slice's spare places count too). A statement '..UptoSaid' is the law's where the arguments, and the package variables that the reading takes, are together of bulk at most 1048576: NARROWER than '..Said'. Prove '..Said' where nothing that the law and all that it calls make is longer than what came in: it says more and counts as full. Else prove '..UptoSaid'. A law counts once. -/
mutual
def uptoBulk {H : Type} : DataW H → Nat
  | .lit (.string bytes) => bytes.length + 1
  | .lit _ => 1
  | .nil => 1
  | .ptr d => uptoBulk d + 1
  | .slice elems spare => uptoBulkAll elems + uptoBulkAll spare + 1
  | .agg parts => uptoBulkAll parts + 1
  | .iface _ d => uptoBulk d + 1
  | .map entries => uptoBulkEntries entries + 1
  | .held _ => 1
def uptoBulkAll {H : Type} : List (DataW H) → Nat
  | [] => 0
  | d :: r => uptoBulk d + uptoBulkAll r
def uptoBulkEntries {H : Type} : List (Lit × DataW H) → Nat
  | [] => 0
  | x :: r => uptoBulkEntry x + uptoBulkEntries r
def uptoBulkEntry {H : Type} : Lit × DataW H → Nat
  | (.string bytes, d) => bytes.length + uptoBulk d + 1
  | (_, d) => uptoBulk d + 1
 end
def uptoSmall : (H : Type) → List (DataW H) → Bool := fun _ ds => decide (uptoBulkAll ds ≤ 1048576)
def OpenSpec.upto (s : _root_.Go.ChangeSpec) : _root_.Go.OpenSpec := { _root_.Go.OpenSpec.ofChange s with cond := some uptoSmall }

/-- 'gantrylaw06.PolyMakes', WHERE WHAT IT READS IS OF BULK AT MOST 1048576: true; the input reads as it did. -/
def polyMakesUptoRow : OpenClaim := { program := "ythhdbchmjfdgmaa", sum := "da83293e74c127050514280456fa6cfe9ef98187060d8f3d151d9b57106b007c", func := "gantry/gantrylaw06.PolyMakes", spec := "polyMakes", unfollowed := true, recurses := true, apart := false, narrowed := true }
def PolyMakesUptoSaid : Prop := polyMakesUptoRow.holds Try.pinned (OpenSpec.upto polyMakesSpec)

/-- 'gantrylaw06.PolyDivisors', WHERE WHAT IT READS IS OF BULK AT MOST 1048576: true; the input reads as it did. -/
def polyDivisorsUptoRow : OpenClaim := { program := "ythhdbchmjfdgmaa", sum := "da83293e74c127050514280456fa6cfe9ef98187060d8f3d151d9b57106b007c", func := "gantry/gantrylaw06.PolyDivisors", spec := "polyDivisors", unfollowed := true, recurses := true, apart := false, narrowed := true }
def PolyDivisorsUptoSaid : Prop := polyDivisorsUptoRow.holds Try.pinned (OpenSpec.upto polyDivisorsSpec)

/-- 'gantrylaw06.PolyDerives', WHERE WHAT IT READS IS OF BULK AT MOST 1048576: true; the input reads as it did. -/
def polyDerivesUptoRow : OpenClaim := { program := "ythhdbchmjfdgmaa", sum := "da83293e74c127050514280456fa6cfe9ef98187060d8f3d151d9b57106b007c", func := "gantry/gantrylaw06.PolyDerives", spec := "polyDerives", unfollowed := true, recurses := true, apart := false, narrowed := true }
def PolyDerivesUptoSaid : Prop := polyDerivesUptoRow.holds Try.pinned (OpenSpec.upto polyDerivesSpec)

end Rows
end Go.Proofs.Ythhdbchmjfdgmaa
