/-
  No cell of these rows narrows 'for every input' (looked for: loops, veiled, ifaces, maps, wideKeys, modest, calm, conditions, laid).
  DERIVED. THE GIVEN ROWS OF THIS SEAT. 5 by the template 'for every input the law returns true; each argument reads behind the call as it read before'; 0 by the template 'total and deterministic' (their statements: YtfdelaplhpmneaaGreatTotals.lean).
  GIVEN WITH THE SEED: the statements are not yours to turn. If you find one false, say at which input.
  Laid BY PROGRAM, IN A SANDBOX (cutbox-rows.mjs): the forced cells as the released guide's own fill.sh prints them over the translation 00f0befb173e4d7a… (all of the seat's roots in one cut). By AI agents, Wed Nov 11 2026. No macro, syntax, notation, axiom, sorry.
-/
import Derived.Test.YtfdelaplhpmneaaGreatChecked
import GoSem.Claim
import GoSem.ClaimJoined
import GoSem.ClaimMapViews
import Derived.JoinedTies
import Derived.KernelRfl
namespace Go.Proofs.YtfdelaplhpmneaaGreat
/- THE CELL 'sum', in the pinned program and in every row, IS THE sha256 OF THE DUMP (.gsa) THAT YtfdelaplhpmneaaGreatProg.lean LOADS. Nothing in Lean hashes anything: it is a label: what it is worth is what the hold of that sum in a sandbox is worth. -/
noncomputable def Tryz.pinned : Pinned := { name := "ytfdelaplhpmneaagreat", sum := "00f0befb173e4d7a710139e7d6e56b30e448b720271e2dd534e519e284d14f36", checked := Tryz.checked }
namespace Rows
def none {H : Type} : Left H := { results := [], args := [] }

/-- 'gantrylaw13.GapFinds': WHATEVER THE INPUT: true; the input reads as it did. -/
def gapFindsSpec : ChangeSpec := { name := "gapFinds", fn := fun _ => fun
  | [d1, d2, d3, d4, d5] => { results := [.lit (.bool true)], args := [d1, d2, d3, d4, d5] }
  | _ => none }
def gapFindsRow : OpenClaim := { program := "ytfdelaplhpmneaagreat", sum := "00f0befb173e4d7a710139e7d6e56b30e448b720271e2dd534e519e284d14f36", func := "gantry/gantrylaw13.GapFinds", spec := "gapFinds", unfollowed := true, recurses := true, apart := false }
def GapFindsSaid : Prop := gapFindsRow.holds Tryz.pinned (OpenSpec.ofChange gapFindsSpec)

/-- ITS FALSE NEIGHBOUR: 'it returns false'. Refute it at one input. -/
def gapFindsWrong : ChangeSpec := { name := "gapFinds", fn := fun _ => fun
  | [d1, d2, d3, d4, d5] => { results := [.lit (.bool false)], args := [d1, d2, d3, d4, d5] }
  | _ => none }
def GapFindsWrongFalsely : Prop := gapFindsRow.holds Tryz.pinned (OpenSpec.ofChange gapFindsWrong)

/-- 'gantrylaw13.GapAlong': WHATEVER THE INPUT: true; the input reads as it did. -/
def gapAlongSpec : ChangeSpec := { name := "gapAlong", fn := fun _ => fun
  | [d1, d2, d3] => { results := [.lit (.bool true)], args := [d1, d2, d3] }
  | _ => none }
def gapAlongRow : OpenClaim := { program := "ytfdelaplhpmneaagreat", sum := "00f0befb173e4d7a710139e7d6e56b30e448b720271e2dd534e519e284d14f36", func := "gantry/gantrylaw13.GapAlong", spec := "gapAlong", unfollowed := true, recurses := true, apart := false }
def GapAlongSaid : Prop := gapAlongRow.holds Tryz.pinned (OpenSpec.ofChange gapAlongSpec)

/-- ITS FALSE NEIGHBOUR: 'it returns false'. Refute it at one input. -/
def gapAlongWrong : ChangeSpec := { name := "gapAlong", fn := fun _ => fun
  | [d1, d2, d3] => { results := [.lit (.bool false)], args := [d1, d2, d3] }
  | _ => none }
def GapAlongWrongFalsely : Prop := gapAlongRow.holds Tryz.pinned (OpenSpec.ofChange gapAlongWrong)

/-- 'gantrylaw13.GapStays': WHATEVER THE INPUT: true; the input reads as it did. -/
def gapStaysSpec : ChangeSpec := { name := "gapStays", fn := fun _ => fun
  | [d1, d2] => { results := [.lit (.bool true)], args := [d1, d2] }
  | _ => none }
def gapStaysRow : OpenClaim := { program := "ytfdelaplhpmneaagreat", sum := "00f0befb173e4d7a710139e7d6e56b30e448b720271e2dd534e519e284d14f36", func := "gantry/gantrylaw13.GapStays", spec := "gapStays", unfollowed := true, recurses := true, apart := false }
def GapStaysSaid : Prop := gapStaysRow.holds Tryz.pinned (OpenSpec.ofChange gapStaysSpec)

/-- ITS FALSE NEIGHBOUR: 'it returns false'. Refute it at one input. -/
def gapStaysWrong : ChangeSpec := { name := "gapStays", fn := fun _ => fun
  | [d1, d2] => { results := [.lit (.bool false)], args := [d1, d2] }
  | _ => none }
def GapStaysWrongFalsely : Prop := gapStaysRow.holds Tryz.pinned (OpenSpec.ofChange gapStaysWrong)

/-- 'gantrylaw13.GapKeeps': WHATEVER THE INPUT: true; the input reads as it did. -/
def gapKeepsSpec : ChangeSpec := { name := "gapKeeps", fn := fun _ => fun
  | [d1, d2, d3] => { results := [.lit (.bool true)], args := [d1, d2, d3] }
  | _ => none }
def gapKeepsRow : OpenClaim := { program := "ytfdelaplhpmneaagreat", sum := "00f0befb173e4d7a710139e7d6e56b30e448b720271e2dd534e519e284d14f36", func := "gantry/gantrylaw13.GapKeeps", spec := "gapKeeps", unfollowed := true, recurses := true, apart := false }
def GapKeepsSaid : Prop := gapKeepsRow.holds Tryz.pinned (OpenSpec.ofChange gapKeepsSpec)

/-- ITS FALSE NEIGHBOUR: 'it returns false'. Refute it at one input. -/
def gapKeepsWrong : ChangeSpec := { name := "gapKeeps", fn := fun _ => fun
  | [d1, d2, d3] => { results := [.lit (.bool false)], args := [d1, d2, d3] }
  | _ => none }
def GapKeepsWrongFalsely : Prop := gapKeepsRow.holds Tryz.pinned (OpenSpec.ofChange gapKeepsWrong)

/-- 'gantrylaw13.GapTouches': WHATEVER THE INPUT: true; the input reads as it did. -/
def gapTouchesSpec : ChangeSpec := { name := "gapTouches", fn := fun _ => fun
  | [d1, d2, d3, d4, d5] => { results := [.lit (.bool true)], args := [d1, d2, d3, d4, d5] }
  | _ => none }
def gapTouchesRow : OpenClaim := { program := "ytfdelaplhpmneaagreat", sum := "00f0befb173e4d7a710139e7d6e56b30e448b720271e2dd534e519e284d14f36", func := "gantry/gantrylaw13.GapTouches", spec := "gapTouches", unfollowed := true, recurses := true, apart := false }
def GapTouchesSaid : Prop := gapTouchesRow.holds Tryz.pinned (OpenSpec.ofChange gapTouchesSpec)

/-- ITS FALSE NEIGHBOUR: 'it returns false'. Refute it at one input. -/
def gapTouchesWrong : ChangeSpec := { name := "gapTouches", fn := fun _ => fun
  | [d1, d2, d3, d4, d5] => { results := [.lit (.bool false)], args := [d1, d2, d3, d4, d5] }
  | _ => none }
def GapTouchesWrongFalsely : Prop := gapTouchesRow.holds Tryz.pinned (OpenSpec.ofChange gapTouchesWrong)

/- THE SECOND FORM. 'bulk': how many values and letters a reading holds, each counted each time it is reached (what is shared counts as often as it is met; a slice's spare places count too). A statement '..UptoSaid' is the law's where the arguments, and the package variables that the reading takes, are together of bulk at most 1048576: NARROWER than '..Said'. Prove '..Said' where nothing that the law and all that it calls make is longer than what came in: it says more and counts as full. Else prove '..UptoSaid'. A law counts once. -/
mutual
def uptoBulk {H : Type} : DataW H → Nat
  | .lit (.string bytes) => bytes.length + 1
  | .lit _ => 1
  | .nil => 1
  | .ptr d => uptoBulk d + 1
  | .slice elems spare => uptoBulkAll elems + uptoBulkAll spare + 1
  | .agg parts => uptoBulkAll parts + 1
  | .iface _ d => uptoBulk d + 1
  | .map entries => uptoBulkEntries entries + 1
  | .held _ => 1
def uptoBulkAll {H : Type} : List (DataW H) → Nat
  | [] => 0
  | d :: r => uptoBulk d + uptoBulkAll r
def uptoBulkEntries {H : Type} : List (Lit × DataW H) → Nat
  | [] => 0
  | x :: r => uptoBulkEntry x + uptoBulkEntries r
def uptoBulkEntry {H : Type} : Lit × DataW H → Nat
  | (.string bytes, d) => bytes.length + uptoBulk d + 1
  | (_, d) => uptoBulk d + 1
 end
def uptoSmall : (H : Type) → List (DataW H) → Bool := fun _ ds => decide (uptoBulkAll ds ≤ 1048576)
def OpenSpec.upto (s : _root_.Go.ChangeSpec) : _root_.Go.OpenSpec := { _root_.Go.OpenSpec.ofChange s with cond := some uptoSmall }

/-- 'gantrylaw13.GapFinds', WHERE WHAT IT READS IS OF BULK AT MOST 1048576: true; the input reads as it did. -/
def gapFindsUptoRow : OpenClaim := { program := "ytfdelaplhpmneaagreat", sum := "00f0befb173e4d7a710139e7d6e56b30e448b720271e2dd534e519e284d14f36", func := "gantry/gantrylaw13.GapFinds", spec := "gapFinds", unfollowed := true, recurses := true, apart := false, narrowed := true }
def GapFindsUptoSaid : Prop := gapFindsUptoRow.holds Tryz.pinned (OpenSpec.upto gapFindsSpec)

/-- 'gantrylaw13.GapAlong', WHERE WHAT IT READS IS OF BULK AT MOST 1048576: true; the input reads as it did. -/
def gapAlongUptoRow : OpenClaim := { program := "ytfdelaplhpmneaagreat", sum := "00f0befb173e4d7a710139e7d6e56b30e448b720271e2dd534e519e284d14f36", func := "gantry/gantrylaw13.GapAlong", spec := "gapAlong", unfollowed := true, recurses := true, apart := false, narrowed := true }
def GapAlongUptoSaid : Prop := gapAlongUptoRow.holds Tryz.pinned (OpenSpec.upto gapAlongSpec)

/-- 'gantrylaw13.GapStays', WHERE WHAT IT READS IS OF BULK AT MOST 1048576: true; the input reads as it did. -/
def gapStaysUptoRow : OpenClaim := { program := "ytfdelaplhpmneaagreat", sum := "00f0befb173e4d7a710139e7d6e56b30e448b720271e2dd534e519e284d14f36", func := "gantry/gantrylaw13.GapStays", spec := "gapStays", unfollowed := true, recurses := true, apart := false, narrowed := true }
def GapStaysUptoSaid : Prop := gapStaysUptoRow.holds Tryz.pinned (OpenSpec.upto gapStaysSpec)

/-- 'gantrylaw13.GapKeeps', WHERE WHAT IT READS IS OF BULK AT MOST 1048576: true; the input reads as it did. -/
def gapKeepsUptoRow : OpenClaim := { program := "ytfdelaplhpmneaagreat", sum := "00f0befb173e4d7a710139e7d6e56b30e448b720271e2dd534e519e284d14f36", func := "gantry/gantrylaw13.GapKeeps", spec := "gapKeeps", unfollowed := true, recurses := true, apart := false, narrowed := true }
def GapKeepsUptoSaid : Prop := gapKeepsUptoRow.holds Tryz.pinned (OpenSpec.upto gapKeepsSpec)

/-- 'gantrylaw13.GapTouches', WHERE WHAT IT READS IS OF BULK AT MOST 1048576: true; the input reads as it did. -/
def gapTouchesUptoRow : OpenClaim := { program := "ytfdelaplhpmneaagreat", sum := "00f0befb173e4d7a710139e7d6e56b30e448b720271e2dd534e519e284d14f36", func := "gantry/gantrylaw13.GapTouches", spec := "gapTouches", unfollowed := true, recurses := true, apart := false, narrowed := true }
def GapTouchesUptoSaid : Prop := gapTouchesUptoRow.holds Tryz.pinned (OpenSpec.upto gapTouchesSpec)

end Rows
end Go.Proofs.YtfdelaplhpmneaaGreat
