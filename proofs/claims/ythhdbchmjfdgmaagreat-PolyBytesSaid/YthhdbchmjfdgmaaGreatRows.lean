/-
  No cell of these rows narrows 'for every input' (looked for: loops, veiled, ifaces, maps, wideKeys, modest, calm, conditions, laid).
  DERIVED. THE GIVEN ROWS OF THIS SEAT. 4 by the template 'for every input the law returns true; each argument reads behind the call as it read before'; 0 by the template 'total and deterministic' (their statements: YthhdbchmjfdgmaaGreatTotals.lean).
  GIVEN WITH THE SEED: the statements are not yours to turn. If you find one false, say at which input.
  Laid BY PROGRAM, IN A SANDBOX (cutbox-rows.mjs): the forced cells as the released guide's own fill.sh prints them over the translation d251b0f3678728d5… (all of the seat's roots in one cut). By AI agents, Wed Nov 11 2026. No macro, syntax, notation, axiom, sorry.
-/
import Derived.Test.YthhdbchmjfdgmaaGreatChecked
import GoSem.Claim
import GoSem.ClaimJoined
import GoSem.ClaimMapViews
import Derived.JoinedTies
import Derived.KernelRfl
namespace Go.Proofs.YthhdbchmjfdgmaaGreat
/- THE CELL 'sum', in the pinned program and in every row, IS THE sha256 OF THE DUMP (.gsa) THAT YthhdbchmjfdgmaaGreatProg.lean LOADS. Nothing in Lean hashes anything: it is a label: what it is worth is what the hold of that sum in a sandbox is worth. -/
noncomputable def Tryz.pinned : Pinned := { name := "ythhdbchmjfdgmaagreat", sum := "d251b0f3678728d52e8d84799fc091f1f1ad631704db3fa16a6738482a93c03d", checked := Tryz.checked }
namespace Rows
def none {H : Type} : Left H := { results := [], args := [] }

/-- 'gantrylaw06.PolyDivides': WHATEVER THE INPUT: true; the input reads as it did. -/
def polyDividesSpec : ChangeSpec := { name := "polyDivides", fn := fun _ => fun
  | [d1, d2] => { results := [.lit (.bool true)], args := [d1, d2] }
  | _ => none }
def polyDividesRow : OpenClaim := { program := "ythhdbchmjfdgmaagreat", sum := "d251b0f3678728d52e8d84799fc091f1f1ad631704db3fa16a6738482a93c03d", func := "gantry/gantrylaw06.PolyDivides", spec := "polyDivides", unfollowed := true, recurses := true, apart := false }
def PolyDividesSaid : Prop := polyDividesRow.holds Tryz.pinned (OpenSpec.ofChange polyDividesSpec)

/-- ITS FALSE NEIGHBOUR: 'it returns false'. Refute it at one input. -/
def polyDividesWrong : ChangeSpec := { name := "polyDivides", fn := fun _ => fun
  | [d1, d2] => { results := [.lit (.bool false)], args := [d1, d2] }
  | _ => none }
def PolyDividesWrongFalsely : Prop := polyDividesRow.holds Tryz.pinned (OpenSpec.ofChange polyDividesWrong)

/-- 'gantrylaw06.PolyComputes': WHATEVER THE INPUT: true; the input reads as it did. -/
def polyComputesSpec : ChangeSpec := { name := "polyComputes", fn := fun _ => fun
  | [d1, d2, d3] => { results := [.lit (.bool true)], args := [d1, d2, d3] }
  | _ => none }
def polyComputesRow : OpenClaim := { program := "ythhdbchmjfdgmaagreat", sum := "d251b0f3678728d52e8d84799fc091f1f1ad631704db3fa16a6738482a93c03d", func := "gantry/gantrylaw06.PolyComputes", spec := "polyComputes", unfollowed := true, recurses := true, apart := false }
def PolyComputesSaid : Prop := polyComputesRow.holds Tryz.pinned (OpenSpec.ofChange polyComputesSpec)

/-- ITS FALSE NEIGHBOUR: 'it returns false'. Refute it at one input. -/
def polyComputesWrong : ChangeSpec := { name := "polyComputes", fn := fun _ => fun
  | [d1, d2, d3] => { results := [.lit (.bool false)], args := [d1, d2, d3] }
  | _ => none }
def PolyComputesWrongFalsely : Prop := polyComputesRow.holds Tryz.pinned (OpenSpec.ofChange polyComputesWrong)

/-- 'gantrylaw06.PolyRing': WHATEVER THE INPUT: true; the input reads as it did. -/
def polyRingSpec : ChangeSpec := { name := "polyRing", fn := fun _ => fun
  | [d1, d2, d3, d4] => { results := [.lit (.bool true)], args := [d1, d2, d3, d4] }
  | _ => none }
def polyRingRow : OpenClaim := { program := "ythhdbchmjfdgmaagreat", sum := "d251b0f3678728d52e8d84799fc091f1f1ad631704db3fa16a6738482a93c03d", func := "gantry/gantrylaw06.PolyRing", spec := "polyRing", unfollowed := true, recurses := true, apart := false }
def PolyRingSaid : Prop := polyRingRow.holds Tryz.pinned (OpenSpec.ofChange polyRingSpec)

/-- ITS FALSE NEIGHBOUR: 'it returns false'. Refute it at one input. -/
def polyRingWrong : ChangeSpec := { name := "polyRing", fn := fun _ => fun
  | [d1, d2, d3, d4] => { results := [.lit (.bool false)], args := [d1, d2, d3, d4] }
  | _ => none }
def PolyRingWrongFalsely : Prop := polyRingRow.holds Tryz.pinned (OpenSpec.ofChange polyRingWrong)

/-- 'gantrylaw06.PolyBytes': WHATEVER THE INPUT: true; the input reads as it did. -/
def polyBytesSpec : ChangeSpec := { name := "polyBytes", fn := fun _ => fun
  | [d1, d2, d3, d4] => { results := [.lit (.bool true)], args := [d1, d2, d3, d4] }
  | _ => none }
def polyBytesRow : OpenClaim := { program := "ythhdbchmjfdgmaagreat", sum := "d251b0f3678728d52e8d84799fc091f1f1ad631704db3fa16a6738482a93c03d", func := "gantry/gantrylaw06.PolyBytes", spec := "polyBytes", unfollowed := true, recurses := true, apart := false }
def PolyBytesSaid : Prop := polyBytesRow.holds Tryz.pinned (OpenSpec.ofChange polyBytesSpec)

/-- ITS FALSE NEIGHBOUR: 'it returns false'. Refute it at one input. -/
def polyBytesWrong : ChangeSpec := { name := "polyBytes", fn := fun _ => fun
  | [d1, d2, d3, d4] => { results := [.lit (.bool false)], args := [d1, d2, d3, d4] }
  | _ => none }
def PolyBytesWrongFalsely : Prop := polyBytesRow.holds Tryz.pinned (OpenSpec.ofChange polyBytesWrong)

/- THE SECOND FORM. 'bulk': how many values and letters a reading holds, each counted each time it is reached (what is shared counts as often as it is met; a slice's spare places count too). A statement '..UptoSaid' is the law's where the arguments, and the package variables that the reading takes, are together of bulk at most 1048576: NARROWER than '..Said'. Prove '..Said' where nothing that the law and all that it calls make is longer than what came in: it says more and counts as full. Else prove '..UptoSaid'. A law counts once. -/
mutual
def uptoBulk {H : Type} : DataW H → Nat
  | .lit (.string bytes) => bytes.length + 1
  | .lit _ => 1
  | .nil => 1
  | .ptr d => uptoBulk d + 1
  | .slice elems spare => uptoBulkAll elems + uptoBulkAll spare + 1
  | .agg parts => uptoBulkAll parts + 1
  | .iface _ d => uptoBulk d + 1
  | .map entries => uptoBulkEntries entries + 1
  | .held _ => 1
def uptoBulkAll {H : Type} : List (DataW H) → Nat
  | [] => 0
  | d :: r => uptoBulk d + uptoBulkAll r
def uptoBulkEntries {H : Type} : List (Lit × DataW H) → Nat
  | [] => 0
  | x :: r => uptoBulkEntry x + uptoBulkEntries r
def uptoBulkEntry {H : Type} : Lit × DataW H → Nat
  | (.string bytes, d) => bytes.length + uptoBulk d + 1
  | (_, d) => uptoBulk d + 1
 end
def uptoSmall : (H : Type) → List (DataW H) → Bool := fun _ ds => decide (uptoBulkAll ds ≤ 1048576)
def OpenSpec.upto (s : _root_.Go.ChangeSpec) : _root_.Go.OpenSpec := { _root_.Go.OpenSpec.ofChange s with cond := some uptoSmall }

/-- 'gantrylaw06.PolyDivides', WHERE WHAT IT READS IS OF BULK AT MOST 1048576: true; the input reads as it did. -/
def polyDividesUptoRow : OpenClaim := { program := "ythhdbchmjfdgmaagreat", sum := "d251b0f3678728d52e8d84799fc091f1f1ad631704db3fa16a6738482a93c03d", func := "gantry/gantrylaw06.PolyDivides", spec := "polyDivides", unfollowed := true, recurses := true, apart := false, narrowed := true }
def PolyDividesUptoSaid : Prop := polyDividesUptoRow.holds Tryz.pinned (OpenSpec.upto polyDividesSpec)

/-- 'gantrylaw06.PolyComputes', WHERE WHAT IT READS IS OF BULK AT MOST 1048576: true; the input reads as it did. -/
def polyComputesUptoRow : OpenClaim := { program := "ythhdbchmjfdgmaagreat", sum := "d251b0f3678728d52e8d84799fc091f1f1ad631704db3fa16a6738482a93c03d", func := "gantry/gantrylaw06.PolyComputes", spec := "polyComputes", unfollowed := true, recurses := true, apart := false, narrowed := true }
def PolyComputesUptoSaid : Prop := polyComputesUptoRow.holds Tryz.pinned (OpenSpec.upto polyComputesSpec)

/-- 'gantrylaw06.PolyRing', WHERE WHAT IT READS IS OF BULK AT MOST 1048576: true; the input reads as it did. -/
def polyRingUptoRow : OpenClaim := { program := "ythhdbchmjfdgmaagreat", sum := "d251b0f3678728d52e8d84799fc091f1f1ad631704db3fa16a6738482a93c03d", func := "gantry/gantrylaw06.PolyRing", spec := "polyRing", unfollowed := true, recurses := true, apart := false, narrowed := true }
def PolyRingUptoSaid : Prop := polyRingUptoRow.holds Tryz.pinned (OpenSpec.upto polyRingSpec)

/-- 'gantrylaw06.PolyBytes', WHERE WHAT IT READS IS OF BULK AT MOST 1048576: true; the input reads as it did. -/
def polyBytesUptoRow : OpenClaim := { program := "ythhdbchmjfdgmaagreat", sum := "d251b0f3678728d52e8d84799fc091f1f1ad631704db3fa16a6738482a93c03d", func := "gantry/gantrylaw06.PolyBytes", spec := "polyBytes", unfollowed := true, recurses := true, apart := false, narrowed := true }
def PolyBytesUptoSaid : Prop := polyBytesUptoRow.holds Tryz.pinned (OpenSpec.upto polyBytesSpec)

end Rows
end Go.Proofs.YthhdbchmjfdgmaaGreat
