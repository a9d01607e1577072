/-
  No cell of these rows narrows 'for every input' (looked for: loops, veiled, ifaces, maps, wideKeys, modest, calm, conditions, laid).
  DERIVED. THE GIVEN ROWS OF THIS SEAT. 6 by the template 'for every input the law returns true; each argument reads behind the call as it read before'; 0 by the template 'total and deterministic' (their statements: YtbbemgfheagobaaGreatTotals.lean).
  GIVEN WITH THE SEED: the statements are not yours to turn. If you find one false, say at which input.
  Laid BY PROGRAM, IN A SANDBOX (cutbox-rows.mjs): the forced cells as the released guide's own fill.sh prints them over the translation 6202962765ece71f… (all of the seat's roots in one cut). By AI agents, Wed Nov 11 2026. No macro, syntax, notation, axiom, sorry.
-/
import Derived.Test.YtbbemgfheagobaaGreatChecked
import GoSem.Claim
import GoSem.ClaimJoined
import GoSem.ClaimMapViews
import Derived.JoinedTies
import Derived.KernelRfl
namespace Go.Proofs.YtbbemgfheagobaaGreat
/- THE CELL 'sum', in the pinned program and in every row, IS THE sha256 OF THE DUMP (.gsa) THAT YtbbemgfheagobaaGreatProg.lean LOADS. Nothing in Lean hashes anything: it is a label: what it is worth is what the hold of that sum in a sandbox is worth. -/
noncomputable def Tryz.pinned : Pinned := { name := "ytbbemgfheagobaagreat", sum := "6202962765ece71f53ebbdc79569fa95d8aa4089b48ff73515cc1f432be200cb", checked := Tryz.checked }
namespace Rows
def none {H : Type} : Left H := { results := [], args := [] }

/-- 'gantrylaw07.SturmChains': WHATEVER THE INPUT: true; the input reads as it did. -/
def sturmChainsSpec : ChangeSpec := { name := "sturmChains", fn := fun _ => fun
  | [d1, d2, d3] => { results := [.lit (.bool true)], args := [d1, d2, d3] }
  | _ => none }
def sturmChainsRow : OpenClaim := { program := "ytbbemgfheagobaagreat", sum := "6202962765ece71f53ebbdc79569fa95d8aa4089b48ff73515cc1f432be200cb", func := "gantry/gantrylaw07.SturmChains", spec := "sturmChains", unfollowed := true, recurses := true, apart := false }
def SturmChainsSaid : Prop := sturmChainsRow.holds Tryz.pinned (OpenSpec.ofChange sturmChainsSpec)

/-- ITS FALSE NEIGHBOUR: 'it returns false'. Refute it at one input. -/
def sturmChainsWrong : ChangeSpec := { name := "sturmChains", fn := fun _ => fun
  | [d1, d2, d3] => { results := [.lit (.bool false)], args := [d1, d2, d3] }
  | _ => none }
def SturmChainsWrongFalsely : Prop := sturmChainsRow.holds Tryz.pinned (OpenSpec.ofChange sturmChainsWrong)

/-- 'gantrylaw07.SturmCounts': WHATEVER THE INPUT: true; the input reads as it did. -/
def sturmCountsSpec : ChangeSpec := { name := "sturmCounts", fn := fun _ => fun
  | [d1, d2, d3, d4] => { results := [.lit (.bool true)], args := [d1, d2, d3, d4] }
  | _ => none }
def sturmCountsRow : OpenClaim := { program := "ytbbemgfheagobaagreat", sum := "6202962765ece71f53ebbdc79569fa95d8aa4089b48ff73515cc1f432be200cb", func := "gantry/gantrylaw07.SturmCounts", spec := "sturmCounts", unfollowed := true, recurses := true, apart := false }
def SturmCountsSaid : Prop := sturmCountsRow.holds Tryz.pinned (OpenSpec.ofChange sturmCountsSpec)

/-- ITS FALSE NEIGHBOUR: 'it returns false'. Refute it at one input. -/
def sturmCountsWrong : ChangeSpec := { name := "sturmCounts", fn := fun _ => fun
  | [d1, d2, d3, d4] => { results := [.lit (.bool false)], args := [d1, d2, d3, d4] }
  | _ => none }
def SturmCountsWrongFalsely : Prop := sturmCountsRow.holds Tryz.pinned (OpenSpec.ofChange sturmCountsWrong)

/-- 'gantrylaw07.SturmParts': WHATEVER THE INPUT: true; the input reads as it did. -/
def sturmPartsSpec : ChangeSpec := { name := "sturmParts", fn := fun _ => fun
  | [d1, d2, d3, d4, d5] => { results := [.lit (.bool true)], args := [d1, d2, d3, d4, d5] }
  | _ => none }
def sturmPartsRow : OpenClaim := { program := "ytbbemgfheagobaagreat", sum := "6202962765ece71f53ebbdc79569fa95d8aa4089b48ff73515cc1f432be200cb", func := "gantry/gantrylaw07.SturmParts", spec := "sturmParts", unfollowed := true, recurses := true, apart := false }
def SturmPartsSaid : Prop := sturmPartsRow.holds Tryz.pinned (OpenSpec.ofChange sturmPartsSpec)

/-- ITS FALSE NEIGHBOUR: 'it returns false'. Refute it at one input. -/
def sturmPartsWrong : ChangeSpec := { name := "sturmParts", fn := fun _ => fun
  | [d1, d2, d3, d4, d5] => { results := [.lit (.bool false)], args := [d1, d2, d3, d4, d5] }
  | _ => none }
def SturmPartsWrongFalsely : Prop := sturmPartsRow.holds Tryz.pinned (OpenSpec.ofChange sturmPartsWrong)

/-- 'gantrylaw07.SturmSquares': WHATEVER THE INPUT: true; the input reads as it did. -/
def sturmSquaresSpec : ChangeSpec := { name := "sturmSquares", fn := fun _ => fun
  | [d1, d2, d3] => { results := [.lit (.bool true)], args := [d1, d2, d3] }
  | _ => none }
def sturmSquaresRow : OpenClaim := { program := "ytbbemgfheagobaagreat", sum := "6202962765ece71f53ebbdc79569fa95d8aa4089b48ff73515cc1f432be200cb", func := "gantry/gantrylaw07.SturmSquares", spec := "sturmSquares", unfollowed := true, recurses := true, apart := false }
def SturmSquaresSaid : Prop := sturmSquaresRow.holds Tryz.pinned (OpenSpec.ofChange sturmSquaresSpec)

/-- ITS FALSE NEIGHBOUR: 'it returns false'. Refute it at one input. -/
def sturmSquaresWrong : ChangeSpec := { name := "sturmSquares", fn := fun _ => fun
  | [d1, d2, d3] => { results := [.lit (.bool false)], args := [d1, d2, d3] }
  | _ => none }
def SturmSquaresWrongFalsely : Prop := sturmSquaresRow.holds Tryz.pinned (OpenSpec.ofChange sturmSquaresWrong)

/-- 'gantrylaw07.SturmIsolates': WHATEVER THE INPUT: true; the input reads as it did. -/
def sturmIsolatesSpec : ChangeSpec := { name := "sturmIsolates", fn := fun _ => fun
  | [d1, d2, d3, d4] => { results := [.lit (.bool true)], args := [d1, d2, d3, d4] }
  | _ => none }
def sturmIsolatesRow : OpenClaim := { program := "ytbbemgfheagobaagreat", sum := "6202962765ece71f53ebbdc79569fa95d8aa4089b48ff73515cc1f432be200cb", func := "gantry/gantrylaw07.SturmIsolates", spec := "sturmIsolates", unfollowed := true, recurses := true, apart := false }
def SturmIsolatesSaid : Prop := sturmIsolatesRow.holds Tryz.pinned (OpenSpec.ofChange sturmIsolatesSpec)

/-- ITS FALSE NEIGHBOUR: 'it returns false'. Refute it at one input. -/
def sturmIsolatesWrong : ChangeSpec := { name := "sturmIsolates", fn := fun _ => fun
  | [d1, d2, d3, d4] => { results := [.lit (.bool false)], args := [d1, d2, d3, d4] }
  | _ => none }
def SturmIsolatesWrongFalsely : Prop := sturmIsolatesRow.holds Tryz.pinned (OpenSpec.ofChange sturmIsolatesWrong)

/-- 'gantrylaw07.SturmMoved': WHATEVER THE INPUT: true; the input reads as it did. -/
def sturmMovedSpec : ChangeSpec := { name := "sturmMoved", fn := fun _ => fun
  | [d1, d2, d3, d4, d5] => { results := [.lit (.bool true)], args := [d1, d2, d3, d4, d5] }
  | _ => none }
def sturmMovedRow : OpenClaim := { program := "ytbbemgfheagobaagreat", sum := "6202962765ece71f53ebbdc79569fa95d8aa4089b48ff73515cc1f432be200cb", func := "gantry/gantrylaw07.SturmMoved", spec := "sturmMoved", unfollowed := true, recurses := true, apart := false }
def SturmMovedSaid : Prop := sturmMovedRow.holds Tryz.pinned (OpenSpec.ofChange sturmMovedSpec)

/-- ITS FALSE NEIGHBOUR: 'it returns false'. Refute it at one input. -/
def sturmMovedWrong : ChangeSpec := { name := "sturmMoved", fn := fun _ => fun
  | [d1, d2, d3, d4, d5] => { results := [.lit (.bool false)], args := [d1, d2, d3, d4, d5] }
  | _ => none }
def SturmMovedWrongFalsely : Prop := sturmMovedRow.holds Tryz.pinned (OpenSpec.ofChange sturmMovedWrong)

/- THE SECOND FORM. 'bulk': how many values and letters a reading holds, each counted each time it is reached (what is shared counts as often as it is met; a slice's spare places count too). A statement '..UptoSaid' is the law's where the arguments, and the package variables that the reading takes, are together of bulk at most 1048576: NARROWER than '..Said'. Prove '..Said' where nothing that the law and all that it calls make is longer than what came in: it says more and counts as full. Else prove '..UptoSaid'. A law counts once. -/
mutual
def uptoBulk {H : Type} : DataW H → Nat
  | .lit (.string bytes) => bytes.length + 1
  | .lit _ => 1
  | .nil => 1
  | .ptr d => uptoBulk d + 1
  | .slice elems spare => uptoBulkAll elems + uptoBulkAll spare + 1
  | .agg parts => uptoBulkAll parts + 1
  | .iface _ d => uptoBulk d + 1
  | .map entries => uptoBulkEntries entries + 1
  | .held _ => 1
def uptoBulkAll {H : Type} : List (DataW H) → Nat
  | [] => 0
  | d :: r => uptoBulk d + uptoBulkAll r
def uptoBulkEntries {H : Type} : List (Lit × DataW H) → Nat
  | [] => 0
  | x :: r => uptoBulkEntry x + uptoBulkEntries r
def uptoBulkEntry {H : Type} : Lit × DataW H → Nat
  | (.string bytes, d) => bytes.length + uptoBulk d + 1
  | (_, d) => uptoBulk d + 1
 end
def uptoSmall : (H : Type) → List (DataW H) → Bool := fun _ ds => decide (uptoBulkAll ds ≤ 1048576)
def OpenSpec.upto (s : _root_.Go.ChangeSpec) : _root_.Go.OpenSpec := { _root_.Go.OpenSpec.ofChange s with cond := some uptoSmall }

/-- 'gantrylaw07.SturmChains', WHERE WHAT IT READS IS OF BULK AT MOST 1048576: true; the input reads as it did. -/
def sturmChainsUptoRow : OpenClaim := { program := "ytbbemgfheagobaagreat", sum := "6202962765ece71f53ebbdc79569fa95d8aa4089b48ff73515cc1f432be200cb", func := "gantry/gantrylaw07.SturmChains", spec := "sturmChains", unfollowed := true, recurses := true, apart := false, narrowed := true }
def SturmChainsUptoSaid : Prop := sturmChainsUptoRow.holds Tryz.pinned (OpenSpec.upto sturmChainsSpec)

/-- 'gantrylaw07.SturmCounts', WHERE WHAT IT READS IS OF BULK AT MOST 1048576: true; the input reads as it did. -/
def sturmCountsUptoRow : OpenClaim := { program := "ytbbemgfheagobaagreat", sum := "6202962765ece71f53ebbdc79569fa95d8aa4089b48ff73515cc1f432be200cb", func := "gantry/gantrylaw07.SturmCounts", spec := "sturmCounts", unfollowed := true, recurses := true, apart := false, narrowed := true }
def SturmCountsUptoSaid : Prop := sturmCountsUptoRow.holds Tryz.pinned (OpenSpec.upto sturmCountsSpec)

/-- 'gantrylaw07.SturmParts', WHERE WHAT IT READS IS OF BULK AT MOST 1048576: true; the input reads as it did. -/
def sturmPartsUptoRow : OpenClaim := { program := "ytbbemgfheagobaagreat", sum := "6202962765ece71f53ebbdc79569fa95d8aa4089b48ff73515cc1f432be200cb", func := "gantry/gantrylaw07.SturmParts", spec := "sturmParts", unfollowed := true, recurses := true, apart := false, narrowed := true }
def SturmPartsUptoSaid : Prop := sturmPartsUptoRow.holds Tryz.pinned (OpenSpec.upto sturmPartsSpec)

/-- 'gantrylaw07.SturmSquares', WHERE WHAT IT READS IS OF BULK AT MOST 1048576: true; the input reads as it did. -/
def sturmSquaresUptoRow : OpenClaim := { program := "ytbbemgfheagobaagreat", sum := "6202962765ece71f53ebbdc79569fa95d8aa4089b48ff73515cc1f432be200cb", func := "gantry/gantrylaw07.SturmSquares", spec := "sturmSquares", unfollowed := true, recurses := true, apart := false, narrowed := true }
def SturmSquaresUptoSaid : Prop := sturmSquaresUptoRow.holds Tryz.pinned (OpenSpec.upto sturmSquaresSpec)

/-- 'gantrylaw07.SturmIsolates', WHERE WHAT IT READS IS OF BULK AT MOST 1048576: true; the input reads as it did. -/
def sturmIsolatesUptoRow : OpenClaim := { program := "ytbbemgfheagobaagreat", sum := "6202962765ece71f53ebbdc79569fa95d8aa4089b48ff73515cc1f432be200cb", func := "gantry/gantrylaw07.SturmIsolates", spec := "sturmIsolates", unfollowed := true, recurses := true, apart := false, narrowed := true }
def SturmIsolatesUptoSaid : Prop := sturmIsolatesUptoRow.holds Tryz.pinned (OpenSpec.upto sturmIsolatesSpec)

/-- 'gantrylaw07.SturmMoved', WHERE WHAT IT READS IS OF BULK AT MOST 1048576: true; the input reads as it did. -/
def sturmMovedUptoRow : OpenClaim := { program := "ytbbemgfheagobaagreat", sum := "6202962765ece71f53ebbdc79569fa95d8aa4089b48ff73515cc1f432be200cb", func := "gantry/gantrylaw07.SturmMoved", spec := "sturmMoved", unfollowed := true, recurses := true, apart := false, narrowed := true }
def SturmMovedUptoSaid : Prop := sturmMovedUptoRow.holds Tryz.pinned (OpenSpec.upto sturmMovedSpec)

end Rows
end Go.Proofs.YtbbemgfheagobaaGreat
