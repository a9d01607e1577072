/-
  No cell of these rows narrows 'for every input' (looked for: loops, veiled, ifaces, maps, wideKeys, modest, calm, conditions, laid).
  DERIVED. THE GIVEN ROWS OF THIS SEAT. 7 by the template 'for every input the law returns true; each argument reads behind the call as it read before'; 0 by the template 'total and deterministic' (their statements: YtgakeohkfgdcfaaTotals.lean).
  GIVEN WITH THE SEED: the statements are not yours to turn. If you find one false, say at which input.
  Laid BY PROGRAM, IN A SANDBOX (cutbox-rows.mjs): the forced cells as the released guide's own fill.sh prints them over the translation 1f362d9ed8d60979… (all of the seat's roots in one cut). By AI agents, Wed Nov 11 2026. No macro, syntax, notation, axiom, sorry.
-/
import Derived.Test.YtgakeohkfgdcfaaChecked
import GoSem.Claim
import GoSem.ClaimJoined
import GoSem.ClaimMapViews
import Derived.JoinedTies
import Derived.KernelRfl
namespace Go.Proofs.Ytgakeohkfgdcfaa
/- THE CELL 'sum', in the pinned program and in every row, IS THE sha256 OF THE DUMP (.gsa) THAT YtgakeohkfgdcfaaProg.lean LOADS. Nothing in Lean hashes anything: it is a label: what it is worth is what the hold of that sum in a sandbox is worth. -/
noncomputable def Try.pinned : Pinned := { name := "ytgakeohkfgdcfaa", sum := "1f362d9ed8d60979128b024b5c2e0b177e610d453fc650e76bf5de37da295352", checked := Try.checked }
namespace Rows
def none {H : Type} : Left H := { results := [], args := [] }

/-- 'gantrylaw17.BounceLimits': WHATEVER THE INPUT: true; the input reads as it did. -/
def bounceLimitsSpec : ChangeSpec := { name := "bounceLimits", fn := fun _ => fun
  | [d1, d2, d3] => { results := [.lit (.bool true)], args := [d1, d2, d3] }
  | _ => none }
def bounceLimitsRow : OpenClaim := { program := "ytgakeohkfgdcfaa", sum := "1f362d9ed8d60979128b024b5c2e0b177e610d453fc650e76bf5de37da295352", func := "gantry/gantrylaw17.BounceLimits", spec := "bounceLimits", unfollowed := true, recurses := true, apart := false }
def BounceLimitsSaid : Prop := bounceLimitsRow.holds Try.pinned (OpenSpec.ofChange bounceLimitsSpec)

/-- ITS FALSE NEIGHBOUR: 'it returns false'. Refute it at one input. -/
def bounceLimitsWrong : ChangeSpec := { name := "bounceLimits", fn := fun _ => fun
  | [d1, d2, d3] => { results := [.lit (.bool false)], args := [d1, d2, d3] }
  | _ => none }
def BounceLimitsWrongFalsely : Prop := bounceLimitsRow.holds Try.pinned (OpenSpec.ofChange bounceLimitsWrong)

/-- 'gantrylaw17.BounceFlights': WHATEVER THE INPUT: true; the input reads as it did. -/
def bounceFlightsSpec : ChangeSpec := { name := "bounceFlights", fn := fun _ => fun
  | [d1, d2] => { results := [.lit (.bool true)], args := [d1, d2] }
  | _ => none }
def bounceFlightsRow : OpenClaim := { program := "ytgakeohkfgdcfaa", sum := "1f362d9ed8d60979128b024b5c2e0b177e610d453fc650e76bf5de37da295352", func := "gantry/gantrylaw17.BounceFlights", spec := "bounceFlights", unfollowed := true, recurses := true, apart := false }
def BounceFlightsSaid : Prop := bounceFlightsRow.holds Try.pinned (OpenSpec.ofChange bounceFlightsSpec)

/-- ITS FALSE NEIGHBOUR: 'it returns false'. Refute it at one input. -/
def bounceFlightsWrong : ChangeSpec := { name := "bounceFlights", fn := fun _ => fun
  | [d1, d2] => { results := [.lit (.bool false)], args := [d1, d2] }
  | _ => none }
def BounceFlightsWrongFalsely : Prop := bounceFlightsRow.holds Try.pinned (OpenSpec.ofChange bounceFlightsWrong)

/-- 'gantrylaw17.BounceHeights': WHATEVER THE INPUT: true; the input reads as it did. -/
def bounceHeightsSpec : ChangeSpec := { name := "bounceHeights", fn := fun _ => fun
  | [d1, d2, d3] => { results := [.lit (.bool true)], args := [d1, d2, d3] }
  | _ => none }
def bounceHeightsRow : OpenClaim := { program := "ytgakeohkfgdcfaa", sum := "1f362d9ed8d60979128b024b5c2e0b177e610d453fc650e76bf5de37da295352", func := "gantry/gantrylaw17.BounceHeights", spec := "bounceHeights", unfollowed := true, recurses := true, apart := false }
def BounceHeightsSaid : Prop := bounceHeightsRow.holds Try.pinned (OpenSpec.ofChange bounceHeightsSpec)

/-- ITS FALSE NEIGHBOUR: 'it returns false'. Refute it at one input. -/
def bounceHeightsWrong : ChangeSpec := { name := "bounceHeights", fn := fun _ => fun
  | [d1, d2, d3] => { results := [.lit (.bool false)], args := [d1, d2, d3] }
  | _ => none }
def BounceHeightsWrongFalsely : Prop := bounceHeightsRow.holds Try.pinned (OpenSpec.ofChange bounceHeightsWrong)

/-- 'gantrylaw17.BounceNext': WHATEVER THE INPUT: true; the input reads as it did. -/
def bounceNextSpec : ChangeSpec := { name := "bounceNext", fn := fun _ => fun
  | [d1, d2] => { results := [.lit (.bool true)], args := [d1, d2] }
  | _ => none }
def bounceNextRow : OpenClaim := { program := "ytgakeohkfgdcfaa", sum := "1f362d9ed8d60979128b024b5c2e0b177e610d453fc650e76bf5de37da295352", func := "gantry/gantrylaw17.BounceNext", spec := "bounceNext", unfollowed := true, recurses := true, apart := false }
def BounceNextSaid : Prop := bounceNextRow.holds Try.pinned (OpenSpec.ofChange bounceNextSpec)

/-- ITS FALSE NEIGHBOUR: 'it returns false'. Refute it at one input. -/
def bounceNextWrong : ChangeSpec := { name := "bounceNext", fn := fun _ => fun
  | [d1, d2] => { results := [.lit (.bool false)], args := [d1, d2] }
  | _ => none }
def BounceNextWrongFalsely : Prop := bounceNextRow.holds Try.pinned (OpenSpec.ofChange bounceNextWrong)

/-- 'gantrylaw17.BounceContracts': WHATEVER THE INPUT: true; the input reads as it did. -/
def bounceContractsSpec : ChangeSpec := { name := "bounceContracts", fn := fun _ => fun
  | [d1, d2, d3] => { results := [.lit (.bool true)], args := [d1, d2, d3] }
  | _ => none }
def bounceContractsRow : OpenClaim := { program := "ytgakeohkfgdcfaa", sum := "1f362d9ed8d60979128b024b5c2e0b177e610d453fc650e76bf5de37da295352", func := "gantry/gantrylaw17.BounceContracts", spec := "bounceContracts", unfollowed := true, recurses := true, apart := false }
def BounceContractsSaid : Prop := bounceContractsRow.holds Try.pinned (OpenSpec.ofChange bounceContractsSpec)

/-- ITS FALSE NEIGHBOUR: 'it returns false'. Refute it at one input. -/
def bounceContractsWrong : ChangeSpec := { name := "bounceContracts", fn := fun _ => fun
  | [d1, d2, d3] => { results := [.lit (.bool false)], args := [d1, d2, d3] }
  | _ => none }
def BounceContractsWrongFalsely : Prop := bounceContractsRow.holds Try.pinned (OpenSpec.ofChange bounceContractsWrong)

/-- 'gantrylaw17.BounceScaled': WHATEVER THE INPUT: true; the input reads as it did. -/
def bounceScaledSpec : ChangeSpec := { name := "bounceScaled", fn := fun _ => fun
  | [d1, d2, d3, d4, d5] => { results := [.lit (.bool true)], args := [d1, d2, d3, d4, d5] }
  | _ => none }
def bounceScaledRow : OpenClaim := { program := "ytgakeohkfgdcfaa", sum := "1f362d9ed8d60979128b024b5c2e0b177e610d453fc650e76bf5de37da295352", func := "gantry/gantrylaw17.BounceScaled", spec := "bounceScaled", unfollowed := true, recurses := true, apart := false }
def BounceScaledSaid : Prop := bounceScaledRow.holds Try.pinned (OpenSpec.ofChange bounceScaledSpec)

/-- ITS FALSE NEIGHBOUR: 'it returns false'. Refute it at one input. -/
def bounceScaledWrong : ChangeSpec := { name := "bounceScaled", fn := fun _ => fun
  | [d1, d2, d3, d4, d5] => { results := [.lit (.bool false)], args := [d1, d2, d3, d4, d5] }
  | _ => none }
def BounceScaledWrongFalsely : Prop := bounceScaledRow.holds Try.pinned (OpenSpec.ofChange bounceScaledWrong)

/-- 'gantrylaw17.BounceGaps': WHATEVER THE INPUT: true; the input reads as it did. -/
def bounceGapsSpec : ChangeSpec := { name := "bounceGaps", fn := fun _ => fun
  | [d1, d2] => { results := [.lit (.bool true)], args := [d1, d2] }
  | _ => none }
def bounceGapsRow : OpenClaim := { program := "ytgakeohkfgdcfaa", sum := "1f362d9ed8d60979128b024b5c2e0b177e610d453fc650e76bf5de37da295352", func := "gantry/gantrylaw17.BounceGaps", spec := "bounceGaps", unfollowed := true, recurses := true, apart := false }
def BounceGapsSaid : Prop := bounceGapsRow.holds Try.pinned (OpenSpec.ofChange bounceGapsSpec)

/-- ITS FALSE NEIGHBOUR: 'it returns false'. Refute it at one input. -/
def bounceGapsWrong : ChangeSpec := { name := "bounceGaps", fn := fun _ => fun
  | [d1, d2] => { results := [.lit (.bool false)], args := [d1, d2] }
  | _ => none }
def BounceGapsWrongFalsely : Prop := bounceGapsRow.holds Try.pinned (OpenSpec.ofChange bounceGapsWrong)

/- THE SECOND FORM. 'bulk': how many values and letters a reading holds, each counted each time it is reached (what is shared counts as often as it is met; a slice's spare places count too). A statement '..UptoSaid' is the law's where the arguments, and the package variables that the reading takes, are together of bulk at most 1048576: NARROWER than '..Said'. Prove '..Said' where nothing that the law and all that it calls make is longer than what came in: it says more and counts as full. Else prove '..UptoSaid'. A law counts once. -/
mutual
def uptoBulk {H : Type} : DataW H → Nat
  | .lit (.string bytes) => bytes.length + 1
  | .lit _ => 1
  | .nil => 1
  | .ptr d => uptoBulk d + 1
  | .slice elems spare => uptoBulkAll elems + uptoBulkAll spare + 1
  | .agg parts => uptoBulkAll parts + 1
  | .iface _ d => uptoBulk d + 1
  | .map entries => uptoBulkEntries entries + 1
  | .held _ => 1
def uptoBulkAll {H : Type} : List (DataW H) → Nat
  | [] => 0
  | d :: r => uptoBulk d + uptoBulkAll r
def uptoBulkEntries {H : Type} : List (Lit × DataW H) → Nat
  | [] => 0
  | x :: r => uptoBulkEntry x + uptoBulkEntries r
def uptoBulkEntry {H : Type} : Lit × DataW H → Nat
  | (.string bytes, d) => bytes.length + uptoBulk d + 1
  | (_, d) => uptoBulk d + 1
 end
def uptoSmall : (H : Type) → List (DataW H) → Bool := fun _ ds => decide (uptoBulkAll ds ≤ 1048576)
def OpenSpec.upto (s : _root_.Go.ChangeSpec) : _root_.Go.OpenSpec := { _root_.Go.OpenSpec.ofChange s with cond := some uptoSmall }

/-- 'gantrylaw17.BounceLimits', WHERE WHAT IT READS IS OF BULK AT MOST 1048576: true; the input reads as it did. -/
def bounceLimitsUptoRow : OpenClaim := { program := "ytgakeohkfgdcfaa", sum := "1f362d9ed8d60979128b024b5c2e0b177e610d453fc650e76bf5de37da295352", func := "gantry/gantrylaw17.BounceLimits", spec := "bounceLimits", unfollowed := true, recurses := true, apart := false, narrowed := true }
def BounceLimitsUptoSaid : Prop := bounceLimitsUptoRow.holds Try.pinned (OpenSpec.upto bounceLimitsSpec)

/-- 'gantrylaw17.BounceFlights', WHERE WHAT IT READS IS OF BULK AT MOST 1048576: true; the input reads as it did. -/
def bounceFlightsUptoRow : OpenClaim := { program := "ytgakeohkfgdcfaa", sum := "1f362d9ed8d60979128b024b5c2e0b177e610d453fc650e76bf5de37da295352", func := "gantry/gantrylaw17.BounceFlights", spec := "bounceFlights", unfollowed := true, recurses := true, apart := false, narrowed := true }
def BounceFlightsUptoSaid : Prop := bounceFlightsUptoRow.holds Try.pinned (OpenSpec.upto bounceFlightsSpec)

/-- 'gantrylaw17.BounceHeights', WHERE WHAT IT READS IS OF BULK AT MOST 1048576: true; the input reads as it did. -/
def bounceHeightsUptoRow : OpenClaim := { program := "ytgakeohkfgdcfaa", sum := "1f362d9ed8d60979128b024b5c2e0b177e610d453fc650e76bf5de37da295352", func := "gantry/gantrylaw17.BounceHeights", spec := "bounceHeights", unfollowed := true, recurses := true, apart := false, narrowed := true }
def BounceHeightsUptoSaid : Prop := bounceHeightsUptoRow.holds Try.pinned (OpenSpec.upto bounceHeightsSpec)

/-- 'gantrylaw17.BounceNext', WHERE WHAT IT READS IS OF BULK AT MOST 1048576: true; the input reads as it did. -/
def bounceNextUptoRow : OpenClaim := { program := "ytgakeohkfgdcfaa", sum := "1f362d9ed8d60979128b024b5c2e0b177e610d453fc650e76bf5de37da295352", func := "gantry/gantrylaw17.BounceNext", spec := "bounceNext", unfollowed := true, recurses := true, apart := false, narrowed := true }
def BounceNextUptoSaid : Prop := bounceNextUptoRow.holds Try.pinned (OpenSpec.upto bounceNextSpec)

/-- 'gantrylaw17.BounceContracts', WHERE WHAT IT READS IS OF BULK AT MOST 1048576: true; the input reads as it did. -/
def bounceContractsUptoRow : OpenClaim := { program := "ytgakeohkfgdcfaa", sum := "1f362d9ed8d60979128b024b5c2e0b177e610d453fc650e76bf5de37da295352", func := "gantry/gantrylaw17.BounceContracts", spec := "bounceContracts", unfollowed := true, recurses := true, apart := false, narrowed := true }
def BounceContractsUptoSaid : Prop := bounceContractsUptoRow.holds Try.pinned (OpenSpec.upto bounceContractsSpec)

/-- 'gantrylaw17.BounceScaled', WHERE WHAT IT READS IS OF BULK AT MOST 1048576: true; the input reads as it did. -/
def bounceScaledUptoRow : OpenClaim := { program := "ytgakeohkfgdcfaa", sum := "1f362d9ed8d60979128b024b5c2e0b177e610d453fc650e76bf5de37da295352", func := "gantry/gantrylaw17.BounceScaled", spec := "bounceScaled", unfollowed := true, recurses := true, apart := false, narrowed := true }
def BounceScaledUptoSaid : Prop := bounceScaledUptoRow.holds Try.pinned (OpenSpec.upto bounceScaledSpec)

/-- 'gantrylaw17.BounceGaps', WHERE WHAT IT READS IS OF BULK AT MOST 1048576: true; the input reads as it did. -/
def bounceGapsUptoRow : OpenClaim := { program := "ytgakeohkfgdcfaa", sum := "1f362d9ed8d60979128b024b5c2e0b177e610d453fc650e76bf5de37da295352", func := "gantry/gantrylaw17.BounceGaps", spec := "bounceGaps", unfollowed := true, recurses := true, apart := false, narrowed := true }
def BounceGapsUptoSaid : Prop := bounceGapsUptoRow.holds Try.pinned (OpenSpec.upto bounceGapsSpec)

end Rows
end Go.Proofs.Ytgakeohkfgdcfaa
