/-
  DERIVED. GIVEN WITH THE SEED: THE CARDS: each row of YtecihganhcapoaaGreatDoorRows.lean that lists a variable, with what it lists TIED to the program's text (the seventh form; the later family's looks); each row that meets fmt, with fmt's text TOLD by the authors' own Lean function (tested against real Go, not proved from fmt's source: count such statements apart). THE CARD IS WHAT COUNTS. Prove the row's statement (the work); the ties are given (YtecihganhcapoaaGreatDoorTie.lean); close each card by the builder's one call (the guide's Derived/Test/ToyasCard.lean, 'card_holds'). Laid BY PROGRAM, IN A SANDBOX (cutbox-door.mjs). By AI agents, Wed Nov 11 2026. No macro, syntax, notation, axiom, sorry.
-/
import Derived.Test.YtecihganhcapoaaGreatDoorRows
import GoSem.ClaimSeven
namespace Go.Proofs.YtecihganhcapoaaGreatDoor
namespace Rows

/-- THE TIED CARD OF 'gantrylaw04.IntegerRoots'. -/
def integerRootsCard : Claim7 := { stood := { row := integerRootsRow, standIns := [], harness := (true, "8f30b765037cb7f36d521e85c7b3d15f44d2f8c8747fa73e3d59755b044424b0"), looks := true }, kinds := [], alts := [], laidByText := true, laidKinds := [.data, .data, .data, .data, .sentinel, .sentinel, .pinned], laidTests := true, laidLooks := .later }
def IntegerRootsCardSaid : Prop := Claim7.holds Tryz.pinned (.plain (OpenSpec.ofChange integerRootsSpec)) integerRootsCard

/-- THE TIED CARD OF 'gantrylaw04.IntegerSums'. -/
def integerSumsCard : Claim7 := { stood := { row := integerSumsRow, standIns := [], harness := (true, "8f30b765037cb7f36d521e85c7b3d15f44d2f8c8747fa73e3d59755b044424b0"), looks := true }, kinds := [], alts := [], laidByText := true, laidKinds := [.data, .data, .data, .data, .sentinel, .sentinel, .pinned], laidTests := true, laidLooks := .later }
def IntegerSumsCardSaid : Prop := Claim7.holds Tryz.pinned (.plain (OpenSpec.ofChange integerSumsSpec)) integerSumsCard

/-- THE TIED CARD OF 'gantrylaw04.IntegerRing'. -/
def integerRingCard : Claim7 := { stood := { row := integerRingRow, standIns := [], harness := (true, "8f30b765037cb7f36d521e85c7b3d15f44d2f8c8747fa73e3d59755b044424b0"), looks := true }, kinds := [], alts := [], laidByText := true, laidKinds := [.data, .data, .data, .data, .sentinel, .sentinel, .pinned], laidTests := true, laidLooks := .later }
def IntegerRingCardSaid : Prop := Claim7.holds Tryz.pinned (.plain (OpenSpec.ofChange integerRingSpec)) integerRingCard

/-- THE TIED CARD OF 'gantrylaw04.IntegerGo'. -/
def integerGoCard : Claim7 := { stood := { row := integerGoRow, standIns := [], harness := (true, "8f30b765037cb7f36d521e85c7b3d15f44d2f8c8747fa73e3d59755b044424b0"), looks := true }, kinds := [], alts := [], laidByText := true, laidKinds := [.data, .data, .data, .data, .sentinel, .sentinel, .pinned], laidTests := true, laidLooks := .later }
def IntegerGoCardSaid : Prop := Claim7.holds Tryz.pinned (.plain (OpenSpec.ofChange integerGoSpec)) integerGoCard

/-- THE TIED CARD OF 'gantrylaw04.IntegerQuotients'. -/
def integerQuotientsCard : Claim7 := { stood := { row := integerQuotientsRow, standIns := [], harness := (true, "8f30b765037cb7f36d521e85c7b3d15f44d2f8c8747fa73e3d59755b044424b0"), looks := true }, kinds := [], alts := [], laidByText := true, laidKinds := [.data, .data, .data, .data, .sentinel, .sentinel, .pinned], laidTests := true, laidLooks := .later }
def IntegerQuotientsCardSaid : Prop := Claim7.holds Tryz.pinned (.plain (OpenSpec.ofChange integerQuotientsSpec)) integerQuotientsCard

/-- THE TIED CARD OF 'gantrylaw04.IntegerInts'. -/
def integerIntsCard : Claim7 := { stood := { row := integerIntsRow, standIns := [], harness := (true, "8f30b765037cb7f36d521e85c7b3d15f44d2f8c8747fa73e3d59755b044424b0"), looks := true }, kinds := [], alts := [], laidByText := true, laidKinds := [.data, .data, .data, .data, .sentinel, .sentinel, .pinned], laidTests := true, laidLooks := .later }
def IntegerIntsCardSaid : Prop := Claim7.holds Tryz.pinned (.plain (OpenSpec.ofChange integerIntsSpec)) integerIntsCard

/-- THE TIED CARD OF 'gantrylaw04.IntegerDivisors'. -/
def integerDivisorsCard : Claim7 := { stood := { row := integerDivisorsRow, standIns := [], harness := (true, "8f30b765037cb7f36d521e85c7b3d15f44d2f8c8747fa73e3d59755b044424b0"), looks := true }, kinds := [], alts := [], laidByText := true, laidKinds := [.data, .data, .data, .data, .sentinel, .sentinel, .pinned], laidTests := true, laidLooks := .later }
def IntegerDivisorsCardSaid : Prop := Claim7.holds Tryz.pinned (.plain (OpenSpec.ofChange integerDivisorsSpec)) integerDivisorsCard

/-- THE TIED CARD OF 'gantrylaw04.IntegerTexts'. -/
def integerTextsCard : Claim7 := { stood := { row := integerTextsRow, standIns := [], harness := (true, "8f30b765037cb7f36d521e85c7b3d15f44d2f8c8747fa73e3d59755b044424b0"), looks := true }, kinds := [], alts := [], laidByText := true, laidKinds := [.data, .data, .data, .data, .sentinel, .sentinel, .pinned], laidTests := true, laidLooks := .later }
def IntegerTextsCardSaid : Prop := Claim7.holds Tryz.pinned (.plain (OpenSpec.ofChange integerTextsSpec)) integerTextsCard

/-- THE SECOND FORM's CARD OF 'gantrylaw04.IntegerRoots'. -/
def integerRootsUptoCard : Claim7 := { stood := { row := integerRootsUptoRow, standIns := [], harness := (true, "8f30b765037cb7f36d521e85c7b3d15f44d2f8c8747fa73e3d59755b044424b0"), looks := true }, kinds := [], alts := [], laidByText := true, laidKinds := [.data, .data, .data, .data, .sentinel, .sentinel, .pinned], laidTests := true, laidLooks := .later }
def IntegerRootsUptoCardSaid : Prop := Claim7.holds Tryz.pinned (.plain (OpenSpec.upto integerRootsSpec)) integerRootsUptoCard

/-- THE SECOND FORM's CARD OF 'gantrylaw04.IntegerSums'. -/
def integerSumsUptoCard : Claim7 := { stood := { row := integerSumsUptoRow, standIns := [], harness := (true, "8f30b765037cb7f36d521e85c7b3d15f44d2f8c8747fa73e3d59755b044424b0"), looks := true }, kinds := [], alts := [], laidByText := true, laidKinds := [.data, .data, .data, .data, .sentinel, .sentinel, .pinned], laidTests := true, laidLooks := .later }
def IntegerSumsUptoCardSaid : Prop := Claim7.holds Tryz.pinned (.plain (OpenSpec.upto integerSumsSpec)) integerSumsUptoCard

/-- THE SECOND FORM's CARD OF 'gantrylaw04.IntegerRing'. -/
def integerRingUptoCard : Claim7 := { stood := { row := integerRingUptoRow, standIns := [], harness := (true, "8f30b765037cb7f36d521e85c7b3d15f44d2f8c8747fa73e3d59755b044424b0"), looks := true }, kinds := [], alts := [], laidByText := true, laidKinds := [.data, .data, .data, .data, .sentinel, .sentinel, .pinned], laidTests := true, laidLooks := .later }
def IntegerRingUptoCardSaid : Prop := Claim7.holds Tryz.pinned (.plain (OpenSpec.upto integerRingSpec)) integerRingUptoCard

/-- THE SECOND FORM's CARD OF 'gantrylaw04.IntegerGo'. -/
def integerGoUptoCard : Claim7 := { stood := { row := integerGoUptoRow, standIns := [], harness := (true, "8f30b765037cb7f36d521e85c7b3d15f44d2f8c8747fa73e3d59755b044424b0"), looks := true }, kinds := [], alts := [], laidByText := true, laidKinds := [.data, .data, .data, .data, .sentinel, .sentinel, .pinned], laidTests := true, laidLooks := .later }
def IntegerGoUptoCardSaid : Prop := Claim7.holds Tryz.pinned (.plain (OpenSpec.upto integerGoSpec)) integerGoUptoCard

/-- THE SECOND FORM's CARD OF 'gantrylaw04.IntegerQuotients'. -/
def integerQuotientsUptoCard : Claim7 := { stood := { row := integerQuotientsUptoRow, standIns := [], harness := (true, "8f30b765037cb7f36d521e85c7b3d15f44d2f8c8747fa73e3d59755b044424b0"), looks := true }, kinds := [], alts := [], laidByText := true, laidKinds := [.data, .data, .data, .data, .sentinel, .sentinel, .pinned], laidTests := true, laidLooks := .later }
def IntegerQuotientsUptoCardSaid : Prop := Claim7.holds Tryz.pinned (.plain (OpenSpec.upto integerQuotientsSpec)) integerQuotientsUptoCard

/-- THE SECOND FORM's CARD OF 'gantrylaw04.IntegerInts'. -/
def integerIntsUptoCard : Claim7 := { stood := { row := integerIntsUptoRow, standIns := [], harness := (true, "8f30b765037cb7f36d521e85c7b3d15f44d2f8c8747fa73e3d59755b044424b0"), looks := true }, kinds := [], alts := [], laidByText := true, laidKinds := [.data, .data, .data, .data, .sentinel, .sentinel, .pinned], laidTests := true, laidLooks := .later }
def IntegerIntsUptoCardSaid : Prop := Claim7.holds Tryz.pinned (.plain (OpenSpec.upto integerIntsSpec)) integerIntsUptoCard

/-- THE SECOND FORM's CARD OF 'gantrylaw04.IntegerDivisors'. -/
def integerDivisorsUptoCard : Claim7 := { stood := { row := integerDivisorsUptoRow, standIns := [], harness := (true, "8f30b765037cb7f36d521e85c7b3d15f44d2f8c8747fa73e3d59755b044424b0"), looks := true }, kinds := [], alts := [], laidByText := true, laidKinds := [.data, .data, .data, .data, .sentinel, .sentinel, .pinned], laidTests := true, laidLooks := .later }
def IntegerDivisorsUptoCardSaid : Prop := Claim7.holds Tryz.pinned (.plain (OpenSpec.upto integerDivisorsSpec)) integerDivisorsUptoCard

/-- THE SECOND FORM's CARD OF 'gantrylaw04.IntegerTexts'. -/
def integerTextsUptoCard : Claim7 := { stood := { row := integerTextsUptoRow, standIns := [], harness := (true, "8f30b765037cb7f36d521e85c7b3d15f44d2f8c8747fa73e3d59755b044424b0"), looks := true }, kinds := [], alts := [], laidByText := true, laidKinds := [.data, .data, .data, .data, .sentinel, .sentinel, .pinned], laidTests := true, laidLooks := .later }
def IntegerTextsUptoCardSaid : Prop := Claim7.holds Tryz.pinned (.plain (OpenSpec.upto integerTextsSpec)) integerTextsUptoCard
end Rows
end Go.Proofs.YtecihganhcapoaaGreatDoor
