/-
  DERIVED. GIVEN WITH THE SEED: THE CARDS: each row of YtoglafmpllimgaaGreatDoorRows.lean that lists a variable, with what it lists TIED to the program's text (the seventh form; the later family's looks); each row that meets fmt, with fmt's text TOLD by the authors' own Lean function (tested against real Go, not proved from fmt's source: count such statements apart). THE CARD IS WHAT COUNTS. Prove the row's statement (the work); the ties are given (YtoglafmpllimgaaGreatDoorTie.lean); close each card by the builder's one call (the guide's Derived/Test/ToyasCard.lean, 'card_holds'). Laid BY PROGRAM, IN A SANDBOX (cutbox-door.mjs). By AI agents, Wed Nov 11 2026. No macro, syntax, notation, axiom, sorry.
-/
import Derived.Test.YtoglafmpllimgaaGreatDoorRows
import GoSem.ClaimSeven
namespace Go.Proofs.YtoglafmpllimgaaGreatDoor
namespace Rows

/-- THE TIED CARD OF 'flumelaw14.BoxPasses'. -/
def boxPassesCard : Claim7 := { stood := { row := boxPassesRow, standIns := [], harness := (true, "0a6af5f641d918f0e69feaa561c08c5d39edf47e0db907990fc98526ee495545"), looks := true }, kinds := [], alts := [], laidByText := true, laidKinds := [.data, .data, .data], laidTests := true, laidLooks := .later }
def BoxPassesCardSaid : Prop := Claim7.holds Tryz.pinned (.plain (OpenSpec.ofChange boxPassesSpec)) boxPassesCard

/-- THE TIED CARD OF 'flumelaw14.BoxFinds'. -/
def boxFindsCard : Claim7 := { stood := { row := boxFindsRow, standIns := [], harness := (true, "0a6af5f641d918f0e69feaa561c08c5d39edf47e0db907990fc98526ee495545"), looks := true }, kinds := [], alts := [], laidByText := true, laidKinds := [.data, .data, .data], laidTests := true, laidLooks := .later }
def BoxFindsCardSaid : Prop := Claim7.holds Tryz.pinned (.plain (OpenSpec.ofChange boxFindsSpec)) boxFindsCard

/-- THE TIED CARD OF 'flumelaw14.BoxApart'. -/
def boxApartCard : Claim7 := { stood := { row := boxApartRow, standIns := [], harness := (true, "0a6af5f641d918f0e69feaa561c08c5d39edf47e0db907990fc98526ee495545"), looks := true }, kinds := [], alts := [], laidByText := true, laidKinds := [.data, .data, .data], laidTests := true, laidLooks := .later }
def BoxApartCardSaid : Prop := Claim7.holds Tryz.pinned (.plain (OpenSpec.ofChange boxApartSpec)) boxApartCard

/-- THE TIED CARD OF 'flumelaw14.BoxBounds'. -/
def boxBoundsCard : Claim7 := { stood := { row := boxBoundsRow, standIns := [], harness := (true, "0a6af5f641d918f0e69feaa561c08c5d39edf47e0db907990fc98526ee495545"), looks := true }, kinds := [], alts := [], laidByText := true, laidKinds := [.data, .data, .data], laidTests := true, laidLooks := .later }
def BoxBoundsCardSaid : Prop := Claim7.holds Tryz.pinned (.plain (OpenSpec.ofChange boxBoundsSpec)) boxBoundsCard

/-- THE TIED CARD OF 'flumelaw14.BoxNobody'. -/
def boxNobodyCard : Claim7 := { stood := { row := boxNobodyRow, standIns := [], harness := (true, "0a6af5f641d918f0e69feaa561c08c5d39edf47e0db907990fc98526ee495545"), looks := true }, kinds := [], alts := [], laidByText := true, laidKinds := [.data, .data, .data], laidTests := true, laidLooks := .later }
def BoxNobodyCardSaid : Prop := Claim7.holds Tryz.pinned (.plain (OpenSpec.ofChange boxNobodySpec)) boxNobodyCard

/-- THE SECOND FORM's CARD OF 'flumelaw14.BoxPasses'. -/
def boxPassesUptoCard : Claim7 := { stood := { row := boxPassesUptoRow, standIns := [], harness := (true, "0a6af5f641d918f0e69feaa561c08c5d39edf47e0db907990fc98526ee495545"), looks := true }, kinds := [], alts := [], laidByText := true, laidKinds := [.data, .data, .data], laidTests := true, laidLooks := .later }
def BoxPassesUptoCardSaid : Prop := Claim7.holds Tryz.pinned (.plain (OpenSpec.upto boxPassesSpec)) boxPassesUptoCard

/-- THE SECOND FORM's CARD OF 'flumelaw14.BoxFinds'. -/
def boxFindsUptoCard : Claim7 := { stood := { row := boxFindsUptoRow, standIns := [], harness := (true, "0a6af5f641d918f0e69feaa561c08c5d39edf47e0db907990fc98526ee495545"), looks := true }, kinds := [], alts := [], laidByText := true, laidKinds := [.data, .data, .data], laidTests := true, laidLooks := .later }
def BoxFindsUptoCardSaid : Prop := Claim7.holds Tryz.pinned (.plain (OpenSpec.upto boxFindsSpec)) boxFindsUptoCard

/-- THE SECOND FORM's CARD OF 'flumelaw14.BoxApart'. -/
def boxApartUptoCard : Claim7 := { stood := { row := boxApartUptoRow, standIns := [], harness := (true, "0a6af5f641d918f0e69feaa561c08c5d39edf47e0db907990fc98526ee495545"), looks := true }, kinds := [], alts := [], laidByText := true, laidKinds := [.data, .data, .data], laidTests := true, laidLooks := .later }
def BoxApartUptoCardSaid : Prop := Claim7.holds Tryz.pinned (.plain (OpenSpec.upto boxApartSpec)) boxApartUptoCard

/-- THE SECOND FORM's CARD OF 'flumelaw14.BoxBounds'. -/
def boxBoundsUptoCard : Claim7 := { stood := { row := boxBoundsUptoRow, standIns := [], harness := (true, "0a6af5f641d918f0e69feaa561c08c5d39edf47e0db907990fc98526ee495545"), looks := true }, kinds := [], alts := [], laidByText := true, laidKinds := [.data, .data, .data], laidTests := true, laidLooks := .later }
def BoxBoundsUptoCardSaid : Prop := Claim7.holds Tryz.pinned (.plain (OpenSpec.upto boxBoundsSpec)) boxBoundsUptoCard

/-- THE SECOND FORM's CARD OF 'flumelaw14.BoxNobody'. -/
def boxNobodyUptoCard : Claim7 := { stood := { row := boxNobodyUptoRow, standIns := [], harness := (true, "0a6af5f641d918f0e69feaa561c08c5d39edf47e0db907990fc98526ee495545"), looks := true }, kinds := [], alts := [], laidByText := true, laidKinds := [.data, .data, .data], laidTests := true, laidLooks := .later }
def BoxNobodyUptoCardSaid : Prop := Claim7.holds Tryz.pinned (.plain (OpenSpec.upto boxNobodySpec)) boxNobodyUptoCard
end Rows
end Go.Proofs.YtoglafmpllimgaaGreatDoor
