/-
  DERIVED. GIVEN WITH THE SEED: THE CARDS: each row of YtkaombhkepopgaaDoorRows.lean that lists a variable, with what it lists TIED to the program's text (the seventh form; the later family's looks); each row that meets fmt, with fmt's text TOLD by the authors' own Lean function (tested against real Go, not proved from fmt's source: count such statements apart). THE CARD IS WHAT COUNTS. Prove the row's statement (the work); the ties are given (YtkaombhkepopgaaDoorTie.lean); close each card by the builder's one call (the guide's Derived/Test/ToyasCard.lean, 'card_holds'). Laid BY PROGRAM, IN A SANDBOX (cutbox-door.mjs). By AI agents, Wed Nov 11 2026. No macro, syntax, notation, axiom, sorry.
-/
import Derived.Test.YtkaombhkepopgaaDoorRows
import GoSem.ClaimSeven
namespace Go.Proofs.YtkaombhkepopgaaDoor
namespace Rows

/-- THE TIED CARD OF 'flumelaw11.DedupLess'. -/
def dedupLessCard : Claim7 := { stood := { row := dedupLessRow, standIns := [], harness := (true, "b1140d3431dd8a7e59cb8708fa568cd3dd2673b72004e9f643052cb4b6255afe"), looks := false }, kinds := [], alts := [], laidByText := true, laidKinds := [.data, .data], laidTests := true, laidLooks := .later }
def DedupLessCardSaid : Prop := Claim7.holds Tryd.pinned (.plain (OpenSpec.ofChange dedupLessSpec)) dedupLessCard

/-- THE TIED CARD OF 'flumelaw11.DedupLets'. -/
def dedupLetsCard : Claim7 := { stood := { row := dedupLetsRow, standIns := [], harness := (true, "b1140d3431dd8a7e59cb8708fa568cd3dd2673b72004e9f643052cb4b6255afe"), looks := false }, kinds := [], alts := [], laidByText := true, laidKinds := [.data, .data], laidTests := true, laidLooks := .later }
def DedupLetsCardSaid : Prop := Claim7.holds Tryd.pinned (.plain (OpenSpec.ofChange dedupLetsSpec)) dedupLetsCard

/-- THE TIED CARD OF 'flumelaw11.DedupBounds'. -/
def dedupBoundsCard : Claim7 := { stood := { row := dedupBoundsRow, standIns := [], harness := (true, "b1140d3431dd8a7e59cb8708fa568cd3dd2673b72004e9f643052cb4b6255afe"), looks := false }, kinds := [], alts := [], laidByText := true, laidKinds := [.data, .data], laidTests := true, laidLooks := .later }
def DedupBoundsCardSaid : Prop := Claim7.holds Tryd.pinned (.plain (OpenSpec.ofChange dedupBoundsSpec)) dedupBoundsCard

/-- THE TIED CARD OF 'flumelaw11.DedupNobody'. -/
def dedupNobodyCard : Claim7 := { stood := { row := dedupNobodyRow, standIns := [], harness := (true, "b1140d3431dd8a7e59cb8708fa568cd3dd2673b72004e9f643052cb4b6255afe"), looks := false }, kinds := [], alts := [], laidByText := true, laidKinds := [.data, .data], laidTests := true, laidLooks := .later }
def DedupNobodyCardSaid : Prop := Claim7.holds Tryd.pinned (.plain (OpenSpec.ofChange dedupNobodySpec)) dedupNobodyCard

/-- THE TIED CARD OF 'flumelaw11.DedupAgain'. -/
def dedupAgainCard : Claim7 := { stood := { row := dedupAgainRow, standIns := [], harness := (true, "b1140d3431dd8a7e59cb8708fa568cd3dd2673b72004e9f643052cb4b6255afe"), looks := false }, kinds := [], alts := [], laidByText := true, laidKinds := [.data, .data], laidTests := true, laidLooks := .later }
def DedupAgainCardSaid : Prop := Claim7.holds Tryd.pinned (.plain (OpenSpec.ofChange dedupAgainSpec)) dedupAgainCard

/-- THE SECOND FORM's CARD OF 'flumelaw11.DedupLess'. -/
def dedupLessUptoCard : Claim7 := { stood := { row := dedupLessUptoRow, standIns := [], harness := (true, "b1140d3431dd8a7e59cb8708fa568cd3dd2673b72004e9f643052cb4b6255afe"), looks := false }, kinds := [], alts := [], laidByText := true, laidKinds := [.data, .data], laidTests := true, laidLooks := .later }
def DedupLessUptoCardSaid : Prop := Claim7.holds Tryd.pinned (.plain (OpenSpec.upto dedupLessSpec)) dedupLessUptoCard

/-- THE SECOND FORM's CARD OF 'flumelaw11.DedupLets'. -/
def dedupLetsUptoCard : Claim7 := { stood := { row := dedupLetsUptoRow, standIns := [], harness := (true, "b1140d3431dd8a7e59cb8708fa568cd3dd2673b72004e9f643052cb4b6255afe"), looks := false }, kinds := [], alts := [], laidByText := true, laidKinds := [.data, .data], laidTests := true, laidLooks := .later }
def DedupLetsUptoCardSaid : Prop := Claim7.holds Tryd.pinned (.plain (OpenSpec.upto dedupLetsSpec)) dedupLetsUptoCard

/-- THE SECOND FORM's CARD OF 'flumelaw11.DedupBounds'. -/
def dedupBoundsUptoCard : Claim7 := { stood := { row := dedupBoundsUptoRow, standIns := [], harness := (true, "b1140d3431dd8a7e59cb8708fa568cd3dd2673b72004e9f643052cb4b6255afe"), looks := false }, kinds := [], alts := [], laidByText := true, laidKinds := [.data, .data], laidTests := true, laidLooks := .later }
def DedupBoundsUptoCardSaid : Prop := Claim7.holds Tryd.pinned (.plain (OpenSpec.upto dedupBoundsSpec)) dedupBoundsUptoCard

/-- THE SECOND FORM's CARD OF 'flumelaw11.DedupNobody'. -/
def dedupNobodyUptoCard : Claim7 := { stood := { row := dedupNobodyUptoRow, standIns := [], harness := (true, "b1140d3431dd8a7e59cb8708fa568cd3dd2673b72004e9f643052cb4b6255afe"), looks := false }, kinds := [], alts := [], laidByText := true, laidKinds := [.data, .data], laidTests := true, laidLooks := .later }
def DedupNobodyUptoCardSaid : Prop := Claim7.holds Tryd.pinned (.plain (OpenSpec.upto dedupNobodySpec)) dedupNobodyUptoCard

/-- THE SECOND FORM's CARD OF 'flumelaw11.DedupAgain'. -/
def dedupAgainUptoCard : Claim7 := { stood := { row := dedupAgainUptoRow, standIns := [], harness := (true, "b1140d3431dd8a7e59cb8708fa568cd3dd2673b72004e9f643052cb4b6255afe"), looks := false }, kinds := [], alts := [], laidByText := true, laidKinds := [.data, .data], laidTests := true, laidLooks := .later }
def DedupAgainUptoCardSaid : Prop := Claim7.holds Tryd.pinned (.plain (OpenSpec.upto dedupAgainSpec)) dedupAgainUptoCard
end Rows
end Go.Proofs.YtkaombhkepopgaaDoor
