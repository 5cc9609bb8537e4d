/-
  DERIVED. GIVEN WITH THE SEED: THE CARDS: each row of YtmhibpcbdbhfoaaDoorRows.lean that lists a variable, with what it lists TIED to the program's text (the seventh form; the later family's looks); each row that meets fmt, with fmt's text TOLD by the authors' own Lean function (tested against real Go, not proved from fmt's source: count such statements apart). THE CARD IS WHAT COUNTS. Prove the row's statement (the work); the ties are given (YtmhibpcbdbhfoaaDoorTie.lean); close each card by the builder's one call (the guide's Derived/Test/ToyasCard.lean, 'card_holds'). Laid BY PROGRAM, IN A SANDBOX (cutbox-door.mjs). By AI agents, Wed Nov 11 2026. No macro, syntax, notation, axiom, sorry.
-/
import Derived.Test.YtmhibpcbdbhfoaaDoorRows
import GoSem.ClaimSeven
namespace Go.Proofs.YtmhibpcbdbhfoaaDoor
namespace Rows

/-- THE TIED CARD OF 'flumelaw12.TunnelPuts'. -/
def tunnelPutsCard : Claim7 := { stood := { row := tunnelPutsRow, standIns := [], harness := (true, "92adb15ca883f5ae5e239993b473cabfae71a25a6fd58f38db43af1002df883a"), looks := false }, kinds := [], alts := [], laidByText := true, laidKinds := [.data], laidTests := true, laidLooks := .later }
def TunnelPutsCardSaid : Prop := Claim7.holds Tryd.pinned (.plain (OpenSpec.ofChange tunnelPutsSpec)) tunnelPutsCard

/-- THE TIED CARD OF 'flumelaw12.TunnelGets'. -/
def tunnelGetsCard : Claim7 := { stood := { row := tunnelGetsRow, standIns := [], harness := (true, "92adb15ca883f5ae5e239993b473cabfae71a25a6fd58f38db43af1002df883a"), looks := false }, kinds := [], alts := [], laidByText := true, laidKinds := [.data], laidTests := true, laidLooks := .later }
def TunnelGetsCardSaid : Prop := Claim7.holds Tryd.pinned (.plain (OpenSpec.ofChange tunnelGetsSpec)) tunnelGetsCard

/-- THE TIED CARD OF 'flumelaw12.TunnelForm'. -/
def tunnelFormCard : Claim7 := { stood := { row := tunnelFormRow, standIns := [], harness := (true, "92adb15ca883f5ae5e239993b473cabfae71a25a6fd58f38db43af1002df883a"), looks := false }, kinds := [], alts := [], laidByText := true, laidKinds := [.data], laidTests := true, laidLooks := .later }
def TunnelFormCardSaid : Prop := Claim7.holds Tryd.pinned (.plain (OpenSpec.ofChange tunnelFormSpec)) tunnelFormCard

/-- THE TIED CARD OF 'flumelaw12.TunnelStranger'. -/
def tunnelStrangerCard : Claim7 := { stood := { row := tunnelStrangerRow, standIns := [], harness := (true, "92adb15ca883f5ae5e239993b473cabfae71a25a6fd58f38db43af1002df883a"), looks := false }, kinds := [], alts := [], laidByText := true, laidKinds := [.data], laidTests := true, laidLooks := .later }
def TunnelStrangerCardSaid : Prop := Claim7.holds Tryd.pinned (.plain (OpenSpec.ofChange tunnelStrangerSpec)) tunnelStrangerCard

/-- THE TIED CARD OF 'flumelaw12.TunnelNobody'. -/
def tunnelNobodyCard : Claim7 := { stood := { row := tunnelNobodyRow, standIns := [], harness := (true, "92adb15ca883f5ae5e239993b473cabfae71a25a6fd58f38db43af1002df883a"), looks := false }, kinds := [], alts := [], laidByText := true, laidKinds := [.data], laidTests := true, laidLooks := .later }
def TunnelNobodyCardSaid : Prop := Claim7.holds Tryd.pinned (.plain (OpenSpec.ofChange tunnelNobodySpec)) tunnelNobodyCard

/-- THE TIED CARD OF 'flumelaw12.TunnelPlays'. -/
def tunnelPlaysCard : Claim7 := { stood := { row := tunnelPlaysRow, standIns := [], harness := (true, "92adb15ca883f5ae5e239993b473cabfae71a25a6fd58f38db43af1002df883a"), looks := false }, kinds := [], alts := [], laidByText := true, laidKinds := [.data], laidTests := true, laidLooks := .later }
def TunnelPlaysCardSaid : Prop := Claim7.holds Tryd.pinned (.plain (OpenSpec.ofChange tunnelPlaysSpec)) tunnelPlaysCard

/-- THE TIED CARD OF 'flumelaw12.TunnelOnce'. -/
def tunnelOnceCard : Claim7 := { stood := { row := tunnelOnceRow, standIns := [], harness := (true, "92adb15ca883f5ae5e239993b473cabfae71a25a6fd58f38db43af1002df883a"), looks := false }, kinds := [], alts := [], laidByText := true, laidKinds := [.data], laidTests := true, laidLooks := .later }
def TunnelOnceCardSaid : Prop := Claim7.holds Tryd.pinned (.plain (OpenSpec.ofChange tunnelOnceSpec)) tunnelOnceCard

/-- THE TIED CARD OF 'flumelaw12.TunnelBounds'. -/
def tunnelBoundsCard : Claim7 := { stood := { row := tunnelBoundsRow, standIns := [], harness := (true, "92adb15ca883f5ae5e239993b473cabfae71a25a6fd58f38db43af1002df883a"), looks := false }, kinds := [], alts := [], laidByText := true, laidKinds := [.data], laidTests := true, laidLooks := .later }
def TunnelBoundsCardSaid : Prop := Claim7.holds Tryd.pinned (.plain (OpenSpec.ofChange tunnelBoundsSpec)) tunnelBoundsCard

/-- THE TIED CARD OF 'flumelaw12.TunnelSettles'. -/
def tunnelSettlesCard : Claim7 := { stood := { row := tunnelSettlesRow, standIns := [], harness := (true, "92adb15ca883f5ae5e239993b473cabfae71a25a6fd58f38db43af1002df883a"), looks := false }, kinds := [], alts := [], laidByText := true, laidKinds := [.data], laidTests := true, laidLooks := .later }
def TunnelSettlesCardSaid : Prop := Claim7.holds Tryd.pinned (.plain (OpenSpec.ofChange tunnelSettlesSpec)) tunnelSettlesCard

/-- THE TIED CARD OF 'flumelaw12.TunnelSame'. -/
def tunnelSameCard : Claim7 := { stood := { row := tunnelSameRow, standIns := [], harness := (true, "92adb15ca883f5ae5e239993b473cabfae71a25a6fd58f38db43af1002df883a"), looks := false }, kinds := [], alts := [], laidByText := true, laidKinds := [.data], laidTests := true, laidLooks := .later }
def TunnelSameCardSaid : Prop := Claim7.holds Tryd.pinned (.plain (OpenSpec.ofChange tunnelSameSpec)) tunnelSameCard

/-- THE SECOND FORM's CARD OF 'flumelaw12.TunnelPuts'. -/
def tunnelPutsUptoCard : Claim7 := { stood := { row := tunnelPutsUptoRow, standIns := [], harness := (true, "92adb15ca883f5ae5e239993b473cabfae71a25a6fd58f38db43af1002df883a"), looks := false }, kinds := [], alts := [], laidByText := true, laidKinds := [.data], laidTests := true, laidLooks := .later }
def TunnelPutsUptoCardSaid : Prop := Claim7.holds Tryd.pinned (.plain (OpenSpec.upto tunnelPutsSpec)) tunnelPutsUptoCard

/-- THE SECOND FORM's CARD OF 'flumelaw12.TunnelGets'. -/
def tunnelGetsUptoCard : Claim7 := { stood := { row := tunnelGetsUptoRow, standIns := [], harness := (true, "92adb15ca883f5ae5e239993b473cabfae71a25a6fd58f38db43af1002df883a"), looks := false }, kinds := [], alts := [], laidByText := true, laidKinds := [.data], laidTests := true, laidLooks := .later }
def TunnelGetsUptoCardSaid : Prop := Claim7.holds Tryd.pinned (.plain (OpenSpec.upto tunnelGetsSpec)) tunnelGetsUptoCard

/-- THE SECOND FORM's CARD OF 'flumelaw12.TunnelForm'. -/
def tunnelFormUptoCard : Claim7 := { stood := { row := tunnelFormUptoRow, standIns := [], harness := (true, "92adb15ca883f5ae5e239993b473cabfae71a25a6fd58f38db43af1002df883a"), looks := false }, kinds := [], alts := [], laidByText := true, laidKinds := [.data], laidTests := true, laidLooks := .later }
def TunnelFormUptoCardSaid : Prop := Claim7.holds Tryd.pinned (.plain (OpenSpec.upto tunnelFormSpec)) tunnelFormUptoCard

/-- THE SECOND FORM's CARD OF 'flumelaw12.TunnelStranger'. -/
def tunnelStrangerUptoCard : Claim7 := { stood := { row := tunnelStrangerUptoRow, standIns := [], harness := (true, "92adb15ca883f5ae5e239993b473cabfae71a25a6fd58f38db43af1002df883a"), looks := false }, kinds := [], alts := [], laidByText := true, laidKinds := [.data], laidTests := true, laidLooks := .later }
def TunnelStrangerUptoCardSaid : Prop := Claim7.holds Tryd.pinned (.plain (OpenSpec.upto tunnelStrangerSpec)) tunnelStrangerUptoCard

/-- THE SECOND FORM's CARD OF 'flumelaw12.TunnelNobody'. -/
def tunnelNobodyUptoCard : Claim7 := { stood := { row := tunnelNobodyUptoRow, standIns := [], harness := (true, "92adb15ca883f5ae5e239993b473cabfae71a25a6fd58f38db43af1002df883a"), looks := false }, kinds := [], alts := [], laidByText := true, laidKinds := [.data], laidTests := true, laidLooks := .later }
def TunnelNobodyUptoCardSaid : Prop := Claim7.holds Tryd.pinned (.plain (OpenSpec.upto tunnelNobodySpec)) tunnelNobodyUptoCard

/-- THE SECOND FORM's CARD OF 'flumelaw12.TunnelPlays'. -/
def tunnelPlaysUptoCard : Claim7 := { stood := { row := tunnelPlaysUptoRow, standIns := [], harness := (true, "92adb15ca883f5ae5e239993b473cabfae71a25a6fd58f38db43af1002df883a"), looks := false }, kinds := [], alts := [], laidByText := true, laidKinds := [.data], laidTests := true, laidLooks := .later }
def TunnelPlaysUptoCardSaid : Prop := Claim7.holds Tryd.pinned (.plain (OpenSpec.upto tunnelPlaysSpec)) tunnelPlaysUptoCard

/-- THE SECOND FORM's CARD OF 'flumelaw12.TunnelOnce'. -/
def tunnelOnceUptoCard : Claim7 := { stood := { row := tunnelOnceUptoRow, standIns := [], harness := (true, "92adb15ca883f5ae5e239993b473cabfae71a25a6fd58f38db43af1002df883a"), looks := false }, kinds := [], alts := [], laidByText := true, laidKinds := [.data], laidTests := true, laidLooks := .later }
def TunnelOnceUptoCardSaid : Prop := Claim7.holds Tryd.pinned (.plain (OpenSpec.upto tunnelOnceSpec)) tunnelOnceUptoCard

/-- THE SECOND FORM's CARD OF 'flumelaw12.TunnelBounds'. -/
def tunnelBoundsUptoCard : Claim7 := { stood := { row := tunnelBoundsUptoRow, standIns := [], harness := (true, "92adb15ca883f5ae5e239993b473cabfae71a25a6fd58f38db43af1002df883a"), looks := false }, kinds := [], alts := [], laidByText := true, laidKinds := [.data], laidTests := true, laidLooks := .later }
def TunnelBoundsUptoCardSaid : Prop := Claim7.holds Tryd.pinned (.plain (OpenSpec.upto tunnelBoundsSpec)) tunnelBoundsUptoCard

/-- THE SECOND FORM's CARD OF 'flumelaw12.TunnelSettles'. -/
def tunnelSettlesUptoCard : Claim7 := { stood := { row := tunnelSettlesUptoRow, standIns := [], harness := (true, "92adb15ca883f5ae5e239993b473cabfae71a25a6fd58f38db43af1002df883a"), looks := false }, kinds := [], alts := [], laidByText := true, laidKinds := [.data], laidTests := true, laidLooks := .later }
def TunnelSettlesUptoCardSaid : Prop := Claim7.holds Tryd.pinned (.plain (OpenSpec.upto tunnelSettlesSpec)) tunnelSettlesUptoCard

/-- THE SECOND FORM's CARD OF 'flumelaw12.TunnelSame'. -/
def tunnelSameUptoCard : Claim7 := { stood := { row := tunnelSameUptoRow, standIns := [], harness := (true, "92adb15ca883f5ae5e239993b473cabfae71a25a6fd58f38db43af1002df883a"), looks := false }, kinds := [], alts := [], laidByText := true, laidKinds := [.data], laidTests := true, laidLooks := .later }
def TunnelSameUptoCardSaid : Prop := Claim7.holds Tryd.pinned (.plain (OpenSpec.upto tunnelSameSpec)) tunnelSameUptoCard
end Rows
end Go.Proofs.YtmhibpcbdbhfoaaDoor
