/-
  NARROWER THAN 'FOR EVERY INPUT', by the rows' own cells (each row's printed sentence says how): TunnelPuts: laid · TunnelGets: laid · TunnelForm: laid · TunnelStranger: laid · TunnelNobody: laid · TunnelPlays: laid · TunnelOnce: laid · TunnelBounds: laid · TunnelSettles: laid · TunnelSame: laid.
  DERIVED. THE GIVEN ROWS OF THIS SEAT. 10 by the template 'for every input the law returns true; each argument reads behind the call as it read before'; 0 by the template 'total and deterministic' (their statements: YtmhibpcbdbhfoaaDoorTotals.lean).
  GIVEN WITH THE SEED: the statements are not yours to turn. If you find one false, say at which input.
  Laid BY PROGRAM, IN A SANDBOX (cutbox-rows.mjs): the forced cells as the released guide's own fill.sh prints them over the translation 96cec5b820357e15… (all of the seat's roots in one cut). By AI agents, Wed Nov 11 2026. No macro, syntax, notation, axiom, sorry.
-/
import Derived.Test.YtmhibpcbdbhfoaaDoorChecked
import GoSem.Claim
import GoSem.ClaimJoined
import GoSem.ClaimMapViews
import Derived.JoinedTies
import Derived.KernelRfl
namespace Go.Proofs.YtmhibpcbdbhfoaaDoor
/- THE CELL 'sum', in the pinned program and in every row, IS THE sha256 OF THE DUMP (.gsa) THAT YtmhibpcbdbhfoaaDoorProg.lean LOADS. Nothing in Lean hashes anything: it is a label: what it is worth is what the hold of that sum in a sandbox is worth. -/
noncomputable def Tryd.pinned : Pinned := { name := "ytmhibpcbdbhfoaadoor", sum := "96cec5b820357e15c93de5810bbe5eb9afa2b53b0b233fecfe495c95f68a78f6", checked := Tryd.checked }
namespace Rows
def none {H : Type} : Left H := { results := [], args := [] }

/- WHAT THE LISTED PACKAGE-LEVEL VARIABLES READ AS WHEN THE CALL BEGINS. Each datum BY PROGRAM (the guide's laid-datum.mjs) off the statement by which the dump's own 'gosem.cut.vars' lays the variable. In a bare row this is a premise. The card (YtmhibpcbdbhfoaaDoorCards.lean) ties it to the program's text. -/
def laid_flume_sums_nibbles {H : Type} : DataW H := .agg [.lit (.int .u32 0), .lit (.int .u32 498536548), .lit (.int .u32 997073096), .lit (.int .u32 651767980), .lit (.int .u32 1994146192), .lit (.int .u32 1802195444), .lit (.int .u32 1303535960), .lit (.int .u32 1342533948), .lit (.int .u32 3988292384), .lit (.int .u32 4027552580), .lit (.int .u32 3604390888), .lit (.int .u32 3412177804), .lit (.int .u32 2607071920), .lit (.int .u32 2262029012), .lit (.int .u32 2685067896), .lit (.int .u32 3183342108)]

/-- 'flumelaw12.TunnelPuts': WHATEVER THE INPUT: true; the input reads as it did. -/
def tunnelPutsSpec : ChangeSpec := { name := "tunnelPuts", fn := fun _ => fun
  | [d] => { results := [.lit (.bool true)], args := [d] }
  | _ => none }
def tunnelPutsRow : OpenClaim := { program := "ytmhibpcbdbhfoaadoor", sum := "96cec5b820357e15c93de5810bbe5eb9afa2b53b0b233fecfe495c95f68a78f6", func := "flume/flumelaw12.TunnelPuts", spec := "tunnelPuts", unfollowed := true, recurses := true, named := ["flume/sums.nibbles"], plainKeys := false, apart := false, laid := [("flume/sums.nibbles", laid_flume_sums_nibbles)] }
def TunnelPutsSaid : Prop := tunnelPutsRow.holds Tryd.pinned (OpenSpec.ofChange tunnelPutsSpec)

/-- ITS FALSE NEIGHBOUR: 'it returns false'. Refute it at one input. -/
def tunnelPutsWrong : ChangeSpec := { name := "tunnelPuts", fn := fun _ => fun
  | [d] => { results := [.lit (.bool false)], args := [d] }
  | _ => none }
def TunnelPutsWrongFalsely : Prop := tunnelPutsRow.holds Tryd.pinned (OpenSpec.ofChange tunnelPutsWrong)

/-- 'flumelaw12.TunnelGets': WHATEVER THE INPUT: true; the input reads as it did. -/
def tunnelGetsSpec : ChangeSpec := { name := "tunnelGets", fn := fun _ => fun
  | [d] => { results := [.lit (.bool true)], args := [d] }
  | _ => none }
def tunnelGetsRow : OpenClaim := { program := "ytmhibpcbdbhfoaadoor", sum := "96cec5b820357e15c93de5810bbe5eb9afa2b53b0b233fecfe495c95f68a78f6", func := "flume/flumelaw12.TunnelGets", spec := "tunnelGets", unfollowed := true, recurses := true, named := ["flume/sums.nibbles"], plainKeys := false, apart := false, laid := [("flume/sums.nibbles", laid_flume_sums_nibbles)] }
def TunnelGetsSaid : Prop := tunnelGetsRow.holds Tryd.pinned (OpenSpec.ofChange tunnelGetsSpec)

/-- ITS FALSE NEIGHBOUR: 'it returns false'. Refute it at one input. -/
def tunnelGetsWrong : ChangeSpec := { name := "tunnelGets", fn := fun _ => fun
  | [d] => { results := [.lit (.bool false)], args := [d] }
  | _ => none }
def TunnelGetsWrongFalsely : Prop := tunnelGetsRow.holds Tryd.pinned (OpenSpec.ofChange tunnelGetsWrong)

/-- 'flumelaw12.TunnelForm': WHATEVER THE INPUT: true; the input reads as it did. -/
def tunnelFormSpec : ChangeSpec := { name := "tunnelForm", fn := fun _ => fun
  | [d1, d2, d3, d4] => { results := [.lit (.bool true)], args := [d1, d2, d3, d4] }
  | _ => none }
def tunnelFormRow : OpenClaim := { program := "ytmhibpcbdbhfoaadoor", sum := "96cec5b820357e15c93de5810bbe5eb9afa2b53b0b233fecfe495c95f68a78f6", func := "flume/flumelaw12.TunnelForm", spec := "tunnelForm", unfollowed := true, recurses := true, named := ["flume/sums.nibbles"], plainKeys := false, apart := false, laid := [("flume/sums.nibbles", laid_flume_sums_nibbles)] }
def TunnelFormSaid : Prop := tunnelFormRow.holds Tryd.pinned (OpenSpec.ofChange tunnelFormSpec)

/-- ITS FALSE NEIGHBOUR: 'it returns false'. Refute it at one input. -/
def tunnelFormWrong : ChangeSpec := { name := "tunnelForm", fn := fun _ => fun
  | [d1, d2, d3, d4] => { results := [.lit (.bool false)], args := [d1, d2, d3, d4] }
  | _ => none }
def TunnelFormWrongFalsely : Prop := tunnelFormRow.holds Tryd.pinned (OpenSpec.ofChange tunnelFormWrong)

/-- 'flumelaw12.TunnelStranger': WHATEVER THE INPUT: true; the input reads as it did. -/
def tunnelStrangerSpec : ChangeSpec := { name := "tunnelStranger", fn := fun _ => fun
  | [d1, d2, d3] => { results := [.lit (.bool true)], args := [d1, d2, d3] }
  | _ => none }
def tunnelStrangerRow : OpenClaim := { program := "ytmhibpcbdbhfoaadoor", sum := "96cec5b820357e15c93de5810bbe5eb9afa2b53b0b233fecfe495c95f68a78f6", func := "flume/flumelaw12.TunnelStranger", spec := "tunnelStranger", unfollowed := true, recurses := true, named := ["flume/sums.nibbles"], plainKeys := false, apart := false, laid := [("flume/sums.nibbles", laid_flume_sums_nibbles)] }
def TunnelStrangerSaid : Prop := tunnelStrangerRow.holds Tryd.pinned (OpenSpec.ofChange tunnelStrangerSpec)

/-- ITS FALSE NEIGHBOUR: 'it returns false'. Refute it at one input. -/
def tunnelStrangerWrong : ChangeSpec := { name := "tunnelStranger", fn := fun _ => fun
  | [d1, d2, d3] => { results := [.lit (.bool false)], args := [d1, d2, d3] }
  | _ => none }
def TunnelStrangerWrongFalsely : Prop := tunnelStrangerRow.holds Tryd.pinned (OpenSpec.ofChange tunnelStrangerWrong)

/-- 'flumelaw12.TunnelNobody': WHATEVER THE INPUT: true; the input reads as it did. -/
def tunnelNobodySpec : ChangeSpec := { name := "tunnelNobody", fn := fun _ => fun
  | [d1, d2] => { results := [.lit (.bool true)], args := [d1, d2] }
  | _ => none }
def tunnelNobodyRow : OpenClaim := { program := "ytmhibpcbdbhfoaadoor", sum := "96cec5b820357e15c93de5810bbe5eb9afa2b53b0b233fecfe495c95f68a78f6", func := "flume/flumelaw12.TunnelNobody", spec := "tunnelNobody", unfollowed := true, recurses := true, named := ["flume/sums.nibbles"], plainKeys := false, apart := false, laid := [("flume/sums.nibbles", laid_flume_sums_nibbles)] }
def TunnelNobodySaid : Prop := tunnelNobodyRow.holds Tryd.pinned (OpenSpec.ofChange tunnelNobodySpec)

/-- ITS FALSE NEIGHBOUR: 'it returns false'. Refute it at one input. -/
def tunnelNobodyWrong : ChangeSpec := { name := "tunnelNobody", fn := fun _ => fun
  | [d1, d2] => { results := [.lit (.bool false)], args := [d1, d2] }
  | _ => none }
def TunnelNobodyWrongFalsely : Prop := tunnelNobodyRow.holds Tryd.pinned (OpenSpec.ofChange tunnelNobodyWrong)

/-- 'flumelaw12.TunnelPlays': WHATEVER THE INPUT: true; the input reads as it did. -/
def tunnelPlaysSpec : ChangeSpec := { name := "tunnelPlays", fn := fun _ => fun
  | [d1, d2] => { results := [.lit (.bool true)], args := [d1, d2] }
  | _ => none }
def tunnelPlaysRow : OpenClaim := { program := "ytmhibpcbdbhfoaadoor", sum := "96cec5b820357e15c93de5810bbe5eb9afa2b53b0b233fecfe495c95f68a78f6", func := "flume/flumelaw12.TunnelPlays", spec := "tunnelPlays", unfollowed := true, recurses := true, named := ["flume/sums.nibbles"], plainKeys := false, apart := false, laid := [("flume/sums.nibbles", laid_flume_sums_nibbles)] }
def TunnelPlaysSaid : Prop := tunnelPlaysRow.holds Tryd.pinned (OpenSpec.ofChange tunnelPlaysSpec)

/-- ITS FALSE NEIGHBOUR: 'it returns false'. Refute it at one input. -/
def tunnelPlaysWrong : ChangeSpec := { name := "tunnelPlays", fn := fun _ => fun
  | [d1, d2] => { results := [.lit (.bool false)], args := [d1, d2] }
  | _ => none }
def TunnelPlaysWrongFalsely : Prop := tunnelPlaysRow.holds Tryd.pinned (OpenSpec.ofChange tunnelPlaysWrong)

/-- 'flumelaw12.TunnelOnce': WHATEVER THE INPUT: true; the input reads as it did. -/
def tunnelOnceSpec : ChangeSpec := { name := "tunnelOnce", fn := fun _ => fun
  | [d] => { results := [.lit (.bool true)], args := [d] }
  | _ => none }
def tunnelOnceRow : OpenClaim := { program := "ytmhibpcbdbhfoaadoor", sum := "96cec5b820357e15c93de5810bbe5eb9afa2b53b0b233fecfe495c95f68a78f6", func := "flume/flumelaw12.TunnelOnce", spec := "tunnelOnce", unfollowed := true, recurses := true, named := ["flume/sums.nibbles"], plainKeys := false, apart := false, laid := [("flume/sums.nibbles", laid_flume_sums_nibbles)] }
def TunnelOnceSaid : Prop := tunnelOnceRow.holds Tryd.pinned (OpenSpec.ofChange tunnelOnceSpec)

/-- ITS FALSE NEIGHBOUR: 'it returns false'. Refute it at one input. -/
def tunnelOnceWrong : ChangeSpec := { name := "tunnelOnce", fn := fun _ => fun
  | [d] => { results := [.lit (.bool false)], args := [d] }
  | _ => none }
def TunnelOnceWrongFalsely : Prop := tunnelOnceRow.holds Tryd.pinned (OpenSpec.ofChange tunnelOnceWrong)

/-- 'flumelaw12.TunnelBounds': WHATEVER THE INPUT: true; the input reads as it did. -/
def tunnelBoundsSpec : ChangeSpec := { name := "tunnelBounds", fn := fun _ => fun
  | [d] => { results := [.lit (.bool true)], args := [d] }
  | _ => none }
def tunnelBoundsRow : OpenClaim := { program := "ytmhibpcbdbhfoaadoor", sum := "96cec5b820357e15c93de5810bbe5eb9afa2b53b0b233fecfe495c95f68a78f6", func := "flume/flumelaw12.TunnelBounds", spec := "tunnelBounds", unfollowed := true, recurses := true, named := ["flume/sums.nibbles"], plainKeys := false, apart := false, laid := [("flume/sums.nibbles", laid_flume_sums_nibbles)] }
def TunnelBoundsSaid : Prop := tunnelBoundsRow.holds Tryd.pinned (OpenSpec.ofChange tunnelBoundsSpec)

/-- ITS FALSE NEIGHBOUR: 'it returns false'. Refute it at one input. -/
def tunnelBoundsWrong : ChangeSpec := { name := "tunnelBounds", fn := fun _ => fun
  | [d] => { results := [.lit (.bool false)], args := [d] }
  | _ => none }
def TunnelBoundsWrongFalsely : Prop := tunnelBoundsRow.holds Tryd.pinned (OpenSpec.ofChange tunnelBoundsWrong)

/-- 'flumelaw12.TunnelSettles': WHATEVER THE INPUT: true; the input reads as it did. -/
def tunnelSettlesSpec : ChangeSpec := { name := "tunnelSettles", fn := fun _ => fun
  | [d] => { results := [.lit (.bool true)], args := [d] }
  | _ => none }
def tunnelSettlesRow : OpenClaim := { program := "ytmhibpcbdbhfoaadoor", sum := "96cec5b820357e15c93de5810bbe5eb9afa2b53b0b233fecfe495c95f68a78f6", func := "flume/flumelaw12.TunnelSettles", spec := "tunnelSettles", unfollowed := true, recurses := true, named := ["flume/sums.nibbles"], plainKeys := false, apart := false, laid := [("flume/sums.nibbles", laid_flume_sums_nibbles)] }
def TunnelSettlesSaid : Prop := tunnelSettlesRow.holds Tryd.pinned (OpenSpec.ofChange tunnelSettlesSpec)

/-- ITS FALSE NEIGHBOUR: 'it returns false'. Refute it at one input. -/
def tunnelSettlesWrong : ChangeSpec := { name := "tunnelSettles", fn := fun _ => fun
  | [d] => { results := [.lit (.bool false)], args := [d] }
  | _ => none }
def TunnelSettlesWrongFalsely : Prop := tunnelSettlesRow.holds Tryd.pinned (OpenSpec.ofChange tunnelSettlesWrong)

/-- 'flumelaw12.TunnelSame': WHATEVER THE INPUT: true; the input reads as it did. -/
def tunnelSameSpec : ChangeSpec := { name := "tunnelSame", fn := fun _ => fun
  | [d1, d2] => { results := [.lit (.bool true)], args := [d1, d2] }
  | _ => none }
def tunnelSameRow : OpenClaim := { program := "ytmhibpcbdbhfoaadoor", sum := "96cec5b820357e15c93de5810bbe5eb9afa2b53b0b233fecfe495c95f68a78f6", func := "flume/flumelaw12.TunnelSame", spec := "tunnelSame", unfollowed := true, recurses := true, named := ["flume/sums.nibbles"], plainKeys := false, apart := false, laid := [("flume/sums.nibbles", laid_flume_sums_nibbles)] }
def TunnelSameSaid : Prop := tunnelSameRow.holds Tryd.pinned (OpenSpec.ofChange tunnelSameSpec)

/-- ITS FALSE NEIGHBOUR: 'it returns false'. Refute it at one input. -/
def tunnelSameWrong : ChangeSpec := { name := "tunnelSame", fn := fun _ => fun
  | [d1, d2] => { results := [.lit (.bool false)], args := [d1, d2] }
  | _ => none }
def TunnelSameWrongFalsely : Prop := tunnelSameRow.holds Tryd.pinned (OpenSpec.ofChange tunnelSameWrong)

/- THE SECOND FORM. 'bulk': how many values and letters a reading holds, each counted each time it is reached (what is shared counts as often as it is met; a slice's spare places count too). A statement '..UptoSaid' is the law's where the arguments, and the package variables that the reading takes, are together of bulk at most 1048576: NARROWER than '..Said'. Prove '..Said' where nothing that the law and all that it calls make is longer than what came in: it says more and counts as full. Else prove '..UptoSaid'. A law counts once. -/
mutual
def uptoBulk {H : Type} : DataW H → Nat
  | .lit (.string bytes) => bytes.length + 1
  | .lit _ => 1
  | .nil => 1
  | .ptr d => uptoBulk d + 1
  | .slice elems spare => uptoBulkAll elems + uptoBulkAll spare + 1
  | .agg parts => uptoBulkAll parts + 1
  | .iface _ d => uptoBulk d + 1
  | .map entries => uptoBulkEntries entries + 1
  | .held _ => 1
def uptoBulkAll {H : Type} : List (DataW H) → Nat
  | [] => 0
  | d :: r => uptoBulk d + uptoBulkAll r
def uptoBulkEntries {H : Type} : List (Lit × DataW H) → Nat
  | [] => 0
  | x :: r => uptoBulkEntry x + uptoBulkEntries r
def uptoBulkEntry {H : Type} : Lit × DataW H → Nat
  | (.string bytes, d) => bytes.length + uptoBulk d + 1
  | (_, d) => uptoBulk d + 1
 end
def uptoSmall : (H : Type) → List (DataW H) → Bool := fun _ ds => decide (uptoBulkAll ds ≤ 1048576)
def OpenSpec.upto (s : _root_.Go.ChangeSpec) : _root_.Go.OpenSpec := { _root_.Go.OpenSpec.ofChange s with cond := some uptoSmall }

/-- 'flumelaw12.TunnelPuts', WHERE WHAT IT READS IS OF BULK AT MOST 1048576: true; the input reads as it did. -/
def tunnelPutsUptoRow : OpenClaim := { program := "ytmhibpcbdbhfoaadoor", sum := "96cec5b820357e15c93de5810bbe5eb9afa2b53b0b233fecfe495c95f68a78f6", func := "flume/flumelaw12.TunnelPuts", spec := "tunnelPuts", unfollowed := true, recurses := true, named := ["flume/sums.nibbles"], plainKeys := false, apart := false, laid := [("flume/sums.nibbles", laid_flume_sums_nibbles)], narrowed := true }
def TunnelPutsUptoSaid : Prop := tunnelPutsUptoRow.holds Tryd.pinned (OpenSpec.upto tunnelPutsSpec)

/-- 'flumelaw12.TunnelGets', WHERE WHAT IT READS IS OF BULK AT MOST 1048576: true; the input reads as it did. -/
def tunnelGetsUptoRow : OpenClaim := { program := "ytmhibpcbdbhfoaadoor", sum := "96cec5b820357e15c93de5810bbe5eb9afa2b53b0b233fecfe495c95f68a78f6", func := "flume/flumelaw12.TunnelGets", spec := "tunnelGets", unfollowed := true, recurses := true, named := ["flume/sums.nibbles"], plainKeys := false, apart := false, laid := [("flume/sums.nibbles", laid_flume_sums_nibbles)], narrowed := true }
def TunnelGetsUptoSaid : Prop := tunnelGetsUptoRow.holds Tryd.pinned (OpenSpec.upto tunnelGetsSpec)

/-- 'flumelaw12.TunnelForm', WHERE WHAT IT READS IS OF BULK AT MOST 1048576: true; the input reads as it did. -/
def tunnelFormUptoRow : OpenClaim := { program := "ytmhibpcbdbhfoaadoor", sum := "96cec5b820357e15c93de5810bbe5eb9afa2b53b0b233fecfe495c95f68a78f6", func := "flume/flumelaw12.TunnelForm", spec := "tunnelForm", unfollowed := true, recurses := true, named := ["flume/sums.nibbles"], plainKeys := false, apart := false, laid := [("flume/sums.nibbles", laid_flume_sums_nibbles)], narrowed := true }
def TunnelFormUptoSaid : Prop := tunnelFormUptoRow.holds Tryd.pinned (OpenSpec.upto tunnelFormSpec)

/-- 'flumelaw12.TunnelStranger', WHERE WHAT IT READS IS OF BULK AT MOST 1048576: true; the input reads as it did. -/
def tunnelStrangerUptoRow : OpenClaim := { program := "ytmhibpcbdbhfoaadoor", sum := "96cec5b820357e15c93de5810bbe5eb9afa2b53b0b233fecfe495c95f68a78f6", func := "flume/flumelaw12.TunnelStranger", spec := "tunnelStranger", unfollowed := true, recurses := true, named := ["flume/sums.nibbles"], plainKeys := false, apart := false, laid := [("flume/sums.nibbles", laid_flume_sums_nibbles)], narrowed := true }
def TunnelStrangerUptoSaid : Prop := tunnelStrangerUptoRow.holds Tryd.pinned (OpenSpec.upto tunnelStrangerSpec)

/-- 'flumelaw12.TunnelNobody', WHERE WHAT IT READS IS OF BULK AT MOST 1048576: true; the input reads as it did. -/
def tunnelNobodyUptoRow : OpenClaim := { program := "ytmhibpcbdbhfoaadoor", sum := "96cec5b820357e15c93de5810bbe5eb9afa2b53b0b233fecfe495c95f68a78f6", func := "flume/flumelaw12.TunnelNobody", spec := "tunnelNobody", unfollowed := true, recurses := true, named := ["flume/sums.nibbles"], plainKeys := false, apart := false, laid := [("flume/sums.nibbles", laid_flume_sums_nibbles)], narrowed := true }
def TunnelNobodyUptoSaid : Prop := tunnelNobodyUptoRow.holds Tryd.pinned (OpenSpec.upto tunnelNobodySpec)

/-- 'flumelaw12.TunnelPlays', WHERE WHAT IT READS IS OF BULK AT MOST 1048576: true; the input reads as it did. -/
def tunnelPlaysUptoRow : OpenClaim := { program := "ytmhibpcbdbhfoaadoor", sum := "96cec5b820357e15c93de5810bbe5eb9afa2b53b0b233fecfe495c95f68a78f6", func := "flume/flumelaw12.TunnelPlays", spec := "tunnelPlays", unfollowed := true, recurses := true, named := ["flume/sums.nibbles"], plainKeys := false, apart := false, laid := [("flume/sums.nibbles", laid_flume_sums_nibbles)], narrowed := true }
def TunnelPlaysUptoSaid : Prop := tunnelPlaysUptoRow.holds Tryd.pinned (OpenSpec.upto tunnelPlaysSpec)

/-- 'flumelaw12.TunnelOnce', WHERE WHAT IT READS IS OF BULK AT MOST 1048576: true; the input reads as it did. -/
def tunnelOnceUptoRow : OpenClaim := { program := "ytmhibpcbdbhfoaadoor", sum := "96cec5b820357e15c93de5810bbe5eb9afa2b53b0b233fecfe495c95f68a78f6", func := "flume/flumelaw12.TunnelOnce", spec := "tunnelOnce", unfollowed := true, recurses := true, named := ["flume/sums.nibbles"], plainKeys := false, apart := false, laid := [("flume/sums.nibbles", laid_flume_sums_nibbles)], narrowed := true }
def TunnelOnceUptoSaid : Prop := tunnelOnceUptoRow.holds Tryd.pinned (OpenSpec.upto tunnelOnceSpec)

/-- 'flumelaw12.TunnelBounds', WHERE WHAT IT READS IS OF BULK AT MOST 1048576: true; the input reads as it did. -/
def tunnelBoundsUptoRow : OpenClaim := { program := "ytmhibpcbdbhfoaadoor", sum := "96cec5b820357e15c93de5810bbe5eb9afa2b53b0b233fecfe495c95f68a78f6", func := "flume/flumelaw12.TunnelBounds", spec := "tunnelBounds", unfollowed := true, recurses := true, named := ["flume/sums.nibbles"], plainKeys := false, apart := false, laid := [("flume/sums.nibbles", laid_flume_sums_nibbles)], narrowed := true }
def TunnelBoundsUptoSaid : Prop := tunnelBoundsUptoRow.holds Tryd.pinned (OpenSpec.upto tunnelBoundsSpec)

/-- 'flumelaw12.TunnelSettles', WHERE WHAT IT READS IS OF BULK AT MOST 1048576: true; the input reads as it did. -/
def tunnelSettlesUptoRow : OpenClaim := { program := "ytmhibpcbdbhfoaadoor", sum := "96cec5b820357e15c93de5810bbe5eb9afa2b53b0b233fecfe495c95f68a78f6", func := "flume/flumelaw12.TunnelSettles", spec := "tunnelSettles", unfollowed := true, recurses := true, named := ["flume/sums.nibbles"], plainKeys := false, apart := false, laid := [("flume/sums.nibbles", laid_flume_sums_nibbles)], narrowed := true }
def TunnelSettlesUptoSaid : Prop := tunnelSettlesUptoRow.holds Tryd.pinned (OpenSpec.upto tunnelSettlesSpec)

/-- 'flumelaw12.TunnelSame', WHERE WHAT IT READS IS OF BULK AT MOST 1048576: true; the input reads as it did. -/
def tunnelSameUptoRow : OpenClaim := { program := "ytmhibpcbdbhfoaadoor", sum := "96cec5b820357e15c93de5810bbe5eb9afa2b53b0b233fecfe495c95f68a78f6", func := "flume/flumelaw12.TunnelSame", spec := "tunnelSame", unfollowed := true, recurses := true, named := ["flume/sums.nibbles"], plainKeys := false, apart := false, laid := [("flume/sums.nibbles", laid_flume_sums_nibbles)], narrowed := true }
def TunnelSameUptoSaid : Prop := tunnelSameUptoRow.holds Tryd.pinned (OpenSpec.upto tunnelSameSpec)

end Rows
end Go.Proofs.YtmhibpcbdbhfoaaDoor
