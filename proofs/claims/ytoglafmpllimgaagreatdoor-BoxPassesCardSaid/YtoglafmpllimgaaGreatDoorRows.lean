/-
  NARROWER THAN 'FOR EVERY INPUT', by the rows' own cells (each row's printed sentence says how): BoxPasses: laid · BoxFinds: laid · BoxApart: laid · BoxBounds: laid · BoxNobody: laid.
  DERIVED. THE GIVEN ROWS OF THIS SEAT. 5 by the template 'for every input the law returns true; each argument reads behind the call as it read before'; 0 by the template 'total and deterministic' (their statements: YtoglafmpllimgaaGreatDoorTotals.lean).
  GIVEN WITH THE SEED: the statements are not yours to turn. If you find one false, say at which input.
  Laid BY PROGRAM, IN A SANDBOX (cutbox-rows.mjs): the forced cells as the released guide's own fill.sh prints them over the translation 5d68497f1beebf9d… (all of the seat's roots in one cut). By AI agents, Wed Nov 11 2026. No macro, syntax, notation, axiom, sorry.
-/
import Derived.Test.YtoglafmpllimgaaGreatDoorChecked
import GoSem.Claim
import GoSem.ClaimJoined
import GoSem.ClaimMapViews
import Derived.JoinedTies
import Derived.KernelRfl
namespace Go.Proofs.YtoglafmpllimgaaGreatDoor
/- THE CELL 'sum', in the pinned program and in every row, IS THE sha256 OF THE DUMP (.gsa) THAT YtoglafmpllimgaaGreatDoorProg.lean LOADS. Nothing in Lean hashes anything: it is a label: what it is worth is what the hold of that sum in a sandbox is worth. -/
noncomputable def Tryz.pinned : Pinned := { name := "ytoglafmpllimgaagreatdoor", sum := "5d68497f1beebf9d099d9a5b3e1982a4cc471be004400dff43cc4e4b0918a5ca", checked := Tryz.checked }
namespace Rows
def none {H : Type} : Left H := { results := [], args := [] }

/- WHAT THE LISTED PACKAGE-LEVEL VARIABLES READ AS WHEN THE CALL BEGINS. Each datum BY PROGRAM (the guide's laid-datum.mjs) off the statement by which the dump's own 'gosem.cut.vars' lays the variable. In a bare row this is a premise. The card (YtoglafmpllimgaaGreatDoorCards.lean) ties it to the program's text. -/
def laid_flume_digest_first {H : Type} : DataW H := .agg [.lit (.int .u32 1779033703), .lit (.int .u32 3144134277), .lit (.int .u32 1013904242), .lit (.int .u32 2773480762), .lit (.int .u32 1359893119), .lit (.int .u32 2600822924), .lit (.int .u32 528734635), .lit (.int .u32 1541459225)]
def laid_flume_digest_rounds {H : Type} : DataW H := .agg [.lit (.int .u32 1116352408), .lit (.int .u32 1899447441), .lit (.int .u32 3049323471), .lit (.int .u32 3921009573), .lit (.int .u32 961987163), .lit (.int .u32 1508970993), .lit (.int .u32 2453635748), .lit (.int .u32 2870763221), .lit (.int .u32 3624381080), .lit (.int .u32 310598401), .lit (.int .u32 607225278), .lit (.int .u32 1426881987), .lit (.int .u32 1925078388), .lit (.int .u32 2162078206), .lit (.int .u32 2614888103), .lit (.int .u32 3248222580), .lit (.int .u32 3835390401), .lit (.int .u32 4022224774), .lit (.int .u32 264347078), .lit (.int .u32 604807628), .lit (.int .u32 770255983), .lit (.int .u32 1249150122), .lit (.int .u32 1555081692), .lit (.int .u32 1996064986), .lit (.int .u32 2554220882), .lit (.int .u32 2821834349), .lit (.int .u32 2952996808), .lit (.int .u32 3210313671), .lit (.int .u32 3336571891), .lit (.int .u32 3584528711), .lit (.int .u32 113926993), .lit (.int .u32 338241895), .lit (.int .u32 666307205), .lit (.int .u32 773529912), .lit (.int .u32 1294757372), .lit (.int .u32 1396182291), .lit (.int .u32 1695183700), .lit (.int .u32 1986661051), .lit (.int .u32 2177026350), .lit (.int .u32 2456956037), .lit (.int .u32 2730485921), .lit (.int .u32 2820302411), .lit (.int .u32 3259730800), .lit (.int .u32 3345764771), .lit (.int .u32 3516065817), .lit (.int .u32 3600352804), .lit (.int .u32 4094571909), .lit (.int .u32 275423344), .lit (.int .u32 430227734), .lit (.int .u32 506948616), .lit (.int .u32 659060556), .lit (.int .u32 883997877), .lit (.int .u32 958139571), .lit (.int .u32 1322822218), .lit (.int .u32 1537002063), .lit (.int .u32 1747873779), .lit (.int .u32 1955562222), .lit (.int .u32 2024104815), .lit (.int .u32 2227730452), .lit (.int .u32 2361852424), .lit (.int .u32 2428436474), .lit (.int .u32 2756734187), .lit (.int .u32 3204031479), .lit (.int .u32 3329325298)]
def laid_flume_sums_nibbles {H : Type} : DataW H := .agg [.lit (.int .u32 0), .lit (.int .u32 498536548), .lit (.int .u32 997073096), .lit (.int .u32 651767980), .lit (.int .u32 1994146192), .lit (.int .u32 1802195444), .lit (.int .u32 1303535960), .lit (.int .u32 1342533948), .lit (.int .u32 3988292384), .lit (.int .u32 4027552580), .lit (.int .u32 3604390888), .lit (.int .u32 3412177804), .lit (.int .u32 2607071920), .lit (.int .u32 2262029012), .lit (.int .u32 2685067896), .lit (.int .u32 3183342108)]

/-- 'flumelaw14.BoxPasses': WHATEVER THE INPUT: true; the input reads as it did. -/
def boxPassesSpec : ChangeSpec := { name := "boxPasses", fn := fun _ => fun
  | [d1, d2] => { results := [.lit (.bool true)], args := [d1, d2] }
  | _ => none }
def boxPassesRow : OpenClaim := { program := "ytoglafmpllimgaagreatdoor", sum := "5d68497f1beebf9d099d9a5b3e1982a4cc471be004400dff43cc4e4b0918a5ca", func := "flume/flumelaw14.BoxPasses", spec := "boxPasses", inPlace := ["sync/atomic.LoadUint32", "(*internal/sync.Mutex).Lock", "internal/race.Disable", "sync/atomic.CompareAndSwapInt32", "internal/race.Enable", "internal/race.Acquire", "(*internal/sync.Mutex).lockSlow", "internal/sync.runtime_canSpin", "internal/sync.runtime_doSpin", "internal/sync.throw", "internal/sync.runtime_nanotime", "internal/sync.runtime_SemacquireMutex", "sync/atomic.AddInt32", "(*internal/sync.Mutex).Unlock", "internal/race.ReleaseMerge", "(*internal/sync.Mutex).unlockSlow", "internal/sync.fatal", "internal/sync.runtime_Semrelease", "sync/atomic.StoreUint32", "internal/reflectlite.TypeOf", "sync/atomic.AddInt64", "sync/atomic.LoadInt64"], unfollowed := true, recurses := true, named := ["flume/sums.nibbles", "flume/digest.first", "flume/digest.rounds"], plainKeys := false, apart := false, laid := [("flume/digest.first", laid_flume_digest_first), ("flume/digest.rounds", laid_flume_digest_rounds), ("flume/sums.nibbles", laid_flume_sums_nibbles)] }
def BoxPassesSaid : Prop := boxPassesRow.holds Tryz.pinned (OpenSpec.ofChange boxPassesSpec)

/-- ITS FALSE NEIGHBOUR: 'it returns false'. Refute it at one input. -/
def boxPassesWrong : ChangeSpec := { name := "boxPasses", fn := fun _ => fun
  | [d1, d2] => { results := [.lit (.bool false)], args := [d1, d2] }
  | _ => none }
def BoxPassesWrongFalsely : Prop := boxPassesRow.holds Tryz.pinned (OpenSpec.ofChange boxPassesWrong)

/-- 'flumelaw14.BoxFinds': WHATEVER THE INPUT: true; the input reads as it did. -/
def boxFindsSpec : ChangeSpec := { name := "boxFinds", fn := fun _ => fun
  | [d1, d2, d3, d4] => { results := [.lit (.bool true)], args := [d1, d2, d3, d4] }
  | _ => none }
def boxFindsRow : OpenClaim := { program := "ytoglafmpllimgaagreatdoor", sum := "5d68497f1beebf9d099d9a5b3e1982a4cc471be004400dff43cc4e4b0918a5ca", func := "flume/flumelaw14.BoxFinds", spec := "boxFinds", inPlace := ["sync/atomic.LoadUint32", "(*internal/sync.Mutex).Lock", "internal/race.Disable", "sync/atomic.CompareAndSwapInt32", "internal/race.Enable", "internal/race.Acquire", "(*internal/sync.Mutex).lockSlow", "internal/sync.runtime_canSpin", "internal/sync.runtime_doSpin", "internal/sync.throw", "internal/sync.runtime_nanotime", "internal/sync.runtime_SemacquireMutex", "sync/atomic.AddInt32", "(*internal/sync.Mutex).Unlock", "internal/race.ReleaseMerge", "(*internal/sync.Mutex).unlockSlow", "internal/sync.fatal", "internal/sync.runtime_Semrelease", "sync/atomic.StoreUint32", "internal/reflectlite.TypeOf", "sync/atomic.AddInt64", "sync/atomic.LoadInt64"], unfollowed := true, recurses := true, named := ["flume/sums.nibbles", "flume/digest.first", "flume/digest.rounds"], plainKeys := false, apart := false, laid := [("flume/digest.first", laid_flume_digest_first), ("flume/digest.rounds", laid_flume_digest_rounds), ("flume/sums.nibbles", laid_flume_sums_nibbles)] }
def BoxFindsSaid : Prop := boxFindsRow.holds Tryz.pinned (OpenSpec.ofChange boxFindsSpec)

/-- ITS FALSE NEIGHBOUR: 'it returns false'. Refute it at one input. -/
def boxFindsWrong : ChangeSpec := { name := "boxFinds", fn := fun _ => fun
  | [d1, d2, d3, d4] => { results := [.lit (.bool false)], args := [d1, d2, d3, d4] }
  | _ => none }
def BoxFindsWrongFalsely : Prop := boxFindsRow.holds Tryz.pinned (OpenSpec.ofChange boxFindsWrong)

/-- 'flumelaw14.BoxApart': WHATEVER THE INPUT: true; the input reads as it did. -/
def boxApartSpec : ChangeSpec := { name := "boxApart", fn := fun _ => fun
  | [d1, d2, d3, d4, d5] => { results := [.lit (.bool true)], args := [d1, d2, d3, d4, d5] }
  | _ => none }
def boxApartRow : OpenClaim := { program := "ytoglafmpllimgaagreatdoor", sum := "5d68497f1beebf9d099d9a5b3e1982a4cc471be004400dff43cc4e4b0918a5ca", func := "flume/flumelaw14.BoxApart", spec := "boxApart", inPlace := ["sync/atomic.LoadUint32", "(*internal/sync.Mutex).Lock", "internal/race.Disable", "sync/atomic.CompareAndSwapInt32", "internal/race.Enable", "internal/race.Acquire", "(*internal/sync.Mutex).lockSlow", "internal/sync.runtime_canSpin", "internal/sync.runtime_doSpin", "internal/sync.throw", "internal/sync.runtime_nanotime", "internal/sync.runtime_SemacquireMutex", "sync/atomic.AddInt32", "(*internal/sync.Mutex).Unlock", "internal/race.ReleaseMerge", "(*internal/sync.Mutex).unlockSlow", "internal/sync.fatal", "internal/sync.runtime_Semrelease", "sync/atomic.StoreUint32", "internal/reflectlite.TypeOf", "sync/atomic.AddInt64", "sync/atomic.LoadInt64"], unfollowed := true, recurses := true, named := ["flume/sums.nibbles", "flume/digest.first", "flume/digest.rounds"], plainKeys := false, apart := false, laid := [("flume/digest.first", laid_flume_digest_first), ("flume/digest.rounds", laid_flume_digest_rounds), ("flume/sums.nibbles", laid_flume_sums_nibbles)] }
def BoxApartSaid : Prop := boxApartRow.holds Tryz.pinned (OpenSpec.ofChange boxApartSpec)

/-- ITS FALSE NEIGHBOUR: 'it returns false'. Refute it at one input. -/
def boxApartWrong : ChangeSpec := { name := "boxApart", fn := fun _ => fun
  | [d1, d2, d3, d4, d5] => { results := [.lit (.bool false)], args := [d1, d2, d3, d4, d5] }
  | _ => none }
def BoxApartWrongFalsely : Prop := boxApartRow.holds Tryz.pinned (OpenSpec.ofChange boxApartWrong)

/-- 'flumelaw14.BoxBounds': WHATEVER THE INPUT: true; the input reads as it did. -/
def boxBoundsSpec : ChangeSpec := { name := "boxBounds", fn := fun _ => fun
  | [d1, d2] => { results := [.lit (.bool true)], args := [d1, d2] }
  | _ => none }
def boxBoundsRow : OpenClaim := { program := "ytoglafmpllimgaagreatdoor", sum := "5d68497f1beebf9d099d9a5b3e1982a4cc471be004400dff43cc4e4b0918a5ca", func := "flume/flumelaw14.BoxBounds", spec := "boxBounds", inPlace := ["sync/atomic.LoadUint32", "(*internal/sync.Mutex).Lock", "internal/race.Disable", "sync/atomic.CompareAndSwapInt32", "internal/race.Enable", "internal/race.Acquire", "(*internal/sync.Mutex).lockSlow", "internal/sync.runtime_canSpin", "internal/sync.runtime_doSpin", "internal/sync.throw", "internal/sync.runtime_nanotime", "internal/sync.runtime_SemacquireMutex", "sync/atomic.AddInt32", "(*internal/sync.Mutex).Unlock", "internal/race.ReleaseMerge", "(*internal/sync.Mutex).unlockSlow", "internal/sync.fatal", "internal/sync.runtime_Semrelease", "sync/atomic.StoreUint32", "internal/reflectlite.TypeOf", "sync/atomic.AddInt64", "sync/atomic.LoadInt64"], unfollowed := true, recurses := true, named := ["flume/sums.nibbles", "flume/digest.first", "flume/digest.rounds"], plainKeys := false, apart := false, laid := [("flume/digest.first", laid_flume_digest_first), ("flume/digest.rounds", laid_flume_digest_rounds), ("flume/sums.nibbles", laid_flume_sums_nibbles)] }
def BoxBoundsSaid : Prop := boxBoundsRow.holds Tryz.pinned (OpenSpec.ofChange boxBoundsSpec)

/-- ITS FALSE NEIGHBOUR: 'it returns false'. Refute it at one input. -/
def boxBoundsWrong : ChangeSpec := { name := "boxBounds", fn := fun _ => fun
  | [d1, d2] => { results := [.lit (.bool false)], args := [d1, d2] }
  | _ => none }
def BoxBoundsWrongFalsely : Prop := boxBoundsRow.holds Tryz.pinned (OpenSpec.ofChange boxBoundsWrong)

/-- 'flumelaw14.BoxNobody': WHATEVER THE INPUT: true; the input reads as it did. -/
def boxNobodySpec : ChangeSpec := { name := "boxNobody", fn := fun _ => fun
  | [d1, d2] => { results := [.lit (.bool true)], args := [d1, d2] }
  | _ => none }
def boxNobodyRow : OpenClaim := { program := "ytoglafmpllimgaagreatdoor", sum := "5d68497f1beebf9d099d9a5b3e1982a4cc471be004400dff43cc4e4b0918a5ca", func := "flume/flumelaw14.BoxNobody", spec := "boxNobody", inPlace := ["sync/atomic.LoadUint32", "(*internal/sync.Mutex).Lock", "internal/race.Disable", "sync/atomic.CompareAndSwapInt32", "internal/race.Enable", "internal/race.Acquire", "(*internal/sync.Mutex).lockSlow", "internal/sync.runtime_canSpin", "internal/sync.runtime_doSpin", "internal/sync.throw", "internal/sync.runtime_nanotime", "internal/sync.runtime_SemacquireMutex", "sync/atomic.AddInt32", "(*internal/sync.Mutex).Unlock", "internal/race.ReleaseMerge", "(*internal/sync.Mutex).unlockSlow", "internal/sync.fatal", "internal/sync.runtime_Semrelease", "sync/atomic.StoreUint32", "internal/reflectlite.TypeOf", "sync/atomic.AddInt64", "sync/atomic.LoadInt64"], unfollowed := true, recurses := true, named := ["flume/sums.nibbles", "flume/digest.first", "flume/digest.rounds"], plainKeys := false, apart := false, laid := [("flume/digest.first", laid_flume_digest_first), ("flume/digest.rounds", laid_flume_digest_rounds), ("flume/sums.nibbles", laid_flume_sums_nibbles)] }
def BoxNobodySaid : Prop := boxNobodyRow.holds Tryz.pinned (OpenSpec.ofChange boxNobodySpec)

/-- ITS FALSE NEIGHBOUR: 'it returns false'. Refute it at one input. -/
def boxNobodyWrong : ChangeSpec := { name := "boxNobody", fn := fun _ => fun
  | [d1, d2] => { results := [.lit (.bool false)], args := [d1, d2] }
  | _ => none }
def BoxNobodyWrongFalsely : Prop := boxNobodyRow.holds Tryz.pinned (OpenSpec.ofChange boxNobodyWrong)

/- THE SECOND FORM. 'bulk': how many values and letters a reading holds, each counted each time it is reached (what is shared counts as often as it is met; a slice's spare places count too). A statement '..UptoSaid' is the law's where the arguments, and the package variables that the reading takes, are together of bulk at most 1048576: NARROWER than '..Said'. Prove '..Said' where nothing that the law and all that it calls make is longer than what came in: it says more and counts as full. Else prove '..UptoSaid'. A law counts once. -/
mutual
def uptoBulk {H : Type} : DataW H → Nat
  | .lit (.string bytes) => bytes.length + 1
  | .lit _ => 1
  | .nil => 1
  | .ptr d => uptoBulk d + 1
  | .slice elems spare => uptoBulkAll elems + uptoBulkAll spare + 1
  | .agg parts => uptoBulkAll parts + 1
  | .iface _ d => uptoBulk d + 1
  | .map entries => uptoBulkEntries entries + 1
  | .held _ => 1
def uptoBulkAll {H : Type} : List (DataW H) → Nat
  | [] => 0
  | d :: r => uptoBulk d + uptoBulkAll r
def uptoBulkEntries {H : Type} : List (Lit × DataW H) → Nat
  | [] => 0
  | x :: r => uptoBulkEntry x + uptoBulkEntries r
def uptoBulkEntry {H : Type} : Lit × DataW H → Nat
  | (.string bytes, d) => bytes.length + uptoBulk d + 1
  | (_, d) => uptoBulk d + 1
 end
def uptoSmall : (H : Type) → List (DataW H) → Bool := fun _ ds => decide (uptoBulkAll ds ≤ 1048576)
def OpenSpec.upto (s : _root_.Go.ChangeSpec) : _root_.Go.OpenSpec := { _root_.Go.OpenSpec.ofChange s with cond := some uptoSmall }

/-- 'flumelaw14.BoxPasses', WHERE WHAT IT READS IS OF BULK AT MOST 1048576: true; the input reads as it did. -/
def boxPassesUptoRow : OpenClaim := { program := "ytoglafmpllimgaagreatdoor", sum := "5d68497f1beebf9d099d9a5b3e1982a4cc471be004400dff43cc4e4b0918a5ca", func := "flume/flumelaw14.BoxPasses", spec := "boxPasses", inPlace := ["sync/atomic.LoadUint32", "(*internal/sync.Mutex).Lock", "internal/race.Disable", "sync/atomic.CompareAndSwapInt32", "internal/race.Enable", "internal/race.Acquire", "(*internal/sync.Mutex).lockSlow", "internal/sync.runtime_canSpin", "internal/sync.runtime_doSpin", "internal/sync.throw", "internal/sync.runtime_nanotime", "internal/sync.runtime_SemacquireMutex", "sync/atomic.AddInt32", "(*internal/sync.Mutex).Unlock", "internal/race.ReleaseMerge", "(*internal/sync.Mutex).unlockSlow", "internal/sync.fatal", "internal/sync.runtime_Semrelease", "sync/atomic.StoreUint32", "internal/reflectlite.TypeOf", "sync/atomic.AddInt64", "sync/atomic.LoadInt64"], unfollowed := true, recurses := true, named := ["flume/sums.nibbles", "flume/digest.first", "flume/digest.rounds"], plainKeys := false, apart := false, laid := [("flume/digest.first", laid_flume_digest_first), ("flume/digest.rounds", laid_flume_digest_rounds), ("flume/sums.nibbles", laid_flume_sums_nibbles)], narrowed := true }
def BoxPassesUptoSaid : Prop := boxPassesUptoRow.holds Tryz.pinned (OpenSpec.upto boxPassesSpec)

/-- 'flumelaw14.BoxFinds', WHERE WHAT IT READS IS OF BULK AT MOST 1048576: true; the input reads as it did. -/
def boxFindsUptoRow : OpenClaim := { program := "ytoglafmpllimgaagreatdoor", sum := "5d68497f1beebf9d099d9a5b3e1982a4cc471be004400dff43cc4e4b0918a5ca", func := "flume/flumelaw14.BoxFinds", spec := "boxFinds", inPlace := ["sync/atomic.LoadUint32", "(*internal/sync.Mutex).Lock", "internal/race.Disable", "sync/atomic.CompareAndSwapInt32", "internal/race.Enable", "internal/race.Acquire", "(*internal/sync.Mutex).lockSlow", "internal/sync.runtime_canSpin", "internal/sync.runtime_doSpin", "internal/sync.throw", "internal/sync.runtime_nanotime", "internal/sync.runtime_SemacquireMutex", "sync/atomic.AddInt32", "(*internal/sync.Mutex).Unlock", "internal/race.ReleaseMerge", "(*internal/sync.Mutex).unlockSlow", "internal/sync.fatal", "internal/sync.runtime_Semrelease", "sync/atomic.StoreUint32", "internal/reflectlite.TypeOf", "sync/atomic.AddInt64", "sync/atomic.LoadInt64"], unfollowed := true, recurses := true, named := ["flume/sums.nibbles", "flume/digest.first", "flume/digest.rounds"], plainKeys := false, apart := false, laid := [("flume/digest.first", laid_flume_digest_first), ("flume/digest.rounds", laid_flume_digest_rounds), ("flume/sums.nibbles", laid_flume_sums_nibbles)], narrowed := true }
def BoxFindsUptoSaid : Prop := boxFindsUptoRow.holds Tryz.pinned (OpenSpec.upto boxFindsSpec)

/-- 'flumelaw14.BoxApart', WHERE WHAT IT READS IS OF BULK AT MOST 1048576: true; the input reads as it did. -/
def boxApartUptoRow : OpenClaim := { program := "ytoglafmpllimgaagreatdoor", sum := "5d68497f1beebf9d099d9a5b3e1982a4cc471be004400dff43cc4e4b0918a5ca", func := "flume/flumelaw14.BoxApart", spec := "boxApart", inPlace := ["sync/atomic.LoadUint32", "(*internal/sync.Mutex).Lock", "internal/race.Disable", "sync/atomic.CompareAndSwapInt32", "internal/race.Enable", "internal/race.Acquire", "(*internal/sync.Mutex).lockSlow", "internal/sync.runtime_canSpin", "internal/sync.runtime_doSpin", "internal/sync.throw", "internal/sync.runtime_nanotime", "internal/sync.runtime_SemacquireMutex", "sync/atomic.AddInt32", "(*internal/sync.Mutex).Unlock", "internal/race.ReleaseMerge", "(*internal/sync.Mutex).unlockSlow", "internal/sync.fatal", "internal/sync.runtime_Semrelease", "sync/atomic.StoreUint32", "internal/reflectlite.TypeOf", "sync/atomic.AddInt64", "sync/atomic.LoadInt64"], unfollowed := true, recurses := true, named := ["flume/sums.nibbles", "flume/digest.first", "flume/digest.rounds"], plainKeys := false, apart := false, laid := [("flume/digest.first", laid_flume_digest_first), ("flume/digest.rounds", laid_flume_digest_rounds), ("flume/sums.nibbles", laid_flume_sums_nibbles)], narrowed := true }
def BoxApartUptoSaid : Prop := boxApartUptoRow.holds Tryz.pinned (OpenSpec.upto boxApartSpec)

/-- 'flumelaw14.BoxBounds', WHERE WHAT IT READS IS OF BULK AT MOST 1048576: true; the input reads as it did. -/
def boxBoundsUptoRow : OpenClaim := { program := "ytoglafmpllimgaagreatdoor", sum := "5d68497f1beebf9d099d9a5b3e1982a4cc471be004400dff43cc4e4b0918a5ca", func := "flume/flumelaw14.BoxBounds", spec := "boxBounds", inPlace := ["sync/atomic.LoadUint32", "(*internal/sync.Mutex).Lock", "internal/race.Disable", "sync/atomic.CompareAndSwapInt32", "internal/race.Enable", "internal/race.Acquire", "(*internal/sync.Mutex).lockSlow", "internal/sync.runtime_canSpin", "internal/sync.runtime_doSpin", "internal/sync.throw", "internal/sync.runtime_nanotime", "internal/sync.runtime_SemacquireMutex", "sync/atomic.AddInt32", "(*internal/sync.Mutex).Unlock", "internal/race.ReleaseMerge", "(*internal/sync.Mutex).unlockSlow", "internal/sync.fatal", "internal/sync.runtime_Semrelease", "sync/atomic.StoreUint32", "internal/reflectlite.TypeOf", "sync/atomic.AddInt64", "sync/atomic.LoadInt64"], unfollowed := true, recurses := true, named := ["flume/sums.nibbles", "flume/digest.first", "flume/digest.rounds"], plainKeys := false, apart := false, laid := [("flume/digest.first", laid_flume_digest_first), ("flume/digest.rounds", laid_flume_digest_rounds), ("flume/sums.nibbles", laid_flume_sums_nibbles)], narrowed := true }
def BoxBoundsUptoSaid : Prop := boxBoundsUptoRow.holds Tryz.pinned (OpenSpec.upto boxBoundsSpec)

/-- 'flumelaw14.BoxNobody', WHERE WHAT IT READS IS OF BULK AT MOST 1048576: true; the input reads as it did. -/
def boxNobodyUptoRow : OpenClaim := { program := "ytoglafmpllimgaagreatdoor", sum := "5d68497f1beebf9d099d9a5b3e1982a4cc471be004400dff43cc4e4b0918a5ca", func := "flume/flumelaw14.BoxNobody", spec := "boxNobody", inPlace := ["sync/atomic.LoadUint32", "(*internal/sync.Mutex).Lock", "internal/race.Disable", "sync/atomic.CompareAndSwapInt32", "internal/race.Enable", "internal/race.Acquire", "(*internal/sync.Mutex).lockSlow", "internal/sync.runtime_canSpin", "internal/sync.runtime_doSpin", "internal/sync.throw", "internal/sync.runtime_nanotime", "internal/sync.runtime_SemacquireMutex", "sync/atomic.AddInt32", "(*internal/sync.Mutex).Unlock", "internal/race.ReleaseMerge", "(*internal/sync.Mutex).unlockSlow", "internal/sync.fatal", "internal/sync.runtime_Semrelease", "sync/atomic.StoreUint32", "internal/reflectlite.TypeOf", "sync/atomic.AddInt64", "sync/atomic.LoadInt64"], unfollowed := true, recurses := true, named := ["flume/sums.nibbles", "flume/digest.first", "flume/digest.rounds"], plainKeys := false, apart := false, laid := [("flume/digest.first", laid_flume_digest_first), ("flume/digest.rounds", laid_flume_digest_rounds), ("flume/sums.nibbles", laid_flume_sums_nibbles)], narrowed := true }
def BoxNobodyUptoSaid : Prop := boxNobodyUptoRow.holds Tryz.pinned (OpenSpec.upto boxNobodySpec)

end Rows
end Go.Proofs.YtoglafmpllimgaaGreatDoor
