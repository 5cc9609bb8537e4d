/- Contracts and plain laws that the claims of this seat lean on, put together. -/
import Derived.Test.YtmhibpcbdbhfoaaDoorM0
import Derived.ArgAppend
import Derived.Laws.OwnMore
import Derived.Laws.BitsAllLaws
set_option linter.unusedVariables false
set_option maxHeartbeats 4000000
namespace Go.Proofs.YtmhibpcbdbhfoaaDoor
open Go.Fl
/-- (*flume/tunnel.Tunnel).Tick -/
def an_tunnel_Tunnel_Tick : Nat → LA
  | 12 => [(78, (.I .i64))] | 1000016 => [(0, .nil)] | _ => []
def tunnel_Tunnel_Tick (p0 : Option Addr) (Q : Unit → World → Prop) (w : World) : Prop :=
 cl Tryd.prog n_tunnel_Tunnel_made #[.pointer p0] .B w fun (x1 : Bool) w2 => bif (!x1) then
 (Q () w2)
 else nz p0 fun a3 => ld (.I .i64) w2 (a3.add 10) fun (x4 : Int) => nz p0 fun a5 => st1 w2 (a5.add 10) (.int .i64 (IntKind.i64.wrap (x4 + 1))) fun w6 => nz p0 fun a7 => ld .B w6 a7 fun (x8 : Bool) => bif (!x8) then
 (let j1 := (fun (y17 : Bool) (w18 : World) =>
    bif y17 then
  (nz p0 fun a19 => ld (.I .i64) w18 (a19.add 8) fun (x20 : Int) => cl Tryd.prog n_tunnel_Tunnel_say #[.pointer p0, (Kd.av k_api_Frame (1, (0, (x20, (0, (0, (0, (⟨none, 0, 0⟩, ())))))))).val] (.tup .nil) w18 fun (x21 : Unit) w22 => Q () w22)
  else Q () w18);
  nz p0 fun a9 => ld (.I .i64) w6 (a9.add 8) fun (x10 : Int) => bif (decide (x10 > 0)) then
  (nz p0 fun a11 => ld (.I .i64) w6 (a11.add 10) fun (x12 : Int) => j1 ((Int.tmod x12 4) == 0) w6)
  else j1 false w6)
 else nz p0 fun a23 => ld (.I .i64) w6 (a23.add 1) fun (x24 : Int) => nz p0 fun a25 => st1 w6 (a25.add 1) (.int .i64 (IntKind.i64.wrap (x24 + 1))) fun w26 => nz p0 fun a27 => ld (.I .i64) w26 (a27.add 1) fun (x28 : Int) => bif (decide (x28 ≥ 64)) then
 (cl Tryd.prog n_tunnel_Tunnel_end #[.pointer p0] (.tup .nil) w26 fun (x29 : Unit) w30 => Q () w30)
 else let j2 := (fun  (w62 : World) =>
   nz p0 fun a63 => ld .L w62 (a63.add 3) fun (x64 : Sl) => cl Tryd.prog n_slices_Clone_tunnel_sent_tunnel_sent #[.slice x64.a x64.n x64.c] .L w62 fun (x65 : Sl) w66 => lp (α := (Int × Unit)) (fun K => K (0, ())) w66 fun D69 J70 s67 w68 =>
 bif (decide (s67.1 < (x65.n : Int))) then
  (ixa x65.a x65.n s67.1 3 fun a71 => ld (.I .i64) w68 (a71.add 2) fun (x72 : Int) => ixa x65.a x65.n s67.1 3 fun a73 => st1 w68 (a73.add 2) (.int .i64 (IntKind.i64.wrap (x72 + 1))) fun w74 => ixa x65.a x65.n s67.1 3 fun a75 => ld (.I .i64) w74 (a75.add 2) fun (x76 : Int) => bif ((Int.tmod x76 4) == 0) then
  (dr w74 fun w77 => nz p0 fun a78 => ld (.I .i64) w77 (a78.add 8) fun (x79 : Int) => ixa x65.a x65.n s67.1 3 fun a80 => ld (.I .i64) w77 a80 fun (x81 : Int) => ixa x65.a x65.n s67.1 3 fun a82 => ld .L w77 (a82.add 1) fun (x83 : Sl) => cl Tryd.prog n_tunnel_Tunnel_say #[.pointer p0, (Kd.av k_api_Frame (2, (0, (x79, (x81, (0, (0, (x83, ())))))))).val] (.tup .nil) w77 fun (x84 : Unit) w85 => J70 ((IntKind.i64.wrap (s67.1 + 1)), ()) w85)
  else J70 ((IntKind.i64.wrap (s67.1 + 1)), ()) w74)
  else nz p0 fun a86 => st1 w68 (a86.add 3) (.slice x65.a x65.n x65.c) fun w87 => Q () w87);
 nz p0 fun a31 => ld (.I .i64) w26 (a31.add 10) fun (x32 : Int) => bif ((Int.tmod x32 8) == 0) then
 (nz p0 fun a33 => ld (.I .i64) w26 (a33.add 8) fun (x34 : Int) => cl Tryd.prog n_tunnel_Tunnel_say #[.pointer p0, (Kd.av k_api_Frame (1, (0, (x34, (0, (0, (0, (⟨none, 0, 0⟩, ())))))))).val] (.tup .nil) w26 fun (x35 : Unit) w36 => j2 w36)
 else j2 w26
theorem tunnel_Tunnel_Tick.t (p0 : Option Addr) (Q : Unit → World → Prop) (w : World) : tunnel_Tunnel_Tick p0 Q w = fvc Tryd.prog an_tunnel_Tunnel_Tick Tryd.f29 (.tup .nil) [Kd.av .P p0] w Q := by kernel_rfl
theorem tunnel_Tunnel_Tick.k : fnOk Tryd.prog Tryd.f29 = true := by kernel_rfl
theorem tunnel_Tunnel_Tick.cl {p0 : Option Addr} {Q : Unit → World → Prop} {w : World} (h : tunnel_Tunnel_Tick p0 Q w) : cl Tryd.prog n_tunnel_Tunnel_Tick #[.pointer p0] (.tup .nil) w Q :=
  cl_tie Tryd.func29 tunnel_Tunnel_Tick.k (args := [Kd.av .P p0]) (tunnel_Tunnel_Tick.t p0 Q w) h

/-- (*flume/tunnel.Tunnel).Send -/
def tunnel_Tunnel_Send (p0 : Option Addr) (p1 : Sl) (Q : Int → World → Prop) (w : World) : Prop :=
 cl Tryd.prog n_tunnel_Tunnel_made #[.pointer p0] .B w fun (x1 : Bool) w2 => bif (!x1) then
 (Q 6 w2)
 else nz p0 fun a3 => ld .B w2 a3 fun (x4 : Bool) => bif (!x4) then
 (Q 121 w2)
 else bif (decide ((p1.n : Int) > 512)) then
 (Q 4 w2)
 else cl Tryd.prog n_tunnel_Tunnel_Room #[.pointer p0] (.I .i64) w2 fun (x5 : Int) w6 => bif (decide (x5 < 1)) then
 (Q 7 w6)
 else nz p0 fun a7 => ld .L w6 (a7.add 4) fun (x8 : Sl) => cl Tryd.prog n_slices_Clone_rows_byte_byte #[.slice x8.a x8.n x8.c] .L w6 fun (x9 : Sl) w10 => nw w10 [] t_uint8 fun a11 w12 => app Tryd.prog t_s_uint8 t_s_uint8 ⟨(some a11), 0, 0⟩ p1 w12 fun r13 w14 => nw w14 [.slice r13.a r13.n r13.c] t_s_uint8 fun a15 w16 => app Tryd.prog t_s_s_uint8 t_s_s_uint8 x9 ⟨(some a15), 1, 1⟩ w16 fun r17 w18 => nz p0 fun a19 => st1 w18 (a19.add 4) (.slice r17.a r17.n r17.c) fun w20 => cl Tryd.prog n_tunnel_Tunnel_slide #[.pointer p0] (.tup .nil) w20 fun (x21 : Unit) w22 => Q 0 w22
theorem tunnel_Tunnel_Send.t (p0 : Option Addr) (p1 : Sl) (Q : Int → World → Prop) (w : World) : tunnel_Tunnel_Send p0 p1 Q w = fvc Tryd.prog (fun _ => []) Tryd.f30 (.I .i64) [Kd.av .P p0, Kd.av .L p1] w Q := by kernel_rfl
theorem tunnel_Tunnel_Send.k : fnOk Tryd.prog Tryd.f30 = true := by kernel_rfl
theorem tunnel_Tunnel_Send.cl {p0 : Option Addr} {p1 : Sl} {Q : Int → World → Prop} {w : World} (h : tunnel_Tunnel_Send p0 p1 Q w) : cl Tryd.prog n_tunnel_Tunnel_Send #[.pointer p0, .slice p1.a p1.n p1.c] (.I .i64) w Q :=
  cl_tie Tryd.func30 tunnel_Tunnel_Send.k (args := [Kd.av .P p0, Kd.av .L p1]) (tunnel_Tunnel_Send.t p0 p1 Q w) h

/-- (*flume/tunnel.Tunnel).Out -/
def tunnel_Tunnel_Out (p0 : Option Addr) (Q : Sl → World → Prop) (w : World) : Prop :=
 cl Tryd.prog n_tunnel_Tunnel_made #[.pointer p0] .B w fun (x1 : Bool) w2 => bif (!x1) then
 (Q ⟨none, 0, 0⟩ w2)
 else nz p0 fun a3 => ld .L w2 (a3.add 11) fun (x4 : Sl) => nz p0 fun a5 => st1 w2 (a5.add 11) (.slice none 0 0) fun w6 => Q x4 w6
theorem tunnel_Tunnel_Out.t (p0 : Option Addr) (Q : Sl → World → Prop) (w : World) : tunnel_Tunnel_Out p0 Q w = fvc Tryd.prog (fun _ => []) Tryd.f31 .L [Kd.av .P p0] w Q := by kernel_rfl
theorem tunnel_Tunnel_Out.k : fnOk Tryd.prog Tryd.f31 = true := by kernel_rfl
theorem tunnel_Tunnel_Out.cl {p0 : Option Addr} {Q : Sl → World → Prop} {w : World} (h : tunnel_Tunnel_Out p0 Q w) : cl Tryd.prog n_tunnel_Tunnel_Out #[.pointer p0] .L w Q :=
  cl_tie Tryd.func31 tunnel_Tunnel_Out.k (args := [Kd.av .P p0]) (tunnel_Tunnel_Out.t p0 Q w) h

/-- (*flume/tunnel.Tunnel).Up -/
def tunnel_Tunnel_Up (p0 : Option Addr) (Q : Bool → World → Prop) (w : World) : Prop :=
 cl Tryd.prog n_tunnel_Tunnel_made #[.pointer p0] .B w fun (x1 : Bool) w2 => bif x1 then
 (nz p0 fun a3 => ld .B w2 a3 fun (x4 : Bool) => Q x4 w2)
 else Q false w2
theorem tunnel_Tunnel_Up.t (p0 : Option Addr) (Q : Bool → World → Prop) (w : World) : tunnel_Tunnel_Up p0 Q w = fvc Tryd.prog (fun _ => []) Tryd.f32 .B [Kd.av .P p0] w Q := by kernel_rfl
theorem tunnel_Tunnel_Up.k : fnOk Tryd.prog Tryd.f32 = true := by kernel_rfl
theorem tunnel_Tunnel_Up.cl {p0 : Option Addr} {Q : Bool → World → Prop} {w : World} (h : tunnel_Tunnel_Up p0 Q w) : cl Tryd.prog n_tunnel_Tunnel_Up #[.pointer p0] .B w Q :=
  cl_tie Tryd.func32 tunnel_Tunnel_Up.k (args := [Kd.av .P p0]) (tunnel_Tunnel_Up.t p0 Q w) h

/-- (*flume/tunnel.Tunnel).Epoch -/
def tunnel_Tunnel_Epoch (p0 : Option Addr) (Q : Int → World → Prop) (w : World) : Prop :=
 cl Tryd.prog n_tunnel_Tunnel_made #[.pointer p0] .B w fun (x1 : Bool) w2 => bif (!x1) then
 (Q 0 w2)
 else nz p0 fun a3 => ld (.I .i64) w2 (a3.add 9) fun (x4 : Int) => Q x4 w2
theorem tunnel_Tunnel_Epoch.t (p0 : Option Addr) (Q : Int → World → Prop) (w : World) : tunnel_Tunnel_Epoch p0 Q w = fvc Tryd.prog (fun _ => []) Tryd.f33 (.I .i64) [Kd.av .P p0] w Q := by kernel_rfl
theorem tunnel_Tunnel_Epoch.k : fnOk Tryd.prog Tryd.f33 = true := by kernel_rfl
theorem tunnel_Tunnel_Epoch.cl {p0 : Option Addr} {Q : Int → World → Prop} {w : World} (h : tunnel_Tunnel_Epoch p0 Q w) : cl Tryd.prog n_tunnel_Tunnel_Epoch #[.pointer p0] (.I .i64) w Q :=
  cl_tie Tryd.func33 tunnel_Tunnel_Epoch.k (args := [Kd.av .P p0]) (tunnel_Tunnel_Epoch.t p0 Q w) h

/-- (*flume/tunnel.Tunnel).Waiting -/
def tunnel_Tunnel_Waiting (p0 : Option Addr) (Q : Int → World → Prop) (w : World) : Prop :=
 cl Tryd.prog n_tunnel_Tunnel_made #[.pointer p0] .B w fun (x1 : Bool) w2 => bif (!x1) then
 (Q 0 w2)
 else nz p0 fun a3 => ld .L w2 (a3.add 4) fun (x4 : Sl) => nz p0 fun a5 => ld .L w2 (a5.add 3) fun (x6 : Sl) => dr w2 fun w7 => Q (IntKind.i64.wrap ((x4.n : Int) + (x6.n : Int))) w7
theorem tunnel_Tunnel_Waiting.t (p0 : Option Addr) (Q : Int → World → Prop) (w : World) : tunnel_Tunnel_Waiting p0 Q w = fvc Tryd.prog (fun _ => []) Tryd.f34 (.I .i64) [Kd.av .P p0] w Q := by kernel_rfl
theorem tunnel_Tunnel_Waiting.k : fnOk Tryd.prog Tryd.f34 = true := by kernel_rfl
theorem tunnel_Tunnel_Waiting.cl {p0 : Option Addr} {Q : Int → World → Prop} {w : World} (h : tunnel_Tunnel_Waiting p0 Q w) : cl Tryd.prog n_tunnel_Tunnel_Waiting #[.pointer p0] (.I .i64) w Q :=
  cl_tie Tryd.func34 tunnel_Tunnel_Waiting.k (args := [Kd.av .P p0]) (tunnel_Tunnel_Waiting.t p0 Q w) h

/-- (*flume/tunnel.Tunnel).Hint -/
def tunnel_Tunnel_Hint (p0 : Option Addr) (p1 : Int) (Q : Unit → World → Prop) (w : World) : Prop :=
 let j1 := (fun (y5 : Bool) (w6 : World) =>
   bif y5 then
 (cl Tryd.prog n_tunnel_Tunnel_say #[.pointer p0, (Kd.av k_api_Frame (1, (0, (p1, (0, (0, (0, (⟨none, 0, 0⟩, ())))))))).val] (.tup .nil) w6 fun (x7 : Unit) w8 => Q () w8)
 else Q () w6);
 cl Tryd.prog n_tunnel_Tunnel_made #[.pointer p0] .B w fun (x1 : Bool) w2 => bif x1 then
 (bif (decide (p1 ≥ 1)) then
 (j1 (decide (p1 ≤ 1099511627776)) w2)
 else j1 false w2)
 else j1 false w2
theorem tunnel_Tunnel_Hint.t (p0 : Option Addr) (p1 : Int) (Q : Unit → World → Prop) (w : World) : tunnel_Tunnel_Hint p0 p1 Q w = fvc Tryd.prog (fun _ => []) Tryd.f35 (.tup .nil) [Kd.av .P p0, Kd.av (.I .i64) p1] w Q := by kernel_rfl
theorem tunnel_Tunnel_Hint.k : fnOk Tryd.prog Tryd.f35 = true := by kernel_rfl
theorem tunnel_Tunnel_Hint.cl {p0 : Option Addr} {p1 : Int} {Q : Unit → World → Prop} {w : World} (h : tunnel_Tunnel_Hint p0 p1 Q w) : cl Tryd.prog n_tunnel_Tunnel_Hint #[.pointer p0, .int .i64 p1] (.tup .nil) w Q :=
  cl_tie Tryd.func35 tunnel_Tunnel_Hint.k (args := [Kd.av .P p0, Kd.av (.I .i64) p1]) (tunnel_Tunnel_Hint.t p0 p1 Q w) h

/-- (*flume/tunnel.Tunnel).Room -/
def tunnel_Tunnel_Room (p0 : Option Addr) (Q : Int → World → Prop) (w : World) : Prop :=
 cl Tryd.prog n_tunnel_Tunnel_Up #[.pointer p0] .B w fun (x1 : Bool) w2 => bif (!x1) then
 (Q 0 w2)
 else nz p0 fun a3 => ld .L w2 (a3.add 4) fun (x4 : Sl) => nz p0 fun a5 => ld .L w2 (a5.add 3) fun (x6 : Sl) => dr w2 fun w7 => Q (IntKind.i64.wrap ((IntKind.i64.wrap (64 - (x4.n : Int))) - (x6.n : Int))) w7
theorem tunnel_Tunnel_Room.t (p0 : Option Addr) (Q : Int → World → Prop) (w : World) : tunnel_Tunnel_Room p0 Q w = fvc Tryd.prog (fun _ => []) Tryd.f36 (.I .i64) [Kd.av .P p0] w Q := by kernel_rfl
theorem tunnel_Tunnel_Room.k : fnOk Tryd.prog Tryd.f36 = true := by kernel_rfl
theorem tunnel_Tunnel_Room.cl {p0 : Option Addr} {Q : Int → World → Prop} {w : World} (h : tunnel_Tunnel_Room p0 Q w) : cl Tryd.prog n_tunnel_Tunnel_Room #[.pointer p0] (.I .i64) w Q :=
  cl_tie Tryd.func36 tunnel_Tunnel_Room.k (args := [Kd.av .P p0]) (tunnel_Tunnel_Room.t p0 Q w) h

/-- flume/flumeref12.New -/
def flumeref12_New (p0 : Int) (Q : (Option Addr × (Int × Unit)) → World → Prop) (w : World) : Prop :=
 cl Tryd.prog n_flumeref12_near #[.int .i64 p0, .int .i64 1, .int .i64 1099511627776] .B w fun (x1 : Bool) w2 => bif (!x1) then
 (Q (none, (1, ())) w2)
 else nw w2 ((Kd.av k_flumeref12_Tunnel (p0, (0, (0, (0, (false, (0, (0, (0, (⟨none, 0, 0⟩, (⟨none, 0, 0⟩, (⟨none, 0, 0⟩, (⟨none, 0, 0⟩, ()))))))))))))).cells) t_flumeref12_Tunnel fun a3 w4 => Q ((some a3), (0, ())) w4
theorem flumeref12_New.t (p0 : Int) (Q : (Option Addr × (Int × Unit)) → World → Prop) (w : World) : flumeref12_New p0 Q w = fvc Tryd.prog (fun _ => []) Tryd.f37 (.tup (.pair .P (.pair (.I .i64) .nil))) [Kd.av (.I .i64) p0] w Q := by kernel_rfl
theorem flumeref12_New.k : fnOk Tryd.prog Tryd.f37 = true := by kernel_rfl
theorem flumeref12_New.cl {p0 : Int} {Q : (Option Addr × (Int × Unit)) → World → Prop} {w : World} (h : flumeref12_New p0 Q w) : cl Tryd.prog n_flumeref12_New #[.int .i64 p0] (.tup (.pair .P (.pair (.I .i64) .nil))) w Q :=
  cl_tie Tryd.func37 flumeref12_New.k (args := [Kd.av (.I .i64) p0]) (flumeref12_New.t p0 Q w) h

/-- (*flume/flumeref12.Tunnel).Take -/
def flumeref12_Tunnel_Take (p0 : Option Addr) (p1 : Sl) (Q : (Sl × (Int × Unit)) → World → Prop) (w : World) : Prop :=
 cl Tryd.prog n_flumeref12_Get #[.slice p1.a p1.n p1.c] (.tup (.pair k_api_Frame (.pair (.I .i64) .nil))) w fun (x1 : (y_api_Frame × (Int × Unit))) w2 => nw w2 ((Kd.av k_api_Frame z_api_Frame).cells) t_api_Frame fun a3 w4 => st w4 a3 (Kd.av k_api_Frame x1.1) fun w5 => bif (x1.2.1 != 0) then
 (Q (⟨none, 0, 0⟩, (x1.2.1, ())) w5)
 else ld (.I .i64) w5 (a3.add 2) fun (x6 : Int) => nz p0 fun a7 => ld (.I .i64) w5 a7 fun (x8 : Int) => dr w5 fun w9 => bif (x6 != x8) then
 (ld (.I .i64) w9 (a3.add 1) fun (x10 : Int) => nz p0 fun a11 => ld (.I .i64) w9 (a11.add 1) fun (x12 : Int) => dr w9 fun w13 => bif (decide (x10 ≥ x12)) then
  (ld (.I .i64) w13 (a3.add 1) fun (x14 : Int) => cl Tryd.prog n_flumeref12_Tunnel_hello #[.pointer p0, .int .i64 x14] (.tup .nil) w13 fun (x15 : Unit) w16 => Q (⟨none, 0, 0⟩, (0, ())) w16)
  else Q (⟨none, 0, 0⟩, (0, ())) w13)
 else ld (.I .i64) w9 a3 fun (x17 : Int) => bif (x17 == 1) then
 (let j1 := (fun (y43 : Bool) (w44 : World) =>
    bif y43 then
  (cl Tryd.prog n_flumeref12_Tunnel_clear #[.pointer p0] (.tup .nil) w44 fun (x45 : Unit) w46 => nz p0 fun a47 => st1 w46 (a47.add 4) (.bool true) fun w48 => ld (.I .i64) w48 (a3.add 1) fun (x49 : Int) => nz p0 fun a50 => st1 w48 (a50.add 1) (.int .i64 x49) fun w51 => nz p0 fun a52 => ld (.I .i64) w51 (a52.add 2) fun (x53 : Int) => nz p0 fun a54 => st1 w51 (a54.add 2) (.int .i64 (IntKind.i64.wrap (x53 + 1))) fun w55 => ld (.I .i64) w55 (a3.add 1) fun (x56 : Int) => cl Tryd.prog n_flumeref12_Tunnel_hello #[.pointer p0, .int .i64 x56] (.tup .nil) w55 fun (x57 : Unit) w58 => Q (⟨none, 0, 0⟩, (0, ())) w58)
  else ld (.I .i64) w44 (a3.add 1) fun (x59 : Int) => nz p0 fun a60 => ld (.I .i64) w44 (a60.add 1) fun (x61 : Int) => dr w44 fun w62 => bif (x59 == x61) then
  (nz p0 fun a63 => st1 w62 (a63.add 5) (.int .i64 0) fun w64 => Q (⟨none, 0, 0⟩, (0, ())) w64)
  else Q (⟨none, 0, 0⟩, (0, ())) w62);
  ld (.I .i64) w9 (a3.add 1) fun (x18 : Int) => nz p0 fun a19 => ld (.I .i64) w9 (a19.add 1) fun (x20 : Int) => bif (decide (x18 > x20)) then (dr w9 fun w21 => j1 true w21) else ld (.I .i64) w9 (a3.add 1) fun (x22 : Int) => nz p0 fun a23 => ld (.I .i64) w9 (a23.add 1) fun (x24 : Int) => bif (x22 == x24) then (nz p0 fun a25 => ld .B w9 (a25.add 4) fun (x26 : Bool) => dr w9 fun w27 => j1 (!x26) w27) else dr w9 fun w28 => j1 false w28)
 else nz p0 fun a65 => ld .B w9 (a65.add 4) fun (x66 : Bool) => bif (!x66) then (dr w9 fun w67 => Q (⟨none, 0, 0⟩, (0, ())) w67) else ld (.I .i64) w9 (a3.add 1) fun (x68 : Int) => nz p0 fun a69 => ld (.I .i64) w9 (a69.add 1) fun (x70 : Int) => dr w9 fun w71 => bif (x68 != x70) then
 (Q (⟨none, 0, 0⟩, (0, ())) w71)
 else nz p0 fun a72 => st1 w71 (a72.add 5) (.int .i64 0) fun w73 => ld (.I .i64) w73 a3 fun (x74 : Int) => bif (x74 == 3) then
 (ld k_api_Frame w73 a3 fun (x75 : y_api_Frame) => cl Tryd.prog n_flumeref12_Tunnel_ack #[.pointer p0, (Kd.av k_api_Frame x75).val] (.tup .nil) w73 fun (x76 : Unit) w77 => Q (⟨none, 0, 0⟩, (0, ())) w77)
 else ld k_api_Frame w73 a3 fun (x78 : y_api_Frame) => cl Tryd.prog n_flumeref12_Tunnel_data #[.pointer p0, (Kd.av k_api_Frame x78).val] .L w73 fun (x79 : Sl) w80 => Q (x79, (0, ())) w80
theorem flumeref12_Tunnel_Take.t (p0 : Option Addr) (p1 : Sl) (Q : (Sl × (Int × Unit)) → World → Prop) (w : World) : flumeref12_Tunnel_Take p0 p1 Q w = fvc Tryd.prog (fun _ => []) Tryd.f38 (.tup (.pair .L (.pair (.I .i64) .nil))) [Kd.av .P p0, Kd.av .L p1] w Q := by kernel_rfl
theorem flumeref12_Tunnel_Take.k : fnOk Tryd.prog Tryd.f38 = true := by kernel_rfl
theorem flumeref12_Tunnel_Take.cl {p0 : Option Addr} {p1 : Sl} {Q : (Sl × (Int × Unit)) → World → Prop} {w : World} (h : flumeref12_Tunnel_Take p0 p1 Q w) : cl Tryd.prog n_flumeref12_Tunnel_Take #[.pointer p0, .slice p1.a p1.n p1.c] (.tup (.pair .L (.pair (.I .i64) .nil))) w Q :=
  cl_tie Tryd.func38 flumeref12_Tunnel_Take.k (args := [Kd.av .P p0, Kd.av .L p1]) (flumeref12_Tunnel_Take.t p0 p1 Q w) h
end Go.Proofs.YtmhibpcbdbhfoaaDoor
set_option linter.unusedVariables false
set_option maxHeartbeats 4000000
namespace Go.Proofs.YtmhibpcbdbhfoaaDoor
open Go.Fl
/-- (*flume/flumeref12.Tunnel).Tick -/
def an_flumeref12_Tunnel_Tick : Nat → LA
  | 13 => [(86, (.I .i64))] | 1000017 => [(0, .nil)] | _ => []
def flumeref12_Tunnel_Tick (p0 : Option Addr) (Q : Unit → World → Prop) (w : World) : Prop :=
 nz p0 fun a1 => ld (.I .i64) w (a1.add 3) fun (x2 : Int) => nz p0 fun a3 => st1 w (a3.add 3) (.int .i64 (IntKind.i64.wrap (x2 + 1))) fun w4 => nz p0 fun a5 => ld .B w4 (a5.add 4) fun (x6 : Bool) => bif (!x6) then
 (nz p0 fun a7 => ld (.I .i64) w4 (a7.add 1) fun (x8 : Int) => bif (decide (x8 > 0)) then
  (nz p0 fun a9 => ld (.I .i64) w4 (a9.add 3) fun (x10 : Int) => bif ((Int.tmod x10 4) == 0) then
  (nz p0 fun a11 => ld (.I .i64) w4 (a11.add 1) fun (x12 : Int) => cl Tryd.prog n_flumeref12_Tunnel_hello #[.pointer p0, .int .i64 x12] (.tup .nil) w4 fun (x13 : Unit) w14 => Q () w14)
  else Q () w4)
  else Q () w4)
 else nz p0 fun a15 => ld (.I .i64) w4 (a15.add 5) fun (x16 : Int) => nz p0 fun a17 => st1 w4 (a17.add 5) (.int .i64 (IntKind.i64.wrap (x16 + 1))) fun w18 => nz p0 fun a19 => ld (.I .i64) w18 (a19.add 5) fun (x20 : Int) => bif (x20 == 64) then
 (cl Tryd.prog n_flumeref12_Tunnel_clear #[.pointer p0] (.tup .nil) w18 fun (x21 : Unit) w22 => nz p0 fun a23 => ld (.I .i64) w22 a23 fun (x24 : Int) => nz p0 fun a25 => st1 w22 a25 (.int .i64 (min (IntKind.i64.wrap (x24 + 1)) 1099511627776)) fun w26 => nz p0 fun a27 => ld (.I .i64) w26 (a27.add 2) fun (x28 : Int) => nz p0 fun a29 => st1 w26 (a29.add 2) (.int .i64 (IntKind.i64.wrap (x28 + 1))) fun w30 => Q () w30)
 else let j1 := (fun  (w69 : World) =>
   nw w69 [] t_flumeref12_Way fun a70 w71 => nz p0 fun a72 => ld .L w71 (a72.add 8) fun (x73 : Sl) => app Tryd.prog t_s_flumeref12_Way t_s_flumeref12_Way ⟨(some a70), 0, 0⟩ x73 w71 fun r74 w75 => lp (α := (Int × Unit)) (fun K => K (0, ())) w75 fun D78 J79 s76 w77 =>
 bif (decide (s76.1 < (r74.n : Int))) then
  (ixa r74.a r74.n s76.1 3 fun a80 => ld (.I .i64) w77 (a80.add 2) fun (x81 : Int) => ixa r74.a r74.n s76.1 3 fun a82 => st1 w77 (a82.add 2) (.int .i64 (IntKind.i64.wrap (x81 + 1))) fun w83 => ixa r74.a r74.n s76.1 3 fun a84 => ld (.I .i64) w83 (a84.add 2) fun (x85 : Int) => bif ((Int.tmod x85 4) == 0) then
  (dr w83 fun w86 => ixa r74.a r74.n s76.1 3 fun a87 => ld (.I .i64) w86 a87 fun (x88 : Int) => ixa r74.a r74.n s76.1 3 fun a89 => ld .L w86 (a89.add 1) fun (x90 : Sl) => nw w86 ((Kd.av k_api_Frame z_api_Frame).cells) t_api_Frame fun a91 w92 => Fr w86 w92 ∧ st w92 a91 (Kd.av k_api_Frame (2, (0, (0, (x88, (0, (0, (x90, ())))))))) fun w93 => nz p0 fun a94 => ld (.I .i64) w93 (a94.add 1) fun (x95 : Int) => st1 w93 (a91.add 2) (.int .i64 x95) fun w96 => ld k_api_Frame w96 a91 fun (x97 : y_api_Frame) => cl Tryd.prog n_flumeref12_Tunnel_say #[.pointer p0, (Kd.av k_api_Frame x97).val] (.tup .nil) w96 fun (x98 : Unit) w99 => J79 ((IntKind.i64.wrap (s76.1 + 1)), ()) w99)
  else J79 ((IntKind.i64.wrap (s76.1 + 1)), ()) w83)
  else nz p0 fun a100 => st1 w77 (a100.add 8) (.slice r74.a r74.n r74.c) fun w101 => Q () w101);
 nz p0 fun a31 => ld (.I .i64) w18 (a31.add 3) fun (x32 : Int) => bif ((Int.tmod x32 8) == 0) then
 (nz p0 fun a33 => ld (.I .i64) w18 (a33.add 1) fun (x34 : Int) => cl Tryd.prog n_flumeref12_Tunnel_hello #[.pointer p0, .int .i64 x34] (.tup .nil) w18 fun (x35 : Unit) w36 => j1 w36)
 else j1 w18
theorem flumeref12_Tunnel_Tick.t (p0 : Option Addr) (Q : Unit → World → Prop) (w : World) : flumeref12_Tunnel_Tick p0 Q w = fvc Tryd.prog an_flumeref12_Tunnel_Tick Tryd.f39 (.tup .nil) [Kd.av .P p0] w Q := by kernel_rfl
theorem flumeref12_Tunnel_Tick.k : fnOk Tryd.prog Tryd.f39 = true := by kernel_rfl
theorem flumeref12_Tunnel_Tick.cl {p0 : Option Addr} {Q : Unit → World → Prop} {w : World} (h : flumeref12_Tunnel_Tick p0 Q w) : cl Tryd.prog n_flumeref12_Tunnel_Tick #[.pointer p0] (.tup .nil) w Q :=
  cl_tie Tryd.func39 flumeref12_Tunnel_Tick.k (args := [Kd.av .P p0]) (flumeref12_Tunnel_Tick.t p0 Q w) h

/-- (*flume/flumeref12.Tunnel).Hint -/
def flumeref12_Tunnel_Hint (p0 : Option Addr) (p1 : Int) (Q : Unit → World → Prop) (w : World) : Prop :=
 cl Tryd.prog n_flumeref12_near #[.int .i64 p1, .int .i64 1, .int .i64 1099511627776] .B w fun (x1 : Bool) w2 => bif x1 then
 (cl Tryd.prog n_flumeref12_Tunnel_hello #[.pointer p0, .int .i64 p1] (.tup .nil) w2 fun (x3 : Unit) w4 => Q () w4)
 else Q () w2
theorem flumeref12_Tunnel_Hint.t (p0 : Option Addr) (p1 : Int) (Q : Unit → World → Prop) (w : World) : flumeref12_Tunnel_Hint p0 p1 Q w = fvc Tryd.prog (fun _ => []) Tryd.f40 (.tup .nil) [Kd.av .P p0, Kd.av (.I .i64) p1] w Q := by kernel_rfl
theorem flumeref12_Tunnel_Hint.k : fnOk Tryd.prog Tryd.f40 = true := by kernel_rfl
theorem flumeref12_Tunnel_Hint.cl {p0 : Option Addr} {p1 : Int} {Q : Unit → World → Prop} {w : World} (h : flumeref12_Tunnel_Hint p0 p1 Q w) : cl Tryd.prog n_flumeref12_Tunnel_Hint #[.pointer p0, .int .i64 p1] (.tup .nil) w Q :=
  cl_tie Tryd.func40 flumeref12_Tunnel_Hint.k (args := [Kd.av .P p0, Kd.av (.I .i64) p1]) (flumeref12_Tunnel_Hint.t p0 p1 Q w) h

/-- (*flume/flumeref12.Tunnel).Send -/
def flumeref12_Tunnel_Send (p0 : Option Addr) (p1 : Sl) (Q : Int → World → Prop) (w : World) : Prop :=
 nz p0 fun a1 => ld .B w (a1.add 4) fun (x2 : Bool) => bif (!x2) then
 (Q 121 w)
 else bif (decide ((p1.n : Int) > 512)) then
 (Q 4 w)
 else cl Tryd.prog n_flumeref12_Tunnel_Room #[.pointer p0] (.I .i64) w fun (x3 : Int) w4 => bif (x3 == 0) then
 (Q 7 w4)
 else nw w4 [] t_s_uint8 fun a5 w6 => nz p0 fun a7 => ld .L w6 (a7.add 9) fun (x8 : Sl) => app Tryd.prog t_s_s_uint8 t_s_s_uint8 ⟨(some a5), 0, 0⟩ x8 w6 fun r9 w10 => nw w10 [] t_uint8 fun a11 w12 => app Tryd.prog t_s_uint8 t_s_uint8 ⟨(some a11), 0, 0⟩ p1 w12 fun r13 w14 => nw w14 [.slice r13.a r13.n r13.c] t_s_uint8 fun a15 w16 => app Tryd.prog t_s_s_uint8 t_s_s_uint8 r9 ⟨(some a15), 1, 1⟩ w16 fun r17 w18 => nz p0 fun a19 => st1 w18 (a19.add 9) (.slice r17.a r17.n r17.c) fun w20 => cl Tryd.prog n_flumeref12_Tunnel_slide #[.pointer p0] (.tup .nil) w20 fun (x21 : Unit) w22 => Q 0 w22
theorem flumeref12_Tunnel_Send.t (p0 : Option Addr) (p1 : Sl) (Q : Int → World → Prop) (w : World) : flumeref12_Tunnel_Send p0 p1 Q w = fvc Tryd.prog (fun _ => []) Tryd.f41 (.I .i64) [Kd.av .P p0, Kd.av .L p1] w Q := by kernel_rfl
theorem flumeref12_Tunnel_Send.k : fnOk Tryd.prog Tryd.f41 = true := by kernel_rfl
theorem flumeref12_Tunnel_Send.cl {p0 : Option Addr} {p1 : Sl} {Q : Int → World → Prop} {w : World} (h : flumeref12_Tunnel_Send p0 p1 Q w) : cl Tryd.prog n_flumeref12_Tunnel_Send #[.pointer p0, .slice p1.a p1.n p1.c] (.I .i64) w Q :=
  cl_tie Tryd.func41 flumeref12_Tunnel_Send.k (args := [Kd.av .P p0, Kd.av .L p1]) (flumeref12_Tunnel_Send.t p0 p1 Q w) h

/-- flume/flumelaw12.rows -/
def flumelaw12_rows (p0 : Sl) (p1 : Sl) (Q : Bool → World → Prop) (w : World) : Prop :=
 cl Tryd.prog n_slices_EqualFunc_rows_byte_rows_byte_byte_byte #[.slice p0.a p0.n p0.c, .slice p1.a p1.n p1.c, .func (.func n_bytes_Equal) #[] #[]] .B w fun (x1 : Bool) w2 => Q x1 w2
theorem flumelaw12_rows.t (p0 : Sl) (p1 : Sl) (Q : Bool → World → Prop) (w : World) : flumelaw12_rows p0 p1 Q w = fvc Tryd.prog (fun _ => []) Tryd.f42 .B [Kd.av .L p0, Kd.av .L p1] w Q := by kernel_rfl
theorem flumelaw12_rows.k : fnOk Tryd.prog Tryd.f42 = true := by kernel_rfl
theorem flumelaw12_rows.cl {p0 : Sl} {p1 : Sl} {Q : Bool → World → Prop} {w : World} (h : flumelaw12_rows p0 p1 Q w) : cl Tryd.prog n_flumelaw12_rows #[.slice p0.a p0.n p0.c, .slice p1.a p1.n p1.c] .B w Q :=
  cl_tie Tryd.func42 flumelaw12_rows.k (args := [Kd.av .L p0, Kd.av .L p1]) (flumelaw12_rows.t p0 p1 Q w) h

/-- flume/flumelaw12.tells -/
def an_flumelaw12_tells : Nat → LA
  | 1000001 => [(0, .nil)] | _ => []
def flumelaw12_tells (p0 : Option Addr) (p1 : Option Addr) (Q : Bool → World → Prop) (w : World) : Prop :=
 dr w fun w1 => nz p1 fun a2 => ld (.I .i64) w1 a2 fun (x3 : Int) => cl Tryd.prog n_tunnel_Tunnel_Me #[.pointer p0] (.I .i64) w1 fun (x4 : Int) w5 => Fr w1 w5 ∧ bif (x4 == x3) then (nz p1 fun a6 => ld (.I .i64) w5 (a6.add 1) fun (x7 : Int) => cl Tryd.prog n_tunnel_Tunnel_You #[.pointer p0] (.I .i64) w5 fun (x8 : Int) w9 => Fr w5 w9 ∧ bif (x8 == x7) then (nz p1 fun a10 => ld (.I .i64) w9 (a10.add 2) fun (x11 : Int) => cl Tryd.prog n_tunnel_Tunnel_Epoch #[.pointer p0] (.I .i64) w9 fun (x12 : Int) w13 => Fr w9 w13 ∧ bif (x12 == x11) then (nz p1 fun a14 => ld .B w13 (a14.add 4) fun (x15 : Bool) => cl Tryd.prog n_tunnel_Tunnel_Up #[.pointer p0] .B w13 fun (x16 : Bool) w17 => Fr w13 w17 ∧ bif (x16 == x15) then (cl Tryd.prog n_tunnel_Tunnel_Room #[.pointer p0] (.I .i64) w17 fun (x18 : Int) w19 => cl Tryd.prog n_flumeref12_Tunnel_Room #[.pointer p1] (.I .i64) w19 fun (x20 : Int) w21 => bif (x18 == x20) then (cl Tryd.prog n_tunnel_Tunnel_Waiting #[.pointer p0] (.I .i64) w21 fun (x22 : Int) w23 => cl Tryd.prog n_flumeref12_Tunnel_Waiting #[.pointer p1] (.I .i64) w23 fun (x24 : Int) w25 => bif (x22 == x24) then (cl Tryd.prog n_tunnel_Tunnel_Out #[.pointer p0] .L w25 fun (x26 : Sl) w27 => cl Tryd.prog n_flumeref12_Tunnel_Out #[.pointer p1] .L w27 fun (x28 : Sl) w29 => cl Tryd.prog n_flumelaw12_rows #[.slice x26.a x26.n x26.c, .slice x28.a x28.n x28.c] .B w29 fun (x30 : Bool) w31 => Q x30 w31) else (Q false w25)) else (Q false w21)) else (Q false w17)) else (Q false w13)) else (Q false w9)) else (Q false w5)
theorem flumelaw12_tells.t (p0 : Option Addr) (p1 : Option Addr) (Q : Bool → World → Prop) (w : World) : flumelaw12_tells p0 p1 Q w = fvc Tryd.prog an_flumelaw12_tells Tryd.f43 .B [Kd.av .P p0, Kd.av .P p1] w Q := by kernel_rfl
theorem flumelaw12_tells.k : fnOk Tryd.prog Tryd.f43 = true := by kernel_rfl
theorem flumelaw12_tells.cl {p0 : Option Addr} {p1 : Option Addr} {Q : Bool → World → Prop} {w : World} (h : flumelaw12_tells p0 p1 Q w) : cl Tryd.prog n_flumelaw12_tells #[.pointer p0, .pointer p1] .B w Q :=
  cl_tie Tryd.func43 flumelaw12_tells.k (args := [Kd.av .P p0, Kd.av .P p1]) (flumelaw12_tells.t p0 p1 Q w) h

/-- flume/flumelaw12.few -/
def an_flumelaw12_few : Nat → LA
  | 3 => [(3, (.I .i64)), (4, (.I .i64))] | _ => []
def flumelaw12_few (p0 : Sl) (Q : Bool → World → Prop) (w : World) : Prop :=
 lp (α := (Int × (Int × Unit))) (fun K => K (0, (0, ()))) w fun D3 J4 s1 w2 =>
 bif (decide (s1.2.1 < (p0.n : Int))) then
  (bif (decide (s1.2.1 ≤ 400)) then
  (bif (decide (s1.1 ≤ 32768)) then
  (ixa p0.a p0.n s1.2.1 5 fun a5 => ld .L w2 (a5.add 3) fun (x6 : Sl) => J4 ((IntKind.i64.wrap (s1.1 + (min (x6.n : Int) 32768))), ((IntKind.i64.wrap (s1.2.1 + 1)), ())) w2)
  else bif (decide ((p0.n : Int) ≤ 400)) then
 (Q (decide (s1.1 ≤ 32768)) w2)
 else Q false w2)
  else bif (decide ((p0.n : Int) ≤ 400)) then
 (Q (decide (s1.1 ≤ 32768)) w2)
 else Q false w2)
  else bif (decide ((p0.n : Int) ≤ 400)) then
 (Q (decide (s1.1 ≤ 32768)) w2)
 else Q false w2
theorem flumelaw12_few.t (p0 : Sl) (Q : Bool → World → Prop) (w : World) : flumelaw12_few p0 Q w = fvc Tryd.prog an_flumelaw12_few Tryd.f44 .B [Kd.av .L p0] w Q := by kernel_rfl
theorem flumelaw12_few.k : fnOk Tryd.prog Tryd.f44 = true := by kernel_rfl
theorem flumelaw12_few.cl {p0 : Sl} {Q : Bool → World → Prop} {w : World} (h : flumelaw12_few p0 Q w) : cl Tryd.prog n_flumelaw12_few #[.slice p0.a p0.n p0.c] .B w Q :=
  cl_tie Tryd.func44 flumelaw12_few.k (args := [Kd.av .L p0]) (flumelaw12_few.t p0 Q w) h

/-- flume/flumelaw12.begun -/
def flumelaw12_begun  (Q : Option Addr → World → Prop) (w : World) : Prop :=
 cl Tryd.prog n_tunnel_New #[.int .i64 1000] (.tup (.pair .P (.pair (.I .i64) .nil))) w fun (x1 : (Option Addr × (Int × Unit))) w2 => cl Tryd.prog n_tunnel_New #[.int .i64 5000] (.tup (.pair .P (.pair (.I .i64) .nil))) w2 fun (x3 : (Option Addr × (Int × Unit))) w4 => qn Tryd.prog (Instr.build t_2_p_tunnel_Tunnel #[(0, .pointer x1.1), (1, .pointer x3.1)]) (.row 2) w4 fun (x5 : {l : List Value // l.length = 2}) => rn Tryd.prog (Instr.makeMap t_map_3_int_s_s_uint8 none) .M w4 fun (m6 : Option Nat) w7 => rn Tryd.prog (Instr.makeMap t_map_3_int_s_s_uint8 none) .M w7 fun (m8 : Option Nat) w9 => nw w9 ((Kd.av k_flumelaw12_pair (x5, ((zrow 2 (.slice none 0 0)), (m6, (m8, ()))))).cells) t_flumelaw12_pair fun a10 w11 => Q (some a10) w11
theorem flumelaw12_begun.t  (Q : Option Addr → World → Prop) (w : World) : flumelaw12_begun  Q w = fvc Tryd.prog (fun _ => []) Tryd.f45 .P [] w Q := by kernel_rfl
theorem flumelaw12_begun.k : fnOk Tryd.prog Tryd.f45 = true := by kernel_rfl
theorem flumelaw12_begun.cl  {Q : Option Addr → World → Prop} {w : World} (h : flumelaw12_begun  Q w) : cl Tryd.prog n_flumelaw12_begun #[] .P w Q :=
  cl_tie Tryd.func45 flumelaw12_begun.k (args := []) (flumelaw12_begun.t  Q w) h

/-- (*flume/flumelaw12.pair).does -/
def an_flumelaw12_pair_does : Nat → LA
  | 1000010 => [(0, .nil)] | 1000015 => [(0, .nil)] | _ => []
def flumelaw12_pair_does (p0 : Option Addr) (p1 : y_flumelaw12_Act) (Q : Bool → World → Prop) (w : World) : Prop :=
 nw w ((Kd.av k_flumelaw12_Act p1).cells) t_flumelaw12_Act fun a1 w2 => ld (.I .i64) w2 (a1.add 1) fun (x3 : Int) => nz p0 fun a4 => ixa (some a4) 2 (bits .and .i64 x3 1) 1 fun a5 => ld .P w2 a5 fun (x6 : Option Addr) => let j2 := (fun (y105 : Bool) (w106 : World) =>
   cl Tryd.prog n_flumelaw12_pair_out #[.pointer p0] (.tup .nil) w106 fun (x107 : Unit) w108 => Q y105 w108);
 ld (.I .i64) w2 a1 fun (x7 : Int) => bif ((IntKind.i64.wrap (Int.tmod (IntKind.u64.wrap x7) 9)) == 3) then
 (ld .L w2 (a1.add 3) fun (x8 : Sl) => cl Tryd.prog n_tunnel_Tunnel_Send #[.pointer x6, .slice x8.a x8.n x8.c] (.I .i64) w2 fun (x9 : Int) w10 => bif (x9 == 0) then
  (cl Tryd.prog n_tunnel_Tunnel_Me #[.pointer x6] (.I .i64) w10 fun (x11 : Int) w12 => cl Tryd.prog n_tunnel_Tunnel_You #[.pointer x6] (.I .i64) w12 fun (x13 : Int) w14 => qn Tryd.prog (Instr.build t_3_int #[(0, .int .i64 x11), (1, .int .i64 x13), (2, .int .i64 (IntKind.i64.wrap (1 - (bits .and .i64 x3 1))))]) (.row 3) w14 fun (x15 : {l : List Value // l.length = 3}) => nw w14 ((zrow 3 (.int .i64 0)).1) t_3_int fun a16 w17 => stL a16 w17 0 x15.1 fun w18 => dr w18 fun w19 => nz p0 fun a20 => ld .M w19 (a20.add 4) fun (x21 : Option Nat) => ld (.row 3) w19 a16 fun (x22 : {l : List Value // l.length = 3}) => ld .L w19 (a1.add 3) fun (x23 : Sl) => cl Tryd.prog n_slices_Clone_byte_byte #[.slice x23.a x23.n x23.c] .L w19 fun (x24 : Sl) w25 => Fr w19 w25 ∧ nw w25 [.slice x24.a x24.n x24.c] t_s_uint8 fun a26 w27 => Fr w25 w27 ∧ rn Tryd.prog (Instr.mapEntry t_map_3_int_s_s_uint8 (.map x21) (.agg (x22.1).toArray)) (.tup (.pair .L (.pair (.I .i64) .nil))) w27 fun (x28 : (Sl × (Int × Unit))) w29 => app Tryd.prog t_s_s_uint8 t_s_s_uint8 x28.1 ⟨(some a26), 1, 1⟩ w29 fun r30 w31 => ru Tryd.prog (Instr.entryStore t_map_3_int_s_s_uint8 (.map x21) (.int .i64 x28.2.1) (.slice r30.a r30.n r30.c)) w31 fun w32 => j2 true w32)
  else j2 true w10)
 else let j1 := (fun (y67 : Bool) (w68 : World) =>
   bif y67 then
 (cl Tryd.prog n_tunnel_Tunnel_Tick #[.pointer x6] (.tup .nil) w68 fun (x69 : Unit) w70 => j2 true w70)
 else bif ((IntKind.i64.wrap (Int.tmod (IntKind.u64.wrap x7) 9)) == 7) then
 (cl Tryd.prog n_tunnel_Tunnel_Me #[.pointer x6] (.I .i64) w68 fun (x71 : Int) w72 => cl Tryd.prog n_tunnel_New #[.int .i64 (IntKind.i64.wrap (x71 + 100))] (.tup (.pair .P (.pair (.I .i64) .nil))) w72 fun (x73 : (Option Addr × (Int × Unit))) w74 => nz p0 fun a75 => ixa (some a75) 2 (bits .and .i64 x3 1) 1 fun a76 => st1 w74 a76 (.pointer x73.1) fun w77 => j2 (x73.2.1 == 0) w77)
 else bif ((IntKind.i64.wrap (Int.tmod (IntKind.u64.wrap x7) 9)) == 8) then
 (nz p0 fun a78 => ixa (some a78) 2 (IntKind.i64.wrap (1 - (bits .and .i64 x3 1))) 1 fun a79 => ld .P w68 a79 fun (x80 : Option Addr) => cl Tryd.prog n_tunnel_Tunnel_Me #[.pointer x80] (.I .i64) w68 fun (x81 : Int) w82 => cl Tryd.prog n_tunnel_Tunnel_Hint #[.pointer x6, .int .i64 x81] (.tup .nil) w82 fun (x83 : Unit) w84 => j2 true w84)
 else nz p0 fun a85 => ixa (some (a85.add 2)) 2 (bits .and .i64 x3 1) 1 fun a86 => ld .L w68 a86 fun (x87 : Sl) => bif (decide ((x87.n : Int) > 0)) then
 (ld (.I .i64) w68 (a1.add 2) fun (x88 : Int) => bif true && !decide ((IntKind.u64.wrap (x87.n : Int)) = 0) then (bif ((IntKind.i64.wrap (Int.tmod (IntKind.u64.wrap x7) 9)) == 6) then
  (dr w68 fun w89 => nz p0 fun a90 => ixa (some (a90.add 2)) 2 (bits .and .i64 x3 1) 1 fun a91 => ld .L w89 a91 fun (x92 : Sl) => nz p0 fun a93 => cl Tryd.prog n_slices_Clone_rows_byte_byte #[.slice x92.a x92.n x92.c] .L w89 fun (x94 : Sl) w95 => cl Tryd.prog n_slices_Delete_rows_byte_byte #[.slice x94.a x94.n x94.c, .int .i64 (IntKind.i64.wrap (Int.tmod (IntKind.u64.wrap x88) (IntKind.u64.wrap (x87.n : Int)))), .int .i64 (IntKind.i64.wrap ((IntKind.i64.wrap (Int.tmod (IntKind.u64.wrap x88) (IntKind.u64.wrap (x87.n : Int)))) + 1))] .L w95 fun (x96 : Sl) w97 => ixa (some (a93.add 2)) 2 (bits .and .i64 x3 1) 1 fun a98 => st1 w97 a98 (.slice x96.a x96.n x96.c) fun w99 => j2 true w99)
  else ld .B w68 (a1.add 4) fun (x100 : Bool) => cl Tryd.prog n_flumelaw12_pair_take #[.pointer p0, .int .i64 (bits .and .i64 x3 1), .int .i64 (IntKind.i64.wrap (Int.tmod (IntKind.u64.wrap x88) (IntKind.u64.wrap (x87.n : Int)))), .bool x100] .B w68 fun (x101 : Bool) w102 => j2 x101 w102) else False)
 else j2 true w68);
 bif ((IntKind.i64.wrap (Int.tmod (IntKind.u64.wrap x7) 9)) == 4) then
 (j1 ((IntKind.i64.wrap (Int.tmod (IntKind.u64.wrap x7) 9)) == 4) w2)
 else j1 ((IntKind.i64.wrap (Int.tmod (IntKind.u64.wrap x7) 9)) == 5) w2
theorem flumelaw12_pair_does.t (p0 : Option Addr) (p1 : y_flumelaw12_Act) (Q : Bool → World → Prop) (w : World) : flumelaw12_pair_does p0 p1 Q w = fvc Tryd.prog an_flumelaw12_pair_does Tryd.f46 .B [Kd.av .P p0, Kd.av k_flumelaw12_Act p1] w Q := by kernel_rfl
theorem flumelaw12_pair_does.k : fnOk Tryd.prog Tryd.f46 = true := by kernel_rfl
theorem flumelaw12_pair_does.cl {p0 : Option Addr} {p1 : y_flumelaw12_Act} {Q : Bool → World → Prop} {w : World} (h : flumelaw12_pair_does p0 p1 Q w) : cl Tryd.prog n_flumelaw12_pair_does #[.pointer p0, (Kd.av k_flumelaw12_Act p1).val] .B w Q :=
  cl_tie Tryd.func46 flumelaw12_pair_does.k (args := [Kd.av .P p0, Kd.av k_flumelaw12_Act p1]) (flumelaw12_pair_does.t p0 p1 Q w) h

/-- flume/flumelaw12.carry -/
def an_flumelaw12_carry : Nat → LA
  | 3 => [(5, .L), (13, (.I .i64))] | _ => []
def flumelaw12_carry (p0 : Option Addr) (p1 : Option Addr) (Q : Sl → World → Prop) (w : World) : Prop :=
 cl Tryd.prog n_tunnel_Tunnel_Out #[.pointer p0] .L w fun (x1 : Sl) w2 => lp (α := (Sl × (Int × Unit))) (fun K => K (⟨none, 0, 0⟩, (0, ()))) w2 fun D5 J6 s3 w4 =>
 bif (decide (s3.2.1 < (x1.n : Int))) then
  (ixa x1.a x1.n s3.2.1 1 fun a7 => ld .L w4 a7 fun (x8 : Sl) => cl Tryd.prog n_tunnel_Tunnel_Take #[.pointer p1, .slice x8.a x8.n x8.c] (.tup (.pair .L (.pair (.I .i64) .nil))) w4 fun (x9 : (Sl × (Int × Unit))) w10 => app Tryd.prog t_s_s_uint8 t_s_s_uint8 s3.1 x9.1 w10 fun r11 w12 => J6 (r11, ((IntKind.i64.wrap (s3.2.1 + 1)), ())) w12)
  else Q s3.1 w4
theorem flumelaw12_carry.t (p0 : Option Addr) (p1 : Option Addr) (Q : Sl → World → Prop) (w : World) : flumelaw12_carry p0 p1 Q w = fvc Tryd.prog an_flumelaw12_carry Tryd.f47 .L [Kd.av .P p0, Kd.av .P p1] w Q := by kernel_rfl
theorem flumelaw12_carry.k : fnOk Tryd.prog Tryd.f47 = true := by kernel_rfl
theorem flumelaw12_carry.cl {p0 : Option Addr} {p1 : Option Addr} {Q : Sl → World → Prop} {w : World} (h : flumelaw12_carry p0 p1 Q w) : cl Tryd.prog n_flumelaw12_carry #[.pointer p0, .pointer p1] .L w Q :=
  cl_tie Tryd.func47 flumelaw12_carry.k (args := [Kd.av .P p0, Kd.av .P p1]) (flumelaw12_carry.t p0 p1 Q w) h
end Go.Proofs.YtmhibpcbdbhfoaaDoor
set_option linter.unusedVariables false
set_option maxHeartbeats 4000000
namespace Go.Proofs.YtmhibpcbdbhfoaaDoor
open Go.Fl
/-- flume/octet.Numbers -/
def an_octet_Numbers : Nat → LA
  | 2 => [(0, .L), (9, (.I .i64))] | _ => []
def octet_Numbers (p0 : Sl) (p1 : Sl) (Q : Sl → World → Prop) (w : World) : Prop :=
 lp (α := (Sl × (Int × Unit))) (fun K => K (p0, (0, ()))) w fun D3 J4 s1 w2 =>
 bif (decide (s1.2.1 < (p1.n : Int))) then
  (ixa p1.a p1.n s1.2.1 1 fun a5 => ld (.I .i64) w2 a5 fun (x6 : Int) => cl Tryd.prog n_octet_Number #[.slice s1.1.a s1.1.n s1.1.c, .int .i64 x6] .L w2 fun (x7 : Sl) w8 => J4 (x7, ((IntKind.i64.wrap (s1.2.1 + 1)), ())) w8)
  else Q s1.1 w2
theorem octet_Numbers.t (p0 : Sl) (p1 : Sl) (Q : Sl → World → Prop) (w : World) : octet_Numbers p0 p1 Q w = fvc Tryd.prog an_octet_Numbers Tryd.f48 .L [Kd.av .L p0, Kd.av .L p1] w Q := by kernel_rfl
theorem octet_Numbers.k : fnOk Tryd.prog Tryd.f48 = true := by kernel_rfl
theorem octet_Numbers.cl {p0 : Sl} {p1 : Sl} {Q : Sl → World → Prop} {w : World} (h : octet_Numbers p0 p1 Q w) : cl Tryd.prog n_octet_Numbers #[.slice p0.a p0.n p0.c, .slice p1.a p1.n p1.c] .L w Q :=
  cl_tie Tryd.func48 octet_Numbers.k (args := [Kd.av .L p0, Kd.av .L p1]) (octet_Numbers.t p0 p1 Q w) h

/-- flume/octet.Text -/
def octet_Text (p0 : Sl) (p1 : Sl) (Q : Sl → World → Prop) (w : World) : Prop :=
 cl Tryd.prog n_octet_Number #[.slice p0.a p0.n p0.c, .int .i64 (p1.n : Int)] .L w fun (x1 : Sl) w2 => app Tryd.prog t_s_uint8 t_s_uint8 x1 p1 w2 fun r3 w4 => Q r3 w4
theorem octet_Text.t (p0 : Sl) (p1 : Sl) (Q : Sl → World → Prop) (w : World) : octet_Text p0 p1 Q w = fvc Tryd.prog (fun _ => []) Tryd.f50 .L [Kd.av .L p0, Kd.av .L p1] w Q := by kernel_rfl
theorem octet_Text.k : fnOk Tryd.prog Tryd.f50 = true := by kernel_rfl
theorem octet_Text.cl {p0 : Sl} {p1 : Sl} {Q : Sl → World → Prop} {w : World} (h : octet_Text p0 p1 Q w) : cl Tryd.prog n_octet_Text #[.slice p0.a p0.n p0.c, .slice p1.a p1.n p1.c] .L w Q :=
  cl_tie Tryd.func50 octet_Text.k (args := [Kd.av .L p0, Kd.av .L p1]) (octet_Text.t p0 p1 Q w) h

/-- flume/sums.Seal -/
def sums_Seal (p0 : Sl) (Q : Sl → World → Prop) (w : World) : Prop :=
 nw w [.slice p0.a p0.n p0.c] t_s_uint8 fun a1 w2 => cl Tryd.prog n_sums_Crc #[.slice (some a1) 1 1] (.I .u32) w2 fun (x3 : Int) w4 => mks Tryd.prog t_s_uint8 0 (IntKind.i64.wrap ((p0.n : Int) + 4)) w4 fun r5 w6 => app Tryd.prog t_s_uint8 t_s_uint8 r5 p0 w6 fun r7 w8 => nw w8 [.int .u8 (IntKind.u8.wrap x3), .int .u8 (IntKind.u8.wrap (x3 / 2 ^ (min 8 32))), .int .u8 (IntKind.u8.wrap (x3 / 2 ^ (min 16 32))), .int .u8 (IntKind.u8.wrap (x3 / 2 ^ (min 24 32)))] t_uint8 fun a9 w10 => app Tryd.prog t_s_uint8 t_s_uint8 r7 ⟨(some a9), 4, 4⟩ w10 fun r11 w12 => Q r11 w12
theorem sums_Seal.t (p0 : Sl) (Q : Sl → World → Prop) (w : World) : sums_Seal p0 Q w = fvc Tryd.prog (fun _ => []) Tryd.f49 .L [Kd.av .L p0] w Q := by kernel_rfl
theorem sums_Seal.k : fnOk Tryd.prog Tryd.f49 = true := by kernel_rfl
theorem sums_Seal.cl {p0 : Sl} {Q : Sl → World → Prop} {w : World} (h : sums_Seal p0 Q w) : cl Tryd.prog n_sums_Seal #[.slice p0.a p0.n p0.c] .L w Q :=
  cl_tie Tryd.func49 sums_Seal.k (args := [Kd.av .L p0]) (sums_Seal.t p0 Q w) h

/-- flume/flumeref02.Number -/
def an_flumeref02_Number : Nat → LA
  | 5 => [(1, (.I .i64)), (6, .L), (13, (.I .i64))] | _ => []
def flumeref02_Number (p0 : Sl) (p1 : Int) (Q : Sl → World → Prop) (w : World) : Prop :=
 cl Tryd.prog n_flumeref02_Follow #[.int .i64 (max p1 0)] (.I .i64) w fun (x1 : Int) w2 => lp (α := (Int × (Sl × (Int × Unit)))) (fun K => K ((max p1 0), (⟨none, 0, 0⟩, (0, ())))) w2 fun D5 J6 s3 w4 =>
 bif (decide (s3.2.2.1 < x1)) then
  (nw w4 [.int .u8 (IntKind.u8.wrap (Int.tmod s3.1 256))] t_uint8 fun a7 w8 => app Tryd.prog t_s_uint8 t_s_uint8 ⟨(some a7), 1, 1⟩ s3.2.1 w8 fun r9 w10 => J6 ((IntKind.i64.wrap (Int.tdiv s3.1 256)), (r9, ((IntKind.i64.wrap (s3.2.2.1 + 1)), ()))) w10)
  else nw w4 [] t_uint8 fun a11 w12 => app Tryd.prog t_s_uint8 t_s_uint8 ⟨(some a11), 0, 0⟩ p0 w12 fun r13 w14 => cl Tryd.prog n_flumeref02_Lead #[.int .i64 x1] (.I .i64) w14 fun (x15 : Int) w16 => nw w16 [.int .u8 (IntKind.u8.wrap (IntKind.i64.wrap (x15 + s3.1)))] t_uint8 fun a17 w18 => app Tryd.prog t_s_uint8 t_s_uint8 r13 ⟨(some a17), 1, 1⟩ w18 fun r19 w20 => app Tryd.prog t_s_uint8 t_s_uint8 r19 s3.2.1 w20 fun r21 w22 => Q r21 w22
theorem flumeref02_Number.t (p0 : Sl) (p1 : Int) (Q : Sl → World → Prop) (w : World) : flumeref02_Number p0 p1 Q w = fvc Tryd.prog an_flumeref02_Number Tryd.f51 .L [Kd.av .L p0, Kd.av (.I .i64) p1] w Q := by kernel_rfl
theorem flumeref02_Number.k : fnOk Tryd.prog Tryd.f51 = true := by kernel_rfl
theorem flumeref02_Number.cl {p0 : Sl} {p1 : Int} {Q : Sl → World → Prop} {w : World} (h : flumeref02_Number p0 p1 Q w) : cl Tryd.prog n_flumeref02_Number #[.slice p0.a p0.n p0.c, .int .i64 p1] .L w Q :=
  cl_tie Tryd.func51 flumeref02_Number.k (args := [Kd.av .L p0, Kd.av (.I .i64) p1]) (flumeref02_Number.t p0 p1 Q w) h

/-- flume/flumeref02.Text -/
def flumeref02_Text (p0 : Sl) (p1 : Sl) (Q : Sl → World → Prop) (w : World) : Prop :=
 cl Tryd.prog n_flumeref02_Number #[.slice p0.a p0.n p0.c, .int .i64 (p1.n : Int)] .L w fun (x1 : Sl) w2 => app Tryd.prog t_s_uint8 t_s_uint8 x1 p1 w2 fun r3 w4 => Q r3 w4
theorem flumeref02_Text.t (p0 : Sl) (p1 : Sl) (Q : Sl → World → Prop) (w : World) : flumeref02_Text p0 p1 Q w = fvc Tryd.prog (fun _ => []) Tryd.f53 .L [Kd.av .L p0, Kd.av .L p1] w Q := by kernel_rfl
theorem flumeref02_Text.k : fnOk Tryd.prog Tryd.f53 = true := by kernel_rfl
theorem flumeref02_Text.cl {p0 : Sl} {p1 : Sl} {Q : Sl → World → Prop} {w : World} (h : flumeref02_Text p0 p1 Q w) : cl Tryd.prog n_flumeref02_Text #[.slice p0.a p0.n p0.c, .slice p1.a p1.n p1.c] .L w Q :=
  cl_tie Tryd.func53 flumeref02_Text.k (args := [Kd.av .L p0, Kd.av .L p1]) (flumeref02_Text.t p0 p1 Q w) h

/-- flume/flumeref01.Seal -/
def flumeref01_Seal (p0 : Sl) (Q : Sl → World → Prop) (w : World) : Prop :=
 cl Tryd.prog n_flumeref01_Crc #[.slice p0.a p0.n p0.c] (.I .u32) w fun (x1 : Int) w2 => nw w2 [] t_uint8 fun a3 w4 => app Tryd.prog t_s_uint8 t_s_uint8 ⟨(some a3), 0, 0⟩ p0 w4 fun r5 w6 => nw w6 [.int .u8 (IntKind.u8.wrap (Int.tmod x1 256)), .int .u8 (IntKind.u8.wrap (Int.tmod (IntKind.u32.wrap (Int.tdiv x1 256)) 256)), .int .u8 (IntKind.u8.wrap (Int.tmod (IntKind.u32.wrap (Int.tdiv x1 65536)) 256)), .int .u8 (IntKind.u8.wrap (IntKind.u32.wrap (Int.tdiv x1 16777216)))] t_uint8 fun a7 w8 => app Tryd.prog t_s_uint8 t_s_uint8 r5 ⟨(some a7), 4, 4⟩ w8 fun r9 w10 => Q r9 w10
theorem flumeref01_Seal.t (p0 : Sl) (Q : Sl → World → Prop) (w : World) : flumeref01_Seal p0 Q w = fvc Tryd.prog (fun _ => []) Tryd.f52 .L [Kd.av .L p0] w Q := by kernel_rfl
theorem flumeref01_Seal.k : fnOk Tryd.prog Tryd.f52 = true := by kernel_rfl
theorem flumeref01_Seal.cl {p0 : Sl} {Q : Sl → World → Prop} {w : World} (h : flumeref01_Seal p0 Q w) : cl Tryd.prog n_flumeref01_Seal #[.slice p0.a p0.n p0.c] .L w Q :=
  cl_tie Tryd.func52 flumeref01_Seal.k (args := [Kd.av .L p0]) (flumeref01_Seal.t p0 Q w) h

/-- flume/flumeref12.near -/
def flumeref12_near (p0 : Int) (p1 : Int) (p2 : Int) (Q : Bool → World → Prop) (w : World) : Prop :=
 bif (decide (p0 ≥ p1)) then
 (Q (decide (p0 ≤ p2)) w)
 else Q false w
theorem flumeref12_near.t (p0 : Int) (p1 : Int) (p2 : Int) (Q : Bool → World → Prop) (w : World) : flumeref12_near p0 p1 p2 Q w = fvc Tryd.prog (fun _ => []) Tryd.f54 .B [Kd.av (.I .i64) p0, Kd.av (.I .i64) p1, Kd.av (.I .i64) p2] w Q := by kernel_rfl
theorem flumeref12_near.k : fnOk Tryd.prog Tryd.f54 = true := by kernel_rfl
theorem flumeref12_near.cl {p0 : Int} {p1 : Int} {p2 : Int} {Q : Bool → World → Prop} {w : World} (h : flumeref12_near p0 p1 p2 Q w) : cl Tryd.prog n_flumeref12_near #[.int .i64 p0, .int .i64 p1, .int .i64 p2] .B w Q :=
  cl_tie Tryd.func54 flumeref12_near.k (args := [Kd.av (.I .i64) p0, Kd.av (.I .i64) p1, Kd.av (.I .i64) p2]) (flumeref12_near.t p0 p1 p2 Q w) h

/-- flume/sums.Open -/
def sums_Open (p0 : Sl) (Q : (Sl × (Int × Unit)) → World → Prop) (w : World) : Prop :=
 bif (decide ((IntKind.i64.wrap ((p0.n : Int) - 4)) < 0)) then
 (Q (⟨none, 0, 0⟩, (2, ())) w)
 else ixa p0.a p0.n (IntKind.i64.wrap ((p0.n : Int) - 4)) 1 fun a1 => ld (.I .u8) w a1 fun (x2 : Int) => ixa p0.a p0.n (IntKind.i64.wrap ((IntKind.i64.wrap ((p0.n : Int) - 4)) + 1)) 1 fun a3 => ld (.I .u8) w a3 fun (x4 : Int) => ixa p0.a p0.n (IntKind.i64.wrap ((IntKind.i64.wrap ((p0.n : Int) - 4)) + 2)) 1 fun a5 => ld (.I .u8) w a5 fun (x6 : Int) => ixa p0.a p0.n (IntKind.i64.wrap ((IntKind.i64.wrap ((p0.n : Int) - 4)) + 3)) 1 fun a7 => ld (.I .u8) w a7 fun (x8 : Int) => dr w fun w9 => sls p0 0 (IntKind.i64.wrap ((p0.n : Int) - 4)) 1 fun r10 => nw w9 [.slice r10.a r10.n r10.c] t_s_uint8 fun a11 w12 => cl Tryd.prog n_sums_Crc #[.slice (some a11) 1 1] (.I .u32) w12 fun (x13 : Int) w14 => bif ((bits .or .u32 (bits .or .u32 (bits .or .u32 (IntKind.u32.wrap x2) (IntKind.u32.wrap ((IntKind.u32.wrap x4) * 2 ^ (min 8 32)))) (IntKind.u32.wrap ((IntKind.u32.wrap x6) * 2 ^ (min 16 32)))) (IntKind.u32.wrap ((IntKind.u32.wrap x8) * 2 ^ (min 24 32)))) != x13) then
 (Q (⟨none, 0, 0⟩, (10, ())) w14)
 else nw w14 [] t_uint8 fun a15 w16 => sls p0 0 (IntKind.i64.wrap ((p0.n : Int) - 4)) 1 fun r17 => app Tryd.prog t_s_uint8 t_s_uint8 ⟨(some a15), 0, 0⟩ r17 w16 fun r18 w19 => Q (r18, (0, ())) w19
theorem sums_Open.t (p0 : Sl) (Q : (Sl × (Int × Unit)) → World → Prop) (w : World) : sums_Open p0 Q w = fvc Tryd.prog (fun _ => []) Tryd.f55 (.tup (.pair .L (.pair (.I .i64) .nil))) [Kd.av .L p0] w Q := by kernel_rfl
theorem sums_Open.k : fnOk Tryd.prog Tryd.f55 = true := by kernel_rfl
theorem sums_Open.cl {p0 : Sl} {Q : (Sl × (Int × Unit)) → World → Prop} {w : World} (h : sums_Open p0 Q w) : cl Tryd.prog n_sums_Open #[.slice p0.a p0.n p0.c] (.tup (.pair .L (.pair (.I .i64) .nil))) w Q :=
  cl_tie Tryd.func55 sums_Open.k (args := [Kd.av .L p0]) (sums_Open.t p0 Q w) h

/-- flume/octet.Read -/
def octet_Read (p0 : Sl) (Q : Option Addr → World → Prop) (w : World) : Prop :=
 nw w [] t_uint8 fun a1 w2 => app Tryd.prog t_s_uint8 t_s_uint8 ⟨(some a1), 0, 0⟩ p0 w2 fun r3 w4 => nw w4 ([.slice r3.a r3.n r3.c, .bool true]) t_octet_Reader fun a5 w6 => Q (some a5) w6
theorem octet_Read.t (p0 : Sl) (Q : Option Addr → World → Prop) (w : World) : octet_Read p0 Q w = fvc Tryd.prog (fun _ => []) Tryd.f56 .P [Kd.av .L p0] w Q := by kernel_rfl
theorem octet_Read.k : fnOk Tryd.prog Tryd.f56 = true := by kernel_rfl
theorem octet_Read.cl {p0 : Sl} {Q : Option Addr → World → Prop} {w : World} (h : octet_Read p0 Q w) : cl Tryd.prog n_octet_Read #[.slice p0.a p0.n p0.c] .P w Q :=
  cl_tie Tryd.func56 octet_Read.k (args := [Kd.av .L p0]) (octet_Read.t p0 Q w) h

/-- (*flume/octet.Reader).Number -/
def octet_Reader_Number (p0 : Option Addr) (Q : (Int × (Int × Unit)) → World → Prop) (w : World) : Prop :=
 bif p0.isNone then
 (Q (0, (6, ())) w)
 else nz p0 fun a1 => ld .B w (a1.add 1) fun (x2 : Bool) => bif (!x2) then
 (Q (0, (6, ())) w)
 else nz p0 fun a3 => ld .L w a3 fun (x4 : Sl) => cl Tryd.prog n_octet_look #[.slice x4.a x4.n x4.c] (.tup (.pair (.I .i64) (.pair (.I .i64) (.pair (.I .i64) .nil)))) w fun (x5 : (Int × (Int × (Int × Unit)))) w6 => nz p0 fun a7 => ld .L w6 a7 fun (x8 : Sl) => sls x8 x5.2.1 x8.n 1 fun r9 => nz p0 fun a10 => st1 w6 a10 (.slice r9.a r9.n r9.c) fun w11 => Q (x5.1, (x5.2.2.1, ())) w11
theorem octet_Reader_Number.t (p0 : Option Addr) (Q : (Int × (Int × Unit)) → World → Prop) (w : World) : octet_Reader_Number p0 Q w = fvc Tryd.prog (fun _ => []) Tryd.f57 (.tup (.pair (.I .i64) (.pair (.I .i64) .nil))) [Kd.av .P p0] w Q := by kernel_rfl
theorem octet_Reader_Number.k : fnOk Tryd.prog Tryd.f57 = true := by kernel_rfl
theorem octet_Reader_Number.cl {p0 : Option Addr} {Q : (Int × (Int × Unit)) → World → Prop} {w : World} (h : octet_Reader_Number p0 Q w) : cl Tryd.prog n_octet_Reader_Number #[.pointer p0] (.tup (.pair (.I .i64) (.pair (.I .i64) .nil))) w Q :=
  cl_tie Tryd.func57 octet_Reader_Number.k (args := [Kd.av .P p0]) (octet_Reader_Number.t p0 Q w) h

/-- (*flume/octet.Reader).Text -/
def octet_Reader_Text (p0 : Option Addr) (p1 : Int) (Q : (Sl × (Int × Unit)) → World → Prop) (w : World) : Prop :=
 bif p0.isNone then
 (Q (⟨none, 0, 0⟩, (6, ())) w)
 else nz p0 fun a1 => ld .B w (a1.add 1) fun (x2 : Bool) => bif (!x2) then
 (Q (⟨none, 0, 0⟩, (6, ())) w)
 else nz p0 fun a3 => ld .L w a3 fun (x4 : Sl) => cl Tryd.prog n_octet_look #[.slice x4.a x4.n x4.c] (.tup (.pair (.I .i64) (.pair (.I .i64) (.pair (.I .i64) .nil)))) w fun (x5 : (Int × (Int × (Int × Unit)))) w6 => bif (x5.2.2.1 != 0) then
 (Q (⟨none, 0, 0⟩, (x5.2.2.1, ())) w6)
 else bif (decide (x5.1 > (max p1 0))) then
 (Q (⟨none, 0, 0⟩, (4, ())) w6)
 else nz p0 fun a7 => ld .L w6 a7 fun (x8 : Sl) => bif (decide (x5.1 > (IntKind.i64.wrap ((x8.n : Int) - x5.2.1)))) then
 (Q (⟨none, 0, 0⟩, (2, ())) w6)
 else nw w6 [] t_uint8 fun a9 w10 => nz p0 fun a11 => ld .L w10 a11 fun (x12 : Sl) => sls x12 x5.2.1 (IntKind.i64.wrap (x5.2.1 + x5.1)) 1 fun r13 => app Tryd.prog t_s_uint8 t_s_uint8 ⟨(some a9), 0, 0⟩ r13 w10 fun r14 w15 => nz p0 fun a16 => ld .L w15 a16 fun (x17 : Sl) => sls x17 (IntKind.i64.wrap (x5.2.1 + x5.1)) x17.n 1 fun r18 => nz p0 fun a19 => st1 w15 a19 (.slice r18.a r18.n r18.c) fun w20 => Q (r14, (0, ())) w20
theorem octet_Reader_Text.t (p0 : Option Addr) (p1 : Int) (Q : (Sl × (Int × Unit)) → World → Prop) (w : World) : octet_Reader_Text p0 p1 Q w = fvc Tryd.prog (fun _ => []) Tryd.f58 (.tup (.pair .L (.pair (.I .i64) .nil))) [Kd.av .P p0, Kd.av (.I .i64) p1] w Q := by kernel_rfl
theorem octet_Reader_Text.k : fnOk Tryd.prog Tryd.f58 = true := by kernel_rfl
theorem octet_Reader_Text.cl {p0 : Option Addr} {p1 : Int} {Q : (Sl × (Int × Unit)) → World → Prop} {w : World} (h : octet_Reader_Text p0 p1 Q w) : cl Tryd.prog n_octet_Reader_Text #[.pointer p0, .int .i64 p1] (.tup (.pair .L (.pair (.I .i64) .nil))) w Q :=
  cl_tie Tryd.func58 octet_Reader_Text.k (args := [Kd.av .P p0, Kd.av (.I .i64) p1]) (octet_Reader_Text.t p0 p1 Q w) h

/-- (*flume/octet.Reader).End -/
def octet_Reader_End (p0 : Option Addr) (Q : Int → World → Prop) (w : World) : Prop :=
 bif p0.isNone then
 (Q 6 w)
 else nz p0 fun a1 => ld .B w (a1.add 1) fun (x2 : Bool) => bif (!x2) then
 (Q 6 w)
 else nz p0 fun a3 => ld .L w a3 fun (x4 : Sl) => bif (decide ((x4.n : Int) > 0)) then
 (Q 3 w)
 else Q 0 w
theorem octet_Reader_End.t (p0 : Option Addr) (Q : Int → World → Prop) (w : World) : octet_Reader_End p0 Q w = fvc Tryd.prog (fun _ => []) Tryd.f59 (.I .i64) [Kd.av .P p0] w Q := by kernel_rfl
theorem octet_Reader_End.k : fnOk Tryd.prog Tryd.f59 = true := by kernel_rfl
theorem octet_Reader_End.cl {p0 : Option Addr} {Q : Int → World → Prop} {w : World} (h : octet_Reader_End p0 Q w) : cl Tryd.prog n_octet_Reader_End #[.pointer p0] (.I .i64) w Q :=
  cl_tie Tryd.func59 octet_Reader_End.k (args := [Kd.av .P p0]) (octet_Reader_End.t p0 Q w) h

/-- flume/flumeref01.Open -/
def an_flumeref01_Open : Nat → LA
  | 1000004 => [(0, .nil)] | _ => []
def flumeref01_Open (p0 : Sl) (Q : (Sl × (Int × Unit)) → World → Prop) (w : World) : Prop :=
 bif (decide ((p0.n : Int) < 4)) then
 (Q (⟨none, 0, 0⟩, (2, ())) w)
 else nw w [] t_uint8 fun a1 w2 => sls p0 0 (IntKind.i64.wrap ((p0.n : Int) - 4)) 1 fun r3 => app Tryd.prog t_s_uint8 t_s_uint8 ⟨(some a1), 0, 0⟩ r3 w2 fun r4 w5 => dr w5 fun w6 => bstr w6 p0 fun z7 => cl Tryd.prog n_flumeref01_Seal #[.slice r4.a r4.n r4.c] .L w6 fun (x8 : Sl) w9 => Fr w6 w9 ∧ bstr w9 x8 fun z10 => bif (!(beqB ⟨z10.toArray⟩ ⟨z7.toArray⟩)) then
 (Q (⟨none, 0, 0⟩, (10, ())) w9)
 else Q (r4, (0, ())) w9
theorem flumeref01_Open.t (p0 : Sl) (Q : (Sl × (Int × Unit)) → World → Prop) (w : World) : flumeref01_Open p0 Q w = fvc Tryd.prog an_flumeref01_Open Tryd.f60 (.tup (.pair .L (.pair (.I .i64) .nil))) [Kd.av .L p0] w Q := by kernel_rfl
theorem flumeref01_Open.k : fnOk Tryd.prog Tryd.f60 = true := by kernel_rfl
theorem flumeref01_Open.cl {p0 : Sl} {Q : (Sl × (Int × Unit)) → World → Prop} {w : World} (h : flumeref01_Open p0 Q w) : cl Tryd.prog n_flumeref01_Open #[.slice p0.a p0.n p0.c] (.tup (.pair .L (.pair (.I .i64) .nil))) w Q :=
  cl_tie Tryd.func60 flumeref01_Open.k (args := [Kd.av .L p0]) (flumeref01_Open.t p0 Q w) h

/-- (*flume/flumeref02.Reader).Number -/
def an_flumeref02_Reader_Number : Nat → LA
  | 1000001 => [(0, .nil)] | _ => []
def flumeref02_Reader_Number (p0 : Option Addr) (Q : (Int × (Int × Unit)) → World → Prop) (w : World) : Prop :=
 dr w fun w1 => nz p0 fun a2 => ld .L w1 a2 fun (x3 : Sl) => nz p0 fun a4 => ld (.I .i64) w1 (a4.add 1) fun (x5 : Int) => sls x3 x5 x3.n 1 fun r6 => cl Tryd.prog n_flumeref02_Look #[.slice r6.a r6.n r6.c] (.tup (.pair (.I .i64) (.pair (.I .i64) (.pair (.I .i64) .nil)))) w1 fun (x7 : (Int × (Int × (Int × Unit)))) w8 => nz p0 fun a9 => ld (.I .i64) w8 (a9.add 1) fun (x10 : Int) => nz p0 fun a11 => st1 w8 (a11.add 1) (.int .i64 (IntKind.i64.wrap (x10 + x7.2.1))) fun w12 => Q (x7.1, (x7.2.2.1, ())) w12
theorem flumeref02_Reader_Number.t (p0 : Option Addr) (Q : (Int × (Int × Unit)) → World → Prop) (w : World) : flumeref02_Reader_Number p0 Q w = fvc Tryd.prog an_flumeref02_Reader_Number Tryd.f61 (.tup (.pair (.I .i64) (.pair (.I .i64) .nil))) [Kd.av .P p0] w Q := by kernel_rfl
theorem flumeref02_Reader_Number.k : fnOk Tryd.prog Tryd.f61 = true := by kernel_rfl
theorem flumeref02_Reader_Number.cl {p0 : Option Addr} {Q : (Int × (Int × Unit)) → World → Prop} {w : World} (h : flumeref02_Reader_Number p0 Q w) : cl Tryd.prog n_flumeref02_Reader_Number #[.pointer p0] (.tup (.pair (.I .i64) (.pair (.I .i64) .nil))) w Q :=
  cl_tie Tryd.func61 flumeref02_Reader_Number.k (args := [Kd.av .P p0]) (flumeref02_Reader_Number.t p0 Q w) h

/-- (*flume/flumeref02.Reader).Text -/
def an_flumeref02_Reader_Text : Nat → LA
  | 1000001 => [(0, .nil)] | 1000009 => [(0, .nil)] | _ => []
def flumeref02_Reader_Text (p0 : Option Addr) (p1 : Int) (Q : (Sl × (Int × Unit)) → World → Prop) (w : World) : Prop :=
 dr w fun w1 => nz p0 fun a2 => ld .L w1 a2 fun (x3 : Sl) => nz p0 fun a4 => ld (.I .i64) w1 (a4.add 1) fun (x5 : Int) => sls x3 x5 x3.n 1 fun r6 => cl Tryd.prog n_flumeref02_Look #[.slice r6.a r6.n r6.c] (.tup (.pair (.I .i64) (.pair (.I .i64) (.pair (.I .i64) .nil)))) w1 fun (x7 : (Int × (Int × (Int × Unit)))) w8 => bif (x7.2.2.1 != 0) then
 (Q (⟨none, 0, 0⟩, (x7.2.2.1, ())) w8)
 else let j1 := (fun  (w30 : World) =>
   nz p0 fun a31 => ld .L w30 a31 fun (x32 : Sl) => nz p0 fun a33 => ld (.I .i64) w30 (a33.add 1) fun (x34 : Int) => dr w30 fun w35 => bif (decide (x7.1 > (IntKind.i64.wrap ((IntKind.i64.wrap ((x32.n : Int) - x34)) - x7.2.1)))) then
 (Q (⟨none, 0, 0⟩, (2, ())) w35)
 else nz p0 fun a36 => ld (.I .i64) w35 (a36.add 1) fun (x37 : Int) => nz p0 fun a38 => st1 w35 (a38.add 1) (.int .i64 (IntKind.i64.wrap (x37 + (IntKind.i64.wrap (x7.2.1 + x7.1))))) fun w39 => dr w39 fun w40 => nz p0 fun a41 => ld .L w40 a41 fun (x42 : Sl) => nz p0 fun a43 => ld (.I .i64) w40 (a43.add 1) fun (x44 : Int) => nz p0 fun a45 => ld (.I .i64) w40 (a45.add 1) fun (x46 : Int) => sls x42 (IntKind.i64.wrap (x44 - x7.1)) x46 1 fun r47 => nw w40 [] t_uint8 fun a48 w49 => Fr w40 w49 ∧ app Tryd.prog t_s_uint8 t_s_uint8 ⟨(some a48), 0, 0⟩ r47 w49 fun r50 w51 => Q (r50, (0, ())) w51);
 bif (decide (x7.1 > p1)) then
 (bif (decide (x7.1 > 0)) then
 (Q (⟨none, 0, 0⟩, (4, ())) w8)
 else j1 w8)
 else j1 w8
theorem flumeref02_Reader_Text.t (p0 : Option Addr) (p1 : Int) (Q : (Sl × (Int × Unit)) → World → Prop) (w : World) : flumeref02_Reader_Text p0 p1 Q w = fvc Tryd.prog an_flumeref02_Reader_Text Tryd.f62 (.tup (.pair .L (.pair (.I .i64) .nil))) [Kd.av .P p0, Kd.av (.I .i64) p1] w Q := by kernel_rfl
theorem flumeref02_Reader_Text.k : fnOk Tryd.prog Tryd.f62 = true := by kernel_rfl
theorem flumeref02_Reader_Text.cl {p0 : Option Addr} {p1 : Int} {Q : (Sl × (Int × Unit)) → World → Prop} {w : World} (h : flumeref02_Reader_Text p0 p1 Q w) : cl Tryd.prog n_flumeref02_Reader_Text #[.pointer p0, .int .i64 p1] (.tup (.pair .L (.pair (.I .i64) .nil))) w Q :=
  cl_tie Tryd.func62 flumeref02_Reader_Text.k (args := [Kd.av .P p0, Kd.av (.I .i64) p1]) (flumeref02_Reader_Text.t p0 p1 Q w) h
end Go.Proofs.YtmhibpcbdbhfoaaDoor
set_option linter.unusedVariables false
set_option maxHeartbeats 4000000
namespace Go.Proofs.YtmhibpcbdbhfoaaDoor
open Go.Fl
/-- (*flume/tunnel.Tunnel).made -/
def tunnel_Tunnel_made (p0 : Option Addr) (Q : Bool → World → Prop) (w : World) : Prop :=
 bif (!p0.isNone) then
 (nz p0 fun a1 => ld (.I .i64) w (a1.add 7) fun (x2 : Int) => Q (decide (x2 > 0)) w)
 else Q false w
theorem tunnel_Tunnel_made.t (p0 : Option Addr) (Q : Bool → World → Prop) (w : World) : tunnel_Tunnel_made p0 Q w = fvc Tryd.prog (fun _ => []) Tryd.f63 .B [Kd.av .P p0] w Q := by kernel_rfl
theorem tunnel_Tunnel_made.k : fnOk Tryd.prog Tryd.f63 = true := by kernel_rfl
theorem tunnel_Tunnel_made.cl {p0 : Option Addr} {Q : Bool → World → Prop} {w : World} (h : tunnel_Tunnel_made p0 Q w) : cl Tryd.prog n_tunnel_Tunnel_made #[.pointer p0] .B w Q :=
  cl_tie Tryd.func63 tunnel_Tunnel_made.k (args := [Kd.av .P p0]) (tunnel_Tunnel_made.t p0 Q w) h

/-- (*flume/tunnel.Tunnel).hello -/
def tunnel_Tunnel_hello (p0 : Option Addr) (p1 : y_api_Frame) (Q : Unit → World → Prop) (w : World) : Prop :=
 nw w ((Kd.av k_api_Frame p1).cells) t_api_Frame fun a1 w2 => ld (.I .i64) w2 (a1.add 2) fun (x3 : Int) => nz p0 fun a4 => ld (.I .i64) w2 (a4.add 7) fun (x5 : Int) => dr w2 fun w6 => bif (x3 != x5) then
 (ld (.I .i64) w6 (a1.add 1) fun (x7 : Int) => nz p0 fun a8 => ld (.I .i64) w6 (a8.add 8) fun (x9 : Int) => dr w6 fun w10 => bif (decide (x7 ≥ x9)) then
  (ld (.I .i64) w10 (a1.add 1) fun (x11 : Int) => cl Tryd.prog n_tunnel_Tunnel_say #[.pointer p0, (Kd.av k_api_Frame (1, (0, (x11, (0, (0, (0, (⟨none, 0, 0⟩, ())))))))).val] (.tup .nil) w10 fun (x12 : Unit) w13 => Q () w13)
  else Q () w10)
 else let j1 := (fun (y28 : Bool) (w29 : World) =>
   bif y28 then
 (ld (.I .i64) w29 (a1.add 1) fun (x30 : Int) => cl Tryd.prog n_tunnel_Tunnel_begin #[.pointer p0, .int .i64 x30] (.tup .nil) w29 fun (x31 : Unit) w32 => Q () w32)
 else ld (.I .i64) w29 (a1.add 1) fun (x33 : Int) => nz p0 fun a34 => ld (.I .i64) w29 (a34.add 8) fun (x35 : Int) => dr w29 fun w36 => bif (x33 == x35) then
 (nz p0 fun a37 => st1 w36 (a37.add 1) (.int .i64 0) fun w38 => Q () w38)
 else Q () w36);
 ld (.I .i64) w6 (a1.add 1) fun (x14 : Int) => nz p0 fun a15 => ld (.I .i64) w6 (a15.add 8) fun (x16 : Int) => bif (decide (x14 > x16)) then (dr w6 fun w17 => j1 true w17) else ld (.I .i64) w6 (a1.add 1) fun (x18 : Int) => nz p0 fun a19 => ld (.I .i64) w6 (a19.add 8) fun (x20 : Int) => bif (x18 == x20) then (nz p0 fun a21 => ld .B w6 a21 fun (x22 : Bool) => dr w6 fun w23 => j1 (!x22) w23) else dr w6 fun w24 => j1 false w24
theorem tunnel_Tunnel_hello.t (p0 : Option Addr) (p1 : y_api_Frame) (Q : Unit → World → Prop) (w : World) : tunnel_Tunnel_hello p0 p1 Q w = fvc Tryd.prog (fun _ => []) Tryd.f64 (.tup .nil) [Kd.av .P p0, Kd.av k_api_Frame p1] w Q := by kernel_rfl
theorem tunnel_Tunnel_hello.k : fnOk Tryd.prog Tryd.f64 = true := by kernel_rfl
theorem tunnel_Tunnel_hello.cl {p0 : Option Addr} {p1 : y_api_Frame} {Q : Unit → World → Prop} {w : World} (h : tunnel_Tunnel_hello p0 p1 Q w) : cl Tryd.prog n_tunnel_Tunnel_hello #[.pointer p0, (Kd.av k_api_Frame p1).val] (.tup .nil) w Q :=
  cl_tie Tryd.func64 tunnel_Tunnel_hello.k (args := [Kd.av .P p0, Kd.av k_api_Frame p1]) (tunnel_Tunnel_hello.t p0 p1 Q w) h

/-- (*flume/tunnel.Tunnel).say -/
def tunnel_Tunnel_say (p0 : Option Addr) (p1 : y_api_Frame) (Q : Unit → World → Prop) (w : World) : Prop :=
 nw w ((Kd.av k_api_Frame p1).cells) t_api_Frame fun a1 w2 => nz p0 fun a3 => ld (.I .i64) w2 (a3.add 7) fun (x4 : Int) => st1 w2 (a1.add 1) (.int .i64 x4) fun w5 => ld k_api_Frame w5 a1 fun (x6 : y_api_Frame) => cl Tryd.prog n_tunnel_Put #[(Kd.av k_api_Frame x6).val] (.tup (.pair .L (.pair (.I .i64) .nil))) w5 fun (x7 : (Sl × (Int × Unit))) w8 => nz p0 fun a9 => ld .L w8 (a9.add 11) fun (x10 : Sl) => nw w8 [.slice x7.1.a x7.1.n x7.1.c] t_s_uint8 fun a11 w12 => app Tryd.prog t_s_s_uint8 t_s_s_uint8 x10 ⟨(some a11), 1, 1⟩ w12 fun r13 w14 => nz p0 fun a15 => st1 w14 (a15.add 11) (.slice r13.a r13.n r13.c) fun w16 => Q () w16
theorem tunnel_Tunnel_say.t (p0 : Option Addr) (p1 : y_api_Frame) (Q : Unit → World → Prop) (w : World) : tunnel_Tunnel_say p0 p1 Q w = fvc Tryd.prog (fun _ => []) Tryd.f65 (.tup .nil) [Kd.av .P p0, Kd.av k_api_Frame p1] w Q := by kernel_rfl
theorem tunnel_Tunnel_say.k : fnOk Tryd.prog Tryd.f65 = true := by kernel_rfl
theorem tunnel_Tunnel_say.cl {p0 : Option Addr} {p1 : y_api_Frame} {Q : Unit → World → Prop} {w : World} (h : tunnel_Tunnel_say p0 p1 Q w) : cl Tryd.prog n_tunnel_Tunnel_say #[.pointer p0, (Kd.av k_api_Frame p1).val] (.tup .nil) w Q :=
  cl_tie Tryd.func65 tunnel_Tunnel_say.k (args := [Kd.av .P p0, Kd.av k_api_Frame p1]) (tunnel_Tunnel_say.t p0 p1 Q w) h

/-- (*flume/tunnel.Tunnel).ack -/
def tunnel_Tunnel_ack (p0 : Option Addr) (p1 : y_api_Frame) (Q : Unit → World → Prop) (w : World) : Prop :=
 nw w ((Kd.av k_api_Frame p1).cells) t_api_Frame fun a1 w2 => nz p0 fun a3 => ld .L w2 (a3.add 3) fun (x4 : Sl) => cl Tryd.prog n_slices_Clone_tunnel_sent_tunnel_sent #[.slice x4.a x4.n x4.c] .L w2 fun (x5 : Sl) w6 => cl Tryd.prog n_slices_DeleteFunc_tunnel_sent_tunnel_sent #[.slice x5.a x5.n x5.c, (.func (.func n_tunnel_Tunnel_ack_1) #[] #[.pointer (some a1)])] .L w6 fun (x7 : Sl) w8 => nz p0 fun a9 => st1 w8 (a9.add 3) (.slice x7.a x7.n x7.c) fun w10 => cl Tryd.prog n_tunnel_Tunnel_slide #[.pointer p0] (.tup .nil) w10 fun (x11 : Unit) w12 => Q () w12
theorem tunnel_Tunnel_ack.t (p0 : Option Addr) (p1 : y_api_Frame) (Q : Unit → World → Prop) (w : World) : tunnel_Tunnel_ack p0 p1 Q w = fvc Tryd.prog (fun _ => []) Tryd.f66 (.tup .nil) [Kd.av .P p0, Kd.av k_api_Frame p1] w Q := by kernel_rfl
theorem tunnel_Tunnel_ack.k : fnOk Tryd.prog Tryd.f66 = true := by kernel_rfl
theorem tunnel_Tunnel_ack.cl {p0 : Option Addr} {p1 : y_api_Frame} {Q : Unit → World → Prop} {w : World} (h : tunnel_Tunnel_ack p0 p1 Q w) : cl Tryd.prog n_tunnel_Tunnel_ack #[.pointer p0, (Kd.av k_api_Frame p1).val] (.tup .nil) w Q :=
  cl_tie Tryd.func66 tunnel_Tunnel_ack.k (args := [Kd.av .P p0, Kd.av k_api_Frame p1]) (tunnel_Tunnel_ack.t p0 p1 Q w) h

/-- (*flume/tunnel.Tunnel).data -/
def an_tunnel_Tunnel_data : Nat → LA
  | 4 => [(5, .L)] | 11 => [(8, (.I .i64)), (81, (.I .i64))] | 1000003 => [(0, .nil)] | 1000006 => [(0, .nil)] | 1000017 => [(0, .nil)] | _ => []
def tunnel_Tunnel_data (p0 : Option Addr) (p1 : y_api_Frame) (Q : Sl → World → Prop) (w : World) : Prop :=
 nw w ((Kd.av k_api_Frame p1).cells) t_api_Frame fun a1 w2 => let j2 := (fun  (w67 : World) =>
   lp (α := (Sl × Unit)) (fun K => K (⟨none, 0, 0⟩, ())) w67 fun D70 J71 s68 w69 =>
 nz p0 fun a72 => ld .M w69 (a72.add 6) fun (x73 : Option Nat) => nz p0 fun a74 => ld (.I .i64) w69 (a74.add 5) fun (x75 : Int) => qn Tryd.prog (Instr.lookup t_map_int_s_uint8 (.map x73) (.int .i64 (IntKind.i64.wrap (x75 + 1))) true) (.tup (.pair .L (.pair .B .nil))) w69 fun (x76 : (Sl × (Bool × Unit))) => dr w69 fun w77 => bif (!x76.2.1) then
  (lp (α := (Int × (Int × Unit))) (fun K => K (0, (0, ()))) w77 fun D95 J96 s93 w94 =>
 bif (decide (s93.2.1 < 16)) then
  (nz p0 fun a97 => ld .M w94 (a97.add 6) fun (x98 : Option Nat) => nz p0 fun a99 => ld (.I .i64) w94 (a99.add 5) fun (x100 : Int) => qn Tryd.prog (Instr.lookup t_map_int_s_uint8 (.map x98) (.int .i64 (IntKind.i64.wrap ((IntKind.i64.wrap (x100 + 1)) + s93.2.1))) true) (.tup (.pair .L (.pair .B .nil))) w94 fun (x101 : (Sl × (Bool × Unit))) => dr w94 fun w102 => bif x101.2.1 then
  (bif decide (0 ≤ s93.2.1) then (J96 ((bits .or .i64 s93.1 (IntKind.i64.wrap (1 * 2 ^ (min (Int.toNat s93.2.1) 64)))), ((IntKind.i64.wrap (s93.2.1 + 1)), ())) w102) else False)
  else J96 (s93.1, ((IntKind.i64.wrap (s93.2.1 + 1)), ())) w102)
  else dr w94 fun w103 => nz p0 fun a104 => ld (.I .i64) w103 (a104.add 8) fun (x105 : Int) => nz p0 fun a106 => ld (.I .i64) w103 (a106.add 5) fun (x107 : Int) => cl Tryd.prog n_tunnel_Tunnel_say #[.pointer p0, (Kd.av k_api_Frame (3, (0, (x105, (0, (x107, (s93.1, (⟨none, 0, 0⟩, ())))))))).val] (.tup .nil) w103 fun (x108 : Unit) w109 => Q s68.1 w109)
  else dr w77 fun w78 => nz p0 fun a79 => ld .M w78 (a79.add 6) fun (x80 : Option Nat) => nz p0 fun a81 => ld (.I .i64) w78 (a81.add 5) fun (x82 : Int) => rn Tryd.prog (Builtin.delete_ #[t_map_int_s_uint8, t_int] t_ #[.map x80, .int .i64 (IntKind.i64.wrap (x82 + 1))]) (.tup .nil) w78 fun (x83 : Unit) w84 => nz p0 fun a85 => ld (.I .i64) w84 (a85.add 5) fun (x86 : Int) => nz p0 fun a87 => st1 w84 (a87.add 5) (.int .i64 (IntKind.i64.wrap (x86 + 1))) fun w88 => nw w88 [.slice x76.1.a x76.1.n x76.1.c] t_s_uint8 fun a89 w90 => app Tryd.prog t_s_s_uint8 t_s_s_uint8 s68.1 ⟨(some a89), 1, 1⟩ w90 fun r91 w92 => J71 (r91, ()) w92);
 let j1 := (fun (y17 : Bool) (w18 : World) =>
   bif y17 then
 (dr w18 fun w19 => nz p0 fun a20 => ld .M w19 (a20.add 6) fun (x21 : Option Nat) => ld (.I .i64) w19 (a1.add 3) fun (x22 : Int) => ld .L w19 (a1.add 6) fun (x23 : Sl) => ru Tryd.prog (Instr.mapUpdate t_map_int_s_uint8 (.map x21) (.int .i64 x22) (.slice x23.a x23.n x23.c)) w19 fun w24 => j2 w24)
 else j2 w18);
 ld (.I .i64) w2 (a1.add 3) fun (x3 : Int) => nz p0 fun a4 => ld (.I .i64) w2 (a4.add 5) fun (x5 : Int) => bif (decide (x3 > x5)) then (ld (.I .i64) w2 (a1.add 3) fun (x6 : Int) => nz p0 fun a7 => ld (.I .i64) w2 (a7.add 5) fun (x8 : Int) => dr w2 fun w9 => j1 (decide ((IntKind.i64.wrap (x6 - x8)) ≤ 16)) w9) else dr w2 fun w10 => j1 false w10
theorem tunnel_Tunnel_data.t (p0 : Option Addr) (p1 : y_api_Frame) (Q : Sl → World → Prop) (w : World) : tunnel_Tunnel_data p0 p1 Q w = fvc Tryd.prog an_tunnel_Tunnel_data Tryd.f67 .L [Kd.av .P p0, Kd.av k_api_Frame p1] w Q := by kernel_rfl
theorem tunnel_Tunnel_data.k : fnOk Tryd.prog Tryd.f67 = true := by kernel_rfl
theorem tunnel_Tunnel_data.cl {p0 : Option Addr} {p1 : y_api_Frame} {Q : Sl → World → Prop} {w : World} (h : tunnel_Tunnel_data p0 p1 Q w) : cl Tryd.prog n_tunnel_Tunnel_data #[.pointer p0, (Kd.av k_api_Frame p1).val] .L w Q :=
  cl_tie Tryd.func67 tunnel_Tunnel_data.k (args := [Kd.av .P p0, Kd.av k_api_Frame p1]) (tunnel_Tunnel_data.t p0 p1 Q w) h

/-- (*flume/tunnel.Tunnel).end -/
def tunnel_Tunnel_end (p0 : Option Addr) (Q : Unit → World → Prop) (w : World) : Prop :=
 nz p0 fun a1 => st w a1 (Kd.av k_tunnel_session (false, (0, (0, (⟨none, 0, 0⟩, (⟨none, 0, 0⟩, (0, (none, ())))))))) fun w2 => nz p0 fun a3 => ld (.I .i64) w2 (a3.add 7) fun (x4 : Int) => nz p0 fun a5 => st1 w2 (a5.add 7) (.int .i64 (min (IntKind.i64.wrap (x4 + 1)) 1099511627776)) fun w6 => nz p0 fun a7 => ld (.I .i64) w6 (a7.add 9) fun (x8 : Int) => nz p0 fun a9 => st1 w6 (a9.add 9) (.int .i64 (IntKind.i64.wrap (x8 + 1))) fun w10 => Q () w10
theorem tunnel_Tunnel_end.t (p0 : Option Addr) (Q : Unit → World → Prop) (w : World) : tunnel_Tunnel_end p0 Q w = fvc Tryd.prog (fun _ => []) Tryd.f68 (.tup .nil) [Kd.av .P p0] w Q := by kernel_rfl
theorem tunnel_Tunnel_end.k : fnOk Tryd.prog Tryd.f68 = true := by kernel_rfl
theorem tunnel_Tunnel_end.cl {p0 : Option Addr} {Q : Unit → World → Prop} {w : World} (h : tunnel_Tunnel_end p0 Q w) : cl Tryd.prog n_tunnel_Tunnel_end #[.pointer p0] (.tup .nil) w Q :=
  cl_tie Tryd.func68 tunnel_Tunnel_end.k (args := [Kd.av .P p0]) (tunnel_Tunnel_end.t p0 Q w) h

/-- slices.Clone[[]flume/tunnel.sent,flume/tunnel.sent] -/
def slices_Clone_tunnel_sent_tunnel_sent (p0 : Sl) (Q : Sl → World → Prop) (w : World) : Prop :=
 bif p0.a.isNone then
 (Q ⟨none, 0, 0⟩ w)
 else nw w [] t_tunnel_sent fun a1 w2 => app Tryd.prog t_s_tunnel_sent t_s_tunnel_sent ⟨(some a1), 0, 0⟩ p0 w2 fun r3 w4 => Q r3 w4
theorem slices_Clone_tunnel_sent_tunnel_sent.t (p0 : Sl) (Q : Sl → World → Prop) (w : World) : slices_Clone_tunnel_sent_tunnel_sent p0 Q w = fvc Tryd.prog (fun _ => []) Tryd.f69 .L [Kd.av .L p0] w Q := by kernel_rfl
theorem slices_Clone_tunnel_sent_tunnel_sent.k : fnOk Tryd.prog Tryd.f69 = true := by kernel_rfl
theorem slices_Clone_tunnel_sent_tunnel_sent.cl {p0 : Sl} {Q : Sl → World → Prop} {w : World} (h : slices_Clone_tunnel_sent_tunnel_sent p0 Q w) : cl Tryd.prog n_slices_Clone_tunnel_sent_tunnel_sent #[.slice p0.a p0.n p0.c] .L w Q :=
  cl_tie Tryd.func69 slices_Clone_tunnel_sent_tunnel_sent.k (args := [Kd.av .L p0]) (slices_Clone_tunnel_sent_tunnel_sent.t p0 Q w) h

/-- slices.Clone[[][]byte,[]byte] -/
def slices_Clone_rows_byte_byte (p0 : Sl) (Q : Sl → World → Prop) (w : World) : Prop :=
 bif p0.a.isNone then
 (Q ⟨none, 0, 0⟩ w)
 else nw w [] t_s_uint8 fun a1 w2 => app Tryd.prog t_s_s_uint8 t_s_s_uint8 ⟨(some a1), 0, 0⟩ p0 w2 fun r3 w4 => Q r3 w4
theorem slices_Clone_rows_byte_byte.t (p0 : Sl) (Q : Sl → World → Prop) (w : World) : slices_Clone_rows_byte_byte p0 Q w = fvc Tryd.prog (fun _ => []) Tryd.f70 .L [Kd.av .L p0] w Q := by kernel_rfl
theorem slices_Clone_rows_byte_byte.k : fnOk Tryd.prog Tryd.f70 = true := by kernel_rfl
theorem slices_Clone_rows_byte_byte.cl {p0 : Sl} {Q : Sl → World → Prop} {w : World} (h : slices_Clone_rows_byte_byte p0 Q w) : cl Tryd.prog n_slices_Clone_rows_byte_byte #[.slice p0.a p0.n p0.c] .L w Q :=
  cl_tie Tryd.func70 slices_Clone_rows_byte_byte.k (args := [Kd.av .L p0]) (slices_Clone_rows_byte_byte.t p0 Q w) h

/-- (*flume/tunnel.Tunnel).slide -/
def an_tunnel_Tunnel_slide : Nat → LA
  | 0 => [] | 1000002 => [(0, .nil)] | 1000003 => [(0, .nil)] | _ => []
def tunnel_Tunnel_slide (p0 : Option Addr) (Q : Unit → World → Prop) (w : World) : Prop :=
 lp (α := Unit) (fun K => K ()) w fun D3 J4 s1 w2 =>
 let j2 := (fun  (w84 : World) =>
    nz p0 fun a85 => ld (.I .i64) w84 (a85.add 2) fun (x86 : Int) => nz p0 fun a87 => st1 w84 (a87.add 2) (.int .i64 (IntKind.i64.wrap (x86 + 1))) fun w88 => let j3 := (fun  (w132 : World) =>
    dr w132 fun w133 => nz p0 fun a134 => ld (.I .i64) w133 (a134.add 8) fun (x135 : Int) => nz p0 fun a136 => ld (.I .i64) w133 (a136.add 2) fun (x137 : Int) => nz p0 fun a138 => ld .L w133 (a138.add 4) fun (x139 : Sl) => ixa x139.a x139.n 0 1 fun a140 => ld .L w133 a140 fun (x141 : Sl) => cl Tryd.prog n_tunnel_Tunnel_say #[.pointer p0, (Kd.av k_api_Frame (2, (0, (x135, (x137, (0, (0, (x141, ())))))))).val] (.tup .nil) w133 fun (x142 : Unit) w143 => nz p0 fun a144 => ld .L w143 (a144.add 4) fun (x145 : Sl) => sls x145 1 x145.n 1 fun r146 => cl Tryd.prog n_slices_Clone_rows_byte_byte #[.slice r146.a r146.n r146.c] .L w143 fun (x147 : Sl) w148 => nz p0 fun a149 => st1 w148 (a149.add 4) (.slice x147.a x147.n x147.c) fun w150 => J4 () w150);
  dr w88 fun w89 => nz p0 fun a90 => ld .L w89 (a90.add 3) fun (x91 : Sl) => nz p0 fun a92 => ld (.I .i64) w89 (a92.add 2) fun (x93 : Int) => nz p0 fun a94 => ld .L w89 (a94.add 4) fun (x95 : Sl) => ixa x95.a x95.n 0 1 fun a96 => ld .L w89 a96 fun (x97 : Sl) => (cl Tryd.prog n_slices_Clone_tunnel_sent_tunnel_sent #[.slice x91.a x91.n x91.c] .L w89 fun (x98 : Sl) w99 => Fr w89 w99 ∧ nw w99 [.int .i64 x93, .slice x97.a x97.n x97.c, .int .i64 0] t_tunnel_sent fun a100 w101 => Fr w99 w101 ∧ app Tryd.prog t_s_tunnel_sent t_s_tunnel_sent x98 ⟨(some a100), 1, 1⟩ w101 fun r102 w103 => nz p0 fun a104 => st1 w103 (a104.add 3) (.slice r102.a r102.n r102.c) fun w105 => j3 w105) ∧ (nw w89 [.int .i64 x93, .slice x97.a x97.n x97.c, .int .i64 0] t_tunnel_sent fun a106 w107 => Fr w89 w107 ∧ cl Tryd.prog n_slices_Clone_tunnel_sent_tunnel_sent #[.slice x91.a x91.n x91.c] .L w107 fun (x108 : Sl) w109 => Fr w107 w109 ∧ app Tryd.prog t_s_tunnel_sent t_s_tunnel_sent x108 ⟨(some a106), 1, 1⟩ w109 fun r110 w111 => nz p0 fun a112 => st1 w111 (a112.add 3) (.slice r110.a r110.n r110.c) fun w113 => j3 w113));
  nz p0 fun a5 => ld .L w2 (a5.add 4) fun (x6 : Sl) => bif (decide ((x6.n : Int) > 0)) then (nz p0 fun a7 => ld .L w2 (a7.add 3) fun (x8 : Sl) => bif ((x8.n : Int) == 0) then (dr w2 fun w9 => j2 w9) else nz p0 fun a10 => ld (.I .i64) w2 (a10.add 2) fun (x11 : Int) => nz p0 fun a12 => ld .L w2 (a12.add 3) fun (x13 : Sl) => ixa x13.a x13.n 0 3 fun a14 => ld (.I .i64) w2 a14 fun (x15 : Int) => dr w2 fun w16 => bif (decide ((IntKind.i64.wrap ((IntKind.i64.wrap (x11 + 1)) - x15)) < 16)) then
  (j2 w16)
  else Q () w16) else dr w2 fun w17 => Q () w17
theorem tunnel_Tunnel_slide.t (p0 : Option Addr) (Q : Unit → World → Prop) (w : World) : tunnel_Tunnel_slide p0 Q w = fvc Tryd.prog an_tunnel_Tunnel_slide Tryd.f71 (.tup .nil) [Kd.av .P p0] w Q := by kernel_rfl
theorem tunnel_Tunnel_slide.k : fnOk Tryd.prog Tryd.f71 = true := by kernel_rfl
theorem tunnel_Tunnel_slide.cl {p0 : Option Addr} {Q : Unit → World → Prop} {w : World} (h : tunnel_Tunnel_slide p0 Q w) : cl Tryd.prog n_tunnel_Tunnel_slide #[.pointer p0] (.tup .nil) w Q :=
  cl_tie Tryd.func71 tunnel_Tunnel_slide.k (args := [Kd.av .P p0]) (tunnel_Tunnel_slide.t p0 Q w) h

/-- (*flume/flumeref12.Tunnel).hello -/
def flumeref12_Tunnel_hello (p0 : Option Addr) (p1 : Int) (Q : Unit → World → Prop) (w : World) : Prop :=
 nw w ((Kd.av k_api_Frame z_api_Frame).cells) t_api_Frame fun a1 w2 => st w2 a1 (Kd.av k_api_Frame (1, (0, (0, (0, (0, (0, (⟨none, 0, 0⟩, ())))))))) fun w3 => st1 w3 (a1.add 2) (.int .i64 p1) fun w4 => ld k_api_Frame w4 a1 fun (x5 : y_api_Frame) => cl Tryd.prog n_flumeref12_Tunnel_say #[.pointer p0, (Kd.av k_api_Frame x5).val] (.tup .nil) w4 fun (x6 : Unit) w7 => Q () w7
theorem flumeref12_Tunnel_hello.t (p0 : Option Addr) (p1 : Int) (Q : Unit → World → Prop) (w : World) : flumeref12_Tunnel_hello p0 p1 Q w = fvc Tryd.prog (fun _ => []) Tryd.f72 (.tup .nil) [Kd.av .P p0, Kd.av (.I .i64) p1] w Q := by kernel_rfl
theorem flumeref12_Tunnel_hello.k : fnOk Tryd.prog Tryd.f72 = true := by kernel_rfl
theorem flumeref12_Tunnel_hello.cl {p0 : Option Addr} {p1 : Int} {Q : Unit → World → Prop} {w : World} (h : flumeref12_Tunnel_hello p0 p1 Q w) : cl Tryd.prog n_flumeref12_Tunnel_hello #[.pointer p0, .int .i64 p1] (.tup .nil) w Q :=
  cl_tie Tryd.func72 flumeref12_Tunnel_hello.k (args := [Kd.av .P p0, Kd.av (.I .i64) p1]) (flumeref12_Tunnel_hello.t p0 p1 Q w) h

/-- (*flume/flumeref12.Tunnel).clear -/
def flumeref12_Tunnel_clear (p0 : Option Addr) (Q : Unit → World → Prop) (w : World) : Prop :=
 nz p0 fun a1 => st1 w (a1.add 4) (.bool false) fun w2 => nz p0 fun a3 => st1 w2 (a3.add 5) (.int .i64 0) fun w4 => nz p0 fun a5 => st1 w4 (a5.add 6) (.int .i64 0) fun w6 => nz p0 fun a7 => st1 w6 (a7.add 7) (.int .i64 0) fun w8 => nz p0 fun a9 => st1 w8 (a9.add 8) (.slice none 0 0) fun w10 => nz p0 fun a11 => st1 w10 (a11.add 9) (.slice none 0 0) fun w12 => nz p0 fun a13 => st1 w12 (a13.add 10) (.slice none 0 0) fun w14 => Q () w14
theorem flumeref12_Tunnel_clear.t (p0 : Option Addr) (Q : Unit → World → Prop) (w : World) : flumeref12_Tunnel_clear p0 Q w = fvc Tryd.prog (fun _ => []) Tryd.f73 (.tup .nil) [Kd.av .P p0] w Q := by kernel_rfl
theorem flumeref12_Tunnel_clear.k : fnOk Tryd.prog Tryd.f73 = true := by kernel_rfl
theorem flumeref12_Tunnel_clear.cl {p0 : Option Addr} {Q : Unit → World → Prop} {w : World} (h : flumeref12_Tunnel_clear p0 Q w) : cl Tryd.prog n_flumeref12_Tunnel_clear #[.pointer p0] (.tup .nil) w Q :=
  cl_tie Tryd.func73 flumeref12_Tunnel_clear.k (args := [Kd.av .P p0]) (flumeref12_Tunnel_clear.t p0 Q w) h
end Go.Proofs.YtmhibpcbdbhfoaaDoor
set_option linter.unusedVariables false
set_option maxHeartbeats 4000000
namespace Go.Proofs.YtmhibpcbdbhfoaaDoor
open Go.Fl
/-- (*flume/flumeref12.Tunnel).ack -/
def an_flumeref12_Tunnel_ack : Nat → LA
  | 3 => [(4, .L), (13, (.I .i64))] | _ => []
def flumeref12_Tunnel_ack (p0 : Option Addr) (p1 : y_api_Frame) (Q : Unit → World → Prop) (w : World) : Prop :=
 nw w ((Kd.av k_api_Frame p1).cells) t_api_Frame fun a1 w2 => nz p0 fun a3 => ld .L w2 (a3.add 8) fun (x4 : Sl) => lp (α := (Sl × (Int × Unit))) (fun K => K (⟨none, 0, 0⟩, (0, ()))) w2 fun D7 J8 s5 w6 =>
 bif (decide (s5.2.1 < (x4.n : Int))) then
  (ixa x4.a x4.n s5.2.1 3 fun a9 => ld k_tunnel_sent w6 a9 fun (x10 : y_tunnel_sent) => nw w6 ((Kd.av k_tunnel_sent z_tunnel_sent).cells) t_flumeref12_Way fun a11 w12 => st w12 a11 (Kd.av k_tunnel_sent x10) fun w13 => ld (.I .i64) w13 a11 fun (x14 : Int) => ld (.I .i64) w13 (a1.add 4) fun (x15 : Int) => let j1 := (fun  (w22 : World) =>
    ld k_tunnel_sent w22 a11 fun (x23 : y_tunnel_sent) => nw w22 [.int .i64 x23.1, .slice x23.2.1.a x23.2.1.n x23.2.1.c, .int .i64 x23.2.2.1] t_flumeref12_Way fun a24 w25 => app Tryd.prog t_s_flumeref12_Way t_s_flumeref12_Way s5.1 ⟨(some a24), 1, 1⟩ w25 fun r26 w27 => J8 (r26, ((IntKind.i64.wrap (s5.2.1 + 1)), ())) w27);
  bif (decide ((IntKind.i64.wrap ((IntKind.i64.wrap (x14 - x15)) - 1)) < 0)) then
  (J8 (s5.1, ((IntKind.i64.wrap (s5.2.1 + 1)), ())) w13)
  else bif (decide ((IntKind.i64.wrap ((IntKind.i64.wrap (x14 - x15)) - 1)) < 16)) then
  (ld (.I .i64) w13 (a1.add 5) fun (x16 : Int) => bif decide (0 ≤ (IntKind.u64.wrap (IntKind.i64.wrap ((IntKind.i64.wrap (x14 - x15)) - 1)))) then (bif ((Int.tmod (x16 / 2 ^ (min (Int.toNat (IntKind.u64.wrap (IntKind.i64.wrap ((IntKind.i64.wrap (x14 - x15)) - 1)))) 64)) 2) == 1) then
  (J8 (s5.1, ((IntKind.i64.wrap (s5.2.1 + 1)), ())) w13)
  else j1 w13) else False)
  else j1 w13)
  else nz p0 fun a28 => st1 w6 (a28.add 8) (.slice s5.1.a s5.1.n s5.1.c) fun w29 => cl Tryd.prog n_flumeref12_Tunnel_slide #[.pointer p0] (.tup .nil) w29 fun (x30 : Unit) w31 => Q () w31
theorem flumeref12_Tunnel_ack.t (p0 : Option Addr) (p1 : y_api_Frame) (Q : Unit → World → Prop) (w : World) : flumeref12_Tunnel_ack p0 p1 Q w = fvc Tryd.prog an_flumeref12_Tunnel_ack Tryd.f74 (.tup .nil) [Kd.av .P p0, Kd.av k_api_Frame p1] w Q := by kernel_rfl
theorem flumeref12_Tunnel_ack.k : fnOk Tryd.prog Tryd.f74 = true := by kernel_rfl
theorem flumeref12_Tunnel_ack.cl {p0 : Option Addr} {p1 : y_api_Frame} {Q : Unit → World → Prop} {w : World} (h : flumeref12_Tunnel_ack p0 p1 Q w) : cl Tryd.prog n_flumeref12_Tunnel_ack #[.pointer p0, (Kd.av k_api_Frame p1).val] (.tup .nil) w Q :=
  cl_tie Tryd.func74 flumeref12_Tunnel_ack.k (args := [Kd.av .P p0, Kd.av k_api_Frame p1]) (flumeref12_Tunnel_ack.t p0 p1 Q w) h

/-- (*flume/flumeref12.Tunnel).data -/
def an_flumeref12_Tunnel_data : Nat → LA
  | 7 => [(67, (.I .i64))] | 15 => [(9, .L), (89, (.I .i64))] | 25 => [(13, (.I .i64)), (125, (.I .i64))] | 1000004 => [(0, .nil)] | _ => []
def flumeref12_Tunnel_data (p0 : Option Addr) (p1 : y_api_Frame) (Q : Sl → World → Prop) (w : World) : Prop :=
 nw w ((Kd.av k_api_Frame p1).cells) t_api_Frame fun a1 w2 => let j3 := (fun  (w183 : World) =>
   let j4 := (fun (y221 : Sl) (w222 : World) =>
   nz p0 fun a223 => ld (.I .i64) w222 (a223.add 7) fun (x224 : Int) => nw w222 ((Kd.av k_api_Frame z_api_Frame).cells) t_api_Frame fun a225 w226 => st w226 a225 (Kd.av k_api_Frame (3, (0, (0, (0, (x224, (0, (⟨none, 0, 0⟩, ())))))))) fun w227 => nz p0 fun a228 => ld (.I .i64) w227 (a228.add 1) fun (x229 : Int) => st1 w227 (a225.add 2) (.int .i64 x229) fun w230 => lp (α := (Int × (Int × Unit))) (fun K => K (1, (0, ()))) w230 fun D233 J234 s231 w232 =>
 bif (decide (s231.2.1 < 16)) then
  (nz p0 fun a235 => ld (.I .i64) w232 (a235.add 7) fun (x236 : Int) => cl Tryd.prog n_flumeref12_Tunnel_early #[.pointer p0, .int .i64 (IntKind.i64.wrap ((IntKind.i64.wrap (x236 + 1)) + s231.2.1))] (.tup (.pair .L (.pair .B .nil))) w232 fun (x237 : (Sl × (Bool × Unit))) w238 => bif x237.2.1 then
  (ld (.I .i64) w238 (a225.add 5) fun (x239 : Int) => st1 w238 (a225.add 5) (.int .i64 (IntKind.i64.wrap (x239 + s231.1))) fun w240 => J234 ((IntKind.i64.wrap (2 * s231.1)), ((IntKind.i64.wrap (s231.2.1 + 1)), ())) w240)
  else J234 ((IntKind.i64.wrap (2 * s231.1)), ((IntKind.i64.wrap (s231.2.1 + 1)), ())) w238)
  else ld k_api_Frame w232 a225 fun (x241 : y_api_Frame) => cl Tryd.prog n_flumeref12_Tunnel_say #[.pointer p0, (Kd.av k_api_Frame x241).val] (.tup .nil) w232 fun (x242 : Unit) w243 => Q y221 w243);
 lp (α := (Sl × (Int × Unit))) (fun K => K (⟨none, 0, 0⟩, (0, ()))) w183 fun D186 J187 s184 w185 =>
 bif (decide (s184.2.1 < 17)) then
  (nz p0 fun a188 => ld (.I .i64) w185 (a188.add 7) fun (x189 : Int) => cl Tryd.prog n_flumeref12_Tunnel_early #[.pointer p0, .int .i64 (IntKind.i64.wrap (x189 + 1))] (.tup (.pair .L (.pair .B .nil))) w185 fun (x190 : (Sl × (Bool × Unit))) w191 => bif (!x190.2.1) then
  (j4 s184.1 w191)
  else nz p0 fun a192 => ld (.I .i64) w191 (a192.add 7) fun (x193 : Int) => nz p0 fun a194 => st1 w191 (a194.add 7) (.int .i64 (IntKind.i64.wrap (x193 + 1))) fun w195 => nw w195 [.slice x190.1.a x190.1.n x190.1.c] t_s_uint8 fun a196 w197 => app Tryd.prog t_s_s_uint8 t_s_s_uint8 s184.1 ⟨(some a196), 1, 1⟩ w197 fun r198 w199 => J187 (r198, ((IntKind.i64.wrap (s184.2.1 + 1)), ())) w199)
  else j4 s184.1 w185);
 let j1 := (fun (y66 : Bool) (w67 : World) =>
   bif y66 then
 (ld (.I .i64) w67 (a1.add 3) fun (x68 : Int) => cl Tryd.prog n_flumeref12_Tunnel_early #[.pointer p0, .int .i64 x68] (.tup (.pair .L (.pair .B .nil))) w67 fun (x69 : (Sl × (Bool × Unit))) w70 => bif (!x69.2.1) then
  (dr w70 fun w71 => nz p0 fun a72 => ld .L w71 (a72.add 10) fun (x73 : Sl) => ld (.I .i64) w71 (a1.add 3) fun (x74 : Int) => ld .L w71 (a1.add 6) fun (x75 : Sl) => (nw w71 [] t_flumeref12_Early fun a76 w77 => Fr w71 w77 ∧ (app Tryd.prog t_s_flumeref12_Early t_s_flumeref12_Early ⟨(some a76), 0, 0⟩ x73 w77 fun r78 w79 => Fr w77 w79 ∧ nw w79 [.int .i64 x74, .slice x75.a x75.n x75.c] t_flumeref12_Early fun a80 w81 => Fr w79 w81 ∧ app Tryd.prog t_s_flumeref12_Early t_s_flumeref12_Early r78 ⟨(some a80), 1, 1⟩ w81 fun r82 w83 => nz p0 fun a84 => st1 w83 (a84.add 10) (.slice r82.a r82.n r82.c) fun w85 => j3 w85) ∧ (nw w77 [.int .i64 x74, .slice x75.a x75.n x75.c] t_flumeref12_Early fun a86 w87 => Fr w77 w87 ∧ app Tryd.prog t_s_flumeref12_Early t_s_flumeref12_Early ⟨(some a76), 0, 0⟩ x73 w87 fun r88 w89 => Fr w87 w89 ∧ app Tryd.prog t_s_flumeref12_Early t_s_flumeref12_Early r88 ⟨(some a86), 1, 1⟩ w89 fun r90 w91 => nz p0 fun a92 => st1 w91 (a92.add 10) (.slice r90.a r90.n r90.c) fun w93 => j3 w93)) ∧ (nw w71 [.int .i64 x74, .slice x75.a x75.n x75.c] t_flumeref12_Early fun a94 w95 => Fr w71 w95 ∧ nw w95 [] t_flumeref12_Early fun a96 w97 => Fr w95 w97 ∧ app Tryd.prog t_s_flumeref12_Early t_s_flumeref12_Early ⟨(some a96), 0, 0⟩ x73 w97 fun r98 w99 => Fr w97 w99 ∧ app Tryd.prog t_s_flumeref12_Early t_s_flumeref12_Early r98 ⟨(some a94), 1, 1⟩ w99 fun r100 w101 => nz p0 fun a102 => st1 w101 (a102.add 10) (.slice r100.a r100.n r100.c) fun w103 => j3 w103))
  else nw w70 [] t_flumeref12_Early fun a104 w105 => nz p0 fun a106 => ld .L w105 (a106.add 10) fun (x107 : Sl) => app Tryd.prog t_s_flumeref12_Early t_s_flumeref12_Early ⟨(some a104), 0, 0⟩ x107 w105 fun r108 w109 => lp (α := (Int × Unit)) (fun K => K (0, ())) w109 fun D112 J113 s110 w111 =>
  bif (decide (s110.1 < (r108.n : Int))) then
   (ixa r108.a r108.n s110.1 2 fun a114 => ld (.I .i64) w111 a114 fun (x115 : Int) => ld (.I .i64) w111 (a1.add 3) fun (x116 : Int) => dr w111 fun w117 => bif (x115 == x116) then
   (ld .L w117 (a1.add 6) fun (x118 : Sl) => ixa r108.a r108.n s110.1 2 fun a119 => st1 w117 (a119.add 1) (.slice x118.a x118.n x118.c) fun w120 => J113 ((IntKind.i64.wrap (s110.1 + 1)), ()) w120)
   else J113 ((IntKind.i64.wrap (s110.1 + 1)), ()) w117)
   else nz p0 fun a121 => st1 w111 (a121.add 10) (.slice r108.a r108.n r108.c) fun w122 => j3 w122)
 else j3 w67);
 ld (.I .i64) w2 (a1.add 3) fun (x3 : Int) => nz p0 fun a4 => ld (.I .i64) w2 (a4.add 7) fun (x5 : Int) => bif (decide (x3 > x5)) then (ld (.I .i64) w2 (a1.add 3) fun (x6 : Int) => nz p0 fun a7 => ld (.I .i64) w2 (a7.add 7) fun (x8 : Int) => dr w2 fun w9 => j1 (decide (x6 ≤ (IntKind.i64.wrap (x8 + 16)))) w9) else dr w2 fun w10 => j1 false w10
theorem flumeref12_Tunnel_data.t (p0 : Option Addr) (p1 : y_api_Frame) (Q : Sl → World → Prop) (w : World) : flumeref12_Tunnel_data p0 p1 Q w = fvc Tryd.prog an_flumeref12_Tunnel_data Tryd.f75 .L [Kd.av .P p0, Kd.av k_api_Frame p1] w Q := by kernel_rfl
theorem flumeref12_Tunnel_data.k : fnOk Tryd.prog Tryd.f75 = true := by kernel_rfl
theorem flumeref12_Tunnel_data.cl {p0 : Option Addr} {p1 : y_api_Frame} {Q : Sl → World → Prop} {w : World} (h : flumeref12_Tunnel_data p0 p1 Q w) : cl Tryd.prog n_flumeref12_Tunnel_data #[.pointer p0, (Kd.av k_api_Frame p1).val] .L w Q :=
  cl_tie Tryd.func75 flumeref12_Tunnel_data.k (args := [Kd.av .P p0, Kd.av k_api_Frame p1]) (flumeref12_Tunnel_data.t p0 p1 Q w) h

/-- (*flume/flumeref12.Tunnel).say -/
def flumeref12_Tunnel_say (p0 : Option Addr) (p1 : y_api_Frame) (Q : Unit → World → Prop) (w : World) : Prop :=
 nw w ((Kd.av k_api_Frame p1).cells) t_api_Frame fun a1 w2 => nz p0 fun a3 => ld (.I .i64) w2 a3 fun (x4 : Int) => st1 w2 (a1.add 1) (.int .i64 x4) fun w5 => ld k_api_Frame w5 a1 fun (x6 : y_api_Frame) => cl Tryd.prog n_flumeref12_Put #[(Kd.av k_api_Frame x6).val] (.tup (.pair .L (.pair (.I .i64) .nil))) w5 fun (x7 : (Sl × (Int × Unit))) w8 => nw w8 [] t_s_uint8 fun a9 w10 => nz p0 fun a11 => ld .L w10 (a11.add 11) fun (x12 : Sl) => app Tryd.prog t_s_s_uint8 t_s_s_uint8 ⟨(some a9), 0, 0⟩ x12 w10 fun r13 w14 => nw w14 [.slice x7.1.a x7.1.n x7.1.c] t_s_uint8 fun a15 w16 => app Tryd.prog t_s_s_uint8 t_s_s_uint8 r13 ⟨(some a15), 1, 1⟩ w16 fun r17 w18 => nz p0 fun a19 => st1 w18 (a19.add 11) (.slice r17.a r17.n r17.c) fun w20 => Q () w20
theorem flumeref12_Tunnel_say.t (p0 : Option Addr) (p1 : y_api_Frame) (Q : Unit → World → Prop) (w : World) : flumeref12_Tunnel_say p0 p1 Q w = fvc Tryd.prog (fun _ => []) Tryd.f76 (.tup .nil) [Kd.av .P p0, Kd.av k_api_Frame p1] w Q := by kernel_rfl
theorem flumeref12_Tunnel_say.k : fnOk Tryd.prog Tryd.f76 = true := by kernel_rfl
theorem flumeref12_Tunnel_say.cl {p0 : Option Addr} {p1 : y_api_Frame} {Q : Unit → World → Prop} {w : World} (h : flumeref12_Tunnel_say p0 p1 Q w) : cl Tryd.prog n_flumeref12_Tunnel_say #[.pointer p0, (Kd.av k_api_Frame p1).val] (.tup .nil) w Q :=
  cl_tie Tryd.func76 flumeref12_Tunnel_say.k (args := [Kd.av .P p0, Kd.av k_api_Frame p1]) (flumeref12_Tunnel_say.t p0 p1 Q w) h

/-- (*flume/flumeref12.Tunnel).Room -/
def flumeref12_Tunnel_Room (p0 : Option Addr) (Q : Int → World → Prop) (w : World) : Prop :=
 nz p0 fun a1 => ld .B w (a1.add 4) fun (x2 : Bool) => bif (!x2) then
 (Q 0 w)
 else cl Tryd.prog n_flumeref12_Tunnel_Waiting #[.pointer p0] (.I .i64) w fun (x3 : Int) w4 => Q (IntKind.i64.wrap (64 - x3)) w4
theorem flumeref12_Tunnel_Room.t (p0 : Option Addr) (Q : Int → World → Prop) (w : World) : flumeref12_Tunnel_Room p0 Q w = fvc Tryd.prog (fun _ => []) Tryd.f77 (.I .i64) [Kd.av .P p0] w Q := by kernel_rfl
theorem flumeref12_Tunnel_Room.k : fnOk Tryd.prog Tryd.f77 = true := by kernel_rfl
theorem flumeref12_Tunnel_Room.cl {p0 : Option Addr} {Q : Int → World → Prop} {w : World} (h : flumeref12_Tunnel_Room p0 Q w) : cl Tryd.prog n_flumeref12_Tunnel_Room #[.pointer p0] (.I .i64) w Q :=
  cl_tie Tryd.func77 flumeref12_Tunnel_Room.k (args := [Kd.av .P p0]) (flumeref12_Tunnel_Room.t p0 Q w) h

/-- (*flume/flumeref12.Tunnel).slide -/
def an_flumeref12_Tunnel_slide : Nat → LA
  | 0 => [] | 1000005 => [(0, .nil)] | _ => []
def flumeref12_Tunnel_slide (p0 : Option Addr) (Q : Unit → World → Prop) (w : World) : Prop :=
 lp (α := Unit) (fun K => K ()) w fun D3 J4 s1 w2 =>
 nz p0 fun a5 => ld .L w2 (a5.add 9) fun (x6 : Sl) => bif (decide ((x6.n : Int) > 0)) then
  (let j2 := (fun  (w86 : World) =>
    nz p0 fun a87 => ld (.I .i64) w86 (a87.add 6) fun (x88 : Int) => nz p0 fun a89 => st1 w86 (a89.add 6) (.int .i64 (IntKind.i64.wrap (x88 + 1))) fun w90 => nz p0 fun a91 => ld .L w90 (a91.add 9) fun (x92 : Sl) => ixa x92.a x92.n 0 1 fun a93 => ld .L w90 a93 fun (x94 : Sl) => nz p0 fun a95 => ld .L w90 (a95.add 9) fun (x96 : Sl) => sls x96 1 x96.n 1 fun r97 => nz p0 fun a98 => st1 w90 (a98.add 9) (.slice r97.a r97.n r97.c) fun w99 => let j3 := (fun  (w144 : World) =>
    nz p0 fun a145 => ld (.I .i64) w144 (a145.add 6) fun (x146 : Int) => nw w144 ((Kd.av k_api_Frame z_api_Frame).cells) t_api_Frame fun a147 w148 => st w148 a147 (Kd.av k_api_Frame (2, (0, (0, (x146, (0, (0, (x94, ())))))))) fun w149 => nz p0 fun a150 => ld (.I .i64) w149 (a150.add 1) fun (x151 : Int) => st1 w149 (a147.add 2) (.int .i64 x151) fun w152 => ld k_api_Frame w152 a147 fun (x153 : y_api_Frame) => cl Tryd.prog n_flumeref12_Tunnel_say #[.pointer p0, (Kd.av k_api_Frame x153).val] (.tup .nil) w152 fun (x154 : Unit) w155 => J4 () w155);
  dr w99 fun w100 => nz p0 fun a101 => ld .L w100 (a101.add 8) fun (x102 : Sl) => nz p0 fun a103 => ld (.I .i64) w100 (a103.add 6) fun (x104 : Int) => (nw w100 [] t_flumeref12_Way fun a105 w106 => Fr w100 w106 ∧ (app Tryd.prog t_s_flumeref12_Way t_s_flumeref12_Way ⟨(some a105), 0, 0⟩ x102 w106 fun r107 w108 => Fr w106 w108 ∧ nw w108 [.int .i64 x104, .slice x94.a x94.n x94.c, .int .i64 0] t_flumeref12_Way fun a109 w110 => Fr w108 w110 ∧ app Tryd.prog t_s_flumeref12_Way t_s_flumeref12_Way r107 ⟨(some a109), 1, 1⟩ w110 fun r111 w112 => nz p0 fun a113 => st1 w112 (a113.add 8) (.slice r111.a r111.n r111.c) fun w114 => j3 w114) ∧ (nw w106 [.int .i64 x104, .slice x94.a x94.n x94.c, .int .i64 0] t_flumeref12_Way fun a115 w116 => Fr w106 w116 ∧ app Tryd.prog t_s_flumeref12_Way t_s_flumeref12_Way ⟨(some a105), 0, 0⟩ x102 w116 fun r117 w118 => Fr w116 w118 ∧ app Tryd.prog t_s_flumeref12_Way t_s_flumeref12_Way r117 ⟨(some a115), 1, 1⟩ w118 fun r119 w120 => nz p0 fun a121 => st1 w120 (a121.add 8) (.slice r119.a r119.n r119.c) fun w122 => j3 w122)) ∧ (nw w100 [.int .i64 x104, .slice x94.a x94.n x94.c, .int .i64 0] t_flumeref12_Way fun a123 w124 => Fr w100 w124 ∧ nw w124 [] t_flumeref12_Way fun a125 w126 => Fr w124 w126 ∧ app Tryd.prog t_s_flumeref12_Way t_s_flumeref12_Way ⟨(some a125), 0, 0⟩ x102 w126 fun r127 w128 => Fr w126 w128 ∧ app Tryd.prog t_s_flumeref12_Way t_s_flumeref12_Way r127 ⟨(some a123), 1, 1⟩ w128 fun r129 w130 => nz p0 fun a131 => st1 w130 (a131.add 8) (.slice r129.a r129.n r129.c) fun w132 => j3 w132));
  nz p0 fun a7 => ld .L w2 (a7.add 8) fun (x8 : Sl) => bif (decide ((x8.n : Int) > 0)) then (nz p0 fun a9 => ld (.I .i64) w2 (a9.add 6) fun (x10 : Int) => nz p0 fun a11 => ld .L w2 (a11.add 8) fun (x12 : Sl) => ixa x12.a x12.n 0 3 fun a13 => ld (.I .i64) w2 a13 fun (x14 : Int) => dr w2 fun w15 => bif (decide ((IntKind.i64.wrap (x10 + 1)) ≥ (IntKind.i64.wrap (x14 + 16)))) then
  (Q () w15)
  else j2 w15) else dr w2 fun w16 => j2 w16)
  else Q () w2
theorem flumeref12_Tunnel_slide.t (p0 : Option Addr) (Q : Unit → World → Prop) (w : World) : flumeref12_Tunnel_slide p0 Q w = fvc Tryd.prog an_flumeref12_Tunnel_slide Tryd.f78 (.tup .nil) [Kd.av .P p0] w Q := by kernel_rfl
theorem flumeref12_Tunnel_slide.k : fnOk Tryd.prog Tryd.f78 = true := by kernel_rfl
theorem flumeref12_Tunnel_slide.cl {p0 : Option Addr} {Q : Unit → World → Prop} {w : World} (h : flumeref12_Tunnel_slide p0 Q w) : cl Tryd.prog n_flumeref12_Tunnel_slide #[.pointer p0] (.tup .nil) w Q :=
  cl_tie Tryd.func78 flumeref12_Tunnel_slide.k (args := [Kd.av .P p0]) (flumeref12_Tunnel_slide.t p0 Q w) h

/-- slices.EqualFunc[[][]byte,[][]byte,[]byte,[]byte] -/
def an_slices_EqualFunc_rows_byte_rows_byte_byte_byte : Nat → LA
  | 4 => [(17, (.I .i64))] | _ => []
def slices_EqualFunc_rows_byte_rows_byte_byte_byte (p0 : Sl) (p1 : Sl) (p2 : Value) (Q : Bool → World → Prop) (w : World) : Prop :=
 bif ((p0.n : Int) != (p1.n : Int)) then
 (Q false w)
 else lp (α := (Int × Unit)) (fun K => K (0, ())) w fun D3 J4 s1 w2 =>
 bif (decide (s1.1 < (p0.n : Int))) then
  (ixa p0.a p0.n s1.1 1 fun a5 => ld .L w2 a5 fun (x6 : Sl) => ixa p1.a p1.n s1.1 1 fun a7 => ld .L w2 a7 fun (x8 : Sl) => clv Tryd.prog (p2) #[.slice x6.a x6.n x6.c, .slice x8.a x8.n x8.c] .B w2 fun (x9 : Bool) w10 => bif (!x9) then
  (Q false w10)
  else J4 ((IntKind.i64.wrap (s1.1 + 1)), ()) w10)
  else Q true w2
theorem slices_EqualFunc_rows_byte_rows_byte_byte_byte.t (p0 : Sl) (p1 : Sl) (p2 : Value) (Q : Bool → World → Prop) (w : World) : slices_EqualFunc_rows_byte_rows_byte_byte_byte p0 p1 p2 Q w = fvc Tryd.prog an_slices_EqualFunc_rows_byte_rows_byte_byte_byte Tryd.f79 .B [Kd.av .L p0, Kd.av .L p1, Kd.av .U p2] w Q := by kernel_rfl
theorem slices_EqualFunc_rows_byte_rows_byte_byte_byte.k : fnOk Tryd.prog Tryd.f79 = true := by kernel_rfl
theorem slices_EqualFunc_rows_byte_rows_byte_byte_byte.cl {p0 : Sl} {p1 : Sl} {p2 : Value} {Q : Bool → World → Prop} {w : World} (h : slices_EqualFunc_rows_byte_rows_byte_byte_byte p0 p1 p2 Q w) : cl Tryd.prog n_slices_EqualFunc_rows_byte_rows_byte_byte_byte #[.slice p0.a p0.n p0.c, .slice p1.a p1.n p1.c, p2] .B w Q :=
  cl_tie Tryd.func79 slices_EqualFunc_rows_byte_rows_byte_byte_byte.k (args := [Kd.av .L p0, Kd.av .L p1, Kd.av .U p2]) (slices_EqualFunc_rows_byte_rows_byte_byte_byte.t p0 p1 p2 Q w) h

/-- (*flume/flumeref12.Tunnel).Waiting -/
def flumeref12_Tunnel_Waiting (p0 : Option Addr) (Q : Int → World → Prop) (w : World) : Prop :=
 nz p0 fun a1 => ld .L w (a1.add 8) fun (x2 : Sl) => nz p0 fun a3 => ld .L w (a3.add 9) fun (x4 : Sl) => dr w fun w5 => Q (IntKind.i64.wrap ((x2.n : Int) + (x4.n : Int))) w5
theorem flumeref12_Tunnel_Waiting.t (p0 : Option Addr) (Q : Int → World → Prop) (w : World) : flumeref12_Tunnel_Waiting p0 Q w = fvc Tryd.prog (fun _ => []) Tryd.f80 (.I .i64) [Kd.av .P p0] w Q := by kernel_rfl
theorem flumeref12_Tunnel_Waiting.k : fnOk Tryd.prog Tryd.f80 = true := by kernel_rfl
theorem flumeref12_Tunnel_Waiting.cl {p0 : Option Addr} {Q : Int → World → Prop} {w : World} (h : flumeref12_Tunnel_Waiting p0 Q w) : cl Tryd.prog n_flumeref12_Tunnel_Waiting #[.pointer p0] (.I .i64) w Q :=
  cl_tie Tryd.func80 flumeref12_Tunnel_Waiting.k (args := [Kd.av .P p0]) (flumeref12_Tunnel_Waiting.t p0 Q w) h

/-- (*flume/flumeref12.Tunnel).Out -/
def flumeref12_Tunnel_Out (p0 : Option Addr) (Q : Sl → World → Prop) (w : World) : Prop :=
 nz p0 fun a1 => ld .L w (a1.add 11) fun (x2 : Sl) => nz p0 fun a3 => st1 w (a3.add 11) (.slice none 0 0) fun w4 => Q x2 w4
theorem flumeref12_Tunnel_Out.t (p0 : Option Addr) (Q : Sl → World → Prop) (w : World) : flumeref12_Tunnel_Out p0 Q w = fvc Tryd.prog (fun _ => []) Tryd.f81 .L [Kd.av .P p0] w Q := by kernel_rfl
theorem flumeref12_Tunnel_Out.k : fnOk Tryd.prog Tryd.f81 = true := by kernel_rfl
theorem flumeref12_Tunnel_Out.cl {p0 : Option Addr} {Q : Sl → World → Prop} {w : World} (h : flumeref12_Tunnel_Out p0 Q w) : cl Tryd.prog n_flumeref12_Tunnel_Out #[.pointer p0] .L w Q :=
  cl_tie Tryd.func81 flumeref12_Tunnel_Out.k (args := [Kd.av .P p0]) (flumeref12_Tunnel_Out.t p0 Q w) h
end Go.Proofs.YtmhibpcbdbhfoaaDoor
set_option linter.unusedVariables false
set_option maxHeartbeats 4000000
namespace Go.Proofs.YtmhibpcbdbhfoaaDoor
open Go.Fl
/-- slices.Delete[[][]byte,[]byte] -/
def an_slices_Delete_rows_byte_byte : Nat → LA
  | 1000005 => [(0, .nil)] | _ => []
def slices_Delete_rows_byte_byte (p0 : Sl) (p1 : Int) (p2 : Int) (Q : Sl → World → Prop) (w : World) : Prop :=
 qn Tryd.prog (Instr.sliceAt t_s_s_uint8 (.slice p0.a p0.n p0.c) (some (.int .i64 p1)) (some (.int .i64 p2)) (some (.int .i64 (p0.n : Int)))) .L w fun (r1 : Sl) => bif (p1 == p2) then
 (Q p0 w)
 else dr w fun w2 => sls p0 0 p1 1 fun r3 => sls p0 p2 p0.n 1 fun r4 => app Tryd.prog t_s_s_uint8 t_s_s_uint8 r3 r4 w2 fun r5 w6 => sls r5 (r5.n : Int) (p0.n : Int) 1 fun r7 => rn Tryd.prog (Builtin.clear_ #[t_s_s_uint8] t_ #[.slice r7.a r7.n r7.c]) (.tup .nil) w6 fun (x8 : Unit) w9 => Q r5 w9
theorem slices_Delete_rows_byte_byte.t (p0 : Sl) (p1 : Int) (p2 : Int) (Q : Sl → World → Prop) (w : World) : slices_Delete_rows_byte_byte p0 p1 p2 Q w = fvc Tryd.prog an_slices_Delete_rows_byte_byte Tryd.f82 .L [Kd.av .L p0, Kd.av (.I .i64) p1, Kd.av (.I .i64) p2] w Q := by kernel_rfl
theorem slices_Delete_rows_byte_byte.k : fnOk Tryd.prog Tryd.f82 = true := by kernel_rfl
theorem slices_Delete_rows_byte_byte.cl {p0 : Sl} {p1 : Int} {p2 : Int} {Q : Sl → World → Prop} {w : World} (h : slices_Delete_rows_byte_byte p0 p1 p2 Q w) : cl Tryd.prog n_slices_Delete_rows_byte_byte #[.slice p0.a p0.n p0.c, .int .i64 p1, .int .i64 p2] .L w Q :=
  cl_tie Tryd.func82 slices_Delete_rows_byte_byte.k (args := [Kd.av .L p0, Kd.av (.I .i64) p1, Kd.av (.I .i64) p2]) (slices_Delete_rows_byte_byte.t p0 p1 p2 Q w) h

/-- (*flume/flumelaw12.pair).take -/
def an_flumelaw12_pair_take : Nat → LA
  | 1000003 => [(0, .nil)] | 1000004 => [(0, .nil)] | 1000005 => [(0, .nil)] | 1000006 => [(0, .nil)] | 1000008 => [(0, .nil)] | _ => []
def flumelaw12_pair_take (p0 : Option Addr) (p1 : Int) (p2 : Int) (p3 : Bool) (Q : Bool → World → Prop) (w : World) : Prop :=
 nz p0 fun a1 => ixa (some (a1.add 2)) 2 p1 1 fun a2 => ld .L w a2 fun (x3 : Sl) => ixa x3.a x3.n p2 1 fun a4 => ld .L w a4 fun (x5 : Sl) => let j2 := (fun  (w121 : World) =>
   dr w121 fun w122 => nz p0 fun a123 => ixa (some a123) 2 p1 1 fun a124 => ld .P w122 a124 fun (x125 : Option Addr) => cl Tryd.prog n_slices_Clone_byte_byte #[.slice x5.a x5.n x5.c] .L w122 fun (x126 : Sl) w127 => Fr w122 w127 ∧ cl Tryd.prog n_tunnel_Tunnel_Take #[.pointer x125, .slice x126.a x126.n x126.c] (.tup (.pair .L (.pair (.I .i64) .nil))) w127 fun (x128 : (Sl × (Int × Unit))) w129 => let j3 := (fun (y189 : Option Addr) (w190 : World) =>
   dr w190 fun w191 => nz p0 fun a192 => ld .M w191 (a192.add 5) fun (x193 : Option Nat) => nz y189 fun a195 => ld (.row 3) w191 a195 fun (x194 : {l : List Value // l.length = 3}) => rn Tryd.prog (Instr.mapEntry t_map_3_int_s_s_uint8 (.map x193) (.agg (x194.1).toArray)) (.tup (.pair .L (.pair (.I .i64) .nil))) w191 fun (x196 : (Sl × (Int × Unit))) w197 => app Tryd.prog t_s_s_uint8 t_s_s_uint8 x196.1 x128.1 w197 fun r198 w199 => ru Tryd.prog (Instr.entryStore t_map_3_int_s_s_uint8 (.map x193) (.int .i64 x196.2.1) (.slice r198.a r198.n r198.c)) w199 fun w200 => nz p0 fun a201 => ld .M w200 (a201.add 5) fun (x202 : Option Nat) => nz y189 fun a204 => ld (.row 3) w200 a204 fun (x203 : {l : List Value // l.length = 3}) => qn Tryd.prog (Instr.lookup t_map_3_int_s_s_uint8 (.map x202) (.agg (x203.1).toArray) false) .L w200 fun (x205 : Sl) => dr w200 fun w206 => dr w206 fun w207 => bif (x128.2.1 == 0) then (nz p0 fun a208 => ld .M w207 (a208.add 4) fun (x209 : Option Nat) => nz y189 fun a211 => ld (.row 3) w207 a211 fun (x210 : {l : List Value // l.length = 3}) => qn Tryd.prog (Instr.lookup t_map_3_int_s_s_uint8 (.map x209) (.agg (x210.1).toArray) false) .L w207 fun (x212 : Sl) => bif (decide ((x205.n : Int) ≤ (x212.n : Int))) then (nz p0 fun a213 => ld .M w207 (a213.add 5) fun (x214 : Option Nat) => nz y189 fun a216 => ld (.row 3) w207 a216 fun (x215 : {l : List Value // l.length = 3}) => qn Tryd.prog (Instr.lookup t_map_3_int_s_s_uint8 (.map x214) (.agg (x215.1).toArray) false) .L w207 fun (x217 : Sl) => nz p0 fun a218 => ld .M w207 (a218.add 4) fun (x219 : Option Nat) => nz y189 fun a221 => ld (.row 3) w207 a221 fun (x220 : {l : List Value // l.length = 3}) => qn Tryd.prog (Instr.lookup t_map_3_int_s_s_uint8 (.map x219) (.agg (x220.1).toArray) false) .L w207 fun (x222 : Sl) => sls x222 0 (x205.n : Int) 1 fun r223 => cl Tryd.prog n_flumelaw12_rows #[.slice x217.a x217.n x217.c, .slice r223.a r223.n r223.c] .B w207 fun (x224 : Bool) w225 => Q x224 w225) else (Q false w207)) else (Q false w207));
 dr w129 fun w130 => nz p0 fun a131 => ixa (some a131) 2 p1 1 fun a132 => ld .P w130 a132 fun (x133 : Option Addr) => nz p0 fun a134 => ixa (some a134) 2 p1 1 fun a135 => ld .P w130 a135 fun (x136 : Option Addr) => (cl Tryd.prog n_tunnel_Tunnel_You #[.pointer x133] (.I .i64) w130 fun (x137 : Int) w138 => Fr w130 w138 ∧ (cl Tryd.prog n_tunnel_Tunnel_Me #[.pointer x136] (.I .i64) w138 fun (x139 : Int) w140 => Fr w138 w140 ∧ qn Tryd.prog (Instr.build t_3_int #[(0, .int .i64 x137), (1, .int .i64 x139), (2, .int .i64 p1)]) (.row 3) w140 fun (x141 : {l : List Value // l.length = 3}) => nw w140 ((zrow 3 (.int .i64 0)).1) t_3_int fun a142 w143 => Fr w140 w143 ∧ stL a142 w143 0 x141.1 fun w144 => j3 (some a142) w144) ∧ (nw w138 ((zrow 3 (.int .i64 0)).1) t_3_int fun a145 w146 => Fr w138 w146 ∧ cl Tryd.prog n_tunnel_Tunnel_Me #[.pointer x136] (.I .i64) w146 fun (x147 : Int) w148 => Fr w146 w148 ∧ qn Tryd.prog (Instr.build t_3_int #[(0, .int .i64 x137), (1, .int .i64 x147), (2, .int .i64 p1)]) (.row 3) w148 fun (x149 : {l : List Value // l.length = 3}) => stL a145 w148 0 x149.1 fun w150 => j3 (some a145) w150)) ∧ (nw w130 ((zrow 3 (.int .i64 0)).1) t_3_int fun a151 w152 => Fr w130 w152 ∧ cl Tryd.prog n_tunnel_Tunnel_You #[.pointer x133] (.I .i64) w152 fun (x153 : Int) w154 => Fr w152 w154 ∧ cl Tryd.prog n_tunnel_Tunnel_Me #[.pointer x136] (.I .i64) w154 fun (x155 : Int) w156 => Fr w154 w156 ∧ qn Tryd.prog (Instr.build t_3_int #[(0, .int .i64 x153), (1, .int .i64 x155), (2, .int .i64 p1)]) (.row 3) w156 fun (x157 : {l : List Value // l.length = 3}) => stL a151 w156 0 x157.1 fun w158 => j3 (some a151) w158));
 bif (!p3) then
 (dr w fun w6 => nz p0 fun a7 => ixa (some (a7.add 2)) 2 p1 1 fun a8 => ld .L w6 a8 fun (x9 : Sl) => nz p0 fun a10 => cl Tryd.prog n_slices_Clone_rows_byte_byte #[.slice x9.a x9.n x9.c] .L w6 fun (x11 : Sl) w12 => cl Tryd.prog n_slices_Delete_rows_byte_byte #[.slice x11.a x11.n x11.c, .int .i64 p2, .int .i64 (IntKind.i64.wrap (p2 + 1))] .L w12 fun (x13 : Sl) w14 => ixa (some (a10.add 2)) 2 p1 1 fun a15 => st1 w14 a15 (.slice x13.a x13.n x13.c) fun w16 => j2 w16)
 else j2 w
theorem flumelaw12_pair_take.t (p0 : Option Addr) (p1 : Int) (p2 : Int) (p3 : Bool) (Q : Bool → World → Prop) (w : World) : flumelaw12_pair_take p0 p1 p2 p3 Q w = fvc Tryd.prog an_flumelaw12_pair_take Tryd.f83 .B [Kd.av .P p0, Kd.av (.I .i64) p1, Kd.av (.I .i64) p2, Kd.av .B p3] w Q := by kernel_rfl
theorem flumelaw12_pair_take.k : fnOk Tryd.prog Tryd.f83 = true := by kernel_rfl
theorem flumelaw12_pair_take.cl {p0 : Option Addr} {p1 : Int} {p2 : Int} {p3 : Bool} {Q : Bool → World → Prop} {w : World} (h : flumelaw12_pair_take p0 p1 p2 p3 Q w) : cl Tryd.prog n_flumelaw12_pair_take #[.pointer p0, .int .i64 p1, .int .i64 p2, .bool p3] .B w Q :=
  cl_tie Tryd.func83 flumelaw12_pair_take.k (args := [Kd.av .P p0, Kd.av (.I .i64) p1, Kd.av (.I .i64) p2, Kd.av .B p3]) (flumelaw12_pair_take.t p0 p1 p2 p3 Q w) h

/-- (*flume/flumelaw12.pair).out -/
def an_flumelaw12_pair_out : Nat → LA
  | 1 => [(5, (.I .i64))] | 4 => [(16, (.I .i64))] | 1000007 => [(0, .nil)] | _ => []
def flumelaw12_pair_out (p0 : Option Addr) (Q : Unit → World → Prop) (w : World) : Prop :=
 lp (α := (Int × Unit)) (fun K => K (0, ())) w fun D3 J4 s1 w2 =>
 bif (decide (s1.1 < 2)) then
  (nz p0 fun a5 => ixa (some a5) 2 s1.1 1 fun a6 => ld .P w2 a6 fun (x7 : Option Addr) => cl Tryd.prog n_tunnel_Tunnel_Out #[.pointer x7] .L w2 fun (x8 : Sl) w9 => lp (α := (Int × Unit)) (fun K => K (0, ())) w9 fun D12 J13 s10 w11 =>
  bif (decide (s10.1 < (x8.n : Int))) then
   (ixa x8.a x8.n s10.1 1 fun a14 => ld .L w11 a14 fun (x15 : Sl) => nz p0 fun a16 => ixa (some (a16.add 2)) 2 (IntKind.i64.wrap (1 - s1.1)) 1 fun a17 => ld .L w11 a17 fun (x18 : Sl) => bif (decide ((x18.n : Int) < 200)) then
   (dr w11 fun w19 => nz p0 fun a20 => ixa (some (a20.add 2)) 2 (IntKind.i64.wrap (1 - s1.1)) 1 fun a21 => ld .L w19 a21 fun (x22 : Sl) => nz p0 fun a23 => nw w19 [.slice x15.a x15.n x15.c] t_s_uint8 fun a24 w25 => Fr w19 w25 ∧ app Tryd.prog t_s_s_uint8 t_s_s_uint8 x22 ⟨(some a24), 1, 1⟩ w25 fun r26 w27 => ixa (some (a23.add 2)) 2 (IntKind.i64.wrap (1 - s1.1)) 1 fun a28 => st1 w27 a28 (.slice r26.a r26.n r26.c) fun w29 => J13 ((IntKind.i64.wrap (s10.1 + 1)), ()) w29)
   else J13 ((IntKind.i64.wrap (s10.1 + 1)), ()) w11)
   else J4 ((IntKind.i64.wrap (s1.1 + 1)), ()) w11)
  else Q () w2
theorem flumelaw12_pair_out.t (p0 : Option Addr) (Q : Unit → World → Prop) (w : World) : flumelaw12_pair_out p0 Q w = fvc Tryd.prog an_flumelaw12_pair_out Tryd.f84 (.tup .nil) [Kd.av .P p0] w Q := by kernel_rfl
theorem flumelaw12_pair_out.k : fnOk Tryd.prog Tryd.f84 = true := by kernel_rfl
theorem flumelaw12_pair_out.cl {p0 : Option Addr} {Q : Unit → World → Prop} {w : World} (h : flumelaw12_pair_out p0 Q w) : cl Tryd.prog n_flumelaw12_pair_out #[.pointer p0] (.tup .nil) w Q :=
  cl_tie Tryd.func84 flumelaw12_pair_out.k (args := [Kd.av .P p0]) (flumelaw12_pair_out.t p0 Q w) h

/-- flume/octet.Number -/
def an_octet_Number : Nat → LA
  | 8 => [(8, .L), (9, (.I .i64))] | _ => []
def octet_Number (p0 : Sl) (p1 : Int) (Q : Sl → World → Prop) (w : World) : Prop :=
 cl Tryd.prog n_octet_more #[.int .u64 (IntKind.u64.wrap (max p1 0))] (.I .i64) w fun (x1 : Int) w2 => bif decide (0 ≤ (IntKind.i64.wrap (8 - x1))) then (let j1 := (fun (y19 : Int) (w20 : World) =>
   mks Tryd.prog t_s_uint8 0 (IntKind.i64.wrap ((p0.n : Int) + 9)) w20 fun r21 w22 => app Tryd.prog t_s_uint8 t_s_uint8 r21 p0 w22 fun r23 w24 => nw w24 [.int .u8 y19] t_uint8 fun a25 w26 => app Tryd.prog t_s_uint8 t_s_uint8 r23 ⟨(some a25), 1, 1⟩ w26 fun r27 w28 => lp (α := (Sl × (Int × Unit))) (fun K => K (r27, ((IntKind.i64.wrap (x1 - 1)), ()))) w28 fun D31 J32 s29 w30 =>
 bif (decide (s29.2.1 ≥ 0)) then
  (bif decide (0 ≤ (IntKind.i64.wrap (8 * s29.2.1))) then (nw w30 [.int .u8 (IntKind.u8.wrap ((IntKind.u64.wrap (max p1 0)) / 2 ^ (min (Int.toNat (IntKind.i64.wrap (8 * s29.2.1))) 64)))] t_uint8 fun a33 w34 => app Tryd.prog t_s_uint8 t_s_uint8 s29.1 ⟨(some a33), 1, 1⟩ w34 fun r35 w36 => J32 (r35, ((IntKind.i64.wrap (s29.2.1 - 1)), ())) w36) else False)
  else Q s29.1 w30);
 bif (decide (x1 < 8)) then
 (bif decide (0 ≤ (IntKind.i64.wrap (8 * x1))) then (j1 (bits .or .u8 (IntKind.u8.wrap (255 * 2 ^ (min (Int.toNat (IntKind.i64.wrap (8 - x1))) 8))) (IntKind.u8.wrap ((IntKind.u64.wrap (max p1 0)) / 2 ^ (min (Int.toNat (IntKind.i64.wrap (8 * x1))) 64)))) w2) else False)
 else j1 (IntKind.u8.wrap (255 * 2 ^ (min (Int.toNat (IntKind.i64.wrap (8 - x1))) 8))) w2) else False
theorem octet_Number.t (p0 : Sl) (p1 : Int) (Q : Sl → World → Prop) (w : World) : octet_Number p0 p1 Q w = fvc Tryd.prog an_octet_Number Tryd.f85 .L [Kd.av .L p0, Kd.av (.I .i64) p1] w Q := by kernel_rfl
theorem octet_Number.k : fnOk Tryd.prog Tryd.f85 = true := by kernel_rfl
theorem octet_Number.cl {p0 : Sl} {p1 : Int} {Q : Sl → World → Prop} {w : World} (h : octet_Number p0 p1 Q w) : cl Tryd.prog n_octet_Number #[.slice p0.a p0.n p0.c, .int .i64 p1] .L w Q :=
  cl_tie Tryd.func85 octet_Number.k (args := [Kd.av .L p0, Kd.av (.I .i64) p1]) (octet_Number.t p0 p1 Q w) h

/-- flume/sums.Crc -/
def an_sums_Crc : Nat → LA
  | 3 => [(3, (.I .u32)), (10, (.I .i64))] | 6 => [(3, (.I .u32)), (16, (.I .i64))] | _ => []
def sums_Crc (p0 : Sl) (Q : Int → World → Prop) (w : World) : Prop :=
 lp (α := (Int × (Int × Unit))) (fun K => K (4294967295, (0, ()))) w fun D3 J4 s1 w2 =>
 bif (decide (s1.2.1 < (p0.n : Int))) then
  (ixa p0.a p0.n s1.2.1 1 fun a5 => ld .L w2 a5 fun (x6 : Sl) => lp (α := (Int × (Int × Unit))) (fun K => K (s1.1, (0, ()))) w2 fun D9 J10 s7 w8 =>
  bif (decide (s7.2.1 < (x6.n : Int))) then
   (ixa x6.a x6.n s7.2.1 1 fun a11 => ld (.I .u8) w8 a11 fun (x12 : Int) => ixa (some ⟨g_sums_nibbles, 0, none⟩) 16 (bits .and .u32 (bits .xor .u32 s7.1 (IntKind.u32.wrap x12)) 15) 1 fun a13 => ld (.I .u32) w8 a13 fun (x14 : Int) => ixa (some ⟨g_sums_nibbles, 0, none⟩) 16 (bits .and .u32 (bits .xor .u32 ((bits .xor .u32 s7.1 (IntKind.u32.wrap x12)) / 2 ^ (min 4 32)) x14) 15) 1 fun a15 => ld (.I .u32) w8 a15 fun (x16 : Int) => J10 ((bits .xor .u32 ((bits .xor .u32 ((bits .xor .u32 s7.1 (IntKind.u32.wrap x12)) / 2 ^ (min 4 32)) x14) / 2 ^ (min 4 32)) x16), ((IntKind.i64.wrap (s7.2.1 + 1)), ())) w8)
   else J4 (s7.1, ((IntKind.i64.wrap (s1.2.1 + 1)), ())) w8)
  else Q (bits .xor .u32 4294967295 s1.1) w2
theorem sums_Crc.t (p0 : Sl) (Q : Int → World → Prop) (w : World) : sums_Crc p0 Q w = fvc Tryd.prog an_sums_Crc Tryd.f86 (.I .u32) [Kd.av .L p0] w Q := by kernel_rfl
theorem sums_Crc.k : fnOk Tryd.prog Tryd.f86 = true := by kernel_rfl
theorem sums_Crc.cl {p0 : Sl} {Q : Int → World → Prop} {w : World} (h : sums_Crc p0 Q w) : cl Tryd.prog n_sums_Crc #[.slice p0.a p0.n p0.c] (.I .u32) w Q :=
  cl_tie Tryd.func86 sums_Crc.k (args := [Kd.av .L p0]) (sums_Crc.t p0 Q w) h

/-- flume/flumeref02.Follow -/
def an_flumeref02_Follow : Nat → LA
  | 2 => [(0, (.I .i64)), (3, (.I .i64))] | _ => []
def flumeref02_Follow (p0 : Int) (Q : Int → World → Prop) (w : World) : Prop :=
 lp (α := (Int × (Int × Unit))) (fun K => K (p0, (0, ()))) w fun D3 J4 s1 w2 =>
 bif (decide (s1.2.1 < 8)) then
  (bif (decide ((IntKind.i64.wrap (Int.tdiv s1.1 128)) > 0)) then
  (J4 ((IntKind.i64.wrap (Int.tdiv s1.1 128)), ((IntKind.i64.wrap (s1.2.1 + 1)), ())) w2)
  else Q s1.2.1 w2)
  else Q s1.2.1 w2
theorem flumeref02_Follow.t (p0 : Int) (Q : Int → World → Prop) (w : World) : flumeref02_Follow p0 Q w = fvc Tryd.prog an_flumeref02_Follow Tryd.f87 (.I .i64) [Kd.av (.I .i64) p0] w Q := by kernel_rfl
theorem flumeref02_Follow.k : fnOk Tryd.prog Tryd.f87 = true := by kernel_rfl
theorem flumeref02_Follow.cl {p0 : Int} {Q : Int → World → Prop} {w : World} (h : flumeref02_Follow p0 Q w) : cl Tryd.prog n_flumeref02_Follow #[.int .i64 p0] (.I .i64) w Q :=
  cl_tie Tryd.func87 flumeref02_Follow.k (args := [Kd.av (.I .i64) p0]) (flumeref02_Follow.t p0 Q w) h

/-- flume/flumeref02.Lead -/
def an_flumeref02_Lead : Nat → LA
  | 4 => [(3, (.I .i64)), (4, (.I .i64)), (6, (.I .i64))] | _ => []
def flumeref02_Lead (p0 : Int) (Q : Int → World → Prop) (w : World) : Prop :=
 lp (α := (Int × (Int × (Int × Unit)))) (fun K => K (0, (128, (0, ())))) w fun D3 J4 s1 w2 =>
 bif (decide (s1.2.2.1 < p0)) then
  (J4 ((IntKind.i64.wrap (s1.1 + s1.2.1)), ((IntKind.i64.wrap (Int.tdiv s1.2.1 2)), ((IntKind.i64.wrap (s1.2.2.1 + 1)), ()))) w2)
  else Q s1.1 w2
theorem flumeref02_Lead.t (p0 : Int) (Q : Int → World → Prop) (w : World) : flumeref02_Lead p0 Q w = fvc Tryd.prog an_flumeref02_Lead Tryd.f88 (.I .i64) [Kd.av (.I .i64) p0] w Q := by kernel_rfl
theorem flumeref02_Lead.k : fnOk Tryd.prog Tryd.f88 = true := by kernel_rfl
theorem flumeref02_Lead.cl {p0 : Int} {Q : Int → World → Prop} {w : World} (h : flumeref02_Lead p0 Q w) : cl Tryd.prog n_flumeref02_Lead #[.int .i64 p0] (.I .i64) w Q :=
  cl_tie Tryd.func88 flumeref02_Lead.k (args := [Kd.av (.I .i64) p0]) (flumeref02_Lead.t p0 Q w) h

/-- flume/flumeref01.Crc -/
def an_flumeref01_Crc : Nat → LA
  | 3 => [(3, (.I .u32)), (9, (.I .i64))] | 7 => [(3, (.I .u32)), (17, (.I .i64))] | _ => []
def flumeref01_Crc (p0 : Sl) (Q : Int → World → Prop) (w : World) : Prop :=
 lp (α := (Int × (Int × Unit))) (fun K => K (4294967295, (0, ()))) w fun D3 J4 s1 w2 =>
 bif (decide (s1.2.1 < (p0.n : Int))) then
  (ixa p0.a p0.n s1.2.1 1 fun a5 => ld (.I .u8) w2 a5 fun (x6 : Int) => lp (α := (Int × (Int × Unit))) (fun K => K ((bits .xor .u32 s1.1 (IntKind.u32.wrap x6)), (0, ()))) w2 fun D9 J10 s7 w8 =>
  bif (decide (s7.2.1 < 8)) then
   (bif ((Int.tmod s7.1 2) == 1) then
   (J10 ((bits .xor .u32 (IntKind.u32.wrap (Int.tdiv s7.1 2)) 3988292384), ((IntKind.i64.wrap (s7.2.1 + 1)), ())) w8)
   else J10 ((IntKind.u32.wrap (Int.tdiv s7.1 2)), ((IntKind.i64.wrap (s7.2.1 + 1)), ())) w8)
   else J4 (s7.1, ((IntKind.i64.wrap (s1.2.1 + 1)), ())) w8)
  else Q (IntKind.u32.wrap (4294967295 - s1.1)) w2
theorem flumeref01_Crc.t (p0 : Sl) (Q : Int → World → Prop) (w : World) : flumeref01_Crc p0 Q w = fvc Tryd.prog an_flumeref01_Crc Tryd.f89 (.I .u32) [Kd.av .L p0] w Q := by kernel_rfl
theorem flumeref01_Crc.k : fnOk Tryd.prog Tryd.f89 = true := by kernel_rfl
theorem flumeref01_Crc.cl {p0 : Sl} {Q : Int → World → Prop} {w : World} (h : flumeref01_Crc p0 Q w) : cl Tryd.prog n_flumeref01_Crc #[.slice p0.a p0.n p0.c] (.I .u32) w Q :=
  cl_tie Tryd.func89 flumeref01_Crc.k (args := [Kd.av .L p0]) (flumeref01_Crc.t p0 Q w) h

/-- flume/octet.look -/
def an_octet_look : Nat → LA
  | 11 => [(6, (.I .u64)), (36, (.I .i64))] | _ => []
def octet_look (p0 : Sl) (Q : (Int × (Int × (Int × Unit))) → World → Prop) (w : World) : Prop :=
 bif ((p0.n : Int) == 0) then
 (Q (0, (0, (2, ()))) w)
 else ixa p0.a p0.n 0 1 fun a1 => ld (.I .u8) w a1 fun (x2 : Int) => cl Tryd.prog n_math_bits_LeadingZeros8 #[.int .u8 (bits .xor .u8 255 x2)] (.I .i64) w fun (x3 : Int) w4 => bif (decide ((p0.n : Int) ≤ x3)) then
 (Q (0, (0, (2, ()))) w4)
 else ixa p0.a p0.n 0 1 fun a5 => ld (.I .u8) w4 a5 fun (x6 : Int) => let j1 := (fun (y16 : Int) (w17 : World) =>
   sls p0 1 (IntKind.i64.wrap (x3 + 1)) 1 fun r18 => lp (α := (Int × (Int × Unit))) (fun K => K (y16, (0, ()))) w17 fun D21 J22 s19 w20 =>
 bif (decide (s19.2.1 < (r18.n : Int))) then
  (ixa r18.a r18.n s19.2.1 1 fun a23 => ld (.I .u8) w20 a23 fun (x24 : Int) => J22 ((bits .or .u64 (IntKind.u64.wrap (s19.1 * 2 ^ (min 8 64))) (IntKind.u64.wrap x24)), ((IntKind.i64.wrap (s19.2.1 + 1)), ())) w20)
  else bif (decide (s19.1 > 9223372036854775807)) then
 (Q (0, (0, (5, ()))) w20)
 else cl Tryd.prog n_octet_more #[.int .u64 s19.1] (.I .i64) w20 fun (x25 : Int) w26 => bif (x25 != x3) then
 (Q (0, (0, (20, ()))) w26)
 else Q ((IntKind.i64.wrap s19.1), ((IntKind.i64.wrap (x3 + 1)), (0, ()))) w26);
 bif (decide (x3 < 8)) then
 (bif decide (0 ≤ x3) then (j1 (bits .and .u64 (IntKind.u64.wrap x6) (127 / 2 ^ (min (Int.toNat x3) 64))) w4) else False)
 else j1 0 w4
theorem octet_look.t (p0 : Sl) (Q : (Int × (Int × (Int × Unit))) → World → Prop) (w : World) : octet_look p0 Q w = fvc Tryd.prog an_octet_look Tryd.f90 (.tup (.pair (.I .i64) (.pair (.I .i64) (.pair (.I .i64) .nil)))) [Kd.av .L p0] w Q := by kernel_rfl
theorem octet_look.k : fnOk Tryd.prog Tryd.f90 = true := by kernel_rfl
theorem octet_look.cl {p0 : Sl} {Q : (Int × (Int × (Int × Unit))) → World → Prop} {w : World} (h : octet_look p0 Q w) : cl Tryd.prog n_octet_look #[.slice p0.a p0.n p0.c] (.tup (.pair (.I .i64) (.pair (.I .i64) (.pair (.I .i64) .nil)))) w Q :=
  cl_tie Tryd.func90 octet_look.k (args := [Kd.av .L p0]) (octet_look.t p0 Q w) h
end Go.Proofs.YtmhibpcbdbhfoaaDoor
set_option linter.unusedVariables false
set_option maxHeartbeats 4000000
namespace Go.Proofs.YtmhibpcbdbhfoaaDoor
open Go.Fl
/-- flume/flumeref02.Look -/
def an_flumeref02_Look : Nat → LA
  | 4 => [(5, (.I .i64))] | 10 => [(6, (.I .i64)), (7, (.I .i64))] | 1000015 => [(0, .nil)] | _ => []
def flumeref02_Look (p0 : Sl) (Q : (Int × (Int × (Int × Unit))) → World → Prop) (w : World) : Prop :=
 bif ((p0.n : Int) == 0) then
 (Q (0, (0, (2, ()))) w)
 else let j1 := (fun (y26 : Int) (w27 : World) =>
   bif (decide ((p0.n : Int) < (IntKind.i64.wrap (y26 + 1)))) then
 (Q (0, (0, (2, ()))) w27)
 else ixa p0.a p0.n 0 1 fun a28 => ld (.I .u8) w27 a28 fun (x29 : Int) => qcl Tryd.prog n_flumeref02_Lead #[.int .i64 y26] (.I .i64) w27 fun (x30 : Int) => dr w27 fun w31 => lp (α := (Int × (Int × Unit))) (fun K => K ((IntKind.i64.wrap ((IntKind.i64.wrap x29) - x30)), (1, ()))) w31 fun D34 J35 s32 w33 =>
 bif (decide (s32.2.1 ≤ y26)) then
  (bif (decide (s32.1 ≥ 36028797018963968)) then
  (Q (0, (0, (5, ()))) w33)
  else ixa p0.a p0.n s32.2.1 1 fun a36 => ld (.I .u8) w33 a36 fun (x37 : Int) => J35 ((IntKind.i64.wrap ((IntKind.i64.wrap (256 * s32.1)) + (IntKind.i64.wrap x37))), ((IntKind.i64.wrap (s32.2.1 + 1)), ())) w33)
  else dr w33 fun w38 => sls p0 0 (IntKind.i64.wrap (y26 + 1)) 1 fun r39 => bstr w38 r39 fun z40 => cl Tryd.prog n_flumeref02_Number #[.slice none 0 0, .int .i64 s32.1] .L w38 fun (x41 : Sl) w42 => Fr w38 w42 ∧ bstr w42 x41 fun z43 => bif (!(beqB ⟨z43.toArray⟩ ⟨z40.toArray⟩)) then
 (Q (0, (0, (20, ()))) w42)
 else Q (s32.1, ((IntKind.i64.wrap (y26 + 1)), (0, ()))) w42);
 lp (α := (Int × Unit)) (fun K => K (0, ())) w fun D3 J4 s1 w2 =>
 bif (decide (s1.1 < 8)) then (ixa p0.a p0.n 0 1 fun a5 => ld (.I .u8) w2 a5 fun (x6 : Int) => qcl Tryd.prog n_flumeref02_Lead #[.int .i64 (IntKind.i64.wrap (s1.1 + 1))] (.I .i64) w2 fun (x7 : Int) => dr w2 fun w8 => bif (decide ((IntKind.i64.wrap x6) ≥ x7)) then
  (J4 ((IntKind.i64.wrap (s1.1 + 1)), ()) w8)
  else j1 s1.1 w8) else dr w2 fun w9 => j1 s1.1 w9
theorem flumeref02_Look.t (p0 : Sl) (Q : (Int × (Int × (Int × Unit))) → World → Prop) (w : World) : flumeref02_Look p0 Q w = fvc Tryd.prog an_flumeref02_Look Tryd.f91 (.tup (.pair (.I .i64) (.pair (.I .i64) (.pair (.I .i64) .nil)))) [Kd.av .L p0] w Q := by kernel_rfl
theorem flumeref02_Look.k : fnOk Tryd.prog Tryd.f91 = true := by kernel_rfl
theorem flumeref02_Look.cl {p0 : Sl} {Q : (Int × (Int × (Int × Unit))) → World → Prop} {w : World} (h : flumeref02_Look p0 Q w) : cl Tryd.prog n_flumeref02_Look #[.slice p0.a p0.n p0.c] (.tup (.pair (.I .i64) (.pair (.I .i64) (.pair (.I .i64) .nil)))) w Q :=
  cl_tie Tryd.func91 flumeref02_Look.k (args := [Kd.av .L p0]) (flumeref02_Look.t p0 Q w) h

/-- (*flume/tunnel.Tunnel).begin -/
def tunnel_Tunnel_begin (p0 : Option Addr) (p1 : Int) (Q : Unit → World → Prop) (w : World) : Prop :=
 nz p0 fun a1 => st1 w (a1.add 8) (.int .i64 p1) fun w2 => rn Tryd.prog (Instr.makeMap t_map_int_s_uint8 none) .M w2 fun (m3 : Option Nat) w4 => nz p0 fun a5 => st w4 a5 (Kd.av k_tunnel_session (true, (0, (0, (⟨none, 0, 0⟩, (⟨none, 0, 0⟩, (0, (m3, ())))))))) fun w6 => nz p0 fun a7 => ld (.I .i64) w6 (a7.add 9) fun (x8 : Int) => nz p0 fun a9 => st1 w6 (a9.add 9) (.int .i64 (IntKind.i64.wrap (x8 + 1))) fun w10 => cl Tryd.prog n_tunnel_Tunnel_say #[.pointer p0, (Kd.av k_api_Frame (1, (0, (p1, (0, (0, (0, (⟨none, 0, 0⟩, ())))))))).val] (.tup .nil) w10 fun (x11 : Unit) w12 => Q () w12
theorem tunnel_Tunnel_begin.t (p0 : Option Addr) (p1 : Int) (Q : Unit → World → Prop) (w : World) : tunnel_Tunnel_begin p0 p1 Q w = fvc Tryd.prog (fun _ => []) Tryd.f92 (.tup .nil) [Kd.av .P p0, Kd.av (.I .i64) p1] w Q := by kernel_rfl
theorem tunnel_Tunnel_begin.k : fnOk Tryd.prog Tryd.f92 = true := by kernel_rfl
theorem tunnel_Tunnel_begin.cl {p0 : Option Addr} {p1 : Int} {Q : Unit → World → Prop} {w : World} (h : tunnel_Tunnel_begin p0 p1 Q w) : cl Tryd.prog n_tunnel_Tunnel_begin #[.pointer p0, .int .i64 p1] (.tup .nil) w Q :=
  cl_tie Tryd.func92 tunnel_Tunnel_begin.k (args := [Kd.av .P p0, Kd.av (.I .i64) p1]) (tunnel_Tunnel_begin.t p0 p1 Q w) h

/-- (*flume/tunnel.Tunnel).ack$1 -/
def tunnel_Tunnel_ack_1 (p0 : y_tunnel_sent) (p1 : Option Addr) (Q : Bool → World → Prop) (w : World) : Prop :=
 nw w ((Kd.av k_tunnel_sent p0).cells) t_tunnel_sent fun a1 w2 => ld (.I .i64) w2 a1 fun (x3 : Int) => nz p1 fun a4 => ld (.I .i64) w2 (a4.add 4) fun (x5 : Int) => bif (decide ((IntKind.i64.wrap ((IntKind.i64.wrap (x3 - x5)) - 1)) < 0)) then
 (Q true w2)
 else bif (decide ((IntKind.i64.wrap ((IntKind.i64.wrap (x3 - x5)) - 1)) < 16)) then
 (nz p1 fun a6 => ld (.I .i64) w2 (a6.add 5) fun (x7 : Int) => bif decide (0 ≤ (IntKind.i64.wrap ((IntKind.i64.wrap (x3 - x5)) - 1))) then (Q ((bits .and .i64 (x7 / 2 ^ (min (Int.toNat (IntKind.i64.wrap ((IntKind.i64.wrap (x3 - x5)) - 1))) 64)) 1) == 1) w2) else False)
 else Q false w2
theorem tunnel_Tunnel_ack_1.t (p0 : y_tunnel_sent) (p1 : Option Addr) (Q : Bool → World → Prop) (w : World) : tunnel_Tunnel_ack_1 p0 p1 Q w = fvc Tryd.prog (fun _ => []) Tryd.f94 .B [Kd.av k_tunnel_sent p0, Kd.av .P p1] w Q := by kernel_rfl
theorem tunnel_Tunnel_ack_1.k : fnOk Tryd.prog Tryd.f94 = true := by kernel_rfl
theorem tunnel_Tunnel_ack_1.cl {p0 : y_tunnel_sent} {p1 : Option Addr} {Q : Bool → World → Prop} {w : World} (h : tunnel_Tunnel_ack_1 p0 p1 Q w) : cl Tryd.prog n_tunnel_Tunnel_ack_1 #[(Kd.av k_tunnel_sent p0).val, .pointer p1] .B w Q :=
  cl_tie Tryd.func94 tunnel_Tunnel_ack_1.k (args := [Kd.av k_tunnel_sent p0, Kd.av .P p1]) (tunnel_Tunnel_ack_1.t p0 p1 Q w) h

/-- slices.DeleteFunc[[]flume/tunnel.sent,flume/tunnel.sent] -/
def an_slices_DeleteFunc_tunnel_sent_tunnel_sent : Nat → LA
  | 5 => [(5, (.I .i64)), (6, (.I .i64))] | _ => []
def slices_DeleteFunc_tunnel_sent_tunnel_sent (p0 : Sl) (p1 : Value) (Q : Sl → World → Prop) (w : World) : Prop :=
 cl Tryd.prog n_slices_IndexFunc_tunnel_sent_tunnel_sent #[.slice p0.a p0.n p0.c, p1] (.I .i64) w fun (x1 : Int) w2 => bif (x1 == (-1)) then
 (Q p0 w2)
 else lp (α := (Int × (Int × Unit))) (fun K => K (x1, ((IntKind.i64.wrap (x1 + 1)), ()))) w2 fun D5 J6 s3 w4 =>
 bif (decide (s3.2.1 < (p0.n : Int))) then
  (ixa p0.a p0.n s3.2.1 3 fun a7 => ld k_tunnel_sent w4 a7 fun (x8 : y_tunnel_sent) => nw w4 ((Kd.av k_tunnel_sent z_tunnel_sent).cells) t_tunnel_sent fun a9 w10 => st w10 a9 (Kd.av k_tunnel_sent x8) fun w11 => ld k_tunnel_sent w11 a9 fun (x12 : y_tunnel_sent) => clv Tryd.prog (p1) #[(Kd.av k_tunnel_sent x12).val] .B w11 fun (x13 : Bool) w14 => bif (!x13) then
  (ld k_tunnel_sent w14 a9 fun (x15 : y_tunnel_sent) => ixa p0.a p0.n s3.1 3 fun a16 => st w14 a16 (Kd.av k_tunnel_sent x15) fun w17 => J6 ((IntKind.i64.wrap (s3.1 + 1)), ((IntKind.i64.wrap (s3.2.1 + 1)), ())) w17)
  else J6 (s3.1, ((IntKind.i64.wrap (s3.2.1 + 1)), ())) w14)
  else sls p0 s3.1 p0.n 3 fun r18 => rn Tryd.prog (Builtin.clear_ #[t_s_tunnel_sent] t_ #[.slice r18.a r18.n r18.c]) (.tup .nil) w4 fun (x19 : Unit) w20 => sls p0 0 s3.1 3 fun r21 => Q r21 w20
theorem slices_DeleteFunc_tunnel_sent_tunnel_sent.t (p0 : Sl) (p1 : Value) (Q : Sl → World → Prop) (w : World) : slices_DeleteFunc_tunnel_sent_tunnel_sent p0 p1 Q w = fvc Tryd.prog an_slices_DeleteFunc_tunnel_sent_tunnel_sent Tryd.f93 .L [Kd.av .L p0, Kd.av .U p1] w Q := by kernel_rfl
theorem slices_DeleteFunc_tunnel_sent_tunnel_sent.k : fnOk Tryd.prog Tryd.f93 = true := by kernel_rfl
theorem slices_DeleteFunc_tunnel_sent_tunnel_sent.cl {p0 : Sl} {p1 : Value} {Q : Sl → World → Prop} {w : World} (h : slices_DeleteFunc_tunnel_sent_tunnel_sent p0 p1 Q w) : cl Tryd.prog n_slices_DeleteFunc_tunnel_sent_tunnel_sent #[.slice p0.a p0.n p0.c, p1] .L w Q :=
  cl_tie Tryd.func93 slices_DeleteFunc_tunnel_sent_tunnel_sent.k (args := [Kd.av .L p0, Kd.av .U p1]) (slices_DeleteFunc_tunnel_sent_tunnel_sent.t p0 p1 Q w) h

/-- (*flume/flumeref12.Tunnel).early -/
def an_flumeref12_Tunnel_early : Nat → LA
  | 2 => [(13, (.I .i64))] | _ => []
def flumeref12_Tunnel_early (p0 : Option Addr) (p1 : Int) (Q : (Sl × (Bool × Unit)) → World → Prop) (w : World) : Prop :=
 nz p0 fun a1 => ld .L w (a1.add 10) fun (x2 : Sl) => lp (α := (Int × Unit)) (fun K => K (0, ())) w fun D5 J6 s3 w4 =>
 bif (decide (s3.1 < (x2.n : Int))) then
  (ixa x2.a x2.n s3.1 2 fun a7 => ld k_flumeref12_Early w4 a7 fun (x8 : y_flumeref12_Early) => nw w4 ((Kd.av k_flumeref12_Early z_flumeref12_Early).cells) t_flumeref12_Early fun a9 w10 => st w10 a9 (Kd.av k_flumeref12_Early x8) fun w11 => ld (.I .i64) w11 a9 fun (x12 : Int) => bif (x12 == p1) then
  (ld .L w11 (a9.add 1) fun (x13 : Sl) => Q (x13, (true, ())) w11)
  else J6 ((IntKind.i64.wrap (s3.1 + 1)), ()) w11)
  else Q (⟨none, 0, 0⟩, (false, ())) w4
theorem flumeref12_Tunnel_early.t (p0 : Option Addr) (p1 : Int) (Q : (Sl × (Bool × Unit)) → World → Prop) (w : World) : flumeref12_Tunnel_early p0 p1 Q w = fvc Tryd.prog an_flumeref12_Tunnel_early Tryd.f95 (.tup (.pair .L (.pair .B .nil))) [Kd.av .P p0, Kd.av (.I .i64) p1] w Q := by kernel_rfl
theorem flumeref12_Tunnel_early.k : fnOk Tryd.prog Tryd.f95 = true := by kernel_rfl
theorem flumeref12_Tunnel_early.cl {p0 : Option Addr} {p1 : Int} {Q : (Sl × (Bool × Unit)) → World → Prop} {w : World} (h : flumeref12_Tunnel_early p0 p1 Q w) : cl Tryd.prog n_flumeref12_Tunnel_early #[.pointer p0, .int .i64 p1] (.tup (.pair .L (.pair .B .nil))) w Q :=
  cl_tie Tryd.func95 flumeref12_Tunnel_early.k (args := [Kd.av .P p0, Kd.av (.I .i64) p1]) (flumeref12_Tunnel_early.t p0 p1 Q w) h

/-- flume/octet.more -/
def an_octet_more : Nat → LA
  | 2 => [(4, (.I .i64))] | _ => []
def octet_more (p0 : Int) (Q : Int → World → Prop) (w : World) : Prop :=
 lp (α := (Int × Unit)) (fun K => K (0, ())) w fun D3 J4 s1 w2 =>
 bif (decide (s1.1 < 8)) then
  (bif decide (0 ≤ (IntKind.i64.wrap (7 * (IntKind.i64.wrap (s1.1 + 1))))) then (bif (decide (p0 < (IntKind.u64.wrap (1 * 2 ^ (min (Int.toNat (IntKind.i64.wrap (7 * (IntKind.i64.wrap (s1.1 + 1))))) 64))))) then
  (Q s1.1 w2)
  else J4 ((IntKind.i64.wrap (s1.1 + 1)), ()) w2) else False)
  else Q 8 w2
theorem octet_more.t (p0 : Int) (Q : Int → World → Prop) (w : World) : octet_more p0 Q w = fvc Tryd.prog an_octet_more Tryd.f96 (.I .i64) [Kd.av (.I .u64) p0] w Q := by kernel_rfl
theorem octet_more.k : fnOk Tryd.prog Tryd.f96 = true := by kernel_rfl
theorem octet_more.cl {p0 : Int} {Q : Int → World → Prop} {w : World} (h : octet_more p0 Q w) : cl Tryd.prog n_octet_more #[.int .u64 p0] (.I .i64) w Q :=
  cl_tie Tryd.func96 octet_more.k (args := [Kd.av (.I .u64) p0]) (octet_more.t p0 Q w) h

/-- math/bits.LeadingZeros8 -/
def math_bits_LeadingZeros8 (p0 : Int) (Q : Int → World → Prop) (w : World) : Prop :=
 cl Tryd.prog n_math_bits_Len8 #[.int .u8 p0] (.I .i64) w fun (x1 : Int) w2 => Q (IntKind.i64.wrap (8 - x1)) w2
theorem math_bits_LeadingZeros8.t (p0 : Int) (Q : Int → World → Prop) (w : World) : math_bits_LeadingZeros8 p0 Q w = fvc Tryd.prog (fun _ => []) Tryd.f97 (.I .i64) [Kd.av (.I .u8) p0] w Q := by kernel_rfl
theorem math_bits_LeadingZeros8.k : fnOk Tryd.prog Tryd.f97 = true := by kernel_rfl
theorem math_bits_LeadingZeros8.cl {p0 : Int} {Q : Int → World → Prop} {w : World} (h : math_bits_LeadingZeros8 p0 Q w) : cl Tryd.prog n_math_bits_LeadingZeros8 #[.int .u8 p0] (.I .i64) w Q :=
  cl_tie Tryd.func97 math_bits_LeadingZeros8.k (args := [Kd.av (.I .u8) p0]) (math_bits_LeadingZeros8.t p0 Q w) h

/-- slices.IndexFunc[[]flume/tunnel.sent,flume/tunnel.sent] -/
def an_slices_IndexFunc_tunnel_sent_tunnel_sent : Nat → LA
  | 2 => [(8, (.I .i64))] | _ => []
def slices_IndexFunc_tunnel_sent_tunnel_sent (p0 : Sl) (p1 : Value) (Q : Int → World → Prop) (w : World) : Prop :=
 lp (α := (Int × Unit)) (fun K => K (0, ())) w fun D3 J4 s1 w2 =>
 bif (decide (s1.1 < (p0.n : Int))) then
  (ixa p0.a p0.n s1.1 3 fun a5 => ld k_tunnel_sent w2 a5 fun (x6 : y_tunnel_sent) => clv Tryd.prog (p1) #[(Kd.av k_tunnel_sent x6).val] .B w2 fun (x7 : Bool) w8 => bif x7 then
  (Q s1.1 w8)
  else J4 ((IntKind.i64.wrap (s1.1 + 1)), ()) w8)
  else Q (-1) w2
theorem slices_IndexFunc_tunnel_sent_tunnel_sent.t (p0 : Sl) (p1 : Value) (Q : Int → World → Prop) (w : World) : slices_IndexFunc_tunnel_sent_tunnel_sent p0 p1 Q w = fvc Tryd.prog an_slices_IndexFunc_tunnel_sent_tunnel_sent Tryd.f98 (.I .i64) [Kd.av .L p0, Kd.av .U p1] w Q := by kernel_rfl
theorem slices_IndexFunc_tunnel_sent_tunnel_sent.k : fnOk Tryd.prog Tryd.f98 = true := by kernel_rfl
theorem slices_IndexFunc_tunnel_sent_tunnel_sent.cl {p0 : Sl} {p1 : Value} {Q : Int → World → Prop} {w : World} (h : slices_IndexFunc_tunnel_sent_tunnel_sent p0 p1 Q w) : cl Tryd.prog n_slices_IndexFunc_tunnel_sent_tunnel_sent #[.slice p0.a p0.n p0.c, p1] (.I .i64) w Q :=
  cl_tie Tryd.func98 slices_IndexFunc_tunnel_sent_tunnel_sent.k (args := [Kd.av .L p0, Kd.av .U p1]) (slices_IndexFunc_tunnel_sent_tunnel_sent.t p0 p1 Q w) h

/-- math/bits.Len8 -/
def math_bits_Len8 (p0 : Int) (Q : Int → World → Prop) (w : World) : Prop :=
 0 ≤ p0 ∧ p0 < ((⟨#[0, 1, 2, 2, 3, 3, 3, 3, 4, 4, 4, 4, 4, 4, 4, 4, 5, 5, 5, 5, 5, 5, 5, 5, 5, 5, 5, 5, 5, 5, 5, 5, 6, 6, 6, 6, 6, 6, 6, 6, 6, 6, 6, 6, 6, 6, 6, 6, 6, 6, 6, 6, 6, 6, 6, 6, 6, 6, 6, 6, 6, 6, 6, 6, 7, 7, 7, 7, 7, 7, 7, 7, 7, 7, 7, 7, 7, 7, 7, 7, 7, 7, 7, 7, 7, 7, 7, 7, 7, 7, 7, 7, 7, 7, 7, 7, 7, 7, 7, 7, 7, 7, 7, 7, 7, 7, 7, 7, 7, 7, 7, 7, 7, 7, 7, 7, 7, 7, 7, 7, 7, 7, 7, 7, 7, 7, 7, 7, 8, 8, 8, 8, 8, 8, 8, 8, 8, 8, 8, 8, 8, 8, 8, 8, 8, 8, 8, 8, 8, 8, 8, 8, 8, 8, 8, 8, 8, 8, 8, 8, 8, 8, 8, 8, 8, 8, 8, 8, 8, 8, 8, 8, 8, 8, 8, 8, 8, 8, 8, 8, 8, 8, 8, 8, 8, 8, 8, 8, 8, 8, 8, 8, 8, 8, 8, 8, 8, 8, 8, 8, 8, 8, 8, 8, 8, 8, 8, 8, 8, 8, 8, 8, 8, 8, 8, 8, 8, 8, 8, 8, 8, 8, 8, 8, 8, 8, 8, 8, 8, 8, 8, 8, 8, 8, 8, 8, 8, 8, 8, 8, 8, 8, 8, 8, 8, 8, 8, 8, 8, 8, 8, 8, 8, 8, 8, 8]⟩ : ByteArray).size : Int) ∧ (Q (IntKind.i64.wrap (((⟨#[0, 1, 2, 2, 3, 3, 3, 3, 4, 4, 4, 4, 4, 4, 4, 4, 5, 5, 5, 5, 5, 5, 5, 5, 5, 5, 5, 5, 5, 5, 5, 5, 6, 6, 6, 6, 6, 6, 6, 6, 6, 6, 6, 6, 6, 6, 6, 6, 6, 6, 6, 6, 6, 6, 6, 6, 6, 6, 6, 6, 6, 6, 6, 6, 7, 7, 7, 7, 7, 7, 7, 7, 7, 7, 7, 7, 7, 7, 7, 7, 7, 7, 7, 7, 7, 7, 7, 7, 7, 7, 7, 7, 7, 7, 7, 7, 7, 7, 7, 7, 7, 7, 7, 7, 7, 7, 7, 7, 7, 7, 7, 7, 7, 7, 7, 7, 7, 7, 7, 7, 7, 7, 7, 7, 7, 7, 7, 7, 8, 8, 8, 8, 8, 8, 8, 8, 8, 8, 8, 8, 8, 8, 8, 8, 8, 8, 8, 8, 8, 8, 8, 8, 8, 8, 8, 8, 8, 8, 8, 8, 8, 8, 8, 8, 8, 8, 8, 8, 8, 8, 8, 8, 8, 8, 8, 8, 8, 8, 8, 8, 8, 8, 8, 8, 8, 8, 8, 8, 8, 8, 8, 8, 8, 8, 8, 8, 8, 8, 8, 8, 8, 8, 8, 8, 8, 8, 8, 8, 8, 8, 8, 8, 8, 8, 8, 8, 8, 8, 8, 8, 8, 8, 8, 8, 8, 8, 8, 8, 8, 8, 8, 8, 8, 8, 8, 8, 8, 8, 8, 8, 8, 8, 8, 8, 8, 8, 8, 8, 8, 8, 8, 8, 8, 8, 8, 8]⟩ : ByteArray).data.toList.getD (Int.toNat p0) 0).toNat : Int)) w)
theorem math_bits_Len8.t (p0 : Int) (Q : Int → World → Prop) (w : World) : math_bits_Len8 p0 Q w = fvc Tryd.prog (fun _ => []) Tryd.f99 (.I .i64) [Kd.av (.I .u8) p0] w Q := by kernel_rfl
theorem math_bits_Len8.k : fnOk Tryd.prog Tryd.f99 = true := by kernel_rfl
theorem math_bits_Len8.cl {p0 : Int} {Q : Int → World → Prop} {w : World} (h : math_bits_Len8 p0 Q w) : cl Tryd.prog n_math_bits_Len8 #[.int .u8 p0] (.I .i64) w Q :=
  cl_tie Tryd.func99 math_bits_Len8.k (args := [Kd.av (.I .u8) p0]) (math_bits_Len8.t p0 Q w) h
end Go.Proofs.YtmhibpcbdbhfoaaDoor

namespace Go.Fl
open Go.RowKit

theorem bP {p : Prop} [Decidable p] {X Y : Prop} (h : p) (k : X) : bif decide p then X else Y := by rw [decide_eq_true h]; exact k
theorem bN {p : Prop} [Decidable p] {X Y : Prop} (h : ¬p) (k : Y) : bif decide p then X else Y := by rw [decide_eq_false h]; exact k
theorem bD {p : Prop} [Decidable p] {X Y : Prop} (ht : p → X) (hf : ¬p → Y) : bif decide p then X else Y := by
  by_cases h : p
  · exact bP h (ht h)
  · exact bN h (hf h)
theorem bT {b : Bool} {X Y : Prop} (h : b = true) (k : X) : bif b then X else Y := by rw [h]; exact k
theorem bF {b : Bool} {X Y : Prop} (h : b = false) (k : Y) : bif b then X else Y := by rw [h]; exact k
theorem bB {b : Bool} {X Y : Prop} (ht : b = true → X) (hf : b = false → Y) : bif b then X else Y := by cases b; exact hf rfl; exact ht rfl
theorem bE {a b : Int} {X Y : Prop} (ht : a = b → X) (hf : a ≠ b → Y) : bif a == b then X else Y := by
  by_cases h : a = b
  · exact bT (by simpa using h) (ht h)
  · exact bF (by simpa using h) (hf h)
theorem bNe {a b : Int} {X Y : Prop} (ht : a ≠ b → X) (hf : a = b → Y) : bif a != b then X else Y := by
  by_cases h : a = b
  · exact bF (by simpa using h) (hf h)
  · exact bT (by simpa using h) (ht h)

theorem i64w {n : Int} (h : -9223372036854775808 ≤ n) (h' : n ≤ 9223372036854775807) : IntKind.i64.wrap n = n := by rw [IntKind.wrap_i64]; omega
theorem u64w {n : Int} (h : 0 ≤ n) (h' : n ≤ 18446744073709551615) : IntKind.u64.wrap n = n := by simp only [IntKind.wrap, IntKind.bits, IntKind.signed]; simp; omega
theorem u8w (n : Int) : IntKind.u8.wrap n = n % 256 := IntKind.wrap_u8 n
theorem u32w (n : Int) : IntKind.u32.wrap n = n % 4294967296 := IntKind.wrap_u32 n

/-- A loop: an invariant, and what every round lowers. -/
theorem lpI {α : Type} {init : (α → Prop) → Prop} {w : World} {body : (Nat → AV) → (α → World → Prop) → α → World → Prop} (J : α → World → Prop) (μ : α → World → Nat)
    (h0 : init fun s => J s w) (h : ∀ D s w', J s w' → body D (fun s' w'' => J s' w'' ∧ μ s' w'' < μ s w') s w') : lp init w body := ⟨J, μ, h0, h⟩

theorem Fr.on {a b c : World} (h : Fr a b) (k : Below a.heap.size b c) : Fr a c := Below.trans h k
theorem Fr.alloc (w : World) (o : Obj) : Fr w (w.alloc o) := (Below.refl _ w).alloc (Nat.le_refl _) o
theorem Fr.drewN (w : World) (n : Nat) : Fr w (w.drewN n) := ⟨rfl, rfl, rfl, Nat.le_refl _, fun _ _ => rfl⟩

theorem own_kept {w w' : World} {base : Nat} {e : TypeId} {size : Nat} {v : Value} {n : Nat} {xs : List Value} (h : w.ownsRow base e size v n xs) (hf : Fr w w') : w'.ownsRow base e size v n xs := by
  refine ⟨h.1, ?_⟩
  rcases h.2 with hn | ⟨g, cap, cur, rfl, hb, hgg, rest⟩
  · exact .inl hn
  · exact .inr ⟨g, cap, cur, rfl, hb, (hf.block g (Array.getElem?_eq_some_iff.1 hgg).1).trans hgg, rest⟩

/-- A slice of the call's own that holds bytes. -/
def OwB (w : World) (base : Nat) (e : TypeId) (s : Sl) (l : List UInt8) : Prop := w.ownsRow base e 1 (.slice s.a s.n s.c) s.n (u8s l)
theorem OwB.len {w : World} {base : Nat} {e : TypeId} {s : Sl} {l : List UInt8} (h : OwB w base e s l) : s.n = l.length := by
  have := h.1; rw [u8s_length] at this; omega
theorem OwB.rd {w : World} {base : Nat} {e : TypeId} {s : Sl} {l : List UInt8} (h : OwB w base e s l) : Rd w s.a (u8s l) := Rd.of_own h
theorem OwB.fr {w w' : World} {base : Nat} {e : TypeId} {s : Sl} {l : List UInt8} (h : OwB w base e s l) (hf : Fr w w') : OwB w' base e s l := own_kept h hf
theorem OwB.nil (w : World) (base : Nat) (e : TypeId) : OwB w base e ⟨none, 0, 0⟩ [] := World.ownsRow_nil w base e 1
theorem OwB.cap {w : World} {base : Nat} {e : TypeId} {s : Sl} {l : List UInt8} (h : OwB w base e s l) : s.n ≤ s.c := by
  rcases h.2 with ⟨hv, hn⟩ | ⟨g, cap, cur, hv, _, _, hc, _⟩
  · injection hv with _ h1 h2; omega
  · injection hv with _ h1 h2; omega
theorem OwB.block {w : World} {base : Nat} {e : TypeId} {s : Sl} {l : List UInt8} (h : OwB w base e s l) : ∀ k, (Value.slice s.a s.n s.c).ownBlock = some k → base ≤ k ∧ k < w.heap.size := h.lt

/-- A slice that reads as bytes. -/
structure Bs (w : World) (s : Sl) (l : List UInt8) : Prop where
  rd : Rd w s.a (u8s l)
  len : s.n = l.length
  cap : s.n ≤ s.c
theorem Bs.fr {w w' : World} {s : Sl} {l : List UInt8} (h : Bs w s l) (hf : Fr w w') : Bs w' s l := ⟨h.rd.below hf, h.len, h.cap⟩
theorem OwB.bs {w : World} {base : Nat} {e : TypeId} {s : Sl} {l : List UInt8} (h : OwB w base e s l) : Bs w s l := ⟨h.rd, h.len, h.cap⟩

theorem sl_of_own {w : World} {base : Nat} {e : TypeId} {size : Nat} {v : Value} {n : Nat} {xs : List Value} (h : w.ownsRow base e size v n xs) : ∃ s : Sl, v = .slice s.a s.n s.c ∧ s.n = n := by
  rcases h.2 with ⟨rfl, rfl⟩ | ⟨g, cap, cur, rfl, _⟩
  · exact ⟨⟨none, 0, 0⟩, rfl, rfl⟩
  · exact ⟨⟨some ⟨g, 0, none⟩, n, cap⟩, rfl, rfl⟩

/-- append onto a row of the call's own. -/
theorem app_own {P : Program} {t ty e : TypeId} {size bytes : Nat} (hT : SlT P t e size bytes) {base : Nat} {s x : Sl} {w : World} {K : Sl → World → Prop} {xs news : List Value}
    (hown : w.ownsRow base e size (.slice s.a s.n s.c) s.n xs) (hr : Rd w x.a news) (hl : news.length = x.n * size) (h1 : ∀ u ∈ news, u.oneCell' = true)
    (hb : (s.n + x.n) * bytes ≤ 140737488355328) (h63 : s.n + x.n ≤ 140737488355328) (hbase : base ≤ w.heap.size)
    (h : ∀ (r : Sl) w', r.n = s.n + x.n → w'.ownsRow base e size (.slice r.a r.n r.c) r.n (xs ++ news) → w.grownBy w' (Value.slice s.a s.n s.c).ownBlock →
      ((Value.slice r.a r.n r.c).ownBlock = (Value.slice s.a s.n s.c).ownBlock ∨ (Value.slice r.a r.n r.c).ownBlock = some w.heap.size) → K r w') : app P t ty s x w K := by
  obtain ⟨v', w', hrun, h2, h3, h4⟩ := run_append_rd (P := P) (ty := ty) hT base hown (c := x.c) hr hl h1 hb h63 hbase
  obtain ⟨r, rfl, hn⟩ := sl_of_own h2
  exact ⟨r, w', hrun, h r w' hn (hn ▸ h2) h3 h4⟩

/-- append of bytes. -/
theorem app_B {P : Program} {t ty e : TypeId} (hT : SlT P t e 1 1) {base : Nat} {s x : Sl} {w : World} {K : Sl → World → Prop} {l m : List UInt8}
    (hs : OwB w base e s l) (hx : Rd w x.a (u8s m)) (hm : m.length = x.n) (hl : l.length + m.length ≤ 140737488355328) (hbase : base ≤ w.heap.size)
    (h : ∀ (r : Sl) w', OwB w' base e r (l ++ m) → Below base w w' → (∀ k, k < w.heap.size → (Value.slice s.a s.n s.c).ownBlock ≠ some k → w'.heap[k]? = w.heap[k]?) → 
      ((Value.slice r.a r.n r.c).ownBlock = (Value.slice s.a s.n s.c).ownBlock ∨ (Value.slice r.a r.n r.c).ownBlock = some w.heap.size) → K r w') : app P t ty s x w K := by
  have hn := hs.len
  refine app_own hT hs hx (by simp [u8s_length, hm]) (u8s_one m) (by omega) (by omega) hbase fun r w' hr ho hg hat => h r w' ?_ ?_ ?_ hat
  · unfold OwB; rw [u8s_append]; exact ho
  · exact (Below.refl base w).grown hg hbase fun k hk => (hs.block k hk).1
  · exact fun k hk hne => hg.block k hk fun e => hne e.symm

/-- make([]T, 0, n). -/
theorem mks0 {P : Program} {t e : TypeId} {size bytes : Nat} (hT : SlT P t e size bytes) (base : Nat) {C : Int} {w : World} {K : Sl → World → Prop} (n : Nat) (hC : C = (n : Int)) (hb : bytes * n ≤ 140737488355328) (h63 : n ≤ 140737488355328) (hbase : base ≤ w.heap.size)
    (h : ∀ w', w'.ownsRow base e size (.slice (some ⟨w.heap.size, 0, none⟩) 0 n) 0 [] → Fr w w' → K ⟨some ⟨w.heap.size, 0, none⟩, 0, n⟩ w') : mks P t 0 C w K := by
  obtain ⟨i, z, hi, hz, hsize, hby, hzs⟩ := hT.info
  subst hC
  obtain ⟨w', hrun, r1, r2⟩ := run_make_own (P := P) w base t e i z size hT.under hi hz hsize .i64 .i64 n (by rw [hby]; omega) (by simp only [maxLen]; omega) hbase
  exact ⟨⟨some ⟨w.heap.size, 0, none⟩, 0, n⟩, w', hrun, h w' r1 ((Below.refl _ w).grown r2 (Nat.le_refl _) (by simp))⟩

/-- A new block. -/
theorem nwI {w : World} {cs : List Value} {t : TypeId} {K : Addr → World → Prop}
    (h : ∀ b w', b = w.heap.size → w'.heap.size = w.heap.size + 1 → Fr w w' → w'.heap[b]? = some (.cells cs.toArray t (0, 0)) → Rd w' (some ⟨b, 0, none⟩) cs → K ⟨b, 0, none⟩ w') : nw w cs t K := by
  refine h w.heap.size _ rfl (by simp) (Fr.alloc _ _) (heap_alloc_new w _) ?_
  intro j u hu
  refine ⟨_, rfl, ?_⟩
  have hadd : (⟨w.heap.size, 0, none⟩ : Addr).add j = ⟨w.heap.size, j, none⟩ := by unfold Addr.add; split <;> simp_all
  rw [hadd, cell_of_row (w.alloc (.cells cs.toArray t)) w.heap.size j cs.toArray t (0, 0) (heap_alloc_new w _)]
  simpa using hu

theorem Rd.u8 {w : World} {A : Option Addr} {l : List UInt8} (h : Rd w A (u8s l)) {i : Nat} (hi : i < l.length) : ∃ ad, A = some ad ∧ w.cell? (ad.add i) = some (.int .u8 (l[i].toNat)) := by
  have := h.at i (by rw [u8s_length]; exact hi)
  simpa [u8s] using this
/-- A byte of a slice is read. -/
theorem ixB {w w' : World} {s : Sl} {l : List UInt8} {i : Int} {K : Int → Prop} (hs : Rd w s.a (u8s l)) (hl : s.n = l.length) (h0 : 0 ≤ i) (hi : i.toNat < l.length) (hw : Fr w w')
    (h : K (l[i.toNat].toNat)) : ixa s.a s.n i 1 fun a => ld (.I .u8) w' a K := by
  obtain ⟨ad, ha, hc⟩ := (hs.below hw).u8 hi
  refine ⟨h0, by omega, ?_⟩
  rw [ha]
  exact ⟨_, hc, h⟩
theorem ixB0 {w w' : World} {s : Sl} {b : UInt8} {t : List UInt8} {K : Int → Prop} (hs : Rd w s.a (u8s (b :: t))) (hl : s.n = (b :: t).length) (hw : Fr w w')
    (h : K (b.toNat)) : ixa s.a s.n 0 1 fun a => ld (.I .u8) w' a K := ixB hs hl (by decide) (by simp) hw h
theorem bstrI {w w' : World} {x : Sl} {l : List UInt8} {K : List UInt8 → Prop} (h : Rd w x.a (u8s l)) (hl : l.length = x.n) (hw : Fr w w') (hk : K l) : bstr w' x K := ⟨l, hl, h.below hw, hk⟩
theorem beqB_eq (a b : List UInt8) : beqB ⟨a.toArray⟩ ⟨b.toArray⟩ = decide (a = b) := by
  unfold beqB
  rw [ByteArray.toList_eq, ByteArray.toList_eq]
  simp [Bool.beq_eq_decide_eq]
/-- A law's call, as its row wants it. -/
theorem lawE {P : Program} {f : FuncId} {args : Array Value} {w : World} (h : cl P f args .B w fun r w' => r = true ∧ Fr w w') : Calls P f args w fun e w' => e = .returned (.bool true) ∧ Below w.heap.size w w' := by
  refine Calls.mono h ?_
  rintro e w' ⟨x, rfl, rfl, hf⟩
  exact ⟨rfl, hf⟩

/-- A part of a slice. -/
theorem Bs.cut {w : World} {s : Sl} {l : List UInt8} (h : Bs w s l) {i j : Nat} (hij : i ≤ j) (hj : j ≤ l.length) : Bs w (cut s i j 1) ((l.take j).drop i) := by
  have hl := h.len
  have hc := h.cap
  refine ⟨?_, by simp [Fl.cut, List.length_take]; omega, by simp [Fl.cut]; omega⟩
  have hr : Rd w s.a (u8s (l.take j)) := by
    have := h.rd.take j
    rwa [show (u8s l).take j = u8s (l.take j) from by simp [u8s, List.map_take]] at this
  have hd := hr.drop i
  rw [show (u8s (l.take j)).drop i = u8s ((l.take j).drop i) from by simp [u8s, List.map_drop]] at hd
  unfold Fl.cut
  by_cases hci : s.c = i
  · simp only [hci, if_true]
    have : (l.take j).drop i = [] := by rw [List.drop_eq_nil_iff, List.length_take]; omega
    rw [this]; exact Rd.nil _ _
  · rw [if_neg hci]
    rw [show (fun x => atOff x (i : Int) 1) = fun x : Addr => x.add i from rfl]
    exact hd
theorem slsB {w : World} {s : Sl} {l : List UInt8} {i j : Int} {K : Sl → Prop} (h : Bs w s l) (h0 : 0 ≤ i) (hij : i ≤ j) (hj : j ≤ l.length)
    (hk : ∀ r : Sl, Bs w r ((l.take j.toNat).drop i.toNat) → (∀ ad, r.a = some ad → ∃ ad', s.a = some ad' ∧ ad.block = ad'.block) → r.c ≤ s.c → K r) : sls s i j 1 K := by
  have hl := h.len
  have hc := h.cap
  refine ⟨h0, hij, by omega, hk _ (h.cut (by omega) (by omega)) (fun ad ha => ?_) (by simp [Fl.cut])⟩
  unfold Fl.cut at ha
  split at ha
  · exact ⟨ad, ha, rfl⟩
  · cases hs : s.a with
    | none => rw [hs] at ha; cases ha
    | some ad' =>
      rw [hs] at ha
      simp only [Option.map_some, Option.some.injEq] at ha
      refine ⟨ad', rfl, ?_⟩
      rw [← ha, atOff_eq, add_block]
theorem Bs.nil (w : World) (c : Nat) : Bs w ⟨none, 0, c⟩ [] := ⟨Rd.nil _ _, rfl, Nat.zero_le _⟩
theorem OwB.new {w : World} {base : Nat} {e : TypeId} {b : Nat} (h : w.heap[b]? = some (.cells #[] e (0, 0))) (hb : base ≤ b) : OwB w base e ⟨some ⟨b, 0, none⟩, 0, 0⟩ [] :=
  ⟨rfl, .inr ⟨b, 0, #[], rfl, hb, h, Nat.le_refl _, Nat.zero_le _, rfl, rfl⟩⟩
theorem OwB.mono {w : World} {base base' : Nat} {e : TypeId} {s : Sl} {l : List UInt8} (h : OwB w base e s l) (hb : base' ≤ base) : OwB w base' e s l := by
  refine ⟨h.1, ?_⟩
  rcases h.2 with hn | ⟨g, cap, cur, hv, hg, rest⟩
  · exact .inl hn
  · exact .inr ⟨g, cap, cur, hv, Nat.le_trans hb hg, rest⟩
/-- append to a new empty slice. -/
theorem copyB {P : Program} {t ty e : TypeId} (hT : SlT P t e 1 1) {x : Sl} {l : List UInt8} {w : World} {K : Sl → World → Prop} (hx : Bs w x l) (hl : l.length ≤ 140737488355328)
    (h : ∀ (r : Sl) w', OwB w' w.heap.size e r l → Fr w w' → K r w') : nw w [] e fun a w2 => app P t ty ⟨some a, 0, 0⟩ x w2 K := by
  refine nwI fun b w2 hb hsz hf hblk _ => ?_
  refine app_B hT (base := w.heap.size) (l := []) (OwB.new hblk (by omega)) (hx.fr hf).rd hx.len.symm (by simpa using hl) hf.size fun r w3 ho hb3 _ _ => h r w3 ?_ (hf.on hb3)
  simpa using ho

/-- A slice that reads as numbers. -/
structure Is (w : World) (s : Sl) (l : List Int) : Prop where
  rd : Rd w s.a (l.map (Value.int .i64))
  len : s.n = l.length
  cap : s.n ≤ s.c
theorem Is.fr {w w' : World} {s : Sl} {l : List Int} (h : Is w s l) (hf : Fr w w') : Is w' s l := ⟨h.rd.below hf, h.len, h.cap⟩
theorem ixI {w w' : World} {s : Sl} {l : List Int} {i : Int} {K : Int → Prop} (hs : Is w s l) (h0 : 0 ≤ i) (hi : i.toNat < l.length) (hw : Fr w w')
    (h : K l[i.toNat]) : ixa s.a s.n i 1 fun a => ld (.I .i64) w' a K := by
  have := (hs.rd.below hw).at i.toNat (by simpa using hi)
  obtain ⟨ad, ha, hc⟩ := this
  rw [List.getElem_map] at hc
  refine ⟨h0, by have := hs.len; omega, ?_⟩
  rw [ha]
  exact ⟨_, hc, h⟩
theorem wfI64 {n : Int} (h : (Lit.int .i64 n).wf = true) : -9223372036854775808 ≤ n ∧ n ≤ 9223372036854775807 := by
  simp only [Lit.wf, IntKind.min, IntKind.max, IntKind.signed, IntKind.bits, Bool.and_eq_true, decide_eq_true_eq, if_true] at h
  omega
/-- A slice of numbers that came in. -/
abbrev RowK (k : IntKind) (w : World) (a : Option Addr) (len cap : Nat) (zs : List Int) : Prop :=
  (a = none ∧ len = 0 ∧ cap = 0 ∧ zs = []) ∨
  ∃ x, a = some x ∧ len ≤ cap ∧ cap ≤ maxLen ∧ zs.length = cap ∧ (∀ i, i < zs.length → w.cell? (x.add i) = some (.int k (zs.getD i 0))) ∧ ∀ n ∈ zs, (Lit.int k n).wf = true
theorem rowRd {k : IntKind} {w : World} {a : Option Addr} {len cap : Nat} {zs : List Int} (h : RowK k w a len cap zs) :
    Rd w a ((zs.take len).map (Value.int k)) ∧ len = (zs.take len).length ∧ len ≤ cap ∧ ∀ n ∈ zs.take len, (Lit.int k n).wf = true := by
  rcases h with ⟨rfl, rfl, rfl, rfl⟩ | ⟨x, rfl, hc, hm, hl, hcell, hw⟩
  · exact ⟨Rd.nil _ _, rfl, Nat.le_refl _, by simp⟩
  · refine ⟨fun j u hu => ⟨x, rfl, ?_⟩, by simp [List.length_take]; omega, hc, fun n hn => hw n (List.mem_of_mem_take hn)⟩
    rw [List.getElem?_map, List.getElem?_take] at hu
    split at hu
    case isTrue hj =>
      rw [hcell j (by omega)]
      rw [List.getD_eq_getElem?_getD]
      cases hz : zs[j]? with
      | none => simp [hz] at hu
      | some z => simpa [hz] using hu
    case isFalse => simp at hu
theorem rowB {w : World} {a : Option Addr} {len cap : Nat} {zs : List Int} (h : RowK .u8 w a len cap zs) : ∃ l : List UInt8, Bs w ⟨a, len, cap⟩ l := by
  obtain ⟨h1, h2, h3, h4⟩ := rowRd h
  refine ⟨(zs.take len).map fun n => UInt8.ofNat n.toNat, ?_, by simpa using h2, h3⟩
  unfold u8s
  rw [List.map_map]
  rwa [List.map_congr_left (g := Value.int .u8)]
  intro n hn
  have := h4 n hn
  simp only [Lit.wf, IntKind.min, IntKind.max, IntKind.signed, IntKind.bits, Bool.and_eq_true] at this
  simp only [Function.comp, UInt8.toNat_ofNat']
  congr 1
  simp at this
  omega
theorem rowI {w : World} {a : Option Addr} {len cap : Nat} {zs : List Int} (h : RowK .i64 w a len cap zs) : ∃ l : List Int, Is w ⟨a, len, cap⟩ l ∧ ∀ n ∈ l, -9223372036854775808 ≤ n ∧ n ≤ 9223372036854775807 := by
  obtain ⟨h1, h2, h3, h4⟩ := rowRd h
  exact ⟨_, ⟨h1, h2, h3⟩, fun n hn => wfI64 (h4 n hn)⟩
end Go.Fl
namespace Go.Fl

def moreF : Nat → Nat → Nat
  | 0, _ => 0
  | f + 1, x => if x < 128 then 0 else moreF f (x / 128) + 1
/-- How many bytes follow a number's first one. -/
def moreN (x : Nat) : Nat := moreF 8 x
theorem moreF_le : ∀ f x, moreF f x ≤ f
  | 0, _ => Nat.le_refl _
  | f + 1, x => by unfold moreF; split; omega; have := moreF_le f (x / 128); omega
theorem moreN_le (x : Nat) : moreN x ≤ 8 := moreF_le 8 x
theorem moreF_of : ∀ {f k x : Nat}, k < f → x < 128 ^ (k + 1) → (∀ j, j < k → 128 ^ (j + 1) ≤ x) → moreF f x = k
  | f + 1, 0, x, _, h, _ => by unfold moreF; rw [if_pos (by simpa using h)]
  | f + 1, k + 1, x, hk, h, hl => by
    have h0 : 128 ≤ x := by simpa using hl 0 (by omega)
    unfold moreF
    rw [if_neg (by omega), moreF_of (k := k) (by omega) (by rw [Nat.div_lt_iff_lt_mul (by decide)]; simpa [Nat.pow_succ] using h)
      (fun j hj => by rw [Nat.le_div_iff_mul_le (by decide)]; have := hl (j + 1) (by omega); simpa [Nat.pow_succ] using this)]
theorem moreF_top : ∀ {f x : Nat}, (∀ j, j < f → 128 ^ (j + 1) ≤ x) → moreF f x = f
  | 0, _, _ => rfl
  | f + 1, x, hl => by
    have h0 : 128 ≤ x := by simpa using hl 0 (by omega)
    unfold moreF
    rw [if_neg (by omega), moreF_top (fun j hj => by rw [Nat.le_div_iff_mul_le (by decide)]; have := hl (j + 1) (by omega); simpa [Nat.pow_succ] using this)]
/-- Where it stops, and what stands ahead. -/
theorem moreF_spec : ∀ {f x : Nat}, (moreF f x < f → x < 128 ^ (moreF f x + 1)) ∧ ∀ j, j < moreF f x → 128 ^ (j + 1) ≤ x
  | 0, x => ⟨fun h => by simp [moreF] at h, fun j h => by simp [moreF] at h⟩
  | f + 1, x => by
    unfold moreF
    split
    · rename_i h; exact ⟨fun _ => by simpa using h, fun j hj => by omega⟩
    · rename_i h
      obtain ⟨h1, h2⟩ := moreF_spec (f := f) (x := x / 128)
      refine ⟨fun hlt => ?_, fun j hj => ?_⟩
      · have := h1 (by omega)
        rw [Nat.div_lt_iff_lt_mul (by decide)] at this
        rw [Nat.pow_succ]; exact this
      · cases j with
        | zero => simp; omega
        | succ j =>
          have := h2 j (by omega)
          rw [Nat.le_div_iff_mul_le (by decide)] at this
          rw [Nat.pow_succ]; exact this

/-- The k lowest bytes of a number, the highest one first. -/
def lowB (x : Nat) : Nat → List UInt8
  | 0 => []
  | k + 1 => UInt8.ofNat (x / 256 ^ k) :: lowB x k
theorem lowB_length (x : Nat) : ∀ k, (lowB x k).length = k
  | 0 => rfl
  | k + 1 => by simp [lowB, lowB_length x k]
/-- What stands in the first byte: as many ones as bytes follow, and what is left of the number. -/
def leadB (x k : Nat) : Nat := 256 - 2 ^ (8 - k) + if k < 8 then x / 256 ^ k else 0
def numB (x : Nat) : List UInt8 := UInt8.ofNat (leadB x (moreN x)) :: lowB x (moreN x)
theorem numB_length (x : Nat) : (numB x).length = moreN x + 1 := by simp [numB, lowB_length]

theorem lowB_succ (x k : Nat) : lowB x (k + 1) = UInt8.ofNat (x / 256 ^ k) :: lowB x k := rfl
/-- Laid from the highest one on: the first m of k. -/
theorem lowB_take {x : Nat} : ∀ {k m : Nat}, m < k → (lowB x k).take (m + 1) = (lowB x k).take m ++ [UInt8.ofNat (x / 256 ^ (k - 1 - m))]
  | k + 1, 0, _ => by simp [lowB]
  | k + 1, m + 1, h => by
    simp only [lowB, List.take_succ_cons, List.cons_append]
    rw [lowB_take (by omega), show k + 1 - 1 - (m + 1) = k - 1 - m from by omega]

theorem lead_small {x k : Nat} (hk : k < 8) (hx : x < 128 ^ (k + 1)) : x / 256 ^ k < 2 ^ (7 - k) := by
  rw [Nat.div_lt_iff_lt_mul (Nat.pow_pos (by decide))]
  refine Nat.lt_of_lt_of_le hx (Nat.le_of_eq ?_)
  match k, hk with
  | 0, _ => rfl
  | 1, _ => rfl
  | 2, _ => rfl
  | 3, _ => rfl
  | 4, _ => rfl
  | 5, _ => rfl
  | 6, _ => rfl
  | 7, _ => rfl
theorem ones_eq {k : Nat} (hk : k ≤ 8) : 255 * 2 ^ (8 - k) % 256 = 256 - 2 ^ (8 - k) := by
  match k, hk with
  | 0, _ => rfl
  | 1, _ => rfl
  | 2, _ => rfl
  | 3, _ => rfl
  | 4, _ => rfl
  | 5, _ => rfl
  | 6, _ => rfl
  | 7, _ => rfl
  | 8, _ => rfl
theorem leadB_lt {x k : Nat} (hx : k < 8 → x < 128 ^ (k + 1)) (hk : k ≤ 8) : leadB x k < 256 := by
  unfold leadB
  by_cases h : k < 8
  · rw [if_pos h]
    have := lead_small h (hx h)
    have h2 : 2 ^ (8 - k) = 2 * 2 ^ (7 - k) := by rw [show 8 - k = 7 - k + 1 from by omega, Nat.pow_succ, Nat.mul_comm]
    have h3 : 2 ^ (8 - k) ≤ 2 ^ 8 := Nat.pow_le_pow_right (by decide) (by omega)
    have h4 : 0 < 2 ^ (7 - k) := Nat.pow_pos (by decide)
    omega
  · rw [if_neg h]
    have : 0 < 2 ^ (8 - k) := Nat.pow_pos (by decide)
    omega
theorem or_lead {x k : Nat} (hk : k < 8) (hx : x < 128 ^ (k + 1)) : (255 * 2 ^ (8 - k) % 256) ||| (x / 256 ^ k) = leadB x k := by
  have hs := lead_small hk hx
  rw [ones_eq (by omega), leadB, if_pos hk]
  have h2 : 2 ^ (8 - k) = 2 * 2 ^ (7 - k) := by rw [show 8 - k = 7 - k + 1 from by omega, Nat.pow_succ, Nat.mul_comm]
  have hd : 256 - 2 ^ (8 - k) = 2 ^ (7 - k) * (2 ^ (k + 1) - 2) := by
    rw [Nat.mul_sub, ← Nat.pow_add, show 7 - k + (k + 1) = 8 from by omega]
    omega
  rw [hd, ← Nat.two_pow_add_eq_or_of_lt hs]

/-! ### Reading -/
/-- How many ones a byte begins with. -/
def ones (b : Nat) : Nat := if b < 128 then 0 else if b < 192 then 1 else if b < 224 then 2 else if b < 240 then 3 else if b < 248 then 4 else if b < 252 then 5 else if b < 254 then 6 else if b < 255 then 7 else 8
theorem ones_le (b : Nat) : ones b ≤ 8 := by unfold ones; (repeat' split) <;> omega
theorem ones_of {b k : Nat} (hk : k < 8) (h1 : 256 - 2 ^ (8 - k) ≤ b) (h2 : b < 256 - 2 ^ (7 - k)) : ones b = k := by
  match k, hk with
  | 0, _ | 1, _ | 2, _ | 3, _ | 4, _ | 5, _ | 6, _ | 7, _ => simp at h1 h2; unfold ones; (repeat' split) <;> omega
theorem ones_spec {b : Nat} (hb : b < 256) : 256 - 2 ^ (8 - ones b) ≤ b ∧ (ones b < 8 → b < 256 - 2 ^ (7 - ones b)) := by
  unfold ones
  (repeat' split) <;> simp <;> omega

/-- Digits to the base 256 behind a first one. -/
def beN (a : Nat) (l : List UInt8) : Nat := l.foldl (fun x c => x * 256 + c.toNat) a
theorem beN_cons (a : Nat) (c : UInt8) (l : List UInt8) : beN a (c :: l) = beN (a * 256 + c.toNat) l := rfl
theorem beN_append (a : Nat) (l m : List UInt8) : beN a (l ++ m) = beN (beN a l) m := by simp [beN]
theorem beN_lt {a B : Nat} : ∀ {l : List UInt8}, a < B → beN a l < B * 256 ^ l.length
  | [], h => by simpa [beN] using h
  | c :: l, h => by
    rw [beN_cons]
    have hc := c.toNat_lt
    have := beN_lt (a := a * 256 + c.toNat) (B := B * 256) (l := l) (by omega)
    rwa [Nat.mul_assoc, ← Nat.pow_succ'] at this
theorem beN_ge (a : Nat) : ∀ l : List UInt8, a ≤ beN a l
  | [] => Nat.le_refl _
  | c :: l => by rw [beN_cons]; have := beN_ge (a * 256 + c.toNat) l; omega
/-- The digits of a number, put together again. -/
theorem beN_low (x : Nat) : ∀ k, beN (x / 256 ^ k) (lowB x k) = x
  | 0 => by simp [lowB, beN]
  | k + 1 => by
    rw [lowB_succ, beN_cons]
    have : x / 256 ^ (k + 1) * 256 + (UInt8.ofNat (x / 256 ^ k)).toNat = x / 256 ^ k := by
      rw [Nat.pow_succ, ← Nat.div_div_eq_div_mul]
      simp
      omega
    rw [this, beN_low x k]
theorem low_beN : ∀ {k : Nat} {a : Nat} {l : List UInt8}, l.length = k → lowB (beN a l) k = l ∧ beN a l / 256 ^ k = a
  | 0, a, l, h => by
    have : l = [] := List.eq_nil_of_length_eq_zero h
    subst this; simp [lowB, beN]
  | k + 1, a, c :: l, h => by
    obtain ⟨h1, h2⟩ := low_beN (k := k) (a := a * 256 + c.toNat) (l := l) (by simpa using h)
    have hc := c.toNat_lt
    rw [beN_cons, lowB_succ, h2, h1]
    refine ⟨?_, ?_⟩
    · congr 1
      apply UInt8.toNat_inj.1
      simp
    · rw [Nat.pow_succ, ← Nat.div_div_eq_div_mul, h2]; omega

/-- The number with which bytes begin, how many it has, and the error. -/
def lookS : List UInt8 → Nat × Nat × Nat
  | [] => (0, 0, 2)
  | b :: t =>
    if t.length < ones b.toNat then (0, 0, 2) else
    let x := beN (if ones b.toNat < 8 then b.toNat % 2 ^ (7 - ones b.toNat) else 0) (t.take (ones b.toNat))
    if x > 9223372036854775807 then (0, 0, 5) else if moreN x ≠ ones b.toNat then (0, 0, 20) else (x, ones b.toNat + 1, 0)

theorem lookS_cons (b : UInt8) (t : List UInt8) : lookS (b :: t) = if t.length < ones b.toNat then (0, 0, 2) else
    if beN (if ones b.toNat < 8 then b.toNat % 2 ^ (7 - ones b.toNat) else 0) (t.take (ones b.toNat)) > 9223372036854775807 then (0, 0, 5) else
    if moreN (beN (if ones b.toNat < 8 then b.toNat % 2 ^ (7 - ones b.toNat) else 0) (t.take (ones b.toNat))) ≠ ones b.toNat then (0, 0, 20) else (beN (if ones b.toNat < 8 then b.toNat % 2 ^ (7 - ones b.toNat) else 0) (t.take (ones b.toNat)), ones b.toNat + 1, 0) := rfl

theorem ones_lead {x : Nat} : ones (leadB x (moreN x)) = moreN x := by
  have hsp := (moreF_spec (f := 8) (x := x)).1
  change moreN x < 8 → x < 128 ^ (moreN x + 1) at hsp
  have hk8 := moreN_le x
  by_cases h : moreN x < 8
  · have hs := lead_small h (hsp h)
    have h2 : 2 ^ (8 - moreN x) = 2 * 2 ^ (7 - moreN x) := by rw [show 8 - moreN x = 7 - moreN x + 1 from by omega, Nat.pow_succ, Nat.mul_comm]
    have h3 : 2 ^ (8 - moreN x) ≤ 2 ^ 8 := Nat.pow_le_pow_right (by decide) (by omega)
    generalize hq : x / 256 ^ moreN x = q at hs
    refine ones_of h ?_ ?_ <;> unfold leadB <;> rw [if_pos h, hq] <;> omega
  · have : moreN x = 8 := by omega
    rw [this]; rfl

/-- What was put is read, whatever stands behind. -/
theorem look_num {x : Nat} (hx : x ≤ 9223372036854775807) (rest : List UInt8) : lookS (numB x ++ rest) = (x, moreN x + 1, 0) := by
  have hsp := (moreF_spec (f := 8) (x := x)).1
  change moreN x < 8 → x < 128 ^ (moreN x + 1) at hsp
  have hk8 := moreN_le x
  have hlt := leadB_lt hsp hk8
  have hb : (UInt8.ofNat (leadB x (moreN x))).toNat = leadB x (moreN x) := by simp; omega
  have hx' : beN (if moreN x < 8 then leadB x (moreN x) % 2 ^ (7 - moreN x) else 0) (lowB x (moreN x)) = x := by
    have : (if moreN x < 8 then leadB x (moreN x) % 2 ^ (7 - moreN x) else 0) = x / 256 ^ moreN x := by
      split
      · rename_i h
        have hs := lead_small h (hsp h)
        unfold leadB
        rw [if_pos h]
        have h2 : 2 ^ (8 - moreN x) = 2 * 2 ^ (7 - moreN x) := by rw [show 8 - moreN x = 7 - moreN x + 1 from by omega, Nat.pow_succ, Nat.mul_comm]
        have hd : 256 - 2 ^ (8 - moreN x) = 2 ^ (7 - moreN x) * (2 ^ (moreN x + 1) - 2) := by
          rw [Nat.mul_sub, ← Nat.pow_add, show 7 - moreN x + (moreN x + 1) = 8 from by omega]
          omega
        rw [hd, Nat.mul_add_mod]
        exact Nat.mod_eq_of_lt hs
      · rename_i h
        have : moreN x = 8 := by omega
        rw [this]
        exact (Nat.div_eq_of_lt (by omega)).symm
    rw [this, beN_low]
  rw [numB, List.cons_append, lookS, hb, ones_lead, if_neg (by simp [lowB_length]), List.take_append_of_le_length (by simp [lowB_length]), List.take_of_length_le (by simp [lowB_length])]
  simp only [hx']
  rw [if_neg (by omega), if_neg (by simp)]

theorem lead_mod {b k : Nat} (hk : k < 8) (h1 : 256 - 2 ^ (8 - k) ≤ b) (h2 : b < 256 - 2 ^ (7 - k)) : b % 2 ^ (7 - k) = b - (256 - 2 ^ (8 - k)) := by
  have e2 : 2 ^ (8 - k) = 2 * 2 ^ (7 - k) := by rw [show 8 - k = 7 - k + 1 from by omega, Nat.pow_succ, Nat.mul_comm]
  have e3 : 2 ^ (8 - k) ≤ 2 ^ 8 := Nat.pow_le_pow_right (by decide) (by omega)
  have hd : 256 - 2 ^ (8 - k) = 2 ^ (7 - k) * (2 ^ (k + 1) - 2) := by
    rw [Nat.mul_sub, ← Nat.pow_add, show 7 - k + (k + 1) = 8 from by omega]
    omega
  obtain ⟨r, rfl⟩ : ∃ r, b = (256 - 2 ^ (8 - k)) + r := ⟨b - (256 - 2 ^ (8 - k)), by omega⟩
  conv => lhs; rw [hd, Nat.mul_add_mod]
  rw [Nat.add_sub_cancel_left]
  exact Nat.mod_eq_of_lt (by omega)

/-- What is read, put again, is the bytes that were read. -/
theorem look_back {l : List UInt8} {n k : Nat} (h : lookS l = (n, k, 0)) : k = moreN n + 1 ∧ k ≤ l.length ∧ l.take k = numB n ∧ n ≤ 9223372036854775807 := by
  cases l with
  | nil => simp [lookS] at h
  | cons b t =>
    rw [lookS_cons] at h
    split at h
    · simp at h
    · rename_i hlen
      generalize hX : beN (if ones b.toNat < 8 then b.toNat % 2 ^ (7 - ones b.toNat) else 0) (t.take (ones b.toNat)) = X at h
      split at h
      · simp at h
      · rename_i hbig
        split at h
        · simp at h
        · rename_i hmore
          simp only [Prod.mk.injEq] at h
          obtain ⟨rfl, rfl, _⟩ := h
          have hmore : moreN X = ones b.toNat := Decidable.not_not.1 hmore
          have hb := b.toNat_lt
          have hsp := ones_spec (b := b.toNat) hb
          have ho8 := ones_le b.toNat
          obtain ⟨h1, h2⟩ := low_beN (k := ones b.toNat) (a := if ones b.toNat < 8 then b.toNat % 2 ^ (7 - ones b.toNat) else 0) (l := t.take (ones b.toNat)) (by rw [List.length_take]; omega)
          rw [hX] at h1 h2
          refine ⟨by omega, by simp; omega, ?_, by omega⟩
          rw [List.take_succ_cons, numB, hmore, h1]
          congr 1
          apply UInt8.toNat_inj.1
          have hl : leadB X (ones b.toNat) = b.toNat := by
            unfold leadB
            split
            · rename_i h
              rw [h2, if_pos h]
              obtain ⟨g1, g2⟩ := hsp
              have g2 := g2 h
              have e2 : 2 ^ (8 - ones b.toNat) = 2 * 2 ^ (7 - ones b.toNat) := by rw [show 8 - ones b.toNat = 7 - ones b.toNat + 1 from by omega, Nat.pow_succ, Nat.mul_comm]
              have e3 : 2 ^ (8 - ones b.toNat) ≤ 2 ^ 8 := Nat.pow_le_pow_right (by decide) (by omega)
              have hd : 256 - 2 ^ (8 - ones b.toNat) = 2 ^ (7 - ones b.toNat) * (2 ^ (ones b.toNat + 1) - 2) := by
                rw [Nat.mul_sub, ← Nat.pow_add, show 7 - ones b.toNat + (ones b.toNat + 1) = 8 from by omega]
                omega
              have e5 := lead_mod h g1 g2
              omega
            · rename_i h
              have h8 : ones b.toNat = 8 := by omega
              rw [h8] at hsp ⊢
              simp at hsp ⊢
              omega
          rw [hl]
          simp
/-- Numbers, one behind the other. -/
def numsB (ns : List Int) : List UInt8 := ns.flatMap fun n => numB n.toNat
theorem numsB_nil : numsB [] = [] := rfl
theorem numsB_cons (n : Int) (ns : List Int) : numsB (n :: ns) = numB n.toNat ++ numsB ns := by simp [numsB]
theorem numsB_append (a b : List Int) : numsB (a ++ b) = numsB a ++ numsB b := by simp [numsB]
theorem numB_le (x : Nat) : (numB x).length ≤ 9 := by rw [numB_length]; have := moreN_le x; omega
theorem numsB_le : ∀ ns : List Int, (numsB ns).length ≤ 9 * ns.length
  | [] => by simp [numsB]
  | n :: ns => by
    rw [numsB_cons, List.length_append, List.length_cons]
    have := numsB_le ns
    have := numB_le n.toNat
    omega
theorem numsB_take {ns : List Int} {k : Nat} (hk : k < ns.length) : numsB (ns.take (k + 1)) = numsB (ns.take k) ++ numB (ns[k]).toNat := by
  rw [List.take_succ_eq_append_getElem hk, numsB_append]
  simp [numsB]
theorem ones_y {b : Nat} (hb : b < 256) : (if ones b < 8 then b % 2 ^ (7 - ones b) else 0) = b - (256 - 2 ^ (8 - ones b)) := by
  obtain ⟨h1, h2⟩ := ones_spec hb
  split
  · rename_i h; exact lead_mod h h1 (h2 h)
  · rename_i h
    have := ones_le b
    have h8 : ones b = 8 := by omega
    rw [h8] at h1 ⊢
    simp at h1 ⊢
    omega
/-- The bytes of a number just if it has as many as its first byte tells. -/
theorem num_iff {b : UInt8} {t : List UInt8} {X : Nat} (hX : X = beN (b.toNat - (256 - 2 ^ (8 - ones b.toNat))) (t.take (ones b.toNat))) (hl : ones b.toNat ≤ t.length) (h63 : X ≤ 9223372036854775807) :
    numB X = b :: t.take (ones b.toNat) ↔ moreN X = ones b.toNat := by
  constructor
  · intro h
    have := congrArg List.length h
    rw [numB_length, List.length_cons, List.length_take, Nat.min_eq_left hl] at this
    omega
  · intro h
    have hk : lookS (b :: t) = (X, ones b.toNat + 1, 0) := by
      rw [lookS_cons, ones_y b.toNat_lt, ← hX, if_neg (by omega), if_neg (by omega), if_neg (by omega)]
    obtain ⟨_, _, ht, _⟩ := look_back hk
    rw [← ht, List.take_succ_cons]
theorem beN_far {a : Nat} {l : List UInt8} {k : Nat} (h : a ≥ 36028797018963968) (hk : k < l.length) : beN a (l.drop k) > 9223372036854775807 := by
  have hl : (l.drop k).length = l.length - k := List.length_drop
  cases hd : l.drop k with
  | nil => rw [hd] at hl; simp at hl; omega
  | cons c m =>
    rw [beN_cons]
    have := beN_ge (a * 256 + c.toNat) m
    omega
end Go.Fl
namespace Go.Proofs.YtmhibpcbdbhfoaaDoor
open Go.RowKit Go.Fl
theorem slB : SlT Tryd.prog t_s_uint8 t_uint8 1 1 := SlT.mk' (z := .int .u8 0) (by kernel_rfl) (by kernel_rfl) rfl (by decide)

theorem pow7 (k : Nat) : (2 : Nat) ^ (7 * k) = 128 ^ k := by rw [Nat.pow_mul]
theorem pow7i (k : Nat) : (2 : Int) ^ (7 * k) = ((128 ^ k : Nat) : Int) := by rw [← pow7]; simp
theorem octet_more_ok {x : Int} {w : World} (h0 : 0 ≤ x) (h1 : x ≤ 18446744073709551615) : cl Tryd.prog n_octet_more #[.int .u64 x] (.I .i64) w fun r w' => r = moreN x.toNat ∧ w = w' := by
  refine octet_more.cl ?_
  unfold octet_more
  refine lpI (fun s w' => w = w' ∧ ∃ k : Nat, k ≤ 8 ∧ s.1 = k ∧ ∀ j, j < k → 128 ^ (j + 1) ≤ x.toNat) (fun s _ => (8 - s.1).toNat) ⟨rfl, 0, by omega, rfl, fun j h => by omega⟩ ?_
  rintro _ ⟨s, ⟨⟩⟩ w' ⟨rfl, k, hk, rfl, hn⟩
  dsimp only
  rw [i64w (n := (k : Int) + 1) (by omega) (by omega), i64w (n := 7 * ((k : Int) + 1)) (by omega) (by omega)]
  have e : min (7 * ((k : Int) + 1)).toNat 64 = 7 * (k + 1) ∨ k = 8 := by omega
  refine bD (fun h8 => bP (by omega) ?_) (fun h8 => ⟨?_, rfl⟩)
  · rw [e.resolve_right (by omega), Int.one_mul, pow7i]
    have hp : (128 : Nat) ^ (k + 1) ≤ 72057594037927936 := Nat.pow_le_pow_right (n := 128) (i := k + 1) (j := 8) (by decide) (by omega)
    have hM := moreF_of (f := 8) (k := k) (x := x.toNat) (by omega)
    obtain ⟨B, hB⟩ : ∃ B, (128 : Nat) ^ (k + 1) = B := ⟨_, rfl⟩
    rw [hB] at hp hM ⊢
    rw [u64w (by omega) (by omega)]
    refine bD (fun hx => ⟨?_, rfl⟩) (fun hx => ⟨⟨rfl, k + 1, by omega, rfl, fun j hj => ?_⟩, by omega⟩)
    · rw [moreN, hM (by omega) hn]
    · by_cases hjk : j = k
      · subst hjk; rw [hB]; omega
      · exact hn j (by omega)
  · obtain rfl : k = 8 := by omega
    rw [moreN, moreF_top hn]; rfl

theorem u8_ofNat (n : Nat) : (((UInt8.ofNat n).toNat : Nat) : Int) = (n : Int) % 256 := by simp
theorem pow256i (k : Nat) : (2 : Int) ^ (8 * k) = ((256 ^ k : Nat) : Int) := by
  have : (2 : Nat) ^ (8 * k) = 256 ^ k := by rw [Nat.pow_mul]
  rw [← this]; simp
theorem u8s_single (x : UInt8) : u8s [x] = [.int .u8 x.toNat] := rfl

theorem octet_Number_ok {s : Sl} {n : Int} {l : List UInt8} {w : World} (hs : Bs w s l) (hl : l.length ≤ 1099511627776) (hn : n ≤ 9223372036854775807) :
    cl Tryd.prog n_octet_Number #[.slice s.a s.n s.c, .int .i64 n] .L w fun (r : Sl) w' => OwB w' w.heap.size t_uint8 r (l ++ numB n.toNat) ∧ Fr w w' := by
  refine octet_Number.cl ?_
  unfold octet_Number
  have hx : max n 0 = (n.toNat : Int) := by omega
  rw [hx, u64w (by omega) (by omega)]
  generalize hxx : n.toNat = x
  refine (octet_more_ok (by omega) (by omega)).mono ?_
  rintro k w' ⟨rfl, rfl⟩
  rw [Int.toNat_natCast]
  have hk8 := moreN_le x
  have hsp := (moreF_spec (f := 8) (x := x)).1
  change moreN x < 8 → x < 128 ^ (moreN x + 1) at hsp
  have hnum : numB x = UInt8.ofNat (leadB x (moreN x)) :: lowB x (moreN x) := rfl
  generalize moreN x = k at hk8 hsp hnum
  rw [i64w (n := 8 - (k : Int)) (by omega) (by omega)]
  refine bP (by omega) ?_
  intro j1
  have hln := hs.len
  have hj : ∀ (y : Int) (w' : World), y = ((UInt8.ofNat (leadB x k)).toNat : Int) → w = w' → j1 y w' := by
    rintro y w' rfl rfl
    show mks _ _ _ _ _ _
    rw [i64w (by omega) (by omega)]
    refine mks0 slB w.heap.size (s.n + 9) (by omega) (by omega) (by omega) (Nat.le_refl _) fun w1 ho1 hf1 => ?_
    refine app_B slB (base := w.heap.size) (l := []) (m := l) ho1 (hs.fr hf1).rd hs.len.symm (by simp; omega) hf1.size fun r w2 ho2 hb2 _ _ => ?_
    have hf2 : Fr w w2 := hf1.on hb2
    refine nwI fun b w3 hb hsz hf3 hblk hrd => ?_
    refine app_B slB (base := w.heap.size) (m := [UInt8.ofNat (leadB x k)]) (ho2.fr hf3) hrd rfl (by simp; omega) (by have := hf2.size; have := hf3.size; omega) fun r w4 ho4 hb4 _ _ => ?_
    have hf4 : Below w.heap.size w w4 := (hf2.trans hf3).on hb4
    rw [i64w (n := (k : Int) - 1) (by omega) (by omega)]
    refine lpI (fun s w'' => ∃ m : Nat, m ≤ k ∧ s.2.1 = (k : Int) - 1 - m ∧ OwB w'' w.heap.size t_uint8 s.1 (l ++ (UInt8.ofNat (leadB x k) :: (lowB x k).take m)) ∧ Fr w w'') (fun s _ => (s.2.1 + 1).toNat)
      ⟨0, by omega, by simp, by simpa using ho4, hf4⟩ ?_
    rintro _ ⟨s', i, ⟨⟩⟩ w5 ⟨m, hm, hi, ho5, hf5⟩
    simp only at hi ho5
    subst hi
    dsimp only
    refine bD (fun h0 => bP ?_ ?_) (fun h0 => ⟨?_, hf5⟩)
    · rw [i64w (by omega) (by omega)]; omega
    · rw [i64w (n := 8 * _) (by omega) (by omega), i64w (by omega) (by omega)]
      have e : min (8 * ((k : Int) - 1 - m)).toNat 64 = 8 * (k - 1 - m) := by omega
      rw [e, pow256i, u8w]
      have hcell : (x : Int) / ((256 ^ (k - 1 - m) : Nat) : Int) % 256 = ((UInt8.ofNat (x / 256 ^ (k - 1 - m))).toNat : Int) := by rw [u8_ofNat]; simp
      rw [hcell]
      refine nwI fun b w6 hb hsz hf6 hblk hrd => ?_
      refine app_B slB (base := w.heap.size) (m := [UInt8.ofNat (x / 256 ^ (k - 1 - m))]) (ho5.fr hf6) hrd rfl ?_ (by have := hf5.size; have := hf6.size; omega) fun r w7 ho7 hb7 _ _ => ?_
      · simp [lowB_length]; omega
      · refine ⟨⟨m + 1, by omega, by simp; omega, ?_, (hf5.trans hf6).on hb7⟩, by simp; omega⟩
        rw [lowB_take (by omega)]
        simpa using ho7
    · obtain rfl : m = k := by omega
      rw [hnum]
      rwa [List.take_of_length_le (by rw [lowB_length]; exact Nat.le_refl _)] at ho5
  refine bD ?_ ?_ <;> intro h8
  · rw [i64w (n := 8 * (k : Int)) (by omega) (by omega)]
    refine bP (by omega) ?_
    refine hj _ _ ?_ rfl
    rw [show min (8 * (k : Int)).toNat 64 = 8 * k from by omega, pow256i, u8w, u8w, show min (8 - (k : Int)).toNat 8 = 8 - k from by omega]
    have ho := or_lead (x := x) (k := k) (by omega) (hsp (by omega))
    have hlt := lead_small (x := x) (k := k) (by omega) (hsp (by omega))
    have h7 : (2 : Nat) ^ (7 - k) ≤ 2 ^ 7 := Nat.pow_le_pow_right (by decide) (by omega)
    have e1 : (255 : Int) * 2 ^ (8 - k) % 256 = ((255 * 2 ^ (8 - k) % 256 : Nat) : Int) := by simp
    have e2 : (x : Int) / ((256 ^ k : Nat) : Int) % 256 = ((x / 256 ^ k : Nat) : Int) := by
      rw [← Int.natCast_ediv]
      generalize x / 256 ^ k = q at hlt
      omega
    rw [e1, e2, u8_or_nat _ _ (by omega) (by generalize x / 256 ^ k = q at hlt; omega), ho, u8_ofNat]
    have := leadB_lt hsp hk8
    omega
  · obtain rfl : k = 8 := by omega
    refine hj _ _ ?_ rfl
    simp [leadB, u8w]

theorem Lz8_ok {x : Int} {w : World} (h0 : 0 ≤ x) (h1 : x < 256) : cl Tryd.prog n_math_bits_LeadingZeros8 #[.int .u8 x] (.I .i64) w fun (r : Int) w' => r = ones (255 - x.toNat) ∧ w = w' := by
  refine math_bits_LeadingZeros8.cl ?_
  unfold math_bits_LeadingZeros8
  obtain ⟨n, rfl⟩ : ∃ n : Nat, x = n := ⟨x.toNat, by omega⟩
  refine cl.mono (K := fun (r : Int) w' => r = (8 : Int) - (ones (255 - n) : Int) ∧ w = w') (math_bits_Len8.cl ?_) ?_
  · unfold math_bits_Len8
    refine ⟨h0, (by refine Eq.mp ?_ h1; kernel_rfl), ?_, rfl⟩
    have h1' : n < 256 := by omega
    rw [Int.toNat_natCast]
    clear h0 h1
    revert n
    decide +kernel
  · rintro r w' ⟨rfl, rfl⟩
    have := ones_le (255 - n)
    rw [i64w (by omega) (by omega)]
    exact ⟨by simp; omega, rfl⟩

theorem xor255 {x : Nat} (h : x < 256) : bits .xor .u8 255 (x : Int) = ((255 - x : Nat) : Int) := by
  have := u8_xor_nat 255 x (by decide) h
  rw [show ((255 : Nat) : Int) = 255 from rfl] at this
  rw [this]
  congr 1
  revert x
  decide +kernel

/-- look. -/
theorem octet_look_ok {s : Sl} {l : List UInt8} {w : World} (hs : Bs w s l) (hl : l.length ≤ 140737488351232) :
    cl Tryd.prog n_octet_look #[.slice s.a s.n s.c] (.tup (.pair (.I .i64) (.pair (.I .i64) (.pair (.I .i64) .nil)))) w
      fun (r : Int × Int × Int × Unit) w' => r = (((lookS l).1 : Int), ((lookS l).2.1 : Int), ((lookS l).2.2 : Int), ()) ∧ w = w' := by
  refine octet_look.cl ?_
  unfold octet_look
  have hn := hs.len
  cases l with
  | nil => exact bT (by simp [hn]) ⟨rfl, rfl⟩
  | cons b t =>
    refine bF (by simp [hn]; omega) ?_
    have hb := b.toNat_lt
    have ho := ones_le b.toNat
    refine ixB0 hs.rd hs.len (Fr.refl w) ?_
    rw [xor255 (by omega)]
    refine (Lz8_ok (by omega) (by omega)).mono ?_
    rintro k w' ⟨rfl, rfl⟩
    rw [Int.toNat_natCast, show 255 - (255 - b.toNat) = b.toNat from by omega]
    generalize hk : ones b.toNat = k at ho
    rw [lookS_cons, hk]
    refine bD ?_ ?_ <;> intro hlen
    · rw [if_pos (by simp [hn] at hlen; omega)]; exact ⟨rfl, rfl⟩
    · have hlen' : k ≤ t.length := by simp [hn] at hlen; omega
      rw [if_neg (by omega)]
      refine ixB0 hs.rd hs.len (Fr.refl w) ?_
      intro j1
      have hj : ∀ (y : Nat) (w' : World), (y < 2 ^ (7 - k) ∧ k < 8 ∨ y = 0) → y = (if k < 8 then b.toNat % 2 ^ (7 - k) else 0) → w = w' → j1 y w' := by
        rintro y w' hy hyk rfl
        show sls _ _ _ _ _
        rw [i64w (n := (k : Int) + 1) (by omega) (by omega)]
        refine slsB hs (by decide) (by omega) (by simp; omega) fun r hr _ _ => ?_
        simp only [Int.toNat_one, show ((k : Int) + 1).toNat = k + 1 from by omega, List.take_succ_cons, List.drop_succ_cons, List.drop_zero] at hr
        have hrl := hr.len
        rw [List.length_take, Nat.min_eq_left hlen'] at hrl
        have hBk : beN y (t.take k) < 18446744073709551616 := by
          rcases hy with ⟨hy, hk8⟩ | rfl
          · have h1 := beN_lt (l := t.take k) hy
            rw [List.length_take, Nat.min_eq_left hlen'] at h1
            refine Nat.lt_of_lt_of_le h1 ?_
            match k, hk8 with
            | 0, _ | 1, _ | 2, _ | 3, _ | 4, _ | 5, _ | 6, _ | 7, _ => decide
          · have h1 := beN_lt (a := 0) (B := 1) (l := t.take k) (by decide)
            rw [List.length_take, Nat.min_eq_left hlen', Nat.one_mul] at h1
            refine Nat.lt_of_lt_of_le h1 ?_
            exact Nat.pow_le_pow_right (n := 256) (i := k) (j := 8) (by decide) ho
        refine lpI (fun s w' => w = w' ∧ ∃ i : Nat, i ≤ k ∧ s.2.1 = i ∧ s.1 = (beN y (t.take i) : Nat)) (fun s _ => (k - s.2.1).toNat) ⟨rfl, 0, by omega, rfl, by simp [beN]⟩ ?_
        rintro _ ⟨z, i, ⟨⟩⟩ w' ⟨rfl, i, hik, rfl, rfl⟩
        dsimp only
        refine bD ?_ ?_ <;> intro hi
        · have hik' : i < k := by omega
          refine ixB hr.rd hr.len (by omega) (by simp [List.length_take]; omega) (Fr.refl w) ?_
          have hlt' : beN y (t.take (i + 1)) ≤ beN y (t.take k) := by
            have hsp := List.take_append_drop (i + 1) (t.take k)
            rw [List.take_take, Nat.min_eq_left (by omega)] at hsp
            rw [← hsp, beN_append]
            exact beN_ge _ _
          have hst : t.take (i + 1) = t.take i ++ [t[i]] := by rw [List.take_succ_eq_append_getElem (by omega)]
          have hstep : beN y (t.take (i + 1)) = beN y (t.take i) * 256 + t[i].toNat := by rw [hst, beN_append]; rfl
          have hc := t[i].toNat_lt
          simp only [Int.toNat_natCast, List.getElem_take]
          rw [show min 8 64 = 8 from rfl, u64w (n := _ * 2 ^ 8) (by omega) (by omega), u64w (n := ((t[i].toNat : Nat) : Int)) (by omega) (by omega)]
          have e1 : ((beN y (t.take i) : Nat) : Int) * 2 ^ 8 = ((beN y (t.take i) * 256 : Nat) : Int) := by simp
          rw [e1, u64_or_nat _ _ (by omega) (by omega), i64w (by omega) (by omega)]
          refine ⟨⟨trivial, i + 1, by omega, rfl, ?_⟩, by omega⟩

          rw [hstep]
          congr 1
          rw [show beN y (t.take i) * 256 = 2 ^ 8 * beN y (t.take i) from by omega, ← Nat.two_pow_add_eq_or_of_lt (by omega)]
        · obtain rfl : i = k := by omega
          simp only [← hyk]
          generalize beN y (t.take i) = X at hBk
          refine bD ?_ ?_ <;> intro hX
          · rw [if_pos (by omega)]; exact ⟨rfl, trivial⟩
          · rw [if_neg (by omega)]
            refine (octet_more_ok (by omega) (by omega)).mono ?_
            rintro m w' ⟨rfl, rfl⟩
            rw [Int.toNat_natCast]
            refine bNe ?_ ?_ <;> intro hm
            · rw [if_pos (by omega)]; exact ⟨rfl, rfl⟩
            · rw [if_neg (by omega), i64w (by omega) (by omega)]; exact ⟨by simp, rfl⟩
      refine bD ?_ ?_ <;> intro h8
      · refine bP (by omega) ?_
        have h7 : (2 : Nat) ^ (7 - k) ≤ 2 ^ 7 := Nat.pow_le_pow_right (by decide) (by omega)
        have hm : b.toNat % 2 ^ (7 - k) < 2 ^ (7 - k) := Nat.mod_lt _ (Nat.pow_pos (by decide))
        have e : bits .and .u64 (IntKind.u64.wrap (b.toNat : Int)) (127 / 2 ^ min ((k : Int)).toNat 64) = ((b.toNat % 2 ^ (7 - k) : Nat) : Int) := by
          rw [u64w (by omega) (by omega), show min ((k : Int)).toNat 64 = k from by omega]
          have e2 : (127 : Int) / 2 ^ k = ((2 ^ (7 - k) - 1 : Nat) : Int) := by
            match k, (show k < 8 by omega) with
            | 0, _ | 1, _ | 2, _ | 3, _ | 4, _ | 5, _ | 6, _ | 7, _ => decide
          rw [e2, u64_and_nat _ _ (by omega) (by omega), Nat.and_two_pow_sub_one_eq_mod]
        rw [e]
        exact hj _ _ (.inl ⟨hm, by omega⟩) (by rw [if_pos (by omega)]) rfl
      · exact hj 0 _ (.inr rfl) (by rw [if_neg (by omega)]) rfl
end Go.Proofs.YtmhibpcbdbhfoaaDoor
namespace Go.Proofs.YtmhibpcbdbhfoaaDoor
open Go.RowKit Go.Fl
theorem octet_Text_ok {s x : Sl} {l m : List UInt8} {w : World} (hs : Bs w s l) (hx : Bs w x m) (hl : l.length ≤ 549755813888) (hm : m.length ≤ 549755813888) :
    cl Tryd.prog n_octet_Text #[.slice s.a s.n s.c, .slice x.a x.n x.c] .L w fun (r : Sl) w' => OwB w' w.heap.size t_uint8 r (l ++ numB m.length ++ m) ∧ Fr w w' := by
  refine octet_Text.cl ?_
  unfold octet_Text
  have hn := hx.len
  have h9 := numB_le m.length
  refine (octet_Number_ok hs (by omega) (by omega)).mono ?_
  rintro r w1 ⟨ho, hf⟩
  rw [Int.toNat_natCast, hn] at ho
  refine app_B slB (base := w.heap.size) ho (hx.fr hf).rd hn.symm (by simp; omega) hf.size fun r w2 ho2 hb2 _ _ => ⟨ho2, hf.on hb2⟩

theorem octet_Numbers_ok {s x : Sl} {l : List UInt8} {ns : List Int} {w : World} (hs : Bs w s l) (hx : Is w x ns) (hl : l.length + 9 * ns.length ≤ 1099511627776) (hn : ∀ n ∈ ns, n ≤ 9223372036854775807) :
    cl Tryd.prog n_octet_Numbers #[.slice s.a s.n s.c, .slice x.a x.n x.c] .L w fun (r : Sl) w' => Bs w' r (l ++ numsB ns) ∧ (ns = [] ∧ r = s ∨ OwB w' w.heap.size t_uint8 r (l ++ numsB ns)) ∧ Fr w w' := by
  refine octet_Numbers.cl ?_
  unfold octet_Numbers
  have hxn := hx.len
  refine lpI (fun s' w' => ∃ k : Nat, k ≤ ns.length ∧ s'.2.1 = k ∧ Bs w' s'.1 (l ++ numsB (ns.take k)) ∧ (k = 0 ∧ s'.1 = s ∨ OwB w' w.heap.size t_uint8 s'.1 (l ++ numsB (ns.take k))) ∧ Fr w w') (fun s' _ => (x.n - s'.2.1).toNat)
    ⟨0, by omega, rfl, by simpa [numsB] using hs, .inl ⟨rfl, rfl⟩, Fr.refl w⟩ ?_
  rintro _ ⟨r, i, ⟨⟩⟩ w1 ⟨k, hk, rfl, hr, ho, hf⟩
  dsimp only at hr ho ⊢
  have hlen := numsB_le (ns.take k)
  rw [List.length_take, Nat.min_eq_left hk] at hlen
  refine bD ?_ ?_ <;> intro h
  · have hk' : k < ns.length := by omega
    refine ixI hx (by omega) (by simpa using hk') hf ?_
    simp only [Int.toNat_natCast]
    refine (octet_Number_ok hr (by simp; omega) (hn _ (List.getElem_mem _))).mono ?_
    rintro r' w2 ⟨ho2, hf2⟩
    rw [List.append_assoc, ← numsB_take hk'] at ho2
    rw [i64w (by omega) (by omega)]
    exact ⟨⟨k + 1, by omega, by simp, ho2.bs, .inr (ho2.mono hf.size), hf.trans hf2⟩, by omega⟩
  · obtain rfl : k = ns.length := by omega
    rw [List.take_length] at hr ho
    exact ⟨hr, ho.imp (fun h => ⟨List.eq_nil_of_length_eq_zero h.1, h.2⟩) id, hf⟩

theorem Clone_byte_ok {s : Sl} {l : List UInt8} {w : World} (hs : Bs w s l) (hl : l.length ≤ 140737488351232) :
    cl Tryd.prog n_slices_Clone_byte_byte #[.slice s.a s.n s.c] .L w fun (r : Sl) w' => OwB w' w.heap.size t_uint8 r l ∧ Fr w w' := by
  refine slices_Clone_byte_byte.cl ?_
  unfold slices_Clone_byte_byte
  refine bB ?_ ?_ <;> intro h
  · have : l = [] := by
      rcases l with _ | ⟨b, t⟩
      · rfl
      · obtain ⟨ad, ha, _⟩ := hs.rd.u8 (l := b :: t) (i := 0) (by simp)
        rw [ha] at h
        cases h
    subst this
    exact ⟨OwB.nil _ _ _, Fr.refl w⟩
  · exact copyB slB hs (by omega) fun r w' ho hf => ⟨ho, hf⟩

theorem Equal_ok {s x : Sl} {l m : List UInt8} {w : World} (hs : Bs w s l) (hx : Bs w x m) :
    cl Tryd.prog n_bytes_Equal #[.slice s.a s.n s.c, .slice x.a x.n x.c] .B w fun (r : Bool) w' => r = decide (l = m) ∧ w = w' := by
  refine bytes_Equal.cl ?_
  unfold bytes_Equal
  refine bstrI hs.rd hs.len.symm (Fr.refl w) ?_
  refine bstrI hx.rd hx.len.symm (Fr.refl w) ?_
  rw [beqB_eq]
  exact ⟨rfl, rfl⟩

theorem aw1 : [] ++ numB (Int.toNat 16384) = [192, 64, 0] := by decide +kernel
theorem aw2 : [] ++ numsB [128, 0] = [128, 128, 0] := by decide +kernel
end Go.Proofs.YtmhibpcbdbhfoaaDoor
set_option linter.unusedVariables false
set_option maxHeartbeats 4000000
namespace Go.Proofs.YtmhibpcbdbhfoaaDoor
open Go.Fl
theorem u_ : type_of% @Tryd.underlying0 := @Tryd.underlying0
theorem u_int : type_of% @Tryd.underlying3 := @Tryd.underlying3
theorem u_uint8 : type_of% @Tryd.underlying5 := @Tryd.underlying5
theorem u_s_uint8 : type_of% @Tryd.underlying22 := @Tryd.underlying22
theorem u_api_Frame : type_of% @Tryd.underlying24 := @Tryd.underlying24
theorem u_p_tunnel_Tunnel : type_of% @Tryd.underlying41 := @Tryd.underlying41
theorem u_flumelaw12_Do : type_of% @Tryd.underlying45 := @Tryd.underlying45
theorem u_s_s_uint8 : type_of% @Tryd.underlying46 := @Tryd.underlying46
theorem u_s_tunnel_sent : type_of% @Tryd.underlying54 := @Tryd.underlying54
theorem u_map_int_s_uint8 : type_of% @Tryd.underlying55 := @Tryd.underlying55
theorem u_tunnel_Tunnel : type_of% @Tryd.underlying59 := @Tryd.underlying59
theorem u_s_flumeref12_Way : type_of% @Tryd.underlying66 := @Tryd.underlying66
theorem u_s_flumeref12_Early : type_of% @Tryd.underlying67 := @Tryd.underlying67
theorem u_flumeref12_Tunnel : type_of% @Tryd.underlying69 := @Tryd.underlying69
theorem u_flumelaw12_Act : type_of% @Tryd.underlying78 := @Tryd.underlying78
theorem u_2_p_tunnel_Tunnel : type_of% @Tryd.underlying80 := @Tryd.underlying80
theorem u_map_3_int_s_s_uint8 : type_of% @Tryd.underlying82 := @Tryd.underlying82
theorem u_flumelaw12_pair : type_of% @Tryd.underlying84 := @Tryd.underlying84
theorem u_3_int : type_of% @Tryd.underlying85 := @Tryd.underlying85
theorem u_p_int : type_of% @Tryd.underlying96 := @Tryd.underlying96
theorem u_flumeref02_Reader : type_of% @Tryd.underlying104 := @Tryd.underlying104
theorem u_tunnel_sent : type_of% @Tryd.underlying109 := @Tryd.underlying109
theorem u_flumeref12_Way : type_of% @Tryd.underlying112 := @Tryd.underlying112
theorem u_octet_Reader : type_of% @Tryd.underlying121 := @Tryd.underlying121
theorem u_flumeref12_Early : type_of% @Tryd.underlying129 := @Tryd.underlying129
abbrev t_bool : TypeId := 4
abbrev t_s_flumelaw12_Do : TypeId := 39
abbrev t_s_flumelaw12_Act : TypeId := 73
theorem u_bool : type_of% @Tryd.underlying4 := @Tryd.underlying4
theorem u_s_flumelaw12_Do : type_of% @Tryd.underlying39 := @Tryd.underlying39
theorem u_s_flumelaw12_Act : type_of% @Tryd.underlying73 := @Tryd.underlying73
end Go.Proofs.YtmhibpcbdbhfoaaDoor
namespace Go.Fl
open Go.RowKit

theorem ldB0 {w : World} {g i : Nat} {cs : Array Value} {t : TypeId} {f : Nat × Nat} {b : Bool} {K : Bool → Prop} (h : w.heap[g]? = some (.cells cs t f)) (hi : cs[i]? = some (.bool b)) (k : K b) : ld .B w ⟨g, i, none⟩ K :=
  ⟨b, (cell_of_row w g i cs t f h).trans hi, k⟩
theorem ldL0 {w : World} {g i : Nat} {cs : Array Value} {t : TypeId} {f : Nat × Nat} {s : Sl} {K : Sl → Prop} (h : w.heap[g]? = some (.cells cs t f)) (hi : cs[i]? = some (.slice s.a s.n s.c)) (k : K s) : ld .L w ⟨g, i, none⟩ K :=
  ⟨s, (cell_of_row w g i cs t f h).trans hi, k⟩
theorem ldI0 {w : World} {g i : Nat} {cs : Array Value} {t : TypeId} {f : Nat × Nat} {kd : IntKind} {n : Int} {K : Int → Prop} (h : w.heap[g]? = some (.cells cs t f)) (hi : cs[i]? = some (.int kd n)) (k : K n) : ld (.I kd) w ⟨g, i, none⟩ K :=
  ⟨n, (cell_of_row w g i cs t f h).trans hi, k⟩
theorem ldP0 {w : World} {g i : Nat} {cs : Array Value} {t : TypeId} {f : Nat × Nat} {p : Option Addr} {K : Option Addr → Prop} (h : w.heap[g]? = some (.cells cs t f)) (hi : cs[i]? = some (.pointer p)) (k : K p) : ld .P w ⟨g, i, none⟩ K :=
  ⟨p, (cell_of_row w g i cs t f h).trans hi, k⟩

theorem st0 {w : World} {g i : Nat} {cs : Array Value} {t : TypeId} {v : Value} {K : World → Prop} (h : w.heap[g]? = some (.cells cs t (0, 0))) (hi : i < cs.size)
    (hk : ∀ w', w'.heap[g]? = some (.cells (cs.setIfInBounds i v) t (0, 0)) → w.grownBy w' (some g) → w'.heap.size = w.heap.size → K w') : st1 w ⟨g, i, none⟩ v K := by
  refine ⟨⟨cs[i], by rw [cell_of_row w g i cs t _ h]; exact Array.getElem?_eq_getElem hi⟩, by simp [World.frozen?, h], hk _ ?_ ⟨rfl, rfl, rfl, by simp [World.setCell], fun k _ hk => Below.heap_setCell _ _ _ _ (fun e => hk (by rw [e]))⟩ (by simp [World.setCell])⟩
  simp [World.setCell, Array.getElem?_modify, h]

theorem Fr.heap {w w' : World} (h : Fr w w') {g : Nat} {o : Obj} (hg : w.heap[g]? = some o) : w'.heap[g]? = some o :=
  (h.block g (Array.getElem?_eq_some_iff.1 hg).1).trans hg

/-- A part of memory stays. -/
def Kp (S : Nat → Prop) (w w' : World) : Prop := ∀ k, k < w.heap.size → S k → w'.heap[k]? = w.heap[k]?
theorem Kp.rd {S : Nat → Prop} {w w' : World} {A : Option Addr} {xs : List Value} (h : Rd w A xs) (hk : Kp S w w') (hS : ∀ ad, A = some ad → S ad.block) : Rd w' A xs :=
  h.keep fun ad e j hlt => World.cell?_of_block (w := w) (by rw [add_block]; exact hk _ hlt (hS ad e))
theorem Bs.kp {S : Nat → Prop} {w w' : World} {s : Sl} {l : List UInt8} (h : Bs w s l) (hk : Kp S w w') (hS : ∀ ad, s.a = some ad → S ad.block) : Bs w' s l := ⟨Kp.rd h.rd hk hS, h.len, h.cap⟩
theorem Bs.kpn {S : Nat → Prop} {w w' : World} {s : Sl} {l : List UInt8} (h : Bs w s l) (hk : Kp S w w') (hS : l ≠ [] → ∀ ad, s.a = some ad → S ad.block) : Bs w' s l := by
  cases l with
  | nil => exact ⟨Rd.nil _ _, h.len, h.cap⟩
  | cons b t => exact h.kp hk (hS (by simp))
theorem Bs.lt {w : World} {s : Sl} {l : List UInt8} (h : Bs w s l) (hl : l ≠ []) : ∀ ad, s.a = some ad → ad.block < w.heap.size := fun ad ha => by
  cases l with
  | nil => exact absurd rfl hl
  | cons b t =>
    obtain ⟨ad', ha', hc⟩ := h.rd.u8 (l := b :: t) (i := 0) (by simp)
    rw [ha] at ha'
    cases ha'
    have := World.block_lt_of_cell? w _ hc
    rwa [add_block] at this
theorem kp_grown {w w' : World} {g : Nat} (h : w.grownBy w' (some g)) : Kp (· ≠ g) w w' := fun k hk hne => h.block k hk (fun e => hne (Option.some.inj e))
theorem OwB.own {w : World} {base : Nat} {e : TypeId} {s : Sl} {l : List UInt8} (h : OwB w base e s l) : ∀ ad, s.a = some ad → base ≤ ad.block ∧ ad.block < w.heap.size := fun ad ha => h.block ad.block (by rw [ha]; rfl)
theorem OwB.kp {S : Nat → Prop} {w w' : World} {base : Nat} {e : TypeId} {s : Sl} {l : List UInt8} (h : OwB w base e s l) (hk : Kp S w w') (hS : ∀ ad, s.a = some ad → S ad.block) : OwB w' base e s l := by
  refine ⟨h.1, ?_⟩
  rcases h.2 with hn | ⟨g, cap, cur, hv, hb, hgg, rest⟩
  · exact .inl hn
  · have ha : s.a = some ⟨g, 0, none⟩ := by injection hv
    exact .inr ⟨g, cap, cur, hv, hb, (hk g (Array.getElem?_eq_some_iff.1 hgg).1 (hS _ ha)).trans hgg, rest⟩
theorem grown_below {w w' : World} {g base : Nat} (h : w.grownBy w' (some g)) (hb : base ≤ g) (hs : base ≤ w.heap.size) : Below base w w' :=
  (Below.refl base w).grown h hs fun k hk => by cases hk; exact hb
theorem fr_grown {w w' : World} {g : Nat} (h : Fr w w') : w.grownBy w' (some g) := ⟨h.os, h.tape, h.output, h.size, fun k hk _ => h.block k hk⟩
/-- A byte of an own slice is written. -/
theorem stB {w : World} {base : Nat} {e : TypeId} {s : Sl} {l : List UInt8} {i : Int} {v : Value} {K : World → Prop} (h : OwB w base e s l) (h0 : 0 ≤ i) (hi : i.toNat < l.length) (b : UInt8) (hv : v = .int .u8 b.toNat)
    (hk : ∀ w', OwB w' base e s (l.set i.toNat b) → Below base w w' → (∀ k, some k ≠ (Value.slice s.a s.n s.c).ownBlock → w'.heap[k]? = w.heap[k]?) → w'.heap.size = w.heap.size → K w') : ixa s.a s.n i 1 fun a => st1 w a v K := by
  have hl := h.len
  obtain ⟨h1, h2⟩ := h
  rcases h2 with ⟨_, hn⟩ | ⟨g, cap, cur, hs, hb, hg, hnc, hcm, hsz, ht⟩
  · omega
  · have ha : s.a = some ⟨g, 0, none⟩ := by injection hs
    refine ⟨h0, by omega, ?_⟩
    rw [ha]
    have he : atOff ⟨g, 0, none⟩ i 1 = ⟨g, i.toNat, none⟩ := by
      show Addr.add _ _ = _
      unfold Addr.add
      split <;> simp_all
    show st1 w (atOff ⟨g, 0, none⟩ i 1) v K
    rw [he]
    refine st0 hg (by omega) fun w' hb' hgr hsz' => hk w' ⟨?_, .inr ⟨g, cap, _, hs, hb, hb', hnc, hcm, by simpa using hsz, ?_⟩⟩ ⟨hgr.os, hgr.tape, hgr.output, hgr.size, fun k hk => ?_⟩ (fun k hk => ?_) hsz'
    · simpa [u8s] using h1
    · rw [Array.toList_setIfInBounds, List.take_set, ht, hv]
      simp [u8s, List.map_set]
    · by_cases hkl : k < w.heap.size
      · exact hgr.block k hkl (fun e => by cases e; omega)
      · rw [Array.getElem?_eq_none (by omega), Array.getElem?_eq_none (by omega)]
    · rw [ha] at hk
      by_cases hkl : k < w.heap.size
      · exact hgr.block k hkl hk
      · rw [Array.getElem?_eq_none (by omega), Array.getElem?_eq_none (by omega)]
theorem run_append_none {P : Program} (w : World) {t ty e : TypeId} {i : TypeInfo} (ht : P.underlying t = some (.slice e)) (hi : P.info? e = some i) (A B : Option Addr) {n c d : Nat} (hle : n ≤ c) :
    (Builtin.append_ #[t, t] ty #[.slice A n c, .slice B 0 d]).run P w = .ok (.slice A n c) w := by
  cases A <;> cases B <;> simp [Builtin.append_, run_underlying ht, sizeOf, typeInfo, hi, Builtin.lenOf, Builtin.firstCells, loadCells, loadCellsFrom, hle, storeCells]
/-- append to a new empty slice: no block that was there turns. -/
theorem app0B {P : Program} {t ty e : TypeId} (hT : SlT P t e 1 1) {base b : Nat} {x : Sl} {w : World} {K : Sl → World → Prop} {m : List UInt8} (hb : w.heap[b]? = some (.cells #[] e (0, 0))) (hbb : base ≤ b) (hx : Bs w x m) (hl : m.length ≤ 140737488355328) (hbase : base ≤ w.heap.size)
    (h : ∀ (r : Sl) w', OwB w' base e r m → Fr w w' → K r w') : app P t ty ⟨some ⟨b, 0, none⟩, 0, 0⟩ x w K := by
  obtain ⟨i, z, hi, hz, hsize, hby, hzs⟩ := hT.info
  have hn := hx.len
  cases m with
  | nil =>
    obtain ⟨A, n, c⟩ := x
    obtain rfl : n = 0 := hn
    exact ⟨_, w, run_append_none w hT.under hi _ _ (Nat.le_refl _), h _ _ (OwB.new hb hbb) (Fr.refl w)⟩
  | cons u m =>
    obtain ⟨ad, ha, _⟩ := hx.rd.u8 (l := u :: m) (i := 0) (by simp)
    obtain ⟨v', w', hrun, ho, hg⟩ := run_append_arg_grows (P := P) w t ty e i z 1 1 hT.under hi hz hsize hby hzs (by decide) ⟨b, 0, none⟩ 0 0 [] rfl (fun j u hu => by simp at hu) ad x.n x.c (u8s (u :: m)) (by rw [u8s_length, hn]; simp)
      (fun j u' hu => by obtain ⟨ad', ha', hc⟩ := hx.rd j u' hu; rw [ha] at ha'; cases ha'; exact hc) (by rw [hn]; simp) (by simp only [maxLen]; rw [hn]; simp at hl ⊢; omega) (by rw [hn]; simp at hl ⊢; omega)
    rw [Nat.zero_add, List.nil_append] at ho
    obtain ⟨r, rfl, hrn⟩ := sl_of_own ho
    refine ⟨r, w', by rw [ha]; exact hrun, h r w' ?_ ⟨hg.os, hg.tape, hg.output, hg.size, fun k hk => hg.block k hk (by simp)⟩⟩
    have : OwB w' w.heap.size e r (u :: m) := by unfold OwB; rw [← hrn] at ho; exact ho
    exact this.mono hbase
end Go.Fl
namespace Go.Fl
open Go.RowKit

/-- A byte of a slice is read, by its value. -/
theorem ixBc {w w' : World} {s : Sl} {l : List UInt8} {i : Int} {c : UInt8} {K : Int → Prop} (hs : Rd w s.a (u8s l)) (hl : s.n = l.length) (h0 : 0 ≤ i) (hc : l[i.toNat]? = some c) (hw : Fr w w')
    (h : K (c.toNat)) : ixa s.a s.n i 1 fun a => ld (.I .u8) w' a K := by
  obtain ⟨hi, rfl⟩ := List.getElem?_eq_some_iff.1 hc
  exact ixB hs hl h0 hi hw h
/-- make([]T, n): a row of n zeros, T of one cell. -/
theorem mksN {P : Program} {t e : TypeId} {bytes : Nat} {z : Value} (hu : P.underlying t = some (.slice e)) (hinfo : (P.info? e).map (fun i => (i.zero, i.size, i.bytes)) = some (some z, 1, bytes)) (hz1 : z.cells = #[z]) (base : Nat) {C : Int} {w : World} {K : Sl → World → Prop} (n : Nat) (hC : C = (n : Int)) (hb : bytes * n ≤ 140737488355328) (h63 : n ≤ 140737488355328) (hbase : base ≤ w.heap.size)
    (h : ∀ w', w'.ownsRow base e 1 (.slice (some ⟨w.heap.size, 0, none⟩) n n) n (List.replicate n z) → w'.heap[w.heap.size]? = some (.cells (List.replicate n z).toArray e (0, 0)) → w'.heap.size = w.heap.size + 1 → Fr w w' → K ⟨some ⟨w.heap.size, 0, none⟩, n, n⟩ w') : mks P t C C w K := by
  subst hC
  have hrun := run_make_row' (P := P) t e z bytes hu hinfo hz1 .i64 .i64 n (by omega) (by omega) w
  have hm : madeCells #[z] n = (List.replicate n z).toArray := by
    apply Array.toList_inj.1
    rw [toList_madeCells_one]
  rw [hm] at hrun
  refine ⟨⟨some ⟨w.heap.size, 0, none⟩, n, n⟩, _, hrun, h _ ?_ (heap_alloc_new w _) (by simp) (Fr.alloc _ _)⟩
  exact World.ownsRow_lit w (List.replicate n z).toArray n hbase (by simp only [maxLen]; omega) (by simp)
/-- A slice of a slice with a bound of its room. -/
theorem run_sls3 {P : Program} {t e : TypeId} (hT : SlT P t e 1 1) (w : World) (s : Sl) {lo : Option Value} {l h : Int} (hlo : (lo = none ∧ l = 0) ∨ lo = some (.int .i64 l)) (h0 : 0 ≤ l) (h1 : l ≤ h) (h2 : h ≤ s.c) :
    (Instr.sliceAt t (.slice s.a s.n s.c) lo (some (.int .i64 h)) (some (.int .i64 h))).run P w = .ok (.slice (if h.toNat = l.toNat then s.a else s.a.map (·.add l.toNat)) (h.toNat - l.toNat) (h.toNat - l.toNat)) w := by
  obtain ⟨i, z, hi, hz, hsize, hby, hzs⟩ := hT.info
  have em : (h.toNat : Int) = h := Int.toNat_of_nonneg (by omega)
  have h03 : (0 : Int) ≤ h := by omega
  rcases hlo with ⟨rfl, rfl⟩ | rfl <;>
    simp [Instr.sliceAt, Instr.slice, Instr.sliceBounds, Instr.sliceBound, run_underlying hT.under, sizeOf, typeInfo, hi, asIntOf, h0, h1, h2, em, h03, hsize]
theorem sls3B {P : Program} {t e : TypeId} (hT : SlT P t e 1 1) {w : World} {s : Sl} {l : List UInt8} {lo : Option Value} {i j : Int} {K : Sl → Prop} (h : Bs w s l) (hlo : (lo = none ∧ i = 0) ∨ lo = some (.int .i64 i)) (h0 : 0 ≤ i) (hij : i ≤ j) (hj : j ≤ l.length)
    (hk : ∀ r : Sl, Bs w r ((l.take j.toNat).drop i.toNat) → (∀ ad, r.a = some ad → ∃ ad', s.a = some ad' ∧ ad.block = ad'.block) → (i = 0 → 0 < j → r = ⟨s.a, j.toNat, j.toNat⟩) → K r) :
    qn P (Instr.sliceAt t (.slice s.a s.n s.c) lo (some (.int .i64 j)) (some (.int .i64 j))) .L w K := by
  have hl := h.len
  have hc := h.cap
  refine ⟨⟨if j.toNat = i.toNat then s.a else s.a.map (·.add i.toNat), j.toNat - i.toNat, j.toNat - i.toNat⟩, fun w' _ => run_sls3 hT w' s hlo h0 hij (by omega), hk _ ?_ ?_ ?_⟩
  · have hcut := h.cut (i := i.toNat) (j := j.toNat) (by omega) (by omega)
    by_cases he : j.toNat = i.toNat
    · have : (l.take j.toNat).drop i.toNat = [] := by rw [List.drop_eq_nil_iff, List.length_take]; omega
      rw [this]
      exact ⟨Rd.nil _ _, by simp; omega, Nat.le_refl _⟩
    · rw [if_neg he]
      obtain ⟨hr, hcl, _⟩ := hcut
      refine ⟨?_, hcl, Nat.le_refl _⟩
      unfold Fl.cut at hr
      rw [if_neg (by omega)] at hr
      exact hr
  · intro ad ha
    dsimp only at ha
    split at ha
    · exact ⟨ad, ha, rfl⟩
    · cases hs : s.a with
      | none => rw [hs] at ha; cases ha
      | some ad' =>
        rw [hs] at ha
        simp only [Option.map_some, Option.some.injEq] at ha
        exact ⟨ad', rfl, by rw [← ha, add_block]⟩
  · rintro rfl hj0
    rw [if_neg (by omega)]
    cases s.a <;> simp [Addr.add]
theorem Addr.add0 (a : Addr) : a.add 0 = a := by simp [Addr.add]
/-- []byte of a new row of bytes: the row is marked, and reads as it did. -/
theorem nwConv {P : Program} {t e : TypeId} {cs : List Value} {n : Nat} {l : List UInt8} {w : World} {K : Sl → World → Prop} (ht : P.underlying t = some (.slice e)) (he : P.underlying e = some (.int .u8)) (hcs : cs = u8s l) (hn : n = l.length)
    (h : ∀ r w', Bs w' r l → Fr w w' → K r w') : nw w cs e fun a w2 => rn P (convert t t (.slice (some a) n n)) .L w2 K := by
  subst hcs hn
  refine nwI fun b w2 hb hsz hf hblk hrd => ?_
  have hrun : (convert t t (.slice (some ⟨b, 0, none⟩) l.length l.length)).run P w2 = .ok (.slice (some ⟨b, 0, none⟩) l.length l.length) (w2.freeze ⟨b, (u8s l).toArray.size, none⟩ 1) := by
    simp [convert, run_underlying ht, run_underlying he, markStringish, World.shape?, hblk]
  refine ⟨⟨some ⟨b, 0, none⟩, l.length, l.length⟩, _, hrun, h _ _ ?_ ?_⟩
  · refine ⟨fun j u hu => ?_, rfl, Nat.le_refl _⟩
    obtain ⟨ad, ha, hc⟩ := hrd j u hu
    refine ⟨ad, ha, ?_⟩
    rw [← hc]
    cases ha
    have e1 : ((⟨b, 0, none⟩ : Addr).add j).block = b := add_block _ _
    unfold World.cell? World.freeze
    simp only [Nat.one_ne_zero, if_false, Array.getElem?_modify, e1, hblk, if_true, Option.map_some]
  · have hs := hf.size
    refine ⟨hf.os, hf.tape, hf.output, by simpa [World.freeze] using hs, fun k hk => ?_⟩
    rw [← hf.block k hk]
    simp only [World.freeze, Nat.one_ne_zero, if_false, Array.getElem?_modify]
    rw [if_neg (by omega)]
theorem addOff (g i j : Nat) : (⟨g, i, none⟩ : Addr).add j = ⟨g, i + j, none⟩ := by unfold Addr.add; split <;> simp_all
/-- A row is stored. -/
theorem stL_row {g : Nat} {t : TypeId} : ∀ {vs : List Value} {cs : List Value} {i : Nat} {w : World} {K : World → Prop}, w.heap[g]? = some (.cells cs.toArray t (0, 0)) → i + vs.length ≤ cs.length → (∀ v ∈ vs, v.oneCell' = true) →
    (∀ w', w'.heap[g]? = some (.cells (cs.take i ++ vs ++ cs.drop (i + vs.length)).toArray t (0, 0)) → w.grownBy w' (some g) → w'.heap.size = w.heap.size → K w') → stL ⟨g, 0, none⟩ w i vs K
  | [], cs, i, w, K, h, _, _, hk => by
    refine hk w ?_ (World.grownBy.refl _ _) rfl
    simpa using h
  | v :: vs, cs, i, w, K, h, hi, h1, hk => by
    simp only [List.length_cons] at hi
    refine ⟨h1 v (by simp), ?_⟩
    rw [addOff, Nat.zero_add]
    refine st0 h (by simp; omega) fun w' hb hg hs => ?_
    refine stL_row (cs := cs.set i v) (i := i + 1) (by simpa using hb) (by simp; omega) (fun u hu => h1 u (by simp [hu])) fun w2 hb2 hg2 hs2 => hk w2 ?_ (hg.trans hg2) (hs2.trans hs)
    have e : (cs.set i v).take (i + 1) ++ vs ++ (cs.set i v).drop (i + 1 + vs.length) = cs.take i ++ (v :: vs) ++ cs.drop (i + (v :: vs).length) := by
      rw [List.take_set, List.drop_set_of_lt (by omega), List.take_succ_eq_append_getElem (by omega), List.set_append_right _ _ (by simp; omega), List.length_take, List.length_cons, Nat.min_eq_left (by omega), Nat.sub_self]
      simp [Nat.add_assoc, Nat.add_comm 1]
    rw [hb2, e]
theorem ldR0 {w : World} {g n : Nat} {vs : List Value} {t : TypeId} {f : Nat × Nat} {K : {l : List Value // l.length = n} → Prop} (h : w.heap[g]? = some (.cells vs.toArray t f)) (hn : vs.length = n) (k : K ⟨vs, hn⟩) : ld (.row n) w ⟨g, 0, none⟩ K := by
  refine ⟨⟨vs, hn⟩, fun i hi => ?_, k⟩
  rw [addOff, Nat.zero_add]
  exact (cell_of_row w g i vs.toArray t f h).trans (by simp [List.getElem?_eq_getElem hi])
theorem ldRd {w : World} {A : Option Addr} {n : Nat} {vs : List Value} {K : {l : List Value // l.length = n} → Prop} (h : Rd w A vs) (hn : vs.length = n) (hp : 0 < n) (k : K ⟨vs, hn⟩) : nz A fun a => ld (.row n) w a K := by
  obtain ⟨ad, ha, _⟩ := h.at 0 (by omega)
  rw [ha]
  refine ⟨⟨vs, hn⟩, fun i hi => ?_, k⟩
  obtain ⟨ad', ha', hc⟩ := h.at i hi
  rw [ha] at ha'
  cases ha'
  exact hc
theorem ldM0 {w : World} {g i : Nat} {cs : Array Value} {t : TypeId} {f : Nat × Nat} {r : Option Nat} {K : Option Nat → Prop} (h : w.heap[g]? = some (.cells cs t f)) (hi : cs[i]? = some (.map r)) (k : K r) : ld .M w ⟨g, i, none⟩ K :=
  ⟨r, (cell_of_row w g i cs t f h).trans hi, k⟩
/-- A slice as an array. -/
theorem qnArr {P : Program} {t e : TypeId} {n : Nat} (ht : P.underlying t = some (.array n e)) {w : World} {s : Sl} (hn : n ≤ s.n) {K : Option Addr → Prop} (k : K s.a) : qn P (Instr.arrayAt t (.slice s.a s.n s.c)) .P w K :=
  ⟨s.a, fun w' _ => by
    have : ¬s.n < n := by omega
    simp [Instr.arrayAt, run_underlying ht, this]
    rfl, k⟩
theorem atH (g : Nat) (i : Int) : atOff ⟨g, 0, none⟩ i 1 = ⟨g, i.toNat, none⟩ := by
  show Addr.add _ _ = _
  rw [addOff, Nat.zero_add]
/-- A number of a known block is read; one is written. -/
theorem ixH {w : World} {g n : Nat} {cs : List Value} {t : TypeId} {f : Nat × Nat} {i : Int} {kd : IntKind} {v : Int} {K : Int → Prop} (h : w.heap[g]? = some (.cells cs.toArray t f)) (h0 : 0 ≤ i) (hn : i < n) (hi : cs[i.toNat]? = some (.int kd v)) (k : K v) :
    ixa (some ⟨g, 0, none⟩) n i 1 fun a => ld (.I kd) w a K := by
  refine ⟨h0, hn, ?_⟩
  show ld (.I kd) w (atOff ⟨g, 0, none⟩ i 1) K
  rw [atH]
  exact ldI0 h (by simpa using hi) k
theorem ixSt {w : World} {g n : Nat} {cs : List Value} {t : TypeId} {i : Int} {v : Value} {K : World → Prop} (h : w.heap[g]? = some (.cells cs.toArray t (0, 0))) (h0 : 0 ≤ i) (hn : i < n) (hi : i.toNat < cs.length)
    (hk : ∀ w', w'.heap[g]? = some (.cells (cs.set i.toNat v).toArray t (0, 0)) → w.grownBy w' (some g) → w'.heap.size = w.heap.size → K w') : ixa (some ⟨g, 0, none⟩) n i 1 fun a => st1 w a v K := by
  refine ⟨h0, hn, ?_⟩
  show st1 w (atOff ⟨g, 0, none⟩ i 1) v K
  rw [atH]
  exact st0 h (by simpa using hi) fun w' hb hg hs => hk w' (by simpa using hb) hg hs
theorem run_zeroV {P : Program} {e : TypeId} {z : Value} (h : (P.info? e).map (·.zero) = some (some z)) (w : World) : (zeroValue e).run P w = .ok z w := by
  obtain ⟨i, hi, hz⟩ := Option.map_eq_some_iff.1 h
  simp [zeroValue, typeInfo, hi, hz]
end Go.Fl
namespace Go.Fl

abbrev w32 (n : Int) : Int := IntKind.u32.wrap n
/-- A word turned to the right. -/
def rotS (x : Int) (k : Nat) : Int := bits .or .u32 (w32 (x * 2 ^ (32 - k))) (x / 2 ^ k)
def byteS (b : List UInt8) (i : Nat) : Int := ((b.getD i 0).toNat : Int)
def w16S (b : List UInt8) (i : Nat) : Int :=
  bits .or .u32 (bits .or .u32 (bits .or .u32 (w32 (w32 (byteS b (4 * i)) * 2 ^ 24)) (w32 (w32 (byteS b (4 * i + 1)) * 2 ^ 16))) (w32 (w32 (byteS b (4 * i + 2)) * 2 ^ 8))) (w32 (byteS b (4 * i + 3)))
def nextS (l : List Int) (n : Nat) : Int :=
  w32 (w32 (w32 (l.getD (n - 16) 0 + bits .xor .u32 (bits .xor .u32 (rotS (l.getD (n - 15) 0) 7) (rotS (l.getD (n - 15) 0) 18)) (l.getD (n - 15) 0 / 2 ^ 3)) + l.getD (n - 7) 0)
    + bits .xor .u32 (bits .xor .u32 (rotS (l.getD (n - 2) 0) 17) (rotS (l.getD (n - 2) 0) 19)) (l.getD (n - 2) 0 / 2 ^ 10))
/-- The words of a block, so many of them. -/
def spreadS (b : List UInt8) : Nat → List Int
  | 0 => []
  | n + 1 => spreadS b n ++ [if n < 16 then w16S b n else nextS (spreadS b n) n]
theorem spreadS_length (b : List UInt8) : ∀ n, (spreadS b n).length = n
  | 0 => rfl
  | n + 1 => by rw [spreadS, List.length_append, spreadS_length b n]; rfl
def tS (x : List Int) (k w : Int) : Int :=
  w32 (w32 (w32 (w32 (x.getD 7 0 + bits .xor .u32 (bits .xor .u32 (rotS (x.getD 4 0) 6) (rotS (x.getD 4 0) 11)) (rotS (x.getD 4 0) 25))
    + bits .xor .u32 (bits .and .u32 (x.getD 4 0) (x.getD 5 0)) (bits .and .u32 (bits .xor .u32 4294967295 (x.getD 4 0)) (x.getD 6 0))) + k) + w)
def uS (x : List Int) : Int :=
  w32 (bits .xor .u32 (bits .xor .u32 (rotS (x.getD 0 0) 2) (rotS (x.getD 0 0) 13)) (rotS (x.getD 0 0) 22)
    + bits .xor .u32 (bits .xor .u32 (bits .and .u32 (x.getD 0 0) (x.getD 1 0)) (bits .and .u32 (x.getD 0 0) (x.getD 2 0))) (bits .and .u32 (x.getD 1 0) (x.getD 2 0)))
def roundS (x : List Int) (k w : Int) : List Int :=
  [w32 (tS x k w + uS x), x.getD 0 0, x.getD 1 0, x.getD 2 0, w32 (x.getD 3 0 + tS x k w), x.getD 4 0, x.getD 5 0, x.getD 6 0]
def roundsS (K ws : List Int) (h : List Int) : Nat → List Int
  | 0 => h
  | n + 1 => roundS (roundsS K ws h n) (K.getD n 0) (ws.getD n 0)
theorem roundsS_length {K ws h : List Int} (hh : h.length = 8) : ∀ n, (roundsS K ws h n).length = 8
  | 0 => hh
  | _n + 1 => rfl
/-- A block is taken in. -/
def stirS (K h : List Int) (b : List UInt8) : List Int := (List.range 8).map fun i => w32 (h.getD i 0 + (roundsS K (spreadS b 64) h 64).getD i 0)
theorem stirS_length (K h : List Int) (b : List UInt8) : (stirS K h b).length = 8 := by simp [stirS]
/-- All whole blocks are taken in: the state, and what is left. -/
def allS (K : List Int) : Nat → List Int → List UInt8 → List Int × List UInt8
  | 0, h, l => (h, l)
  | f + 1, h, l => if l.length < 64 then (h, l) else allS K f (stirS K h (l.take 64)) (l.drop 64)
def zerosS : Nat → List UInt8 → List UInt8
  | 0, l => l
  | f + 1, l => if l.length % 64 = 56 then l else zerosS f (l ++ [0])
def lenS (n : Nat) : List UInt8 := (List.range 8).map fun i => UInt8.ofNat (n * 8 / 2 ^ (56 - 8 * i))
def outS (h : List Int) : List UInt8 := (List.range 32).map fun i => UInt8.ofNat ((h.getD (i / 4) 0).toNat / 2 ^ (24 - 8 * (i % 4)))
/-- The digest of bytes. -/
def digS (F K : List Int) (b : List UInt8) : List UInt8 :=
  let s := allS K (b.length + 1) F b
  let e := zerosS 64 (s.2 ++ [128]) ++ lenS b.length
  outS (allS K (e.length + 1) s.1 e).1
/-- A row of words that is there. -/
def Glob (w : World) (g : Nat) (l : List Int) : Prop := ∀ i (h : i < l.length), w.cell? ⟨g, i, none⟩ = some (.int .u32 l[i])
theorem Glob.fr {w w' : World} {g : Nat} {l : List Int} (h : Glob w g l) (hf : Fr w w') : Glob w' g l := fun i hi => by
  have hb := World.block_lt_of_cell? w _ (h i hi)
  have e : w'.heap[g]? = w.heap[g]? := hf.block g hb
  exact (World.cell?_of_block (w := w) (by exact e)).trans (h i hi)
theorem Glob.grown {w w' : World} {g q : Nat} {l : List Int} (h : Glob w q l) (hg : w.grownBy w' (some g)) (hne : g ≠ q) : Glob w' q l := fun i hi => by
  have hb := World.block_lt_of_cell? w _ (h i hi)
  have e : w'.heap[q]? = w.heap[q]? := hg.block q hb (by simp; omega)
  exact (World.cell?_of_block (w := w) (by exact e)).trans (h i hi)
theorem nzI {a : Addr} {K : Addr → Prop} (h : K a) : nz (some a) K := h
def ints (l : List Int) : List Value := l.map (Value.int .u32)
theorem ints_length (l : List Int) : (ints l).length = l.length := by simp [ints]
/-- A row in a known block. -/
theorem ldRow {w : World} {g i n : Nat} {cs vs : List Value} {t : TypeId} {f : Nat × Nat} {K : {l : List Value // l.length = n} → Prop} (h : w.heap[g]? = some (.cells cs.toArray t f)) (hv : (cs.drop i).take n = vs) (hn : vs.length = n) (k : K ⟨vs, hn⟩) : ld (.row n) w ⟨g, i, none⟩ K := by
  refine ⟨⟨vs, hn⟩, fun j hj => ?_, k⟩
  rw [addOff, cell_of_row w g (i + j) cs.toArray t f h]
  have e : (cs.drop i)[j]? = some vs[j] := by
    have : ((cs.drop i).take n)[j]? = some vs[j] := by rw [hv]; exact List.getElem?_eq_getElem hj
    rw [List.getElem?_take] at this
    split at this
    · exact this
    · cases this
  rw [List.getElem?_drop] at e
  simpa using e
theorem ldGlob {w : World} {g n : Nat} {l : List Int} {K : {l : List Value // l.length = n} → Prop} (h : Glob w g l) (hn : l.length = n) (k : K ⟨ints l, by rw [ints_length, hn]⟩) : ld (.row n) w ⟨g, 0, none⟩ K := by
  refine ⟨⟨ints l, by rw [ints_length, hn]⟩, fun j hj => ?_, k⟩
  rw [addOff, Nat.zero_add]
  have := h j (by rw [← ints_length]; exact hj)
  simpa [ints] using this
theorem ixGlob {w : World} {g n : Nat} {l : List Int} {i : Nat} {K : Int → Prop} (h : Glob w g l) (hi : i < l.length) (hn : l.length = n) (k : K (l.getD i 0)) : ixa (some ⟨g, 0, none⟩) n (i : Int) 1 fun a => ld (.I .u32) w a K := by
  refine ⟨by omega, by omega, ?_⟩
  show ld (.I .u32) w (atOff ⟨g, 0, none⟩ (i : Int) 1) K
  rw [atH, Int.toNat_natCast]
  refine ⟨_, h i hi, ?_⟩
  rw [List.getD_eq_getElem?_getD, List.getElem?_eq_getElem hi, Option.getD_some] at k
  exact k
/-- A word of a row of a known block. -/
theorem ixW {w : World} {g n : Nat} {l : List Int} {t : TypeId} {f : Nat × Nat} {i : Nat} {K : Int → Prop} (h : w.heap[g]? = some (.cells (ints l).toArray t f)) (hi : i < l.length) (hn : i < n) (k : K (l.getD i 0)) : ixa (some ⟨g, 0, none⟩) n (i : Int) 1 fun a => ld (.I .u32) w a K :=
  ixH h (by omega) (by omega) (by
    rw [Int.toNat_natCast, ints, List.getElem?_map, List.getElem?_eq_getElem hi]
    simp [List.getD_eq_getElem?_getD, List.getElem?_eq_getElem hi]) k
def F0 : List Int := [1779033703, 3144134277, 1013904242, 2773480762, 1359893119, 2600822924, 528734635, 1541459225]
def K0 : List Int := [1116352408, 1899447441, 3049323471, 3921009573, 961987163, 1508970993, 2453635748, 2870763221, 3624381080, 310598401, 607225278, 1426881987, 1925078388, 2162078206, 2614888103, 3248222580, 3835390401, 4022224774, 264347078, 604807628, 770255983, 1249150122, 1555081692, 1996064986, 2554220882, 2821834349, 2952996808, 3210313671, 3336571891, 3584528711, 113926993, 338241895, 666307205, 773529912, 1294757372, 1396182291, 1695183700, 1986661051, 2177026350, 2456956037, 2730485921, 2820302411, 3259730800, 3345764771, 3516065817, 3600352804, 4094571909, 275423344, 430227734, 506948616, 659060556, 883997877, 958139571, 1322822218, 1537002063, 1747873779, 1955562222, 2024104815, 2227730452, 2361852424, 2428436474, 2756734187, 3204031479, 3329325298]
abbrev dig (b : List UInt8) : List UInt8 := digS F0 K0 b
theorem w32_nn (n : Int) : 0 ≤ w32 n := by unfold w32; rw [u32w]; omega
theorem stirS_nn (K h : List Int) (b : List UInt8) : ∀ x ∈ stirS K h b, 0 ≤ x := fun x hx => by
  obtain ⟨i, _, rfl⟩ := List.mem_map.1 hx
  exact w32_nn _
theorem allS_nn {K : List Int} : ∀ {f : Nat} {h : List Int} {l : List UInt8}, (∀ x ∈ h, 0 ≤ x) → ∀ x ∈ (allS K f h l).1, 0 ≤ x
  | 0, h, l, hh => hh
  | f + 1, h, l, hh => by
    unfold allS
    split
    · exact hh
    · exact allS_nn (stirS_nn _ _ _)
theorem allS_length {K : List Int} : ∀ {f : Nat} {h : List Int} {l : List UInt8}, h.length = 8 → (allS K f h l).1.length = 8
  | 0, h, l, hh => hh
  | f + 1, h, l, hh => by
    unfold allS
    split
    · exact hh
    · exact allS_length (stirS_length _ _ _)
theorem allS_any {K : List Int} : ∀ {f g : Nat} {h : List Int} {l : List UInt8}, l.length < f → l.length < g → allS K f h l = allS K g h l
  | 0, g, h, l, hf, _ => by omega
  | f + 1, 0, h, l, _, hg => by omega
  | f + 1, g + 1, h, l, hf, hg => by
    rw [allS, allS]
    split
    · rfl
    · exact allS_any (by rw [List.length_drop]; omega) (by rw [List.length_drop]; omega)
theorem allS_rest {K : List Int} : ∀ {f : Nat} {h : List Int} {l : List UInt8}, l.length < f → (allS K f h l).2.length < 64 ∧ (allS K f h l).2.length ≤ l.length
  | 0, h, l, hf => by omega
  | f + 1, h, l, hf => by
    rw [allS]
    split
    · exact ⟨by assumption, Nat.le_refl _⟩
    · have := allS_rest (K := K) (f := f) (h := stirS K h (l.take 64)) (l := l.drop 64) (by rw [List.length_drop]; omega)
      rw [List.length_drop] at this
      omega
theorem zerosS_len : ∀ {f : Nat} {l : List UInt8}, (120 - l.length % 64) % 64 ≤ f → (zerosS f l).length = l.length + (120 - l.length % 64) % 64
  | 0, l, h => by unfold zerosS; omega
  | f + 1, l, h => by
    unfold zerosS
    split
    · omega
    · have e : (l ++ [(0 : UInt8)]).length = l.length + 1 := by simp
      have := zerosS_len (f := f) (l := l ++ [0]) (by rw [e]; omega)
      rw [this, e]
      omega
theorem lenS_length (n : Nat) : (lenS n).length = 8 := by simp [lenS]
theorem outS_length (h : List Int) : (outS h).length = 32 := by simp [outS]
theorem dig_length (b : List UInt8) : (dig b).length = 32 := outS_length _
end Go.Fl
namespace Go.Fl

theorem w32_lt (n : Int) : w32 n < 4294967296 := by unfold w32; rw [u32w]; omega
theorem rot_ref {x : Int} {k : Nat} (h0 : 0 ≤ x) (h1 : x < 4294967296) : bits .or .u32 (x / 2 ^ k) (w32 (x * 2 ^ (32 - k))) = rotS x k := by
  have a0 : 0 ≤ x / 2 ^ k := Int.ediv_nonneg h0 (Int.le_of_lt (Int.pow_pos (by decide)))
  have a1 : x / 2 ^ k < 4294967296 := by
    have := Int.ediv_le_self (2 ^ k) h0
    omega
  unfold rotS
  rw [u32_or _ _ a0 a1 (w32_nn _) (w32_lt _), u32_or _ _ (w32_nn _) (w32_lt _) a0 a1, Nat.or_comm]
theorem not_ref {x : Int} (h0 : 0 ≤ x) (h1 : x < 4294967296) : w32 (4294967295 - x) = bits .xor .u32 4294967295 x := by
  rw [u32_xor _ _ (by decide) (by decide) h0 h1]
  obtain ⟨n, rfl⟩ := Int.eq_ofNat_of_zero_le h0
  have e : (4294967295 : Int).toNat ^^^ (n : Int).toNat = 4294967295 - n := by
    rw [Int.toNat_natCast, show (4294967295 : Int).toNat = 2 ^ 32 - 1 from rfl, show 4294967295 - n = 2 ^ 32 - (n + 1) from by omega]
    apply Nat.eq_of_testBit_eq
    intro i
    rw [Nat.testBit_two_pow_sub_succ (by omega), Nat.testBit_xor, Nat.testBit_two_pow_sub_one]
    by_cases hi : i < 32
    · simp [hi]
    · rw [Nat.testBit_lt_two_pow (x := n) (Nat.lt_of_lt_of_le (show n < 2 ^ 32 by omega) (Nat.pow_le_pow_right (by decide) (by omega)))]
      simp [hi]
  rw [e]
  unfold w32
  rw [u32w]
  omega
theorem or_add {a b i : Nat} (h : b < 2 ^ i) : a * 2 ^ i ||| b = a * 2 ^ i + b := by
  have := Nat.shiftLeft_add_eq_or_of_lt h a
  rw [Nat.shiftLeft_eq] at this
  exact this.symm
theorem word_ref {a b c d : Nat} (ha : a < 256) (hb : b < 256) (hc : c < 256) (hd : d < 256) : w32 (w32 (w32 (w32 (w32 (a : Int) * 16777216) + w32 (w32 (b : Int) * 65536)) + w32 (w32 (c : Int) * 256)) + w32 (d : Int)) =
    bits .or .u32 (bits .or .u32 (bits .or .u32 (w32 (w32 (a : Int) * 2 ^ 24)) (w32 (w32 (b : Int) * 2 ^ 16))) (w32 (w32 (c : Int) * 2 ^ 8))) (w32 (d : Int)) := by
  have e0 : w32 (w32 (a : Int) * 2 ^ 24) = ((a * 2 ^ 24 : Nat) : Int) := by unfold w32; rw [u32w, u32w]; omega
  have e1 : w32 (w32 (b : Int) * 2 ^ 16) = ((b * 2 ^ 16 : Nat) : Int) := by unfold w32; rw [u32w, u32w]; omega
  have e2 : w32 (w32 (c : Int) * 2 ^ 8) = ((c * 2 ^ 8 : Nat) : Int) := by unfold w32; rw [u32w, u32w]; omega
  have e3 : w32 (d : Int) = ((d : Nat) : Int) := by unfold w32; rw [u32w]; omega
  rw [e0, e1, e2, u32_or_nat _ _ (by omega) (by omega), or_add (by omega)]
  have f1 : (a * 2 ^ 24 + b * 2 ^ 16 ||| c * 2 ^ 8) = a * 2 ^ 24 + b * 2 ^ 16 + c * 2 ^ 8 := by
    have := or_add (a := a * 256 + b) (b := c * 2 ^ 8) (i := 16) (by omega)
    rw [show (a * 256 + b) * 2 ^ 16 = a * 2 ^ 24 + b * 2 ^ 16 from by omega] at this
    exact this
  rw [u32_or_nat _ _ (by omega) (by omega), f1, e3]
  have f2 : (a * 2 ^ 24 + b * 2 ^ 16 + c * 2 ^ 8 ||| d) = a * 2 ^ 24 + b * 2 ^ 16 + c * 2 ^ 8 + d := by
    have := or_add (a := a * 65536 + b * 256 + c) (b := d) (i := 8) (by omega)
    rw [show (a * 65536 + b * 256 + c) * 2 ^ 8 = a * 2 ^ 24 + b * 2 ^ 16 + c * 2 ^ 8 from by omega] at this
    exact this
  rw [u32_or_nat _ _ (by omega) (by omega), f2]
  unfold w32
  simp only [u32w]
  omega
/-- Words within 32 bits. -/
def W32 (l : List Int) : Prop := ∀ x ∈ l, 0 ≤ x ∧ x < 4294967296
theorem W32.getD {l : List Int} (h : W32 l) (i : Nat) : 0 ≤ l.getD i 0 ∧ l.getD i 0 < 4294967296 := by
  rw [List.getD_eq_getElem?_getD]
  cases hi : l[i]? with
  | none => simp
  | some x => exact h x (List.mem_of_getElem? hi)
theorem w32_in (n : Int) : 0 ≤ w32 n ∧ w32 n < 4294967296 := ⟨w32_nn n, w32_lt n⟩
theorem or_in {a b : Int} (ha : 0 ≤ a ∧ a < 4294967296) (hb : 0 ≤ b ∧ b < 4294967296) : 0 ≤ bits .or .u32 a b ∧ bits .or .u32 a b < 4294967296 := by
  rw [u32_or _ _ ha.1 ha.2 hb.1 hb.2]
  have : a.toNat ||| b.toNat < 2 ^ 32 := Nat.or_lt_two_pow (by omega) (by omega)
  omega
theorem w16_in (b : List UInt8) (i : Nat) : 0 ≤ w16S b i ∧ w16S b i < 4294967296 := or_in (or_in (or_in (w32_in _) (w32_in _)) (w32_in _)) (w32_in _)
theorem spread_in (b : List UInt8) : ∀ n, W32 (spreadS b n)
  | 0 => fun x hx => by cases hx
  | n + 1 => fun x hx => by
    rw [spreadS] at hx
    rcases List.mem_append.1 hx with hx | hx
    · exact spread_in b n x hx
    · rw [List.mem_singleton] at hx
      subst hx
      split
      · exact w16_in _ _
      · exact w32_in _
theorem rounds_in {K ws h : List Int} (hh : W32 h) : ∀ n, W32 (roundsS K ws h n)
  | 0 => hh
  | n + 1 => fun x hx => by
    have ih := rounds_in (K := K) (ws := ws) hh n
    rw [roundsS, roundS] at hx
    simp only [List.mem_cons, List.not_mem_nil, or_false] at hx
    rcases hx with rfl | rfl | rfl | rfl | rfl | rfl | rfl | rfl
    · exact w32_in _
    · exact ih.getD 0
    · exact ih.getD 1
    · exact ih.getD 2
    · exact w32_in _
    · exact ih.getD 4
    · exact ih.getD 5
    · exact ih.getD 6
theorem stir_in (K h : List Int) (b : List UInt8) : W32 (stirS K h b) := fun x hx => by
  obtain ⟨i, _, rfl⟩ := List.mem_map.1 hx
  exact w32_in _
theorem allS_split {K : List Int} : ∀ {f : Nat} {h : List Int} {l : List UInt8}, l.length < f → ∃ l1, l = l1 ++ (allS K f h l).2 ∧ l1.length % 64 = 0 ∧ ∀ t g, (l1 ++ t).length < g → allS K g h (l1 ++ t) = allS K (t.length + 1) (allS K f h l).1 t
  | 0, h, l, hf => by omega
  | f + 1, h, l, hf => by
    rw [allS]
    split
    · refine ⟨[], by simp, rfl, fun t g hg => ?_⟩
      rw [List.nil_append] at hg ⊢
      exact allS_any hg (by omega)
    · rename_i h64
      obtain ⟨l1, e, hm, hx⟩ := allS_split (K := K) (f := f) (h := stirS K h (l.take 64)) (l := l.drop 64) (by rw [List.length_drop]; omega)
      have ht : (l.take 64).length = 64 := by rw [List.length_take]; omega
      refine ⟨l.take 64 ++ l1, ?_, ?_, fun t g hg => ?_⟩
      · rw [List.append_assoc, ← e, List.take_append_drop]
      · rw [List.length_append, ht]; omega
      · obtain ⟨g, rfl⟩ : ∃ g', g = g' + 1 := ⟨g - 1, by omega⟩
        rw [List.append_assoc] at hg ⊢
        rw [List.length_append, ht] at hg
        rw [allS, if_neg (by rw [List.length_append, ht]; omega), List.take_left' ht, List.drop_left' ht]
        exact hx t g (by omega)
theorem zerosS_app : ∀ {f : Nat} {l1 r : List UInt8}, l1.length % 64 = 0 → zerosS f (l1 ++ r) = l1 ++ zerosS f r
  | 0, l1, r, h => rfl
  | f + 1, l1, r, h => by
    unfold zerosS
    rw [List.length_append]
    by_cases hr : r.length % 64 = 56
    · rw [if_pos hr, if_pos (by omega)]
    · rw [if_neg hr, if_neg (by omega), List.append_assoc]
      exact zerosS_app h
theorem zerosS_done {f : Nat} {l : List UInt8} (h : l.length % 64 = 56) : zerosS f l = l := by
  cases f with
  | zero => rfl
  | succ f => rw [zerosS, if_pos h]
/-- The whole message, padded. -/
def padS (b : List UInt8) : List UInt8 := zerosS 64 (b ++ [128]) ++ lenS b.length
theorem padS_mod (b : List UInt8) : (padS b).length % 64 = 0 := by
  have := zerosS_len (f := 64) (l := b ++ [128]) (by omega)
  rw [padS, List.length_append, this, lenS_length]
  omega
theorem dig_ref (F K : List Int) (b : List UInt8) : outS (allS K ((padS b).length + 1) F (padS b)).1 = digS F K b := by
  obtain ⟨l1, e, hm, hx⟩ := allS_split (K := K) (f := b.length + 1) (h := F) (l := b) (by omega)
  have ep : padS b = l1 ++ (zerosS 64 ((allS K (b.length + 1) F b).2 ++ [128]) ++ lenS b.length) := by
    rw [padS, ← List.append_assoc]
    congr 1
    rw [← zerosS_app hm, ← List.append_assoc, ← e]
  unfold digS
  rw [ep, hx _ _ (by omega)]
end Go.Fl
namespace Go.Fl

def Nib : List Int := [0, 498536548, 997073096, 651767980, 1994146192, 1802195444, 1303535960, 1342533948, 3988292384, 4027552580, 3604390888, 3412177804, 2607071920, 2262029012, 2685067896, 3183342108]
def nibN (j : Nat) : Nat := (Nib.getD j 0).toNat
/-- Four bits. -/
def nstep (c : Nat) : Nat := c / 16 ^^^ nibN (c % 16)
/-- One byte. -/
def cstep (c : Nat) (x : UInt8) : Nat := nstep (nstep (c ^^^ x.toNat))
def cfold (l : List UInt8) : Nat := l.foldl cstep 4294967295
def crcN (l : List UInt8) : Nat := 4294967295 ^^^ cfold l
def bstep (c : Nat) : Nat := c / 2 ^^^ (if c % 2 = 1 then 3988292384 else 0)
theorem lt_xor {a b : Nat} (ha : a < 4294967296) (hb : b < 4294967296) : a ^^^ b < 4294967296 := Nat.xor_lt_two_pow (n := 32) ha hb
theorem nibN_lt (j : Nat) : nibN j < 4294967296 := by
  unfold nibN
  by_cases h : j < 16
  · have : ∀ j, j < 16 → (Nib.getD j 0).toNat < 4294967296 := by decide
    exact this j h
  · rw [List.getD_eq_getElem?_getD, List.getElem?_eq_none (by simp [Nib]; omega)]; decide
theorem nstep_lt {c : Nat} (h : c < 4294967296) : nstep c < 4294967296 := lt_xor (by omega) (nibN_lt _)
theorem cstep_lt {c : Nat} (x : UInt8) (h : c < 4294967296) : cstep c x < 4294967296 := nstep_lt (nstep_lt (lt_xor h (by have := x.toNat_lt; omega)))
theorem foldl_lt : ∀ (l : List UInt8) {c : Nat}, c < 4294967296 → l.foldl cstep c < 4294967296
  | [], _, h => h
  | x :: l, _, h => foldl_lt l (cstep_lt x h)
theorem cfold_lt (l : List UInt8) : cfold l < 4294967296 := foldl_lt l (by decide)
theorem crcN_lt (l : List UInt8) : crcN l < 4294967296 := lt_xor (by decide) (cfold_lt l)
theorem xor_div {a b : Nat} (k : Nat) : (a ^^^ b) / 2 ^ k = a / 2 ^ k ^^^ b / 2 ^ k := by
  rw [← Nat.shiftRight_eq_div_pow, ← Nat.shiftRight_eq_div_pow, ← Nat.shiftRight_eq_div_pow, Nat.shiftRight_xor_distrib]
theorem bstep_xor (a b : Nat) : bstep (a ^^^ b) = bstep a ^^^ bstep b := by
  have h1 : (a ^^^ b) / 2 = a / 2 ^^^ b / 2 := xor_div (a := a) (b := b) 1
  have h2 : (a ^^^ b) % 2 = (a + b) % 2 := by
    have h := Nat.xor_mod_two_pow (a := a) (b := b) (n := 1)
    rw [show (2 : Nat) ^ 1 = 2 from rfl] at h
    rw [h]
    have ha : a % 2 = 0 ∨ a % 2 = 1 := by omega
    have hb : b % 2 = 0 ∨ b % 2 = 1 := by omega
    rcases ha with ha | ha <;> rcases hb with hb | hb <;> (rw [ha, hb]; simp; omega)
  unfold bstep
  rw [h1, h2]
  have ha : a % 2 = 0 ∨ a % 2 = 1 := by omega
  have hb : b % 2 = 0 ∨ b % 2 = 1 := by omega
  rcases ha with ha | ha <;> rcases hb with hb | hb
  · rw [if_neg (by omega), if_neg (by omega), if_neg (by omega)]; simp
  · rw [if_pos (by omega), if_neg (by omega), if_pos (by omega)]; simp [Nat.xor_assoc]
  · rw [if_pos (by omega), if_pos (by omega), if_neg (by omega), Nat.xor_zero, Nat.xor_assoc, Nat.xor_assoc, Nat.xor_comm 3988292384]
  · rw [if_neg (by omega), if_pos (by omega), if_pos (by omega), Nat.xor_zero]
    have : a / 2 ^^^ 3988292384 ^^^ (b / 2 ^^^ 3988292384) = a / 2 ^^^ b / 2 := by
      rw [Nat.xor_assoc, ← Nat.xor_assoc 3988292384, Nat.xor_comm 3988292384, Nat.xor_assoc (b / 2), Nat.xor_self, Nat.xor_zero]
    rw [this]
theorem split16 (c : Nat) : c = (16 * (c / 16)) ^^^ (c % 16) := by
  apply Nat.eq_of_testBit_eq
  intro i
  rw [Nat.testBit_xor]
  have h1 := Nat.testBit_two_pow_mul_add (c / 16) (i := 4) (b := c % 16) (Nat.mod_lt _ (by decide)) i
  have e : 2 ^ 4 * (c / 16) + c % 16 = c := by omega
  rw [e] at h1
  have h2 := Nat.testBit_two_pow_mul_add (c / 16) (i := 4) (b := 0) (by decide) i
  rw [Nat.add_zero] at h2
  have h2 : (16 * (c / 16)).testBit i = _ := h2
  rw [h1, h2]
  by_cases hi : i < 4
  · simp [hi]
  · have : (c % 16).testBit i = false := Nat.testBit_lt_two_pow (Nat.lt_of_lt_of_le (Nat.mod_lt _ (by decide)) (Nat.pow_le_pow_right (n := 2) (by decide) (show 4 ≤ i by omega)))
    simp [hi, this]
theorem bstep_even (q : Nat) : bstep (2 * q) = q := by
  unfold bstep
  rw [if_neg (by omega), Nat.xor_zero]; omega
theorem bstep4 (c : Nat) : bstep (bstep (bstep (bstep c))) = nstep c := by
  conv => lhs; rw [split16 c]
  have h4 : ∀ r, r < 16 → bstep (bstep (bstep (bstep r))) = nibN r := by decide
  rw [bstep_xor, bstep_xor, bstep_xor, bstep_xor, h4 _ (Nat.mod_lt _ (by decide))]
  have e : bstep (bstep (bstep (bstep (16 * (c / 16))))) = c / 16 := by
    rw [show 16 * (c / 16) = 2 * (2 * (2 * (2 * (c / 16)))) from by omega, bstep_even, bstep_even, bstep_even, bstep_even]
  rw [e]
  rfl
theorem bstep8 (c : Nat) : bstep (bstep (bstep (bstep (bstep (bstep (bstep (bstep c))))))) = nstep (nstep c) := by rw [bstep4, bstep4]
theorem bstep_lt {c : Nat} (h : c < 4294967296) : bstep c < 4294967296 := lt_xor (by omega) (by split <;> decide)
theorem nstep_inj {a b : Nat} (ha : a < 4294967296) (hb : b < 4294967296) (h : nstep a = nstep b) : a = b := by
  unfold nstep at h
  have top : ∀ j, j < 16 → ∀ k, k < 16 → nibN j / 268435456 = nibN k / 268435456 → j = k := by decide
  have h1 := congrArg (· / 2 ^ 28) h
  rw [xor_div, xor_div] at h1
  have z1 : a / 16 / 2 ^ 28 = 0 := by omega
  have z2 : b / 16 / 2 ^ 28 = 0 := by omega
  rw [z1, z2, Nat.zero_xor, Nat.zero_xor] at h1
  have e := top (a % 16) (Nat.mod_lt _ (by decide)) (b % 16) (Nat.mod_lt _ (by decide)) h1
  rw [e] at h
  have h2 := congrArg (· ^^^ nibN (b % 16)) h
  rw [Nat.xor_assoc, Nat.xor_assoc, Nat.xor_self, Nat.xor_zero, Nat.xor_zero] at h2
  omega
theorem cstep_inj {a b : Nat} {x : UInt8} (ha : a < 4294967296) (hb : b < 4294967296) (h : cstep a x = cstep b x) : a = b := by
  have hx : x.toNat < 4294967296 := by have := x.toNat_lt; omega
  have h1 := nstep_inj (lt_xor ha hx) (lt_xor hb hx) (nstep_inj (nstep_lt (lt_xor ha hx)) (nstep_lt (lt_xor hb hx)) h)
  have h2 := congrArg (· ^^^ x.toNat) h1
  rwa [Nat.xor_assoc, Nat.xor_assoc, Nat.xor_self, Nat.xor_zero, Nat.xor_zero] at h2
theorem cstep_other {a : Nat} {x y : UInt8} (ha : a < 4294967296) (h : cstep a x = cstep a y) : x = y := by
  have hx : x.toNat < 4294967296 := by have := x.toNat_lt; omega
  have hy : y.toNat < 4294967296 := by have := y.toNat_lt; omega
  have h1 := nstep_inj (lt_xor ha hx) (lt_xor ha hy) (nstep_inj (nstep_lt (lt_xor ha hx)) (nstep_lt (lt_xor ha hy)) h)
  have h2 := congrArg (a ^^^ ·) h1
  rw [← Nat.xor_assoc, ← Nat.xor_assoc, Nat.xor_self, Nat.zero_xor, Nat.zero_xor] at h2
  exact UInt8.toNat_inj.1 h2
theorem foldl_inj : ∀ (l : List UInt8) {a b : Nat}, a < 4294967296 → b < 4294967296 → l.foldl cstep a = l.foldl cstep b → a = b
  | [], _, _, _, _, h => h
  | x :: l, _, _, ha, hb, h => cstep_inj ha hb (foldl_inj l (cstep_lt x ha) (cstep_lt x hb) h)
theorem crc_other {l r : List UInt8} {x y : UInt8} (h : crcN (l ++ x :: r) = crcN (l ++ y :: r)) : x = y := by
  unfold crcN at h
  have h2 := congrArg (4294967295 ^^^ ·) h
  rw [← Nat.xor_assoc, ← Nat.xor_assoc, Nat.xor_self, Nat.zero_xor, Nat.zero_xor] at h2
  unfold cfold at h2
  rw [List.foldl_append, List.foldl_append, List.foldl_cons, List.foldl_cons] at h2
  exact cstep_other (cfold_lt l) (foldl_inj r (cstep_lt x (cfold_lt l)) (cstep_lt y (cfold_lt l)) h2)
/-- A sum's bytes, the lowest first. -/
def le4 (c : Nat) : List UInt8 := [UInt8.ofNat (c % 256), UInt8.ofNat (c / 256 % 256), UInt8.ofNat (c / 65536 % 256), UInt8.ofNat (c / 16777216 % 256)]
theorem le4_inj {a b : Nat} (ha : a < 4294967296) (hb : b < 4294967296) (h : le4 a = le4 b) : a = b := by
  simp only [le4, List.cons.injEq, and_true] at h
  obtain ⟨h1, h2, h3, h4⟩ := h
  have e : ∀ m n : Nat, UInt8.ofNat (m % 256) = UInt8.ofNat (n % 256) → m % 256 = n % 256 := by
    intro m n h
    have := congrArg UInt8.toNat h
    simpa using this
  have := e _ _ h1
  have := e _ _ h2
  have := e _ _ h3
  have := e _ _ h4
  omega
def sealB (b : List UInt8) : List UInt8 := b ++ le4 (crcN b)
theorem sealB_length (b : List UInt8) : (sealB b).length = b.length + 4 := by simp [sealB, le4]
/-- What was sealed: the bytes, or why there are none. -/
def openB (p : List UInt8) : List UInt8 × Nat := if p.length < 4 then ([], 2) else if le4 (crcN (p.take (p.length - 4))) = p.drop (p.length - 4) then (p.take (p.length - 4), 0) else ([], 10)
theorem openB_seal (b : List UInt8) : openB (sealB b) = (b, 0) := by
  unfold openB
  have hl := sealB_length b
  have e : (sealB b).length - 4 = b.length := by omega
  rw [if_neg (by omega), e]
  have e1 : (sealB b).take b.length = b := List.take_left' rfl
  have e2 : (sealB b).drop b.length = le4 (crcN b) := List.drop_left' rfl
  rw [e1, e2, if_pos rfl]
theorem openB_back {p b : List UInt8} (h : openB p = (b, 0)) : p = sealB b := by
  unfold openB at h
  split at h
  · cases h
  · split at h
    · rename_i h1
      have hb := (Prod.mk.inj h).1
      rw [← hb, sealB, h1, List.take_append_drop]
    · cases h
theorem openB_cases (p : List UInt8) : (openB p).2 = 0 ∨ openB p = ([], 2) ∨ openB p = ([], 10) := by
  unfold openB
  split
  · exact .inr (.inl rfl)
  · split
    · exact .inl rfl
    · exact .inr (.inr rfl)
/-- One byte that is another one is told. -/
theorem openB_turn {b : List UInt8} {i : Nat} {v : UInt8} (hi : i < (sealB b).length) (hv : (sealB b)[i] ≠ v) : openB ((sealB b).set i v) = ([], 10) := by
  have hl := sealB_length b
  unfold openB
  rw [List.length_set, if_neg (by omega), if_neg]
  intro h
  have e : (sealB b).length - 4 = b.length := by omega
  rw [e] at h
  by_cases hb : i < b.length
  · have t1 : ((sealB b).set i v).take b.length = b.set i v := by rw [sealB, List.set_append_left _ _ hb]; exact List.take_left' (by simp)
    have t2 : ((sealB b).set i v).drop b.length = le4 (crcN b) := by rw [sealB, List.set_append_left _ _ hb]; exact List.drop_left' (by simp)
    rw [t1, t2] at h
    have h2 := le4_inj (crcN_lt _) (crcN_lt _) h
    have e1 : b = b.take i ++ b[i] :: b.drop (i + 1) := by rw [← List.drop_eq_getElem_cons hb, List.take_append_drop]
    have e2 : b.set i v = b.take i ++ v :: b.drop (i + 1) := by rw [List.set_eq_take_append_cons_drop, if_pos hb]
    rw [e2] at h2
    conv at h2 => rhs; rw [e1]
    have := crc_other h2
    refine hv ?_
    have e3 : (sealB b)[i] = b[i] := by simp only [sealB]; exact List.getElem_append_left hb
    rw [e3, this]
  · have t1 : ((sealB b).set i v).take b.length = b := by rw [sealB, List.set_append_right _ _ (by omega)]; exact List.take_left' rfl
    have t2 : ((sealB b).set i v).drop b.length = (le4 (crcN b)).set (i - b.length) v := by rw [sealB, List.set_append_right _ _ (by omega)]; exact List.drop_left' rfl
    rw [t1, t2] at h
    refine hv ?_
    have hi2 : i - b.length < (le4 (crcN b)).length := by simp [le4]; omega
    have e3 : (sealB b)[i] = (le4 (crcN b))[i - b.length] := by simp only [sealB]; exact List.getElem_append_right (by omega)
    rw [e3]
    have : ((le4 (crcN b)).set (i - b.length) v)[i - b.length]'(by simpa using hi2) = v := List.getElem_set_self _
    rw [← this]
    simp only [← h]
end Go.Fl
