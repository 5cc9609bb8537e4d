/- What the code of Go functions of this seat asks, in numbers, lists and worlds: printed by a program of mine (wip/tools). -/
import Derived.Test.YtkojpppnjloikaaDoorId
set_option linter.unusedVariables false
set_option maxHeartbeats 4000000
namespace Go.Proofs.YtkojpppnjloikaaDoor
open Go.Fl
/-- flume/record.Make -/
def record_Make (p0 : Sl) (p1 : Bool) (Q : ((Int × (Int × ({l : List Value // l.length = 32} × (Sl × Unit)))) × (Int × Unit)) → World → Prop) (w : World) : Prop :=
 nw w (([.int .i64 0, .int .i64 0] : List Value) ++ ((zrow 32 (.int .u8 0)).1 ++ ([.slice none 0 0] : List Value))) t_api_Record fun a1 w2 => nw w2 [.slice p0.a p0.n p0.c] t_s_uint8 fun a3 w4 => cl Tryd.prog n_digest_Of #[.slice (some a3) 1 1] (.row 32) w4 fun (x5 : {l : List Value // l.length = 32}) w6 => nw w6 (([.int .i64 0, .int .i64 0] : List Value) ++ ((zrow 32 (.int .u8 0)).1 ++ ([.slice none 0 0] : List Value))) t_api_Record fun a7 w8 => st1 w8 a7 (.int .i64 1) fun w9 => st1 w9 (a7.add 1) (.int .i64 (p0.n : Int)) fun w10 => stL ((a7.add 1).add 1) w10 0 x5.1 fun w11 => st1 w11 (((a7.add 1).add 1).add 32) (.slice none 0 0) fun w12 => let j1 := (fun (y18 : Bool) (w19 : World) =>
   bif y18 then
 (st1 w19 a1 (.int .i64 0) fun w20 => st1 w20 (a1.add 1) (.int .i64 0) fun w21 => stL ((a1.add 1).add 1) w21 0 (zrow 32 (.int .u8 0)).1 fun w22 => st1 w22 (((a1.add 1).add 1).add 32) (.slice none 0 0) fun w23 => ld (.pair (.I .i64) (.pair (.I .i64) (.pair (.row 32) (.pair .L .nil)))) w23 a1 fun (r24 : (Int × (Int × ({l : List Value // l.length = 32} × (Sl × Unit))))) => Q ((r24.1, (r24.2.1, (r24.2.2.1, (r24.2.2.2.1, ())))), (100, ())) w23)
 else bif p1 then
 (ld (.pair (.I .i64) (.pair (.I .i64) (.pair (.row 32) (.pair .L .nil)))) w19 a7 fun (x25 : (Int × (Int × ({l : List Value // l.length = 32} × (Sl × Unit))))) => st1 w19 a1 (.int .i64 x25.1) fun w26 => st1 w26 (a1.add 1) (.int .i64 x25.2.1) fun w27 => stL ((a1.add 1).add 1) w27 0 x25.2.2.1.1 fun w28 => st1 w28 (((a1.add 1).add 1).add 32) (.slice x25.2.2.2.1.a x25.2.2.2.1.n x25.2.2.2.1.c) fun w29 => ld (.pair (.I .i64) (.pair (.I .i64) (.pair (.row 32) (.pair .L .nil)))) w29 a1 fun (r30 : (Int × (Int × ({l : List Value // l.length = 32} × (Sl × Unit))))) => Q ((r30.1, (r30.2.1, (r30.2.2.1, (r30.2.2.2.1, ())))), (0, ())) w29)
 else cl Tryd.prog n_slices_Clone_byte_byte #[.slice p0.a p0.n p0.c] .L w19 fun (x31 : Sl) w32 => st1 w32 a7 (.int .i64 2) fun w33 => st1 w33 (a7.add 34) (.slice x31.a x31.n x31.c) fun w34 => let j2 := (fun  (w45 : World) =>
   ld (.pair (.I .i64) (.pair (.I .i64) (.pair (.row 32) (.pair .L .nil)))) w45 a7 fun (x46 : (Int × (Int × ({l : List Value // l.length = 32} × (Sl × Unit))))) => st1 w45 a1 (.int .i64 x46.1) fun w47 => st1 w47 (a1.add 1) (.int .i64 x46.2.1) fun w48 => stL ((a1.add 1).add 1) w48 0 x46.2.2.1.1 fun w49 => st1 w49 (((a1.add 1).add 1).add 32) (.slice x46.2.2.2.1.a x46.2.2.2.1.n x46.2.2.2.1.c) fun w50 => ld (.pair (.I .i64) (.pair (.I .i64) (.pair (.row 32) (.pair .L .nil)))) w50 a1 fun (r51 : (Int × (Int × ({l : List Value // l.length = 32} × (Sl × Unit))))) => Q ((r51.1, (r51.2.1, (r51.2.2.1, (r51.2.2.2.1, ())))), (0, ())) w50);
 cl Tryd.prog n_lz_Shorten #[.slice p0.a p0.n p0.c] .L w34 fun (x35 : Sl) w36 => bif (decide ((x35.n : Int) < (p0.n : Int))) then
 (st1 w36 a7 (.int .i64 3) fun w37 => st1 w37 (a7.add 34) (.slice x35.a x35.n x35.c) fun w38 => j2 w38)
 else j2 w36);
 bif (decide ((p0.n : Int) < 1)) then
 (j1 true w12)
 else j1 (decide ((p0.n : Int) > 256)) w12
theorem record_Make.t (p0 : Sl) (p1 : Bool) (Q : ((Int × (Int × ({l : List Value // l.length = 32} × (Sl × Unit)))) × (Int × Unit)) → World → Prop) (w : World) : record_Make p0 p1 Q w = fvc Tryd.prog (fun _ => []) Tryd.f20 (.tup (.pair (.pair (.I .i64) (.pair (.I .i64) (.pair (.row 32) (.pair .L .nil)))) (.pair (.I .i64) .nil))) [Kd.av .L p0, Kd.av .B p1] w Q := by kernel_rfl
theorem record_Make.k : fnOk Tryd.prog Tryd.f20 = true := by kernel_rfl
theorem record_Make.cl {p0 : Sl} {p1 : Bool} {Q : ((Int × (Int × ({l : List Value // l.length = 32} × (Sl × Unit)))) × (Int × Unit)) → World → Prop} {w : World} (h : record_Make p0 p1 Q w) : cl Tryd.prog n_record_Make #[.slice p0.a p0.n p0.c, .bool p1] (.tup (.pair (.pair (.I .i64) (.pair (.I .i64) (.pair (.row 32) (.pair .L .nil)))) (.pair (.I .i64) .nil))) w Q :=
  cl_tie Tryd.func20 record_Make.k (args := [Kd.av .L p0, Kd.av .B p1]) (record_Make.t p0 p1 Q w) h

/-- flume/flumeref10.Make -/
def flumeref10_Make (p0 : Sl) (p1 : Bool) (Q : ((Int × (Int × ({l : List Value // l.length = 32} × (Sl × Unit)))) × (Int × Unit)) → World → Prop) (w : World) : Prop :=
 nw w (([.int .i64 0, .int .i64 0] : List Value) ++ ((zrow 32 (.int .u8 0)).1 ++ ([.slice none 0 0] : List Value))) t_api_Record fun a1 w2 => nw w2 (([.int .i64 0, .int .i64 0] : List Value) ++ ((zrow 32 (.int .u8 0)).1 ++ ([.slice none 0 0] : List Value))) t_api_Record fun a3 w4 => st1 w4 a3 (.int .i64 0) fun w5 => st1 w5 (a3.add 1) (.int .i64 0) fun w6 => stL ((a3.add 1).add 1) w6 0 (zrow 32 (.int .u8 0)).1 fun w7 => st1 w7 (((a3.add 1).add 1).add 32) (.slice none 0 0) fun w8 => let j1 := (fun (y15 : Bool) (w16 : World) =>
   bif y15 then
 (ld (.pair (.I .i64) (.pair (.I .i64) (.pair (.row 32) (.pair .L .nil)))) w16 a3 fun (x17 : (Int × (Int × ({l : List Value // l.length = 32} × (Sl × Unit))))) => st1 w16 a1 (.int .i64 x17.1) fun w18 => st1 w18 (a1.add 1) (.int .i64 x17.2.1) fun w19 => stL ((a1.add 1).add 1) w19 0 x17.2.2.1.1 fun w20 => st1 w20 (((a1.add 1).add 1).add 32) (.slice x17.2.2.2.1.a x17.2.2.2.1.n x17.2.2.2.1.c) fun w21 => ld (.pair (.I .i64) (.pair (.I .i64) (.pair (.row 32) (.pair .L .nil)))) w21 a1 fun (r22 : (Int × (Int × ({l : List Value // l.length = 32} × (Sl × Unit))))) => Q ((r22.1, (r22.2.1, (r22.2.2.1, (r22.2.2.2.1, ())))), (100, ())) w21)
 else st1 w16 (a3.add 1) (.int .i64 (p0.n : Int)) fun w23 => cl Tryd.prog n_flumeref08_Quick #[.slice p0.a p0.n p0.c] (.row 32) w23 fun (x24 : {l : List Value // l.length = 32}) w25 => stL (a3.add 2) w25 0 x24.1 fun w26 => cl Tryd.prog n_flumeref07_Shorten #[.slice p0.a p0.n p0.c] .L w26 fun (x27 : Sl) w28 => let j2 := (fun  (w44 : World) =>
   ld (.pair (.I .i64) (.pair (.I .i64) (.pair (.row 32) (.pair .L .nil)))) w44 a3 fun (x45 : (Int × (Int × ({l : List Value // l.length = 32} × (Sl × Unit))))) => st1 w44 a1 (.int .i64 x45.1) fun w46 => st1 w46 (a1.add 1) (.int .i64 x45.2.1) fun w47 => stL ((a1.add 1).add 1) w47 0 x45.2.2.1.1 fun w48 => st1 w48 (((a1.add 1).add 1).add 32) (.slice x45.2.2.2.1.a x45.2.2.2.1.n x45.2.2.2.1.c) fun w49 => ld (.pair (.I .i64) (.pair (.I .i64) (.pair (.row 32) (.pair .L .nil)))) w49 a1 fun (r50 : (Int × (Int × ({l : List Value // l.length = 32} × (Sl × Unit))))) => Q ((r50.1, (r50.2.1, (r50.2.2.1, (r50.2.2.2.1, ())))), (0, ())) w49);
 bif p1 then
 (st1 w28 a3 (.int .i64 1) fun w29 => j2 w29)
 else bif (decide ((x27.n : Int) < (p0.n : Int))) then
 (st1 w28 a3 (.int .i64 3) fun w30 => st1 w30 (a3.add 34) (.slice x27.a x27.n x27.c) fun w31 => j2 w31)
 else st1 w28 a3 (.int .i64 2) fun w32 => nw w32 [] t_uint8 fun a33 w34 => app Tryd.prog t_s_uint8 t_s_uint8 ⟨(some a33), 0, 0⟩ p0 w34 fun r35 w36 => st1 w36 (a3.add 34) (.slice r35.a r35.n r35.c) fun w37 => j2 w37);
 bif ((p0.n : Int) == 0) then
 (j1 true w8)
 else j1 (decide ((p0.n : Int) > 256)) w8
theorem flumeref10_Make.t (p0 : Sl) (p1 : Bool) (Q : ((Int × (Int × ({l : List Value // l.length = 32} × (Sl × Unit)))) × (Int × Unit)) → World → Prop) (w : World) : flumeref10_Make p0 p1 Q w = fvc Tryd.prog (fun _ => []) Tryd.f21 (.tup (.pair (.pair (.I .i64) (.pair (.I .i64) (.pair (.row 32) (.pair .L .nil)))) (.pair (.I .i64) .nil))) [Kd.av .L p0, Kd.av .B p1] w Q := by kernel_rfl
theorem flumeref10_Make.k : fnOk Tryd.prog Tryd.f21 = true := by kernel_rfl
theorem flumeref10_Make.cl {p0 : Sl} {p1 : Bool} {Q : ((Int × (Int × ({l : List Value // l.length = 32} × (Sl × Unit)))) × (Int × Unit)) → World → Prop} {w : World} (h : flumeref10_Make p0 p1 Q w) : cl Tryd.prog n_flumeref10_Make #[.slice p0.a p0.n p0.c, .bool p1] (.tup (.pair (.pair (.I .i64) (.pair (.I .i64) (.pair (.row 32) (.pair .L .nil)))) (.pair (.I .i64) .nil))) w Q :=
  cl_tie Tryd.func21 flumeref10_Make.k (args := [Kd.av .L p0, Kd.av .B p1]) (flumeref10_Make.t p0 p1 Q w) h

/-- flume/flumeref10.Same -/
def flumeref10_Same (p0 : (Int × (Int × ({l : List Value // l.length = 32} × (Sl × Unit))))) (p1 : (Int × (Int × ({l : List Value // l.length = 32} × (Sl × Unit))))) (Q : Bool → World → Prop) (w : World) : Prop :=
 nw w ((([.int .i64 p0.1, .int .i64 p0.2.1] : List Value) ++ (p0.2.2.1.1 ++ ([.slice p0.2.2.2.1.a p0.2.2.2.1.n p0.2.2.2.1.c] : List Value)))) t_api_Record fun a1 w2 => nw w2 ((([.int .i64 p1.1, .int .i64 p1.2.1] : List Value) ++ (p1.2.2.1.1 ++ ([.slice p1.2.2.2.1.a p1.2.2.2.1.n p1.2.2.2.1.c] : List Value)))) t_api_Record fun a3 w4 => ld (.I .i64) w4 a1 fun (x5 : Int) => ld (.I .i64) w4 a3 fun (x6 : Int) => bif (x5 == x6) then
 (ld (.I .i64) w4 (a1.add 1) fun (x7 : Int) => ld (.I .i64) w4 (a3.add 1) fun (x8 : Int) => bif (x7 == x8) then
 (ld (.row 32) w4 (a1.add 2) fun (x9 : {l : List Value // l.length = 32}) => ld (.row 32) w4 (a3.add 2) fun (x10 : {l : List Value // l.length = 32}) => qn Tryd.prog (do eqGuard .eql t_api_Sum (.const .nilIface) (.const .nilIface) (.agg (x9.1).toArray) (.agg (x10.1).toArray); binOp .eql t_api_Sum (.agg (x9.1).toArray) (.agg (x10.1).toArray)) .B w4 fun (x11 : Bool) => bif x11 then
 (ld .L w4 (a1.add 34) fun (x12 : Sl) => bstr w4 x12 fun z13 => ld .L w4 (a3.add 34) fun (x14 : Sl) => bstr w4 x14 fun z15 => Q (beqB ⟨z13.toArray⟩ ⟨z15.toArray⟩) w4)
 else Q false w4)
 else Q false w4)
 else Q false w4
theorem flumeref10_Same.t (p0 : (Int × (Int × ({l : List Value // l.length = 32} × (Sl × Unit))))) (p1 : (Int × (Int × ({l : List Value // l.length = 32} × (Sl × Unit))))) (Q : Bool → World → Prop) (w : World) : flumeref10_Same p0 p1 Q w = fvc Tryd.prog (fun _ => []) Tryd.f22 .B [Kd.av (.pair (.I .i64) (.pair (.I .i64) (.pair (.row 32) (.pair .L .nil)))) p0, Kd.av (.pair (.I .i64) (.pair (.I .i64) (.pair (.row 32) (.pair .L .nil)))) p1] w Q := by kernel_rfl
theorem flumeref10_Same.k : fnOk Tryd.prog Tryd.f22 = true := by kernel_rfl
theorem flumeref10_Same.cl {p0 : (Int × (Int × ({l : List Value // l.length = 32} × (Sl × Unit))))} {p1 : (Int × (Int × ({l : List Value // l.length = 32} × (Sl × Unit))))} {Q : Bool → World → Prop} {w : World} (h : flumeref10_Same p0 p1 Q w) : cl Tryd.prog n_flumeref10_Same #[.agg ((([.int .i64 p0.1, .int .i64 p0.2.1] : List Value) ++ (p0.2.2.1.1 ++ ([.slice p0.2.2.2.1.a p0.2.2.2.1.n p0.2.2.2.1.c] : List Value)))).toArray, .agg ((([.int .i64 p1.1, .int .i64 p1.2.1] : List Value) ++ (p1.2.2.1.1 ++ ([.slice p1.2.2.2.1.a p1.2.2.2.1.n p1.2.2.2.1.c] : List Value)))).toArray] .B w Q :=
  cl_tie Tryd.func22 flumeref10_Same.k (args := [Kd.av (.pair (.I .i64) (.pair (.I .i64) (.pair (.row 32) (.pair .L .nil)))) p0, Kd.av (.pair (.I .i64) (.pair (.I .i64) (.pair (.row 32) (.pair .L .nil)))) p1]) (flumeref10_Same.t p0 p1 Q w) h

/-- bytes.Equal -/
def bytes_Equal (p0 : Sl) (p1 : Sl) (Q : Bool → World → Prop) (w : World) : Prop :=
 bstr w p0 fun z1 => bstr w p1 fun z2 => Q (beqB ⟨z1.toArray⟩ ⟨z2.toArray⟩) w
theorem bytes_Equal.t (p0 : Sl) (p1 : Sl) (Q : Bool → World → Prop) (w : World) : bytes_Equal p0 p1 Q w = fvc Tryd.prog (fun _ => []) Tryd.f23 .B [Kd.av .L p0, Kd.av .L p1] w Q := by kernel_rfl
theorem bytes_Equal.k : fnOk Tryd.prog Tryd.f23 = true := by kernel_rfl
theorem bytes_Equal.cl {p0 : Sl} {p1 : Sl} {Q : Bool → World → Prop} {w : World} (h : bytes_Equal p0 p1 Q w) : cl Tryd.prog n_bytes_Equal #[.slice p0.a p0.n p0.c, .slice p1.a p1.n p1.c] .B w Q :=
  cl_tie Tryd.func23 bytes_Equal.k (args := [Kd.av .L p0, Kd.av .L p1]) (bytes_Equal.t p0 p1 Q w) h

/-- flume/flumeref10.Open -/
def an_flumeref10_Open : Nat → LA
  | 1000011 => [(0, .nil)] | _ => []
def flumeref10_Open (p0 : (Int × (Int × ({l : List Value // l.length = 32} × (Sl × Unit))))) (Q : (Sl × (Int × Unit)) → World → Prop) (w : World) : Prop :=
 nw w ((([.int .i64 p0.1, .int .i64 p0.2.1] : List Value) ++ (p0.2.2.1.1 ++ ([.slice p0.2.2.2.1.a p0.2.2.2.1.n p0.2.2.2.1.c] : List Value)))) t_api_Record fun a1 w2 => ld (.pair (.I .i64) (.pair (.I .i64) (.pair (.row 32) (.pair .L .nil)))) w2 a1 fun (x3 : (Int × (Int × ({l : List Value // l.length = 32} × (Sl × Unit))))) => cl Tryd.prog n_flumeref10_Check #[.agg ((([.int .i64 x3.1, .int .i64 x3.2.1] : List Value) ++ (x3.2.2.1.1 ++ ([.slice x3.2.2.2.1.a x3.2.2.2.1.n x3.2.2.2.1.c] : List Value)))).toArray] (.I .i64) w2 fun (x4 : Int) w5 => bif (x4 != 0) then
 (Q (⟨none, 0, 0⟩, (100, ())) w5)
 else ld (.I .i64) w5 a1 fun (x6 : Int) => bif (x6 == 1) then
 (Q (⟨none, 0, 0⟩, (110, ())) w5)
 else nw w5 [] t_uint8 fun a7 w8 => ld .L w8 (a1.add 34) fun (x9 : Sl) => app Tryd.prog t_s_uint8 t_s_uint8 ⟨(some a7), 0, 0⟩ x9 w8 fun r10 w11 => let j1 := (fun (y23 : Sl) (w24 : World) =>
   dr w24 fun w25 => ld (.row 32) w25 (a1.add 2) fun (x26 : {l : List Value // l.length = 32}) => cl Tryd.prog n_flumeref08_Quick #[.slice y23.a y23.n y23.c] (.row 32) w25 fun (x27 : {l : List Value // l.length = 32}) w28 => Fr w25 w28 ∧ qn Tryd.prog (do eqGuard .neq t_api_Sum (.const .nilIface) (.const .nilIface) (.agg (x27.1).toArray) (.agg (x26.1).toArray); binOp .neq t_api_Sum (.agg (x27.1).toArray) (.agg (x26.1).toArray)) .B w28 fun (x29 : Bool) => bif x29 then
 (Q (⟨none, 0, 0⟩, (111, ())) w28)
 else Q (y23, (0, ())) w28);
 ld (.I .i64) w11 a1 fun (x12 : Int) => bif (x12 == 3) then
 (ld .L w11 (a1.add 34) fun (x13 : Sl) => ld (.I .i64) w11 (a1.add 1) fun (x14 : Int) => cl Tryd.prog n_flumeref07_Restore #[.slice x13.a x13.n x13.c, .int .i64 x14] (.tup (.pair .L (.pair (.I .i64) .nil))) w11 fun (x15 : (Sl × (Int × Unit))) w16 => bif (x15.2.1 != 0) then
  (Q (⟨none, 0, 0⟩, (100, ())) w16)
  else ld (.I .i64) w16 (a1.add 1) fun (x17 : Int) => bif (decide ((x15.1.n : Int) < x17)) then
  (Q (⟨none, 0, 0⟩, (100, ())) w16)
  else j1 x15.1 w16)
 else j1 r10 w11
theorem flumeref10_Open.t (p0 : (Int × (Int × ({l : List Value // l.length = 32} × (Sl × Unit))))) (Q : (Sl × (Int × Unit)) → World → Prop) (w : World) : flumeref10_Open p0 Q w = fvc Tryd.prog an_flumeref10_Open Tryd.f24 (.tup (.pair .L (.pair (.I .i64) .nil))) [Kd.av (.pair (.I .i64) (.pair (.I .i64) (.pair (.row 32) (.pair .L .nil)))) p0] w Q := by kernel_rfl
theorem flumeref10_Open.k : fnOk Tryd.prog Tryd.f24 = true := by kernel_rfl
theorem flumeref10_Open.cl {p0 : (Int × (Int × ({l : List Value // l.length = 32} × (Sl × Unit))))} {Q : (Sl × (Int × Unit)) → World → Prop} {w : World} (h : flumeref10_Open p0 Q w) : cl Tryd.prog n_flumeref10_Open #[.agg ((([.int .i64 p0.1, .int .i64 p0.2.1] : List Value) ++ (p0.2.2.1.1 ++ ([.slice p0.2.2.2.1.a p0.2.2.2.1.n p0.2.2.2.1.c] : List Value)))).toArray] (.tup (.pair .L (.pair (.I .i64) .nil))) w Q :=
  cl_tie Tryd.func24 flumeref10_Open.k (args := [Kd.av (.pair (.I .i64) (.pair (.I .i64) (.pair (.row 32) (.pair .L .nil)))) p0]) (flumeref10_Open.t p0 Q w) h

/-- flume/record.Put -/
def an_record_Put : Nat → LA
  | 6 => [(5, .L), (18, (.I .i64))] | _ => []
def record_Put (p0 : (Int × (Int × (Int × (Int × (Int × ((Int × (Int × ({l : List Value // l.length = 32} × (Sl × Unit)))) × Unit))))))) (Q : (Sl × (Int × Unit)) → World → Prop) (w : World) : Prop :=
 nw w ((([.int .i64 p0.1, .int .i64 p0.2.1, .int .i64 p0.2.2.1, .int .i64 p0.2.2.2.1, .int .i64 p0.2.2.2.2.1] : List Value) ++ ((([.int .i64 p0.2.2.2.2.2.1.1, .int .i64 p0.2.2.2.2.2.1.2.1] : List Value) ++ (p0.2.2.2.2.2.1.2.2.1.1 ++ ([.slice p0.2.2.2.2.2.1.2.2.2.1.a p0.2.2.2.2.2.1.2.2.2.1.n p0.2.2.2.2.2.1.2.2.2.1.c] : List Value))) ++ ([] : List Value)))) t_api_Note fun a1 w2 => ld (.pair (.I .i64) (.pair (.I .i64) (.pair (.I .i64) (.pair (.I .i64) (.pair (.I .i64) (.pair (.pair (.I .i64) (.pair (.I .i64) (.pair (.row 32) (.pair .L .nil)))) .nil)))))) w2 a1 fun (x3 : (Int × (Int × (Int × (Int × (Int × ((Int × (Int × ({l : List Value // l.length = 32} × (Sl × Unit)))) × Unit))))))) => cl Tryd.prog n_record_Fits #[.agg ((([.int .i64 x3.1, .int .i64 x3.2.1, .int .i64 x3.2.2.1, .int .i64 x3.2.2.2.1, .int .i64 x3.2.2.2.2.1] : List Value) ++ ((([.int .i64 x3.2.2.2.2.2.1.1, .int .i64 x3.2.2.2.2.2.1.2.1] : List Value) ++ (x3.2.2.2.2.2.1.2.2.1.1 ++ ([.slice x3.2.2.2.2.2.1.2.2.2.1.a x3.2.2.2.2.2.1.2.2.2.1.n x3.2.2.2.2.2.1.2.2.2.1.c] : List Value))) ++ ([] : List Value)))).toArray] (.I .i64) w2 fun (x4 : Int) w5 => bif (x4 != 0) then
 (Q (⟨none, 0, 0⟩, (x4, ())) w5)
 else ld (.I .i64) w5 a1 fun (x6 : Int) => cl Tryd.prog n_octet_Number #[.slice none 0 0, .int .i64 x6] .L w5 fun (x7 : Sl) w8 => cl Tryd.prog n_record_fields #[.pointer (some a1)] .L w8 fun (x9 : Sl) w10 => lp (α := (Sl × (Int × Unit))) (fun K => K (x7, (0, ()))) w10 fun D13 J14 s11 w12 =>
 bif (decide (s11.2.1 < (x9.n : Int))) then
  (ixa x9.a x9.n s11.2.1 1 fun a15 => ld .P w12 a15 fun (x16 : Option Addr) => nz x16 fun a17 => ld (.I .i64) w12 a17 fun (x18 : Int) => cl Tryd.prog n_octet_Number #[.slice s11.1.a s11.1.n s11.1.c, .int .i64 x18] .L w12 fun (x19 : Sl) w20 => J14 (x19, ((IntKind.i64.wrap (s11.2.1 + 1)), ())) w20)
  else ld (.I .i64) w12 a1 fun (x21 : Int) => bif (x21 == 2) then
 (ld (.pair (.I .i64) (.pair (.I .i64) (.pair (.row 32) (.pair .L .nil)))) w12 (a1.add 5) fun (x22 : (Int × (Int × ({l : List Value // l.length = 32} × (Sl × Unit))))) => cl Tryd.prog n_record_put #[.slice s11.1.a s11.1.n s11.1.c, .agg ((([.int .i64 x22.1, .int .i64 x22.2.1] : List Value) ++ (x22.2.2.1.1 ++ ([.slice x22.2.2.2.1.a x22.2.2.2.1.n x22.2.2.2.1.c] : List Value)))).toArray] .L w12 fun (x23 : Sl) w24 => Q (x23, (0, ())) w24)
 else Q (s11.1, (0, ())) w12
theorem record_Put.t (p0 : (Int × (Int × (Int × (Int × (Int × ((Int × (Int × ({l : List Value // l.length = 32} × (Sl × Unit)))) × Unit))))))) (Q : (Sl × (Int × Unit)) → World → Prop) (w : World) : record_Put p0 Q w = fvc Tryd.prog an_record_Put Tryd.f25 (.tup (.pair .L (.pair (.I .i64) .nil))) [Kd.av (.pair (.I .i64) (.pair (.I .i64) (.pair (.I .i64) (.pair (.I .i64) (.pair (.I .i64) (.pair (.pair (.I .i64) (.pair (.I .i64) (.pair (.row 32) (.pair .L .nil)))) .nil)))))) p0] w Q := by kernel_rfl
theorem record_Put.k : fnOk Tryd.prog Tryd.f25 = true := by kernel_rfl
theorem record_Put.cl {p0 : (Int × (Int × (Int × (Int × (Int × ((Int × (Int × ({l : List Value // l.length = 32} × (Sl × Unit)))) × Unit))))))} {Q : (Sl × (Int × Unit)) → World → Prop} {w : World} (h : record_Put p0 Q w) : cl Tryd.prog n_record_Put #[.agg ((([.int .i64 p0.1, .int .i64 p0.2.1, .int .i64 p0.2.2.1, .int .i64 p0.2.2.2.1, .int .i64 p0.2.2.2.2.1] : List Value) ++ ((([.int .i64 p0.2.2.2.2.2.1.1, .int .i64 p0.2.2.2.2.2.1.2.1] : List Value) ++ (p0.2.2.2.2.2.1.2.2.1.1 ++ ([.slice p0.2.2.2.2.2.1.2.2.2.1.a p0.2.2.2.2.2.1.2.2.2.1.n p0.2.2.2.2.2.1.2.2.2.1.c] : List Value))) ++ ([] : List Value)))).toArray] (.tup (.pair .L (.pair (.I .i64) .nil))) w Q :=
  cl_tie Tryd.func25 record_Put.k (args := [Kd.av (.pair (.I .i64) (.pair (.I .i64) (.pair (.I .i64) (.pair (.I .i64) (.pair (.I .i64) (.pair (.pair (.I .i64) (.pair (.I .i64) (.pair (.row 32) (.pair .L .nil)))) .nil)))))) p0]) (record_Put.t p0 Q w) h
end Go.Proofs.YtkojpppnjloikaaDoor
