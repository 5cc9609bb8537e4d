/- Contracts and plain laws that the claims of this seat lean on, put together. -/
import Derived.Test.YtkojpppnjloikaaDoorM0
import Derived.ArgAppend
set_option linter.unusedVariables false
set_option maxHeartbeats 4000000
namespace Go.Proofs.YtkojpppnjloikaaDoor
open Go.Fl
/-- flume/record.Make -/
def record_Make (p0 : Sl) (p1 : Bool) (Q : ((Int × (Int × ({l : List Value // l.length = 32} × (Sl × Unit)))) × (Int × Unit)) → World → Prop) (w : World) : Prop :=
 nw w (([.int .i64 0, .int .i64 0] : List Value) ++ ((zrow 32 (.int .u8 0)).1 ++ ([.slice none 0 0] : List Value))) t_api_Record fun a1 w2 => nw w2 [.slice p0.a p0.n p0.c] t_s_uint8 fun a3 w4 => cl Tryd.prog n_digest_Of #[.slice (some a3) 1 1] (.row 32) w4 fun (x5 : {l : List Value // l.length = 32}) w6 => nw w6 (([.int .i64 0, .int .i64 0] : List Value) ++ ((zrow 32 (.int .u8 0)).1 ++ ([.slice none 0 0] : List Value))) t_api_Record fun a7 w8 => st1 w8 a7 (.int .i64 1) fun w9 => st1 w9 (a7.add 1) (.int .i64 (p0.n : Int)) fun w10 => stL ((a7.add 1).add 1) w10 0 x5.1 fun w11 => st1 w11 (((a7.add 1).add 1).add 32) (.slice none 0 0) fun w12 => let j1 := (fun (y18 : Bool) (w19 : World) =>
   bif y18 then
 (st1 w19 a1 (.int .i64 0) fun w20 => st1 w20 (a1.add 1) (.int .i64 0) fun w21 => stL ((a1.add 1).add 1) w21 0 (zrow 32 (.int .u8 0)).1 fun w22 => st1 w22 (((a1.add 1).add 1).add 32) (.slice none 0 0) fun w23 => ld (.pair (.I .i64) (.pair (.I .i64) (.pair (.row 32) (.pair .L .nil)))) w23 a1 fun (r24 : (Int × (Int × ({l : List Value // l.length = 32} × (Sl × Unit))))) => Q ((r24.1, (r24.2.1, (r24.2.2.1, (r24.2.2.2.1, ())))), (100, ())) w23)
 else bif p1 then
 (ld (.pair (.I .i64) (.pair (.I .i64) (.pair (.row 32) (.pair .L .nil)))) w19 a7 fun (x25 : (Int × (Int × ({l : List Value // l.length = 32} × (Sl × Unit))))) => st1 w19 a1 (.int .i64 x25.1) fun w26 => st1 w26 (a1.add 1) (.int .i64 x25.2.1) fun w27 => stL ((a1.add 1).add 1) w27 0 x25.2.2.1.1 fun w28 => st1 w28 (((a1.add 1).add 1).add 32) (.slice x25.2.2.2.1.a x25.2.2.2.1.n x25.2.2.2.1.c) fun w29 => ld (.pair (.I .i64) (.pair (.I .i64) (.pair (.row 32) (.pair .L .nil)))) w29 a1 fun (r30 : (Int × (Int × ({l : List Value // l.length = 32} × (Sl × Unit))))) => Q ((r30.1, (r30.2.1, (r30.2.2.1, (r30.2.2.2.1, ())))), (0, ())) w29)
 else cl Tryd.prog n_slices_Clone_byte_byte #[.slice p0.a p0.n p0.c] .L w19 fun (x31 : Sl) w32 => st1 w32 a7 (.int .i64 2) fun w33 => st1 w33 (a7.add 34) (.slice x31.a x31.n x31.c) fun w34 => let j2 := (fun  (w45 : World) =>
   ld (.pair (.I .i64) (.pair (.I .i64) (.pair (.row 32) (.pair .L .nil)))) w45 a7 fun (x46 : (Int × (Int × ({l : List Value // l.length = 32} × (Sl × Unit))))) => st1 w45 a1 (.int .i64 x46.1) fun w47 => st1 w47 (a1.add 1) (.int .i64 x46.2.1) fun w48 => stL ((a1.add 1).add 1) w48 0 x46.2.2.1.1 fun w49 => st1 w49 (((a1.add 1).add 1).add 32) (.slice x46.2.2.2.1.a x46.2.2.2.1.n x46.2.2.2.1.c) fun w50 => ld (.pair (.I .i64) (.pair (.I .i64) (.pair (.row 32) (.pair .L .nil)))) w50 a1 fun (r51 : (Int × (Int × ({l : List Value // l.length = 32} × (Sl × Unit))))) => Q ((r51.1, (r51.2.1, (r51.2.2.1, (r51.2.2.2.1, ())))), (0, ())) w50);
 cl Tryd.prog n_lz_Shorten #[.slice p0.a p0.n p0.c] .L w34 fun (x35 : Sl) w36 => bif (decide ((x35.n : Int) < (p0.n : Int))) then
 (st1 w36 a7 (.int .i64 3) fun w37 => st1 w37 (a7.add 34) (.slice x35.a x35.n x35.c) fun w38 => j2 w38)
 else j2 w36);
 bif (decide ((p0.n : Int) < 1)) then
 (j1 true w12)
 else j1 (decide ((p0.n : Int) > 256)) w12
theorem record_Make.t (p0 : Sl) (p1 : Bool) (Q : ((Int × (Int × ({l : List Value // l.length = 32} × (Sl × Unit)))) × (Int × Unit)) → World → Prop) (w : World) : record_Make p0 p1 Q w = fvc Tryd.prog (fun _ => []) Tryd.f20 (.tup (.pair (.pair (.I .i64) (.pair (.I .i64) (.pair (.row 32) (.pair .L .nil)))) (.pair (.I .i64) .nil))) [Kd.av .L p0, Kd.av .B p1] w Q := by kernel_rfl
theorem record_Make.k : fnOk Tryd.prog Tryd.f20 = true := by kernel_rfl
theorem record_Make.cl {p0 : Sl} {p1 : Bool} {Q : ((Int × (Int × ({l : List Value // l.length = 32} × (Sl × Unit)))) × (Int × Unit)) → World → Prop} {w : World} (h : record_Make p0 p1 Q w) : cl Tryd.prog n_record_Make #[.slice p0.a p0.n p0.c, .bool p1] (.tup (.pair (.pair (.I .i64) (.pair (.I .i64) (.pair (.row 32) (.pair .L .nil)))) (.pair (.I .i64) .nil))) w Q :=
  cl_tie Tryd.func20 record_Make.k (args := [Kd.av .L p0, Kd.av .B p1]) (record_Make.t p0 p1 Q w) h

/-- flume/flumeref10.Make -/
def flumeref10_Make (p0 : Sl) (p1 : Bool) (Q : ((Int × (Int × ({l : List Value // l.length = 32} × (Sl × Unit)))) × (Int × Unit)) → World → Prop) (w : World) : Prop :=
 nw w (([.int .i64 0, .int .i64 0] : List Value) ++ ((zrow 32 (.int .u8 0)).1 ++ ([.slice none 0 0] : List Value))) t_api_Record fun a1 w2 => nw w2 (([.int .i64 0, .int .i64 0] : List Value) ++ ((zrow 32 (.int .u8 0)).1 ++ ([.slice none 0 0] : List Value))) t_api_Record fun a3 w4 => st1 w4 a3 (.int .i64 0) fun w5 => st1 w5 (a3.add 1) (.int .i64 0) fun w6 => stL ((a3.add 1).add 1) w6 0 (zrow 32 (.int .u8 0)).1 fun w7 => st1 w7 (((a3.add 1).add 1).add 32) (.slice none 0 0) fun w8 => let j1 := (fun (y15 : Bool) (w16 : World) =>
   bif y15 then
 (ld (.pair (.I .i64) (.pair (.I .i64) (.pair (.row 32) (.pair .L .nil)))) w16 a3 fun (x17 : (Int × (Int × ({l : List Value // l.length = 32} × (Sl × Unit))))) => st1 w16 a1 (.int .i64 x17.1) fun w18 => st1 w18 (a1.add 1) (.int .i64 x17.2.1) fun w19 => stL ((a1.add 1).add 1) w19 0 x17.2.2.1.1 fun w20 => st1 w20 (((a1.add 1).add 1).add 32) (.slice x17.2.2.2.1.a x17.2.2.2.1.n x17.2.2.2.1.c) fun w21 => ld (.pair (.I .i64) (.pair (.I .i64) (.pair (.row 32) (.pair .L .nil)))) w21 a1 fun (r22 : (Int × (Int × ({l : List Value // l.length = 32} × (Sl × Unit))))) => Q ((r22.1, (r22.2.1, (r22.2.2.1, (r22.2.2.2.1, ())))), (100, ())) w21)
 else st1 w16 (a3.add 1) (.int .i64 (p0.n : Int)) fun w23 => cl Tryd.prog n_flumeref08_Quick #[.slice p0.a p0.n p0.c] (.row 32) w23 fun (x24 : {l : List Value // l.length = 32}) w25 => stL (a3.add 2) w25 0 x24.1 fun w26 => cl Tryd.prog n_flumeref07_Shorten #[.slice p0.a p0.n p0.c] .L w26 fun (x27 : Sl) w28 => let j2 := (fun  (w44 : World) =>
   ld (.pair (.I .i64) (.pair (.I .i64) (.pair (.row 32) (.pair .L .nil)))) w44 a3 fun (x45 : (Int × (Int × ({l : List Value // l.length = 32} × (Sl × Unit))))) => st1 w44 a1 (.int .i64 x45.1) fun w46 => st1 w46 (a1.add 1) (.int .i64 x45.2.1) fun w47 => stL ((a1.add 1).add 1) w47 0 x45.2.2.1.1 fun w48 => st1 w48 (((a1.add 1).add 1).add 32) (.slice x45.2.2.2.1.a x45.2.2.2.1.n x45.2.2.2.1.c) fun w49 => ld (.pair (.I .i64) (.pair (.I .i64) (.pair (.row 32) (.pair .L .nil)))) w49 a1 fun (r50 : (Int × (Int × ({l : List Value // l.length = 32} × (Sl × Unit))))) => Q ((r50.1, (r50.2.1, (r50.2.2.1, (r50.2.2.2.1, ())))), (0, ())) w49);
 bif p1 then
 (st1 w28 a3 (.int .i64 1) fun w29 => j2 w29)
 else bif (decide ((x27.n : Int) < (p0.n : Int))) then
 (st1 w28 a3 (.int .i64 3) fun w30 => st1 w30 (a3.add 34) (.slice x27.a x27.n x27.c) fun w31 => j2 w31)
 else st1 w28 a3 (.int .i64 2) fun w32 => nw w32 [] t_uint8 fun a33 w34 => app Tryd.prog t_s_uint8 t_s_uint8 ⟨(some a33), 0, 0⟩ p0 w34 fun r35 w36 => st1 w36 (a3.add 34) (.slice r35.a r35.n r35.c) fun w37 => j2 w37);
 bif ((p0.n : Int) == 0) then
 (j1 true w8)
 else j1 (decide ((p0.n : Int) > 256)) w8
theorem flumeref10_Make.t (p0 : Sl) (p1 : Bool) (Q : ((Int × (Int × ({l : List Value // l.length = 32} × (Sl × Unit)))) × (Int × Unit)) → World → Prop) (w : World) : flumeref10_Make p0 p1 Q w = fvc Tryd.prog (fun _ => []) Tryd.f21 (.tup (.pair (.pair (.I .i64) (.pair (.I .i64) (.pair (.row 32) (.pair .L .nil)))) (.pair (.I .i64) .nil))) [Kd.av .L p0, Kd.av .B p1] w Q := by kernel_rfl
theorem flumeref10_Make.k : fnOk Tryd.prog Tryd.f21 = true := by kernel_rfl
theorem flumeref10_Make.cl {p0 : Sl} {p1 : Bool} {Q : ((Int × (Int × ({l : List Value // l.length = 32} × (Sl × Unit)))) × (Int × Unit)) → World → Prop} {w : World} (h : flumeref10_Make p0 p1 Q w) : cl Tryd.prog n_flumeref10_Make #[.slice p0.a p0.n p0.c, .bool p1] (.tup (.pair (.pair (.I .i64) (.pair (.I .i64) (.pair (.row 32) (.pair .L .nil)))) (.pair (.I .i64) .nil))) w Q :=
  cl_tie Tryd.func21 flumeref10_Make.k (args := [Kd.av .L p0, Kd.av .B p1]) (flumeref10_Make.t p0 p1 Q w) h

/-- flume/flumeref10.Same -/
def flumeref10_Same (p0 : (Int × (Int × ({l : List Value // l.length = 32} × (Sl × Unit))))) (p1 : (Int × (Int × ({l : List Value // l.length = 32} × (Sl × Unit))))) (Q : Bool → World → Prop) (w : World) : Prop :=
 nw w ((([.int .i64 p0.1, .int .i64 p0.2.1] : List Value) ++ (p0.2.2.1.1 ++ ([.slice p0.2.2.2.1.a p0.2.2.2.1.n p0.2.2.2.1.c] : List Value)))) t_api_Record fun a1 w2 => nw w2 ((([.int .i64 p1.1, .int .i64 p1.2.1] : List Value) ++ (p1.2.2.1.1 ++ ([.slice p1.2.2.2.1.a p1.2.2.2.1.n p1.2.2.2.1.c] : List Value)))) t_api_Record fun a3 w4 => ld (.I .i64) w4 a1 fun (x5 : Int) => ld (.I .i64) w4 a3 fun (x6 : Int) => bif (x5 == x6) then
 (ld (.I .i64) w4 (a1.add 1) fun (x7 : Int) => ld (.I .i64) w4 (a3.add 1) fun (x8 : Int) => bif (x7 == x8) then
 (ld (.row 32) w4 (a1.add 2) fun (x9 : {l : List Value // l.length = 32}) => ld (.row 32) w4 (a3.add 2) fun (x10 : {l : List Value // l.length = 32}) => qn Tryd.prog (do eqGuard .eql t_api_Sum (.const .nilIface) (.const .nilIface) (.agg (x9.1).toArray) (.agg (x10.1).toArray); binOp .eql t_api_Sum (.agg (x9.1).toArray) (.agg (x10.1).toArray)) .B w4 fun (x11 : Bool) => bif x11 then
 (ld .L w4 (a1.add 34) fun (x12 : Sl) => bstr w4 x12 fun z13 => ld .L w4 (a3.add 34) fun (x14 : Sl) => bstr w4 x14 fun z15 => Q (beqB ⟨z13.toArray⟩ ⟨z15.toArray⟩) w4)
 else Q false w4)
 else Q false w4)
 else Q false w4
theorem flumeref10_Same.t (p0 : (Int × (Int × ({l : List Value // l.length = 32} × (Sl × Unit))))) (p1 : (Int × (Int × ({l : List Value // l.length = 32} × (Sl × Unit))))) (Q : Bool → World → Prop) (w : World) : flumeref10_Same p0 p1 Q w = fvc Tryd.prog (fun _ => []) Tryd.f22 .B [Kd.av (.pair (.I .i64) (.pair (.I .i64) (.pair (.row 32) (.pair .L .nil)))) p0, Kd.av (.pair (.I .i64) (.pair (.I .i64) (.pair (.row 32) (.pair .L .nil)))) p1] w Q := by kernel_rfl
theorem flumeref10_Same.k : fnOk Tryd.prog Tryd.f22 = true := by kernel_rfl
theorem flumeref10_Same.cl {p0 : (Int × (Int × ({l : List Value // l.length = 32} × (Sl × Unit))))} {p1 : (Int × (Int × ({l : List Value // l.length = 32} × (Sl × Unit))))} {Q : Bool → World → Prop} {w : World} (h : flumeref10_Same p0 p1 Q w) : cl Tryd.prog n_flumeref10_Same #[.agg ((([.int .i64 p0.1, .int .i64 p0.2.1] : List Value) ++ (p0.2.2.1.1 ++ ([.slice p0.2.2.2.1.a p0.2.2.2.1.n p0.2.2.2.1.c] : List Value)))).toArray, .agg ((([.int .i64 p1.1, .int .i64 p1.2.1] : List Value) ++ (p1.2.2.1.1 ++ ([.slice p1.2.2.2.1.a p1.2.2.2.1.n p1.2.2.2.1.c] : List Value)))).toArray] .B w Q :=
  cl_tie Tryd.func22 flumeref10_Same.k (args := [Kd.av (.pair (.I .i64) (.pair (.I .i64) (.pair (.row 32) (.pair .L .nil)))) p0, Kd.av (.pair (.I .i64) (.pair (.I .i64) (.pair (.row 32) (.pair .L .nil)))) p1]) (flumeref10_Same.t p0 p1 Q w) h

/-- bytes.Equal -/
def bytes_Equal (p0 : Sl) (p1 : Sl) (Q : Bool → World → Prop) (w : World) : Prop :=
 bstr w p0 fun z1 => bstr w p1 fun z2 => Q (beqB ⟨z1.toArray⟩ ⟨z2.toArray⟩) w
theorem bytes_Equal.t (p0 : Sl) (p1 : Sl) (Q : Bool → World → Prop) (w : World) : bytes_Equal p0 p1 Q w = fvc Tryd.prog (fun _ => []) Tryd.f23 .B [Kd.av .L p0, Kd.av .L p1] w Q := by kernel_rfl
theorem bytes_Equal.k : fnOk Tryd.prog Tryd.f23 = true := by kernel_rfl
theorem bytes_Equal.cl {p0 : Sl} {p1 : Sl} {Q : Bool → World → Prop} {w : World} (h : bytes_Equal p0 p1 Q w) : cl Tryd.prog n_bytes_Equal #[.slice p0.a p0.n p0.c, .slice p1.a p1.n p1.c] .B w Q :=
  cl_tie Tryd.func23 bytes_Equal.k (args := [Kd.av .L p0, Kd.av .L p1]) (bytes_Equal.t p0 p1 Q w) h

/-- flume/flumeref10.Open -/
def an_flumeref10_Open : Nat → LA
  | 1000011 => [(0, .nil)] | _ => []
def flumeref10_Open (p0 : (Int × (Int × ({l : List Value // l.length = 32} × (Sl × Unit))))) (Q : (Sl × (Int × Unit)) → World → Prop) (w : World) : Prop :=
 nw w ((([.int .i64 p0.1, .int .i64 p0.2.1] : List Value) ++ (p0.2.2.1.1 ++ ([.slice p0.2.2.2.1.a p0.2.2.2.1.n p0.2.2.2.1.c] : List Value)))) t_api_Record fun a1 w2 => ld (.pair (.I .i64) (.pair (.I .i64) (.pair (.row 32) (.pair .L .nil)))) w2 a1 fun (x3 : (Int × (Int × ({l : List Value // l.length = 32} × (Sl × Unit))))) => cl Tryd.prog n_flumeref10_Check #[.agg ((([.int .i64 x3.1, .int .i64 x3.2.1] : List Value) ++ (x3.2.2.1.1 ++ ([.slice x3.2.2.2.1.a x3.2.2.2.1.n x3.2.2.2.1.c] : List Value)))).toArray] (.I .i64) w2 fun (x4 : Int) w5 => bif (x4 != 0) then
 (Q (⟨none, 0, 0⟩, (100, ())) w5)
 else ld (.I .i64) w5 a1 fun (x6 : Int) => bif (x6 == 1) then
 (Q (⟨none, 0, 0⟩, (110, ())) w5)
 else nw w5 [] t_uint8 fun a7 w8 => ld .L w8 (a1.add 34) fun (x9 : Sl) => app Tryd.prog t_s_uint8 t_s_uint8 ⟨(some a7), 0, 0⟩ x9 w8 fun r10 w11 => let j1 := (fun (y23 : Sl) (w24 : World) =>
   dr w24 fun w25 => ld (.row 32) w25 (a1.add 2) fun (x26 : {l : List Value // l.length = 32}) => cl Tryd.prog n_flumeref08_Quick #[.slice y23.a y23.n y23.c] (.row 32) w25 fun (x27 : {l : List Value // l.length = 32}) w28 => Fr w25 w28 ∧ qn Tryd.prog (do eqGuard .neq t_api_Sum (.const .nilIface) (.const .nilIface) (.agg (x27.1).toArray) (.agg (x26.1).toArray); binOp .neq t_api_Sum (.agg (x27.1).toArray) (.agg (x26.1).toArray)) .B w28 fun (x29 : Bool) => bif x29 then
 (Q (⟨none, 0, 0⟩, (111, ())) w28)
 else Q (y23, (0, ())) w28);
 ld (.I .i64) w11 a1 fun (x12 : Int) => bif (x12 == 3) then
 (ld .L w11 (a1.add 34) fun (x13 : Sl) => ld (.I .i64) w11 (a1.add 1) fun (x14 : Int) => cl Tryd.prog n_flumeref07_Restore #[.slice x13.a x13.n x13.c, .int .i64 x14] (.tup (.pair .L (.pair (.I .i64) .nil))) w11 fun (x15 : (Sl × (Int × Unit))) w16 => bif (x15.2.1 != 0) then
  (Q (⟨none, 0, 0⟩, (100, ())) w16)
  else ld (.I .i64) w16 (a1.add 1) fun (x17 : Int) => bif (decide ((x15.1.n : Int) < x17)) then
  (Q (⟨none, 0, 0⟩, (100, ())) w16)
  else j1 x15.1 w16)
 else j1 r10 w11
theorem flumeref10_Open.t (p0 : (Int × (Int × ({l : List Value // l.length = 32} × (Sl × Unit))))) (Q : (Sl × (Int × Unit)) → World → Prop) (w : World) : flumeref10_Open p0 Q w = fvc Tryd.prog an_flumeref10_Open Tryd.f24 (.tup (.pair .L (.pair (.I .i64) .nil))) [Kd.av (.pair (.I .i64) (.pair (.I .i64) (.pair (.row 32) (.pair .L .nil)))) p0] w Q := by kernel_rfl
theorem flumeref10_Open.k : fnOk Tryd.prog Tryd.f24 = true := by kernel_rfl
theorem flumeref10_Open.cl {p0 : (Int × (Int × ({l : List Value // l.length = 32} × (Sl × Unit))))} {Q : (Sl × (Int × Unit)) → World → Prop} {w : World} (h : flumeref10_Open p0 Q w) : cl Tryd.prog n_flumeref10_Open #[.agg ((([.int .i64 p0.1, .int .i64 p0.2.1] : List Value) ++ (p0.2.2.1.1 ++ ([.slice p0.2.2.2.1.a p0.2.2.2.1.n p0.2.2.2.1.c] : List Value)))).toArray] (.tup (.pair .L (.pair (.I .i64) .nil))) w Q :=
  cl_tie Tryd.func24 flumeref10_Open.k (args := [Kd.av (.pair (.I .i64) (.pair (.I .i64) (.pair (.row 32) (.pair .L .nil)))) p0]) (flumeref10_Open.t p0 Q w) h

/-- flume/record.Put -/
def an_record_Put : Nat → LA
  | 6 => [(5, .L), (18, (.I .i64))] | _ => []
def record_Put (p0 : (Int × (Int × (Int × (Int × (Int × ((Int × (Int × ({l : List Value // l.length = 32} × (Sl × Unit)))) × Unit))))))) (Q : (Sl × (Int × Unit)) → World → Prop) (w : World) : Prop :=
 nw w ((([.int .i64 p0.1, .int .i64 p0.2.1, .int .i64 p0.2.2.1, .int .i64 p0.2.2.2.1, .int .i64 p0.2.2.2.2.1] : List Value) ++ ((([.int .i64 p0.2.2.2.2.2.1.1, .int .i64 p0.2.2.2.2.2.1.2.1] : List Value) ++ (p0.2.2.2.2.2.1.2.2.1.1 ++ ([.slice p0.2.2.2.2.2.1.2.2.2.1.a p0.2.2.2.2.2.1.2.2.2.1.n p0.2.2.2.2.2.1.2.2.2.1.c] : List Value))) ++ ([] : List Value)))) t_api_Note fun a1 w2 => ld (.pair (.I .i64) (.pair (.I .i64) (.pair (.I .i64) (.pair (.I .i64) (.pair (.I .i64) (.pair (.pair (.I .i64) (.pair (.I .i64) (.pair (.row 32) (.pair .L .nil)))) .nil)))))) w2 a1 fun (x3 : (Int × (Int × (Int × (Int × (Int × ((Int × (Int × ({l : List Value // l.length = 32} × (Sl × Unit)))) × Unit))))))) => cl Tryd.prog n_record_Fits #[.agg ((([.int .i64 x3.1, .int .i64 x3.2.1, .int .i64 x3.2.2.1, .int .i64 x3.2.2.2.1, .int .i64 x3.2.2.2.2.1] : List Value) ++ ((([.int .i64 x3.2.2.2.2.2.1.1, .int .i64 x3.2.2.2.2.2.1.2.1] : List Value) ++ (x3.2.2.2.2.2.1.2.2.1.1 ++ ([.slice x3.2.2.2.2.2.1.2.2.2.1.a x3.2.2.2.2.2.1.2.2.2.1.n x3.2.2.2.2.2.1.2.2.2.1.c] : List Value))) ++ ([] : List Value)))).toArray] (.I .i64) w2 fun (x4 : Int) w5 => bif (x4 != 0) then
 (Q (⟨none, 0, 0⟩, (x4, ())) w5)
 else ld (.I .i64) w5 a1 fun (x6 : Int) => cl Tryd.prog n_octet_Number #[.slice none 0 0, .int .i64 x6] .L w5 fun (x7 : Sl) w8 => cl Tryd.prog n_record_fields #[.pointer (some a1)] .L w8 fun (x9 : Sl) w10 => lp (α := (Sl × (Int × Unit))) (fun K => K (x7, (0, ()))) w10 fun D13 J14 s11 w12 =>
 bif (decide (s11.2.1 < (x9.n : Int))) then
  (ixa x9.a x9.n s11.2.1 1 fun a15 => ld .P w12 a15 fun (x16 : Option Addr) => nz x16 fun a17 => ld (.I .i64) w12 a17 fun (x18 : Int) => cl Tryd.prog n_octet_Number #[.slice s11.1.a s11.1.n s11.1.c, .int .i64 x18] .L w12 fun (x19 : Sl) w20 => J14 (x19, ((IntKind.i64.wrap (s11.2.1 + 1)), ())) w20)
  else ld (.I .i64) w12 a1 fun (x21 : Int) => bif (x21 == 2) then
 (ld (.pair (.I .i64) (.pair (.I .i64) (.pair (.row 32) (.pair .L .nil)))) w12 (a1.add 5) fun (x22 : (Int × (Int × ({l : List Value // l.length = 32} × (Sl × Unit))))) => cl Tryd.prog n_record_put #[.slice s11.1.a s11.1.n s11.1.c, .agg ((([.int .i64 x22.1, .int .i64 x22.2.1] : List Value) ++ (x22.2.2.1.1 ++ ([.slice x22.2.2.2.1.a x22.2.2.2.1.n x22.2.2.2.1.c] : List Value)))).toArray] .L w12 fun (x23 : Sl) w24 => Q (x23, (0, ())) w24)
 else Q (s11.1, (0, ())) w12
theorem record_Put.t (p0 : (Int × (Int × (Int × (Int × (Int × ((Int × (Int × ({l : List Value // l.length = 32} × (Sl × Unit)))) × Unit))))))) (Q : (Sl × (Int × Unit)) → World → Prop) (w : World) : record_Put p0 Q w = fvc Tryd.prog an_record_Put Tryd.f25 (.tup (.pair .L (.pair (.I .i64) .nil))) [Kd.av (.pair (.I .i64) (.pair (.I .i64) (.pair (.I .i64) (.pair (.I .i64) (.pair (.I .i64) (.pair (.pair (.I .i64) (.pair (.I .i64) (.pair (.row 32) (.pair .L .nil)))) .nil)))))) p0] w Q := by kernel_rfl
theorem record_Put.k : fnOk Tryd.prog Tryd.f25 = true := by kernel_rfl
theorem record_Put.cl {p0 : (Int × (Int × (Int × (Int × (Int × ((Int × (Int × ({l : List Value // l.length = 32} × (Sl × Unit)))) × Unit))))))} {Q : (Sl × (Int × Unit)) → World → Prop} {w : World} (h : record_Put p0 Q w) : cl Tryd.prog n_record_Put #[.agg ((([.int .i64 p0.1, .int .i64 p0.2.1, .int .i64 p0.2.2.1, .int .i64 p0.2.2.2.1, .int .i64 p0.2.2.2.2.1] : List Value) ++ ((([.int .i64 p0.2.2.2.2.2.1.1, .int .i64 p0.2.2.2.2.2.1.2.1] : List Value) ++ (p0.2.2.2.2.2.1.2.2.1.1 ++ ([.slice p0.2.2.2.2.2.1.2.2.2.1.a p0.2.2.2.2.2.1.2.2.2.1.n p0.2.2.2.2.2.1.2.2.2.1.c] : List Value))) ++ ([] : List Value)))).toArray] (.tup (.pair .L (.pair (.I .i64) .nil))) w Q :=
  cl_tie Tryd.func25 record_Put.k (args := [Kd.av (.pair (.I .i64) (.pair (.I .i64) (.pair (.I .i64) (.pair (.I .i64) (.pair (.I .i64) (.pair (.pair (.I .i64) (.pair (.I .i64) (.pair (.row 32) (.pair .L .nil)))) .nil)))))) p0]) (record_Put.t p0 Q w) h
end Go.Proofs.YtkojpppnjloikaaDoor
set_option linter.unusedVariables false
set_option maxHeartbeats 4000000
namespace Go.Proofs.YtkojpppnjloikaaDoor
open Go.Fl
/-- flume/flumeref10.Put -/
def an_flumeref10_Put : Nat → LA
  | 5 => [(4, .L), (17, (.I .i64))] | 12 => [(4, .L), (37, (.I .i64))] | 1000010 => [(0, .nil)] | _ => []
def flumeref10_Put (p0 : (Int × (Int × (Int × (Int × (Int × ((Int × (Int × ({l : List Value // l.length = 32} × (Sl × Unit)))) × Unit))))))) (Q : (Sl × (Int × Unit)) → World → Prop) (w : World) : Prop :=
 nw w ((([.int .i64 p0.1, .int .i64 p0.2.1, .int .i64 p0.2.2.1, .int .i64 p0.2.2.2.1, .int .i64 p0.2.2.2.2.1] : List Value) ++ ((([.int .i64 p0.2.2.2.2.2.1.1, .int .i64 p0.2.2.2.2.2.1.2.1] : List Value) ++ (p0.2.2.2.2.2.1.2.2.1.1 ++ ([.slice p0.2.2.2.2.2.1.2.2.2.1.a p0.2.2.2.2.2.1.2.2.2.1.n p0.2.2.2.2.2.1.2.2.2.1.c] : List Value))) ++ ([] : List Value)))) t_api_Note fun a1 w2 => ld (.pair (.I .i64) (.pair (.I .i64) (.pair (.I .i64) (.pair (.I .i64) (.pair (.I .i64) (.pair (.pair (.I .i64) (.pair (.I .i64) (.pair (.row 32) (.pair .L .nil)))) .nil)))))) w2 a1 fun (x3 : (Int × (Int × (Int × (Int × (Int × ((Int × (Int × ({l : List Value // l.length = 32} × (Sl × Unit)))) × Unit))))))) => cl Tryd.prog n_flumeref10_Fits #[.agg ((([.int .i64 x3.1, .int .i64 x3.2.1, .int .i64 x3.2.2.1, .int .i64 x3.2.2.2.1, .int .i64 x3.2.2.2.2.1] : List Value) ++ ((([.int .i64 x3.2.2.2.2.2.1.1, .int .i64 x3.2.2.2.2.2.1.2.1] : List Value) ++ (x3.2.2.2.2.2.1.2.2.1.1 ++ ([.slice x3.2.2.2.2.2.1.2.2.2.1.a x3.2.2.2.2.2.1.2.2.2.1.n x3.2.2.2.2.2.1.2.2.2.1.c] : List Value))) ++ ([] : List Value)))).toArray] (.I .i64) w2 fun (x4 : Int) w5 => bif (x4 != 0) then
 (Q (⟨none, 0, 0⟩, (100, ())) w5)
 else ld (.I .i64) w5 a1 fun (x6 : Int) => cl Tryd.prog n_flumeref02_Number #[.slice none 0 0, .int .i64 x6] .L w5 fun (x7 : Sl) w8 => ld (.pair (.I .i64) (.pair (.I .i64) (.pair (.I .i64) (.pair (.I .i64) (.pair (.I .i64) (.pair (.pair (.I .i64) (.pair (.I .i64) (.pair (.row 32) (.pair .L .nil)))) .nil)))))) w8 a1 fun (x9 : (Int × (Int × (Int × (Int × (Int × ((Int × (Int × ({l : List Value // l.length = 32} × (Sl × Unit)))) × Unit))))))) => cl Tryd.prog n_flumeref10_numbers #[.agg ((([.int .i64 x9.1, .int .i64 x9.2.1, .int .i64 x9.2.2.1, .int .i64 x9.2.2.2.1, .int .i64 x9.2.2.2.2.1] : List Value) ++ ((([.int .i64 x9.2.2.2.2.2.1.1, .int .i64 x9.2.2.2.2.2.1.2.1] : List Value) ++ (x9.2.2.2.2.2.1.2.2.1.1 ++ ([.slice x9.2.2.2.2.2.1.2.2.2.1.a x9.2.2.2.2.2.1.2.2.2.1.n x9.2.2.2.2.2.1.2.2.2.1.c] : List Value))) ++ ([] : List Value)))).toArray] .L w8 fun (x10 : Sl) w11 => lp (α := (Sl × (Int × Unit))) (fun K => K (x7, (0, ()))) w11 fun D14 J15 s12 w13 =>
 bif (decide (s12.2.1 < (x10.n : Int))) then
  (ixa x10.a x10.n s12.2.1 1 fun a16 => ld (.I .i64) w13 a16 fun (x17 : Int) => cl Tryd.prog n_flumeref02_Number #[.slice s12.1.a s12.1.n s12.1.c, .int .i64 x17] .L w13 fun (x18 : Sl) w19 => J15 (x18, ((IntKind.i64.wrap (s12.2.1 + 1)), ())) w19)
  else ld (.I .i64) w13 a1 fun (x20 : Int) => bif (x20 == 2) then
 (dr w13 fun w21 => ld (.I .i64) w21 (a1.add 5) fun (x22 : Int) => ld (.I .i64) w21 ((a1.add 5).add 1) fun (x23 : Int) => cl Tryd.prog n_flumeref02_Number #[.slice s12.1.a s12.1.n s12.1.c, .int .i64 x22] .L w21 fun (x24 : Sl) w25 => Fr w21 w25 ∧ cl Tryd.prog n_flumeref02_Number #[.slice x24.a x24.n x24.c, .int .i64 x23] .L w25 fun (x26 : Sl) w27 => lp (α := (Sl × (Int × Unit))) (fun K => K (x26, (0, ()))) w27 fun D30 J31 s28 w29 =>
  bif (decide (s28.2.1 < 32)) then
   (ixa (some ((a1.add 5).add 2)) 32 s28.2.1 1 fun a32 => ld (.I .u8) w29 a32 fun (x33 : Int) => nw w29 [.int .u8 x33] t_uint8 fun a34 w35 => app Tryd.prog t_s_uint8 t_s_uint8 s28.1 ⟨(some a34), 1, 1⟩ w35 fun r36 w37 => J31 (r36, ((IntKind.i64.wrap (s28.2.1 + 1)), ())) w37)
   else ld .L w29 ((a1.add 5).add 34) fun (x38 : Sl) => cl Tryd.prog n_flumeref02_Text #[.slice s28.1.a s28.1.n s28.1.c, .slice x38.a x38.n x38.c] .L w29 fun (x39 : Sl) w40 => Q (x39, (0, ())) w40)
 else Q (s12.1, (0, ())) w13
theorem flumeref10_Put.t (p0 : (Int × (Int × (Int × (Int × (Int × ((Int × (Int × ({l : List Value // l.length = 32} × (Sl × Unit)))) × Unit))))))) (Q : (Sl × (Int × Unit)) → World → Prop) (w : World) : flumeref10_Put p0 Q w = fvc Tryd.prog an_flumeref10_Put Tryd.f26 (.tup (.pair .L (.pair (.I .i64) .nil))) [Kd.av (.pair (.I .i64) (.pair (.I .i64) (.pair (.I .i64) (.pair (.I .i64) (.pair (.I .i64) (.pair (.pair (.I .i64) (.pair (.I .i64) (.pair (.row 32) (.pair .L .nil)))) .nil)))))) p0] w Q := by kernel_rfl
theorem flumeref10_Put.k : fnOk Tryd.prog Tryd.f26 = true := by kernel_rfl
theorem flumeref10_Put.cl {p0 : (Int × (Int × (Int × (Int × (Int × ((Int × (Int × ({l : List Value // l.length = 32} × (Sl × Unit)))) × Unit))))))} {Q : (Sl × (Int × Unit)) → World → Prop} {w : World} (h : flumeref10_Put p0 Q w) : cl Tryd.prog n_flumeref10_Put #[.agg ((([.int .i64 p0.1, .int .i64 p0.2.1, .int .i64 p0.2.2.1, .int .i64 p0.2.2.2.1, .int .i64 p0.2.2.2.2.1] : List Value) ++ ((([.int .i64 p0.2.2.2.2.2.1.1, .int .i64 p0.2.2.2.2.2.1.2.1] : List Value) ++ (p0.2.2.2.2.2.1.2.2.1.1 ++ ([.slice p0.2.2.2.2.2.1.2.2.2.1.a p0.2.2.2.2.2.1.2.2.2.1.n p0.2.2.2.2.2.1.2.2.2.1.c] : List Value))) ++ ([] : List Value)))).toArray] (.tup (.pair .L (.pair (.I .i64) .nil))) w Q :=
  cl_tie Tryd.func26 flumeref10_Put.k (args := [Kd.av (.pair (.I .i64) (.pair (.I .i64) (.pair (.I .i64) (.pair (.I .i64) (.pair (.I .i64) (.pair (.pair (.I .i64) (.pair (.I .i64) (.pair (.row 32) (.pair .L .nil)))) .nil)))))) p0]) (flumeref10_Put.t p0 Q w) h

/-- flume/lz.Shorten -/
def an_lz_Shorten : Nat → LA
  | 5 => [(4, .L), (5, (.I .i64)), (6, (.I .i64))] | 13 => [(6, (.I .i64)), (49, (.I .i64))] | _ => []
def lz_Shorten (p0 : Sl) (Q : Sl → World → Prop) (w : World) : Prop :=
 rn Tryd.prog (Instr.makeMap t_map_3_uint8_int none) .M w fun (m1 : Option Nat) w2 => mks Tryd.prog t_s_int (p0.n : Int) (p0.n : Int) w2 fun r3 w4 => nw w4 ([.slice p0.a p0.n p0.c, .map m1, .slice r3.a r3.n r3.c]) t_lz_chains fun a5 w6 => lp (α := (Sl × (Int × (Int × Unit)))) (fun K => K (⟨none, 0, 0⟩, (0, (0, ())))) w6 fun D9 J10 s7 w8 =>
 bif (decide (s7.2.2.1 < (p0.n : Int))) then
  (cl Tryd.prog n_lz_chains_best #[.pointer (some a5), .int .i64 s7.2.2.1] (.tup (.pair (.I .i64) (.pair (.I .i64) .nil))) w8 fun (x11 : (Int × (Int × Unit))) w12 => bif (decide (x11.2.1 < 3)) then
  (cl Tryd.prog n_lz_chains_put #[.pointer (some a5), .int .i64 s7.2.2.1] (.tup .nil) w12 fun (x13 : Unit) w14 => J10 (s7.1, (s7.2.1, ((IntKind.i64.wrap (s7.2.2.1 + 1)), ()))) w14)
  else sls p0 s7.2.1 s7.2.2.1 1 fun r15 => cl Tryd.prog n_lz_literals #[.slice s7.1.a s7.1.n s7.1.c, .slice r15.a r15.n r15.c] .L w12 fun (x16 : Sl) w17 => nw w17 [.int .u8 (IntKind.u8.wrap (IntKind.i64.wrap ((IntKind.i64.wrap (128 + x11.2.1)) - 3)))] t_uint8 fun a18 w19 => app Tryd.prog t_s_uint8 t_s_uint8 x16 ⟨(some a18), 1, 1⟩ w19 fun r20 w21 => cl Tryd.prog n_octet_Number #[.slice r20.a r20.n r20.c, .int .i64 x11.1] .L w21 fun (x22 : Sl) w23 => lp (α := (Int × (Int × Unit))) (fun K => K (s7.2.2.1, (0, ()))) w23 fun D26 J27 s24 w25 =>
  bif (decide (s24.2.1 < x11.2.1)) then
   (cl Tryd.prog n_lz_chains_put #[.pointer (some a5), .int .i64 s24.1] (.tup .nil) w25 fun (x28 : Unit) w29 => J27 ((IntKind.i64.wrap (s24.1 + 1)), ((IntKind.i64.wrap (s24.2.1 + 1)), ())) w29)
   else J10 (x22, (s24.1, (s24.1, ()))) w25)
  else sls p0 s7.2.1 p0.n 1 fun r30 => cl Tryd.prog n_lz_literals #[.slice s7.1.a s7.1.n s7.1.c, .slice r30.a r30.n r30.c] .L w8 fun (x31 : Sl) w32 => Q x31 w32
theorem lz_Shorten.t (p0 : Sl) (Q : Sl → World → Prop) (w : World) : lz_Shorten p0 Q w = fvc Tryd.prog an_lz_Shorten Tryd.f27 .L [Kd.av .L p0] w Q := by kernel_rfl
theorem lz_Shorten.k : fnOk Tryd.prog Tryd.f27 = true := by kernel_rfl
theorem lz_Shorten.cl {p0 : Sl} {Q : Sl → World → Prop} {w : World} (h : lz_Shorten p0 Q w) : cl Tryd.prog n_lz_Shorten #[.slice p0.a p0.n p0.c] .L w Q :=
  cl_tie Tryd.func27 lz_Shorten.k (args := [Kd.av .L p0]) (lz_Shorten.t p0 Q w) h

/-- flume/record.Get -/
def an_record_Get : Nat → LA
  | 6 => [(7, (.I .i64)), (23, (.I .i64))] | _ => []
def record_Get (p0 : Sl) (Q : ((Int × (Int × (Int × (Int × (Int × ((Int × (Int × ({l : List Value // l.length = 32} × (Sl × Unit)))) × Unit)))))) × (Int × Unit)) → World → Prop) (w : World) : Prop :=
 nw w (([.int .i64 0, .int .i64 0, .int .i64 0, .int .i64 0, .int .i64 0] : List Value) ++ ((([.int .i64 0, .int .i64 0] : List Value) ++ ((zrow 32 (.int .u8 0)).1 ++ ([.slice none 0 0] : List Value))) ++ ([] : List Value))) t_api_Note fun a1 w2 => cl Tryd.prog n_octet_Read #[.slice p0.a p0.n p0.c] .P w2 fun (x3 : Option Addr) w4 => nw w4 (([.int .i64 0, .int .i64 0, .int .i64 0, .int .i64 0, .int .i64 0] : List Value) ++ ((([.int .i64 0, .int .i64 0] : List Value) ++ ((zrow 32 (.int .u8 0)).1 ++ ([.slice none 0 0] : List Value))) ++ ([] : List Value))) t_api_Note fun a5 w6 => cl Tryd.prog n_octet_Reader_Number #[.pointer x3] (.tup (.pair (.I .i64) (.pair (.I .i64) .nil))) w6 fun (x7 : (Int × (Int × Unit))) w8 => st1 w8 a5 (.int .i64 x7.1) fun w9 => cl Tryd.prog n_record_fields #[.pointer (some a5)] .L w9 fun (x10 : Sl) w11 => lp (α := (Int × (Int × Unit))) (fun K => K (x7.2.1, (0, ()))) w11 fun D14 J15 s12 w13 =>
 bif (decide (s12.2.1 < (x10.n : Int))) then
  (ixa x10.a x10.n s12.2.1 1 fun a16 => ld .P w13 a16 fun (x17 : Option Addr) => cl Tryd.prog n_octet_Reader_Number #[.pointer x3] (.tup (.pair (.I .i64) (.pair (.I .i64) .nil))) w13 fun (x18 : (Int × (Int × Unit))) w19 => bif (x18.2.1 != 0) then
  (nz x17 fun a20 => st1 w19 a20 (.int .i64 x18.1) fun w21 => J15 (x18.2.1, ((IntKind.i64.wrap (s12.2.1 + 1)), ())) w21)
  else nz x17 fun a22 => st1 w19 a22 (.int .i64 x18.1) fun w23 => J15 (s12.1, ((IntKind.i64.wrap (s12.2.1 + 1)), ())) w23)
  else let j3 := (fun (y77 : Int) (w78 : World) =>
   let j4 := (fun (y94 : Bool) (w95 : World) =>
   bif y94 then
 (st1 w95 a1 (.int .i64 0) fun w96 => st1 w96 (a1.add 1) (.int .i64 0) fun w97 => st1 w97 ((a1.add 1).add 1) (.int .i64 0) fun w98 => st1 w98 (((a1.add 1).add 1).add 1) (.int .i64 0) fun w99 => st1 w99 ((((a1.add 1).add 1).add 1).add 1) (.int .i64 0) fun w100 => st1 w100 (((((a1.add 1).add 1).add 1).add 1).add 1) (.int .i64 0) fun w101 => st1 w101 ((((((a1.add 1).add 1).add 1).add 1).add 1).add 1) (.int .i64 0) fun w102 => stL (((((((a1.add 1).add 1).add 1).add 1).add 1).add 1).add 1) w102 0 (zrow 32 (.int .u8 0)).1 fun w103 => st1 w103 ((((((((a1.add 1).add 1).add 1).add 1).add 1).add 1).add 1).add 32) (.slice none 0 0) fun w104 => ld (.pair (.I .i64) (.pair (.I .i64) (.pair (.I .i64) (.pair (.I .i64) (.pair (.I .i64) (.pair (.pair (.I .i64) (.pair (.I .i64) (.pair (.row 32) (.pair .L .nil)))) .nil)))))) w104 a1 fun (r105 : (Int × (Int × (Int × (Int × (Int × ((Int × (Int × ({l : List Value // l.length = 32} × (Sl × Unit)))) × Unit))))))) => Q ((r105.1, (r105.2.1, (r105.2.2.1, (r105.2.2.2.1, (r105.2.2.2.2.1, ((r105.2.2.2.2.2.1.1, (r105.2.2.2.2.2.1.2.1, (r105.2.2.2.2.2.1.2.2.1, (r105.2.2.2.2.2.1.2.2.2.1, ())))), ())))))), (100, ())) w104)
 else ld (.pair (.I .i64) (.pair (.I .i64) (.pair (.I .i64) (.pair (.I .i64) (.pair (.I .i64) (.pair (.pair (.I .i64) (.pair (.I .i64) (.pair (.row 32) (.pair .L .nil)))) .nil)))))) w95 a5 fun (x106 : (Int × (Int × (Int × (Int × (Int × ((Int × (Int × ({l : List Value // l.length = 32} × (Sl × Unit)))) × Unit))))))) => st1 w95 a1 (.int .i64 x106.1) fun w107 => st1 w107 (a1.add 1) (.int .i64 x106.2.1) fun w108 => st1 w108 ((a1.add 1).add 1) (.int .i64 x106.2.2.1) fun w109 => st1 w109 (((a1.add 1).add 1).add 1) (.int .i64 x106.2.2.2.1) fun w110 => st1 w110 ((((a1.add 1).add 1).add 1).add 1) (.int .i64 x106.2.2.2.2.1) fun w111 => st1 w111 (((((a1.add 1).add 1).add 1).add 1).add 1) (.int .i64 x106.2.2.2.2.2.1.1) fun w112 => st1 w112 ((((((a1.add 1).add 1).add 1).add 1).add 1).add 1) (.int .i64 x106.2.2.2.2.2.1.2.1) fun w113 => stL (((((((a1.add 1).add 1).add 1).add 1).add 1).add 1).add 1) w113 0 x106.2.2.2.2.2.1.2.2.1.1 fun w114 => st1 w114 ((((((((a1.add 1).add 1).add 1).add 1).add 1).add 1).add 1).add 32) (.slice x106.2.2.2.2.2.1.2.2.2.1.a x106.2.2.2.2.2.1.2.2.2.1.n x106.2.2.2.2.2.1.2.2.2.1.c) fun w115 => ld (.pair (.I .i64) (.pair (.I .i64) (.pair (.I .i64) (.pair (.I .i64) (.pair (.I .i64) (.pair (.pair (.I .i64) (.pair (.I .i64) (.pair (.row 32) (.pair .L .nil)))) .nil)))))) w115 a1 fun (r116 : (Int × (Int × (Int × (Int × (Int × ((Int × (Int × ({l : List Value // l.length = 32} × (Sl × Unit)))) × Unit))))))) => Q ((r116.1, (r116.2.1, (r116.2.2.1, (r116.2.2.2.1, (r116.2.2.2.2.1, ((r116.2.2.2.2.2.1.1, (r116.2.2.2.2.2.1.2.1, (r116.2.2.2.2.2.1.2.2.1, (r116.2.2.2.2.2.1.2.2.2.1, ())))), ())))))), (0, ())) w115);
 bif (y77 != 0) then
 (j4 true w78)
 else cl Tryd.prog n_octet_Reader_End #[.pointer x3] (.I .i64) w78 fun (x79 : Int) w80 => bif (x79 != 0) then
 (j4 true w80)
 else ld (.pair (.I .i64) (.pair (.I .i64) (.pair (.I .i64) (.pair (.I .i64) (.pair (.I .i64) (.pair (.pair (.I .i64) (.pair (.I .i64) (.pair (.row 32) (.pair .L .nil)))) .nil)))))) w80 a5 fun (x81 : (Int × (Int × (Int × (Int × (Int × ((Int × (Int × ({l : List Value // l.length = 32} × (Sl × Unit)))) × Unit))))))) => cl Tryd.prog n_record_Fits #[.agg ((([.int .i64 x81.1, .int .i64 x81.2.1, .int .i64 x81.2.2.1, .int .i64 x81.2.2.2.1, .int .i64 x81.2.2.2.2.1] : List Value) ++ ((([.int .i64 x81.2.2.2.2.2.1.1, .int .i64 x81.2.2.2.2.2.1.2.1] : List Value) ++ (x81.2.2.2.2.2.1.2.2.1.1 ++ ([.slice x81.2.2.2.2.2.1.2.2.2.1.a x81.2.2.2.2.2.1.2.2.2.1.n x81.2.2.2.2.2.1.2.2.2.1.c] : List Value))) ++ ([] : List Value)))).toArray] (.I .i64) w80 fun (x82 : Int) w83 => j4 (x82 != 0) w83);
 let j1 := (fun (y31 : Bool) (w32 : World) =>
   bif y31 then
 (cl Tryd.prog n_record_take #[.pointer x3] (.tup (.pair (.pair (.I .i64) (.pair (.I .i64) (.pair (.row 32) (.pair .L .nil)))) (.pair (.I .i64) .nil))) w32 fun (x33 : ((Int × (Int × ({l : List Value // l.length = 32} × (Sl × Unit)))) × (Int × Unit))) w34 => st1 w34 (a5.add 5) (.int .i64 x33.1.1) fun w35 => st1 w35 ((a5.add 5).add 1) (.int .i64 x33.1.2.1) fun w36 => stL (((a5.add 5).add 1).add 1) w36 0 x33.1.2.2.1.1 fun w37 => st1 w37 ((((a5.add 5).add 1).add 1).add 32) (.slice x33.1.2.2.2.1.a x33.1.2.2.2.1.n x33.1.2.2.2.1.c) fun w38 => j3 x33.2.1 w38)
 else j3 s12.1 w32);
 bif (s12.1 == 0) then
 (ld (.I .i64) w13 a5 fun (x24 : Int) => j1 (x24 == 2) w13)
 else j1 false w13
theorem record_Get.t (p0 : Sl) (Q : ((Int × (Int × (Int × (Int × (Int × ((Int × (Int × ({l : List Value // l.length = 32} × (Sl × Unit)))) × Unit)))))) × (Int × Unit)) → World → Prop) (w : World) : record_Get p0 Q w = fvc Tryd.prog an_record_Get Tryd.f28 (.tup (.pair (.pair (.I .i64) (.pair (.I .i64) (.pair (.I .i64) (.pair (.I .i64) (.pair (.I .i64) (.pair (.pair (.I .i64) (.pair (.I .i64) (.pair (.row 32) (.pair .L .nil)))) .nil)))))) (.pair (.I .i64) .nil))) [Kd.av .L p0] w Q := by kernel_rfl
theorem record_Get.k : fnOk Tryd.prog Tryd.f28 = true := by kernel_rfl
theorem record_Get.cl {p0 : Sl} {Q : ((Int × (Int × (Int × (Int × (Int × ((Int × (Int × ({l : List Value // l.length = 32} × (Sl × Unit)))) × Unit)))))) × (Int × Unit)) → World → Prop} {w : World} (h : record_Get p0 Q w) : cl Tryd.prog n_record_Get #[.slice p0.a p0.n p0.c] (.tup (.pair (.pair (.I .i64) (.pair (.I .i64) (.pair (.I .i64) (.pair (.I .i64) (.pair (.I .i64) (.pair (.pair (.I .i64) (.pair (.I .i64) (.pair (.row 32) (.pair .L .nil)))) .nil)))))) (.pair (.I .i64) .nil))) w Q :=
  cl_tie Tryd.func28 record_Get.k (args := [Kd.av .L p0]) (record_Get.t p0 Q w) h
end Go.Proofs.YtkojpppnjloikaaDoor
set_option linter.unusedVariables false
set_option maxHeartbeats 4000000
namespace Go.Proofs.YtkojpppnjloikaaDoor
open Go.Fl
/-- flume/flumeref10.Get -/
def an_flumeref10_Get : Nat → LA
  | 5 => [(25, (.I .i64))] | 19 => [(91, (.I .i64))] | _ => []
def flumeref10_Get (p0 : Sl) (Q : ((Int × (Int × (Int × (Int × (Int × ((Int × (Int × ({l : List Value // l.length = 32} × (Sl × Unit)))) × Unit)))))) × (Int × Unit)) → World → Prop) (w : World) : Prop :=
 nw w (([.int .i64 0, .int .i64 0, .int .i64 0, .int .i64 0, .int .i64 0] : List Value) ++ ((([.int .i64 0, .int .i64 0] : List Value) ++ ((zrow 32 (.int .u8 0)).1 ++ ([.slice none 0 0] : List Value))) ++ ([] : List Value))) t_api_Note fun a1 w2 => nw w2 ([.slice p0.a p0.n p0.c, .int .i64 0]) t_flumeref02_Reader fun a3 w4 => nw w4 (([.int .i64 0, .int .i64 0, .int .i64 0, .int .i64 0, .int .i64 0] : List Value) ++ ((([.int .i64 0, .int .i64 0] : List Value) ++ ((zrow 32 (.int .u8 0)).1 ++ ([.slice none 0 0] : List Value))) ++ ([] : List Value))) t_api_Note fun a5 w6 => st1 w6 a5 (.int .i64 0) fun w7 => st1 w7 (a5.add 1) (.int .i64 0) fun w8 => st1 w8 ((a5.add 1).add 1) (.int .i64 0) fun w9 => st1 w9 (((a5.add 1).add 1).add 1) (.int .i64 0) fun w10 => st1 w10 ((((a5.add 1).add 1).add 1).add 1) (.int .i64 0) fun w11 => st1 w11 (((((a5.add 1).add 1).add 1).add 1).add 1) (.int .i64 0) fun w12 => st1 w12 ((((((a5.add 1).add 1).add 1).add 1).add 1).add 1) (.int .i64 0) fun w13 => stL (((((((a5.add 1).add 1).add 1).add 1).add 1).add 1).add 1) w13 0 (zrow 32 (.int .u8 0)).1 fun w14 => st1 w14 ((((((((a5.add 1).add 1).add 1).add 1).add 1).add 1).add 1).add 32) (.slice none 0 0) fun w15 => cl Tryd.prog n_flumeref02_Reader_Number #[.pointer (some a3)] (.tup (.pair (.I .i64) (.pair (.I .i64) .nil))) w15 fun (x16 : (Int × (Int × Unit))) w17 => st1 w17 a5 (.int .i64 x16.1) fun w18 => nw w18 [.int .i64 1, .int .i64 2, .int .i64 3, .int .i64 4, .int .i64 5, .int .i64 6] t_int fun a19 w20 => lp (α := (Int × Unit)) (fun K => K (0, ())) w20 fun D23 J24 s21 w22 =>
 bif (decide (s21.1 < 6)) then
  (ixa (some a19) 6 s21.1 1 fun a25 => ld (.I .i64) w22 a25 fun (x26 : Int) => ld (.I .i64) w22 a5 fun (x27 : Int) => bif (x27 == x26) then
  (cl Tryd.prog n_flumeref02_Reader_Number #[.pointer (some a3)] (.tup (.pair (.I .i64) (.pair (.I .i64) .nil))) w22 fun (x28 : (Int × (Int × Unit))) w29 => st1 w29 (a5.add 1) (.int .i64 x28.1) fun w30 => J24 ((IntKind.i64.wrap (s21.1 + 1)), ()) w30)
  else J24 ((IntKind.i64.wrap (s21.1 + 1)), ()) w22)
  else let j9 := (fun  (w240 : World) =>
   let j14 := (fun  (w347 : World) =>
   let j16 := (fun  (w404 : World) =>
   ld (.pair (.I .i64) (.pair (.I .i64) (.pair (.I .i64) (.pair (.I .i64) (.pair (.I .i64) (.pair (.pair (.I .i64) (.pair (.I .i64) (.pair (.row 32) (.pair .L .nil)))) .nil)))))) w404 a5 fun (x405 : (Int × (Int × (Int × (Int × (Int × ((Int × (Int × ({l : List Value // l.length = 32} × (Sl × Unit)))) × Unit))))))) => cl Tryd.prog n_flumeref10_Put #[.agg ((([.int .i64 x405.1, .int .i64 x405.2.1, .int .i64 x405.2.2.1, .int .i64 x405.2.2.2.1, .int .i64 x405.2.2.2.2.1] : List Value) ++ ((([.int .i64 x405.2.2.2.2.2.1.1, .int .i64 x405.2.2.2.2.2.1.2.1] : List Value) ++ (x405.2.2.2.2.2.1.2.2.1.1 ++ ([.slice x405.2.2.2.2.2.1.2.2.2.1.a x405.2.2.2.2.2.1.2.2.2.1.n x405.2.2.2.2.2.1.2.2.2.1.c] : List Value))) ++ ([] : List Value)))).toArray] (.tup (.pair .L (.pair (.I .i64) .nil))) w404 fun (x406 : (Sl × (Int × Unit))) w407 => let j17 := (fun (y420 : Bool) (w421 : World) =>
   bif y420 then
 (st1 w421 a1 (.int .i64 0) fun w422 => st1 w422 (a1.add 1) (.int .i64 0) fun w423 => st1 w423 ((a1.add 1).add 1) (.int .i64 0) fun w424 => st1 w424 (((a1.add 1).add 1).add 1) (.int .i64 0) fun w425 => st1 w425 ((((a1.add 1).add 1).add 1).add 1) (.int .i64 0) fun w426 => st1 w426 (((((a1.add 1).add 1).add 1).add 1).add 1) (.int .i64 0) fun w427 => st1 w427 ((((((a1.add 1).add 1).add 1).add 1).add 1).add 1) (.int .i64 0) fun w428 => stL (((((((a1.add 1).add 1).add 1).add 1).add 1).add 1).add 1) w428 0 (zrow 32 (.int .u8 0)).1 fun w429 => st1 w429 ((((((((a1.add 1).add 1).add 1).add 1).add 1).add 1).add 1).add 32) (.slice none 0 0) fun w430 => ld (.pair (.I .i64) (.pair (.I .i64) (.pair (.I .i64) (.pair (.I .i64) (.pair (.I .i64) (.pair (.pair (.I .i64) (.pair (.I .i64) (.pair (.row 32) (.pair .L .nil)))) .nil)))))) w430 a1 fun (r431 : (Int × (Int × (Int × (Int × (Int × ((Int × (Int × ({l : List Value // l.length = 32} × (Sl × Unit)))) × Unit))))))) => Q ((r431.1, (r431.2.1, (r431.2.2.1, (r431.2.2.2.1, (r431.2.2.2.2.1, ((r431.2.2.2.2.2.1.1, (r431.2.2.2.2.2.1.2.1, (r431.2.2.2.2.2.1.2.2.1, (r431.2.2.2.2.2.1.2.2.2.1, ())))), ())))))), (100, ())) w430)
 else ld (.pair (.I .i64) (.pair (.I .i64) (.pair (.I .i64) (.pair (.I .i64) (.pair (.I .i64) (.pair (.pair (.I .i64) (.pair (.I .i64) (.pair (.row 32) (.pair .L .nil)))) .nil)))))) w421 a5 fun (x432 : (Int × (Int × (Int × (Int × (Int × ((Int × (Int × ({l : List Value // l.length = 32} × (Sl × Unit)))) × Unit))))))) => st1 w421 a1 (.int .i64 x432.1) fun w433 => st1 w433 (a1.add 1) (.int .i64 x432.2.1) fun w434 => st1 w434 ((a1.add 1).add 1) (.int .i64 x432.2.2.1) fun w435 => st1 w435 (((a1.add 1).add 1).add 1) (.int .i64 x432.2.2.2.1) fun w436 => st1 w436 ((((a1.add 1).add 1).add 1).add 1) (.int .i64 x432.2.2.2.2.1) fun w437 => st1 w437 (((((a1.add 1).add 1).add 1).add 1).add 1) (.int .i64 x432.2.2.2.2.2.1.1) fun w438 => st1 w438 ((((((a1.add 1).add 1).add 1).add 1).add 1).add 1) (.int .i64 x432.2.2.2.2.2.1.2.1) fun w439 => stL (((((((a1.add 1).add 1).add 1).add 1).add 1).add 1).add 1) w439 0 x432.2.2.2.2.2.1.2.2.1.1 fun w440 => st1 w440 ((((((((a1.add 1).add 1).add 1).add 1).add 1).add 1).add 1).add 32) (.slice x432.2.2.2.2.2.1.2.2.2.1.a x432.2.2.2.2.2.1.2.2.2.1.n x432.2.2.2.2.2.1.2.2.2.1.c) fun w441 => ld (.pair (.I .i64) (.pair (.I .i64) (.pair (.I .i64) (.pair (.I .i64) (.pair (.I .i64) (.pair (.pair (.I .i64) (.pair (.I .i64) (.pair (.row 32) (.pair .L .nil)))) .nil)))))) w441 a1 fun (r442 : (Int × (Int × (Int × (Int × (Int × ((Int × (Int × ({l : List Value // l.length = 32} × (Sl × Unit)))) × Unit))))))) => Q ((r442.1, (r442.2.1, (r442.2.2.1, (r442.2.2.2.1, (r442.2.2.2.2.1, ((r442.2.2.2.2.2.1.1, (r442.2.2.2.2.2.1.2.1, (r442.2.2.2.2.2.1.2.2.1, (r442.2.2.2.2.2.1.2.2.2.1, ())))), ())))))), (0, ())) w441);
 bif (x406.2.1 != 0) then
 (j17 true w407)
 else bstr w407 x406.1 fun z408 => bstr w407 p0 fun z409 => j17 (!(beqB ⟨z408.toArray⟩ ⟨z409.toArray⟩)) w407);
 ld (.I .i64) w347 a5 fun (x348 : Int) => bif (x348 == 2) then
 (cl Tryd.prog n_flumeref02_Reader_Number #[.pointer (some a3)] (.tup (.pair (.I .i64) (.pair (.I .i64) .nil))) w347 fun (x349 : (Int × (Int × Unit))) w350 => st1 w350 (a5.add 5) (.int .i64 x349.1) fun w351 => cl Tryd.prog n_flumeref02_Reader_Number #[.pointer (some a3)] (.tup (.pair (.I .i64) (.pair (.I .i64) .nil))) w351 fun (x352 : (Int × (Int × Unit))) w353 => st1 w353 ((a5.add 5).add 1) (.int .i64 x352.1) fun w354 => lp (α := (Int × Unit)) (fun K => K (0, ())) w354 fun D357 J358 s355 w356 =>
  bif (decide (s355.1 < 32)) then
   (cl Tryd.prog n_flumeref02_Reader_Byte #[.pointer (some a3)] (.tup (.pair (.I .u8) (.pair (.I .i64) .nil))) w356 fun (x359 : (Int × (Int × Unit))) w360 => ixa (some ((a5.add 5).add 2)) 32 s355.1 1 fun a361 => st1 w360 a361 (.int .u8 x359.1) fun w362 => J358 ((IntKind.i64.wrap (s355.1 + 1)), ()) w362)
   else cl Tryd.prog n_flumeref02_Reader_Text #[.pointer (some a3), .int .i64 256] (.tup (.pair .L (.pair (.I .i64) .nil))) w356 fun (x363 : (Sl × (Int × Unit))) w364 => st1 w364 ((a5.add 5).add 34) (.slice x363.1.a x363.1.n x363.1.c) fun w365 => j16 w365)
 else j16 w347);
 let j10 := (fun (y247 : Bool) (w248 : World) =>
   bif y247 then
 (cl Tryd.prog n_flumeref02_Reader_Number #[.pointer (some a3)] (.tup (.pair (.I .i64) (.pair (.I .i64) .nil))) w248 fun (x249 : (Int × (Int × Unit))) w250 => st1 w250 (a5.add 4) (.int .i64 x249.1) fun w251 => j14 w251)
 else j14 w248);
 ld (.I .i64) w240 a5 fun (x241 : Int) => bif (x241 == 2) then
 (j10 true w240)
 else ld (.I .i64) w240 a5 fun (x242 : Int) => bif (x242 == 5) then
 (j10 true w240)
 else ld (.I .i64) w240 a5 fun (x243 : Int) => j10 (x243 == 6) w240);
 ld (.I .i64) w22 a5 fun (x31 : Int) => bif (x31 == 1) then
 (cl Tryd.prog n_flumeref02_Reader_Number #[.pointer (some a3)] (.tup (.pair (.I .i64) (.pair (.I .i64) .nil))) w22 fun (x32 : (Int × (Int × Unit))) w33 => st1 w33 (a5.add 2) (.int .i64 x32.1) fun w34 => cl Tryd.prog n_flumeref02_Reader_Number #[.pointer (some a3)] (.tup (.pair (.I .i64) (.pair (.I .i64) .nil))) w34 fun (x35 : (Int × (Int × Unit))) w36 => st1 w36 (a5.add 3) (.int .i64 x35.1) fun w37 => j9 w37)
 else j9 w22
theorem flumeref10_Get.t (p0 : Sl) (Q : ((Int × (Int × (Int × (Int × (Int × ((Int × (Int × ({l : List Value // l.length = 32} × (Sl × Unit)))) × Unit)))))) × (Int × Unit)) → World → Prop) (w : World) : flumeref10_Get p0 Q w = fvc Tryd.prog an_flumeref10_Get Tryd.f29 (.tup (.pair (.pair (.I .i64) (.pair (.I .i64) (.pair (.I .i64) (.pair (.I .i64) (.pair (.I .i64) (.pair (.pair (.I .i64) (.pair (.I .i64) (.pair (.row 32) (.pair .L .nil)))) .nil)))))) (.pair (.I .i64) .nil))) [Kd.av .L p0] w Q := by kernel_rfl
theorem flumeref10_Get.k : fnOk Tryd.prog Tryd.f29 = true := by kernel_rfl
theorem flumeref10_Get.cl {p0 : Sl} {Q : ((Int × (Int × (Int × (Int × (Int × ((Int × (Int × ({l : List Value // l.length = 32} × (Sl × Unit)))) × Unit)))))) × (Int × Unit)) → World → Prop} {w : World} (h : flumeref10_Get p0 Q w) : cl Tryd.prog n_flumeref10_Get #[.slice p0.a p0.n p0.c] (.tup (.pair (.pair (.I .i64) (.pair (.I .i64) (.pair (.I .i64) (.pair (.I .i64) (.pair (.I .i64) (.pair (.pair (.I .i64) (.pair (.I .i64) (.pair (.row 32) (.pair .L .nil)))) .nil)))))) (.pair (.I .i64) .nil))) w Q :=
  cl_tie Tryd.func29 flumeref10_Get.k (args := [Kd.av .L p0]) (flumeref10_Get.t p0 Q w) h

/-- flume/flumeref10.SameNote -/
def flumeref10_SameNote (p0 : (Int × (Int × (Int × (Int × (Int × ((Int × (Int × ({l : List Value // l.length = 32} × (Sl × Unit)))) × Unit))))))) (p1 : (Int × (Int × (Int × (Int × (Int × ((Int × (Int × ({l : List Value // l.length = 32} × (Sl × Unit)))) × Unit))))))) (Q : Bool → World → Prop) (w : World) : Prop :=
 nw w ((([.int .i64 p0.1, .int .i64 p0.2.1, .int .i64 p0.2.2.1, .int .i64 p0.2.2.2.1, .int .i64 p0.2.2.2.2.1] : List Value) ++ ((([.int .i64 p0.2.2.2.2.2.1.1, .int .i64 p0.2.2.2.2.2.1.2.1] : List Value) ++ (p0.2.2.2.2.2.1.2.2.1.1 ++ ([.slice p0.2.2.2.2.2.1.2.2.2.1.a p0.2.2.2.2.2.1.2.2.2.1.n p0.2.2.2.2.2.1.2.2.2.1.c] : List Value))) ++ ([] : List Value)))) t_api_Note fun a1 w2 => nw w2 ((([.int .i64 p1.1, .int .i64 p1.2.1, .int .i64 p1.2.2.1, .int .i64 p1.2.2.2.1, .int .i64 p1.2.2.2.2.1] : List Value) ++ ((([.int .i64 p1.2.2.2.2.2.1.1, .int .i64 p1.2.2.2.2.2.1.2.1] : List Value) ++ (p1.2.2.2.2.2.1.2.2.1.1 ++ ([.slice p1.2.2.2.2.2.1.2.2.2.1.a p1.2.2.2.2.2.1.2.2.2.1.n p1.2.2.2.2.2.1.2.2.2.1.c] : List Value))) ++ ([] : List Value)))) t_api_Note fun a3 w4 => ld (.I .i64) w4 a1 fun (x5 : Int) => ld (.I .i64) w4 a3 fun (x6 : Int) => bif (x5 == x6) then
 (ld (.I .i64) w4 (a1.add 1) fun (x7 : Int) => ld (.I .i64) w4 (a3.add 1) fun (x8 : Int) => bif (x7 == x8) then
 (ld (.I .i64) w4 (a1.add 2) fun (x9 : Int) => ld (.I .i64) w4 (a3.add 2) fun (x10 : Int) => bif (x9 == x10) then
 (ld (.I .i64) w4 (a1.add 3) fun (x11 : Int) => ld (.I .i64) w4 (a3.add 3) fun (x12 : Int) => bif (x11 == x12) then
 (ld (.I .i64) w4 (a1.add 4) fun (x13 : Int) => ld (.I .i64) w4 (a3.add 4) fun (x14 : Int) => bif (x13 == x14) then
 (ld (.pair (.I .i64) (.pair (.I .i64) (.pair (.row 32) (.pair .L .nil)))) w4 (a1.add 5) fun (x15 : (Int × (Int × ({l : List Value // l.length = 32} × (Sl × Unit))))) => ld (.pair (.I .i64) (.pair (.I .i64) (.pair (.row 32) (.pair .L .nil)))) w4 (a3.add 5) fun (x16 : (Int × (Int × ({l : List Value // l.length = 32} × (Sl × Unit))))) => cl Tryd.prog n_flumeref10_Same #[.agg ((([.int .i64 x15.1, .int .i64 x15.2.1] : List Value) ++ (x15.2.2.1.1 ++ ([.slice x15.2.2.2.1.a x15.2.2.2.1.n x15.2.2.2.1.c] : List Value)))).toArray, .agg ((([.int .i64 x16.1, .int .i64 x16.2.1] : List Value) ++ (x16.2.2.1.1 ++ ([.slice x16.2.2.2.1.a x16.2.2.2.1.n x16.2.2.2.1.c] : List Value)))).toArray] .B w4 fun (x17 : Bool) w18 => Q x17 w18)
 else Q false w4)
 else Q false w4)
 else Q false w4)
 else Q false w4)
 else Q false w4
theorem flumeref10_SameNote.t (p0 : (Int × (Int × (Int × (Int × (Int × ((Int × (Int × ({l : List Value // l.length = 32} × (Sl × Unit)))) × Unit))))))) (p1 : (Int × (Int × (Int × (Int × (Int × ((Int × (Int × ({l : List Value // l.length = 32} × (Sl × Unit)))) × Unit))))))) (Q : Bool → World → Prop) (w : World) : flumeref10_SameNote p0 p1 Q w = fvc Tryd.prog (fun _ => []) Tryd.f30 .B [Kd.av (.pair (.I .i64) (.pair (.I .i64) (.pair (.I .i64) (.pair (.I .i64) (.pair (.I .i64) (.pair (.pair (.I .i64) (.pair (.I .i64) (.pair (.row 32) (.pair .L .nil)))) .nil)))))) p0, Kd.av (.pair (.I .i64) (.pair (.I .i64) (.pair (.I .i64) (.pair (.I .i64) (.pair (.I .i64) (.pair (.pair (.I .i64) (.pair (.I .i64) (.pair (.row 32) (.pair .L .nil)))) .nil)))))) p1] w Q := by kernel_rfl
theorem flumeref10_SameNote.k : fnOk Tryd.prog Tryd.f30 = true := by kernel_rfl
theorem flumeref10_SameNote.cl {p0 : (Int × (Int × (Int × (Int × (Int × ((Int × (Int × ({l : List Value // l.length = 32} × (Sl × Unit)))) × Unit))))))} {p1 : (Int × (Int × (Int × (Int × (Int × ((Int × (Int × ({l : List Value // l.length = 32} × (Sl × Unit)))) × Unit))))))} {Q : Bool → World → Prop} {w : World} (h : flumeref10_SameNote p0 p1 Q w) : cl Tryd.prog n_flumeref10_SameNote #[.agg ((([.int .i64 p0.1, .int .i64 p0.2.1, .int .i64 p0.2.2.1, .int .i64 p0.2.2.2.1, .int .i64 p0.2.2.2.2.1] : List Value) ++ ((([.int .i64 p0.2.2.2.2.2.1.1, .int .i64 p0.2.2.2.2.2.1.2.1] : List Value) ++ (p0.2.2.2.2.2.1.2.2.1.1 ++ ([.slice p0.2.2.2.2.2.1.2.2.2.1.a p0.2.2.2.2.2.1.2.2.2.1.n p0.2.2.2.2.2.1.2.2.2.1.c] : List Value))) ++ ([] : List Value)))).toArray, .agg ((([.int .i64 p1.1, .int .i64 p1.2.1, .int .i64 p1.2.2.1, .int .i64 p1.2.2.2.1, .int .i64 p1.2.2.2.2.1] : List Value) ++ ((([.int .i64 p1.2.2.2.2.2.1.1, .int .i64 p1.2.2.2.2.2.1.2.1] : List Value) ++ (p1.2.2.2.2.2.1.2.2.1.1 ++ ([.slice p1.2.2.2.2.2.1.2.2.2.1.a p1.2.2.2.2.2.1.2.2.2.1.n p1.2.2.2.2.2.1.2.2.2.1.c] : List Value))) ++ ([] : List Value)))).toArray] .B w Q :=
  cl_tie Tryd.func30 flumeref10_SameNote.k (args := [Kd.av (.pair (.I .i64) (.pair (.I .i64) (.pair (.I .i64) (.pair (.I .i64) (.pair (.I .i64) (.pair (.pair (.I .i64) (.pair (.I .i64) (.pair (.row 32) (.pair .L .nil)))) .nil)))))) p0, Kd.av (.pair (.I .i64) (.pair (.I .i64) (.pair (.I .i64) (.pair (.I .i64) (.pair (.I .i64) (.pair (.pair (.I .i64) (.pair (.I .i64) (.pair (.row 32) (.pair .L .nil)))) .nil)))))) p1]) (flumeref10_SameNote.t p0 p1 Q w) h

/-- flume/record.fields -/
def an_record_fields : Nat → LA
  | 1000003 => [(0, .nil)] | 1000007 => [(0, .nil)] | _ => []
def record_fields (p0 : Option Addr) (Q : Sl → World → Prop) (w : World) : Prop :=
 nz p0 fun a1 => ld (.I .i64) w a1 fun (x2 : Int) => bif (x2 == 1) then
 (dr w fun w3 => nz p0 fun a4 => nz p0 fun a5 => nz p0 fun a6 => nw w3 [.pointer (some (a4.add 1)), .pointer (some (a5.add 2)), .pointer (some (a6.add 3))] t_p_int fun a7 w8 => Q ⟨(some a7), 3, 3⟩ w8)
 else let j1 := (fun (y20 : Bool) (w21 : World) =>
   bif y20 then
 (dr w21 fun w22 => nz p0 fun a23 => nz p0 fun a24 => nw w22 [.pointer (some (a23.add 1)), .pointer (some (a24.add 4))] t_p_int fun a25 w26 => Q ⟨(some a25), 2, 2⟩ w26)
 else bif (x2 == 3) then
 (bif (x2 == 3) then
 (nz p0 fun a27 => nw w21 [.pointer (some (a27.add 1))] t_p_int fun a28 w29 => Q ⟨(some a28), 1, 1⟩ w29)
 else Q ⟨none, 0, 0⟩ w21)
 else bif (x2 == 4) then
 (nz p0 fun a30 => nw w21 [.pointer (some (a30.add 1))] t_p_int fun a31 w32 => Q ⟨(some a31), 1, 1⟩ w32)
 else Q ⟨none, 0, 0⟩ w21);
 bif (x2 == 2) then
 (j1 (x2 == 2) w)
 else bif (x2 == 5) then
 (j1 (x2 == 5) w)
 else j1 (x2 == 6) w
theorem record_fields.t (p0 : Option Addr) (Q : Sl → World → Prop) (w : World) : record_fields p0 Q w = fvc Tryd.prog an_record_fields Tryd.f31 .L [Kd.av .P p0] w Q := by kernel_rfl
theorem record_fields.k : fnOk Tryd.prog Tryd.f31 = true := by kernel_rfl
theorem record_fields.cl {p0 : Option Addr} {Q : Sl → World → Prop} {w : World} (h : record_fields p0 Q w) : cl Tryd.prog n_record_fields #[.pointer p0] .L w Q :=
  cl_tie Tryd.func31 record_fields.k (args := [Kd.av .P p0]) (record_fields.t p0 Q w) h

/-- flume/flumeref10.numbers -/
def flumeref10_numbers (p0 : (Int × (Int × (Int × (Int × (Int × ((Int × (Int × ({l : List Value // l.length = 32} × (Sl × Unit)))) × Unit))))))) (Q : Sl → World → Prop) (w : World) : Prop :=
 nw w ((([.int .i64 p0.1, .int .i64 p0.2.1, .int .i64 p0.2.2.1, .int .i64 p0.2.2.2.1, .int .i64 p0.2.2.2.2.1] : List Value) ++ ((([.int .i64 p0.2.2.2.2.2.1.1, .int .i64 p0.2.2.2.2.2.1.2.1] : List Value) ++ (p0.2.2.2.2.2.1.2.2.1.1 ++ ([.slice p0.2.2.2.2.2.1.2.2.2.1.a p0.2.2.2.2.2.1.2.2.2.1.n p0.2.2.2.2.2.1.2.2.2.1.c] : List Value))) ++ ([] : List Value)))) t_api_Note fun a1 w2 => ld (.I .i64) w2 a1 fun (x3 : Int) => bif (x3 == 1) then
 (ld (.I .i64) w2 (a1.add 1) fun (x4 : Int) => ld (.I .i64) w2 (a1.add 2) fun (x5 : Int) => ld (.I .i64) w2 (a1.add 3) fun (x6 : Int) => nw w2 [.int .i64 x4, .int .i64 x5, .int .i64 x6] t_int fun a7 w8 => Q ⟨(some a7), 3, 3⟩ w8)
 else let j1 := (fun (y19 : Bool) (w20 : World) =>
   bif y19 then
 (ld (.I .i64) w20 (a1.add 1) fun (x21 : Int) => ld (.I .i64) w20 (a1.add 4) fun (x22 : Int) => nw w20 [.int .i64 x21, .int .i64 x22] t_int fun a23 w24 => Q ⟨(some a23), 2, 2⟩ w24)
 else bif (x3 == 3) then
 (bif (x3 == 3) then
 (ld (.I .i64) w20 (a1.add 1) fun (x25 : Int) => nw w20 [.int .i64 x25] t_int fun a26 w27 => Q ⟨(some a26), 1, 1⟩ w27)
 else Q ⟨none, 0, 0⟩ w20)
 else bif (x3 == 4) then
 (ld (.I .i64) w20 (a1.add 1) fun (x28 : Int) => nw w20 [.int .i64 x28] t_int fun a29 w30 => Q ⟨(some a29), 1, 1⟩ w30)
 else Q ⟨none, 0, 0⟩ w20);
 bif (x3 == 2) then
 (j1 (x3 == 2) w2)
 else bif (x3 == 5) then
 (j1 (x3 == 5) w2)
 else j1 (x3 == 6) w2
theorem flumeref10_numbers.t (p0 : (Int × (Int × (Int × (Int × (Int × ((Int × (Int × ({l : List Value // l.length = 32} × (Sl × Unit)))) × Unit))))))) (Q : Sl → World → Prop) (w : World) : flumeref10_numbers p0 Q w = fvc Tryd.prog (fun _ => []) Tryd.f32 .L [Kd.av (.pair (.I .i64) (.pair (.I .i64) (.pair (.I .i64) (.pair (.I .i64) (.pair (.I .i64) (.pair (.pair (.I .i64) (.pair (.I .i64) (.pair (.row 32) (.pair .L .nil)))) .nil)))))) p0] w Q := by kernel_rfl
theorem flumeref10_numbers.k : fnOk Tryd.prog Tryd.f32 = true := by kernel_rfl
theorem flumeref10_numbers.cl {p0 : (Int × (Int × (Int × (Int × (Int × ((Int × (Int × ({l : List Value // l.length = 32} × (Sl × Unit)))) × Unit))))))} {Q : Sl → World → Prop} {w : World} (h : flumeref10_numbers p0 Q w) : cl Tryd.prog n_flumeref10_numbers #[.agg ((([.int .i64 p0.1, .int .i64 p0.2.1, .int .i64 p0.2.2.1, .int .i64 p0.2.2.2.1, .int .i64 p0.2.2.2.2.1] : List Value) ++ ((([.int .i64 p0.2.2.2.2.2.1.1, .int .i64 p0.2.2.2.2.2.1.2.1] : List Value) ++ (p0.2.2.2.2.2.1.2.2.1.1 ++ ([.slice p0.2.2.2.2.2.1.2.2.2.1.a p0.2.2.2.2.2.1.2.2.2.1.n p0.2.2.2.2.2.1.2.2.2.1.c] : List Value))) ++ ([] : List Value)))).toArray] .L w Q :=
  cl_tie Tryd.func32 flumeref10_numbers.k (args := [Kd.av (.pair (.I .i64) (.pair (.I .i64) (.pair (.I .i64) (.pair (.I .i64) (.pair (.I .i64) (.pair (.pair (.I .i64) (.pair (.I .i64) (.pair (.row 32) (.pair .L .nil)))) .nil)))))) p0]) (flumeref10_numbers.t p0 Q w) h
end Go.Proofs.YtkojpppnjloikaaDoor
set_option linter.unusedVariables false
set_option maxHeartbeats 4000000
namespace Go.Proofs.YtkojpppnjloikaaDoor
open Go.Fl
/-- flume/lz.Restore -/
def an_lz_Restore : Nat → LA
  | 2 => [(0, .L), (6, .L)] | _ => []
def lz_Restore (p0 : Sl) (p1 : Int) (Q : (Sl × (Int × Unit)) → World → Prop) (w : World) : Prop :=
 lp (α := (Sl × (Sl × Unit))) (fun K => K (p0, (⟨none, 0, 0⟩, ()))) w fun D3 J4 s1 w2 =>
 bif (decide ((s1.1.n : Int) > 0)) then
  (cl Tryd.prog n_lz_step #[.slice s1.2.1.a s1.2.1.n s1.2.1.c, .slice s1.1.a s1.1.n s1.1.c] (.tup (.pair .L (.pair (.I .i64) (.pair (.I .i64) .nil)))) w2 fun (x5 : (Sl × (Int × (Int × Unit)))) w6 => bif (x5.2.2.1 != 0) then
  (Q (⟨none, 0, 0⟩, (x5.2.2.1, ())) w6)
  else bif (decide ((x5.1.n : Int) > (IntKind.i64.wrap (p1 - (s1.2.1.n : Int))))) then
  (Q (⟨none, 0, 0⟩, (71, ())) w6)
  else app Tryd.prog t_s_uint8 t_s_uint8 s1.2.1 x5.1 w6 fun r7 w8 => sls s1.1 x5.2.1 s1.1.n 1 fun r9 => J4 (r9, (r7, ())) w8)
  else Q (s1.2.1, (0, ())) w2
theorem lz_Restore.t (p0 : Sl) (p1 : Int) (Q : (Sl × (Int × Unit)) → World → Prop) (w : World) : lz_Restore p0 p1 Q w = fvc Tryd.prog an_lz_Restore Tryd.f33 (.tup (.pair .L (.pair (.I .i64) .nil))) [Kd.av .L p0, Kd.av (.I .i64) p1] w Q := by kernel_rfl
theorem lz_Restore.k : fnOk Tryd.prog Tryd.f33 = true := by kernel_rfl
theorem lz_Restore.cl {p0 : Sl} {p1 : Int} {Q : (Sl × (Int × Unit)) → World → Prop} {w : World} (h : lz_Restore p0 p1 Q w) : cl Tryd.prog n_lz_Restore #[.slice p0.a p0.n p0.c, .int .i64 p1] (.tup (.pair .L (.pair (.I .i64) .nil))) w Q :=
  cl_tie Tryd.func33 lz_Restore.k (args := [Kd.av .L p0, Kd.av (.I .i64) p1]) (lz_Restore.t p0 p1 Q w) h

/-- flume/digest.New -/
def digest_New  (Q : Option Addr → World → Prop) (w : World) : Prop :=
 ld (.row 8) w ⟨g_digest_first, 0, none⟩ fun (x1 : {l : List Value // l.length = 8}) => nw w ((x1.1 ++ ([.slice none 0 0, .int .i64 0, .bool true] : List Value))) t_digest_Hash fun a2 w3 => Q (some a2) w3
theorem digest_New.t  (Q : Option Addr → World → Prop) (w : World) : digest_New  Q w = fvc Tryd.prog (fun _ => []) Tryd.f34 .P [] w Q := by kernel_rfl
theorem digest_New.k : fnOk Tryd.prog Tryd.f34 = true := by kernel_rfl
theorem digest_New.cl  {Q : Option Addr → World → Prop} {w : World} (h : digest_New  Q w) : cl Tryd.prog n_digest_New #[] .P w Q :=
  cl_tie Tryd.func34 digest_New.k (args := []) (digest_New.t  Q w) h

/-- (*flume/digest.Hash).Write -/
def an_digest_Hash_Write : Nat → LA
  | 3 => [(4, .L)] | 1000002 => [(0, .nil)] | 1000004 => [(0, .nil)] | _ => []
def digest_Hash_Write (p0 : Option Addr) (p1 : Sl) (Q : Unit → World → Prop) (w : World) : Prop :=
 bif p0.isNone then
 (Q () w)
 else nz p0 fun a1 => ld .B w (a1.add 10) fun (x2 : Bool) => bif (!x2) then
 (Q () w)
 else nz p0 fun a3 => ld (.I .i64) w (a3.add 9) fun (x4 : Int) => nz p0 fun a5 => st1 w (a5.add 9) (.int .i64 (IntKind.i64.wrap (x4 + (p1.n : Int)))) fun w6 => dr w6 fun w7 => nz p0 fun a8 => ld .L w7 (a8.add 8) fun (x9 : Sl) => nz p0 fun a10 => ld .L w7 (a10.add 8) fun (x11 : Sl) => mks Tryd.prog t_s_uint8 0 (IntKind.i64.wrap ((x9.n : Int) + (p1.n : Int))) w7 fun r12 w13 => Fr w7 w13 ∧ app Tryd.prog t_s_uint8 t_s_uint8 r12 x11 w13 fun r14 w15 => app Tryd.prog t_s_uint8 t_s_uint8 r14 p1 w15 fun r16 w17 => lp (α := (Sl × Unit)) (fun K => K (r16, ())) w17 fun D20 J21 s18 w19 =>
 bif (decide ((s18.1.n : Int) ≥ 64)) then
  (dr w19 fun w22 => nz p0 fun a23 => sls s18.1 0 64 1 fun r24 => cl Tryd.prog n_digest_state_stir #[.pointer (some a23), .slice r24.a r24.n r24.c] (.tup .nil) w22 fun (x25 : Unit) w26 => sls s18.1 64 s18.1.n 1 fun r27 => J21 (r27, ()) w26)
  else nz p0 fun a28 => st1 w19 (a28.add 8) (.slice s18.1.a s18.1.n s18.1.c) fun w29 => Q () w29
theorem digest_Hash_Write.t (p0 : Option Addr) (p1 : Sl) (Q : Unit → World → Prop) (w : World) : digest_Hash_Write p0 p1 Q w = fvc Tryd.prog an_digest_Hash_Write Tryd.f35 (.tup .nil) [Kd.av .P p0, Kd.av .L p1] w Q := by kernel_rfl
theorem digest_Hash_Write.k : fnOk Tryd.prog Tryd.f35 = true := by kernel_rfl
theorem digest_Hash_Write.cl {p0 : Option Addr} {p1 : Sl} {Q : Unit → World → Prop} {w : World} (h : digest_Hash_Write p0 p1 Q w) : cl Tryd.prog n_digest_Hash_Write #[.pointer p0, .slice p1.a p1.n p1.c] (.tup .nil) w Q :=
  cl_tie Tryd.func35 digest_Hash_Write.k (args := [Kd.av .P p0, Kd.av .L p1]) (digest_Hash_Write.t p0 p1 Q w) h

/-- (*flume/digest.Hash).Sum -/
def an_digest_Hash_Sum : Nat → LA
  | 6 => [(4, .L)] | 9 => [(4, .L), (34, (.I .i64))] | 14 => [(4, .L)] | 18 => [(64, (.I .i64))] | _ => []
def digest_Hash_Sum (p0 : Option Addr) (Q : {l : List Value // l.length = 32} → World → Prop) (w : World) : Prop :=
 nw w ((zrow 32 (.int .u8 0)).1) t_api_Sum fun a1 w2 => nw w2 ((zrow 32 (.int .u8 0)).1) t_api_Sum fun a3 w4 => bif p0.isNone then
 (ld (.row 32) w4 a3 fun (x7 : {l : List Value // l.length = 32}) => stL a1 w4 0 x7.1 fun w8 => ld (.row 32) w8 a1 fun (r9 : {l : List Value // l.length = 32}) => Q r9 w8)
 else nz p0 fun a5 => ld .B w4 (a5.add 10) fun (x6 : Bool) => bif (!x6) then
 (ld (.row 32) w4 a3 fun (x10 : {l : List Value // l.length = 32}) => stL a1 w4 0 x10.1 fun w11 => ld (.row 32) w11 a1 fun (r12 : {l : List Value // l.length = 32}) => Q r12 w11)
 else nw w4 [] t_uint8 fun a13 w14 => nz p0 fun a15 => ld .L w14 (a15.add 8) fun (x16 : Sl) => app Tryd.prog t_s_uint8 t_s_uint8 ⟨(some a13), 0, 0⟩ x16 w14 fun r17 w18 => nw w18 [.int .u8 128] t_uint8 fun a19 w20 => app Tryd.prog t_s_uint8 t_s_uint8 r17 ⟨(some a19), 1, 1⟩ w20 fun r21 w22 => lp (α := (Sl × Unit)) (fun K => K (r21, ())) w22 fun D25 J26 s23 w24 =>
 bif ((Int.tmod (s23.1.n : Int) 64) != 56) then
  (nw w24 [.int .u8 0] t_uint8 fun a27 w28 => app Tryd.prog t_s_uint8 t_s_uint8 s23.1 ⟨(some a27), 1, 1⟩ w28 fun r29 w30 => J26 (r29, ()) w30)
  else lp (α := (Sl × (Int × Unit))) (fun K => K (s23.1, (0, ()))) w24 fun D33 J34 s31 w32 =>
 bif (decide (s31.2.1 < 8)) then
  (nz p0 fun a35 => ld (.I .i64) w32 (a35.add 9) fun (x36 : Int) => bif decide (0 ≤ (IntKind.i64.wrap (56 - (IntKind.i64.wrap (8 * s31.2.1))))) then (nw w32 [.int .u8 (IntKind.u8.wrap ((IntKind.u64.wrap ((IntKind.u64.wrap x36) * 8)) / 2 ^ (min (Int.toNat (IntKind.i64.wrap (56 - (IntKind.i64.wrap (8 * s31.2.1))))) 64)))] t_uint8 fun a37 w38 => app Tryd.prog t_s_uint8 t_s_uint8 s31.1 ⟨(some a37), 1, 1⟩ w38 fun r39 w40 => J34 (r39, ((IntKind.i64.wrap (s31.2.1 + 1)), ())) w40) else False)
  else nz p0 fun a41 => ld (.row 8) w32 a41 fun (x42 : {l : List Value // l.length = 8}) => nw w32 ((zrow 8 (.int .u32 0)).1) t_digest_state fun a43 w44 => stL a43 w44 0 x42.1 fun w45 => lp (α := (Sl × Unit)) (fun K => K (s31.1, ())) w45 fun D48 J49 s46 w47 =>
 bif (decide ((s46.1.n : Int) > 0)) then
  (sls s46.1 0 64 1 fun r50 => cl Tryd.prog n_digest_state_stir #[.pointer (some a43), .slice r50.a r50.n r50.c] (.tup .nil) w47 fun (x51 : Unit) w52 => sls s46.1 64 s46.1.n 1 fun r53 => J49 (r53, ()) w52)
  else lp (α := (Int × Unit)) (fun K => K (0, ())) w47 fun D56 J57 s54 w55 =>
 bif (decide (s54.1 < 32)) then
  (ixa (some a43) 8 (IntKind.i64.wrap (Int.tdiv s54.1 4)) 1 fun a58 => ld (.I .u32) w55 a58 fun (x59 : Int) => bif decide (0 ≤ (IntKind.i64.wrap (24 - (IntKind.i64.wrap (8 * (Int.tmod s54.1 4)))))) then (ixa (some a3) 32 s54.1 1 fun a60 => st1 w55 a60 (.int .u8 (IntKind.u8.wrap (x59 / 2 ^ (min (Int.toNat (IntKind.i64.wrap (24 - (IntKind.i64.wrap (8 * (Int.tmod s54.1 4)))))) 32)))) fun w61 => J57 ((IntKind.i64.wrap (s54.1 + 1)), ()) w61) else False)
  else ld (.row 32) w55 a3 fun (x62 : {l : List Value // l.length = 32}) => stL a1 w55 0 x62.1 fun w63 => ld (.row 32) w63 a1 fun (r64 : {l : List Value // l.length = 32}) => Q r64 w63
theorem digest_Hash_Sum.t (p0 : Option Addr) (Q : {l : List Value // l.length = 32} → World → Prop) (w : World) : digest_Hash_Sum p0 Q w = fvc Tryd.prog an_digest_Hash_Sum Tryd.f36 (.row 32) [Kd.av .P p0] w Q := by kernel_rfl
theorem digest_Hash_Sum.k : fnOk Tryd.prog Tryd.f36 = true := by kernel_rfl
theorem digest_Hash_Sum.cl {p0 : Option Addr} {Q : {l : List Value // l.length = 32} → World → Prop} {w : World} (h : digest_Hash_Sum p0 Q w) : cl Tryd.prog n_digest_Hash_Sum #[.pointer p0] (.row 32) w Q :=
  cl_tie Tryd.func36 digest_Hash_Sum.k (args := [Kd.av .P p0]) (digest_Hash_Sum.t p0 Q w) h

/-- flume/flumeref08.Quick -/
def flumeref08_Quick (p0 : Sl) (Q : {l : List Value // l.length = 32} → World → Prop) (w : World) : Prop :=
 nw w ((zrow 32 (.int .u8 0)).1) t_api_Sum fun a1 w2 => nw w2 [.int .u32 1116352408, .int .u32 1899447441, .int .u32 3049323471, .int .u32 3921009573, .int .u32 961987163, .int .u32 1508970993, .int .u32 2453635748, .int .u32 2870763221, .int .u32 3624381080, .int .u32 310598401, .int .u32 607225278, .int .u32 1426881987, .int .u32 1925078388, .int .u32 2162078206, .int .u32 2614888103, .int .u32 3248222580, .int .u32 3835390401, .int .u32 4022224774, .int .u32 264347078, .int .u32 604807628, .int .u32 770255983, .int .u32 1249150122, .int .u32 1555081692, .int .u32 1996064986, .int .u32 2554220882, .int .u32 2821834349, .int .u32 2952996808, .int .u32 3210313671, .int .u32 3336571891, .int .u32 3584528711, .int .u32 113926993, .int .u32 338241895, .int .u32 666307205, .int .u32 773529912, .int .u32 1294757372, .int .u32 1396182291, .int .u32 1695183700, .int .u32 1986661051, .int .u32 2177026350, .int .u32 2456956037, .int .u32 2730485921, .int .u32 2820302411, .int .u32 3259730800, .int .u32 3345764771, .int .u32 3516065817, .int .u32 3600352804, .int .u32 4094571909, .int .u32 275423344, .int .u32 430227734, .int .u32 506948616, .int .u32 659060556, .int .u32 883997877, .int .u32 958139571, .int .u32 1322822218, .int .u32 1537002063, .int .u32 1747873779, .int .u32 1955562222, .int .u32 2024104815, .int .u32 2227730452, .int .u32 2361852424, .int .u32 2428436474, .int .u32 2756734187, .int .u32 3204031479, .int .u32 3329325298] t_uint32 fun a3 w4 => nw w4 [.int .u32 1779033703, .int .u32 3144134277, .int .u32 1013904242, .int .u32 2773480762, .int .u32 1359893119, .int .u32 2600822924, .int .u32 528734635, .int .u32 1541459225] t_uint32 fun a5 w6 => cl Tryd.prog n_flumeref08_Sum #[.slice (some a5) 8 8, .slice (some a3) 64 64, .slice p0.a p0.n p0.c] (.row 32) w6 fun (x7 : {l : List Value // l.length = 32}) w8 => stL a1 w8 0 x7.1 fun w9 => ld (.row 32) w9 a1 fun (r10 : {l : List Value // l.length = 32}) => Q r10 w9
theorem flumeref08_Quick.t (p0 : Sl) (Q : {l : List Value // l.length = 32} → World → Prop) (w : World) : flumeref08_Quick p0 Q w = fvc Tryd.prog (fun _ => []) Tryd.f37 (.row 32) [Kd.av .L p0] w Q := by kernel_rfl
theorem flumeref08_Quick.k : fnOk Tryd.prog Tryd.f37 = true := by kernel_rfl
theorem flumeref08_Quick.cl {p0 : Sl} {Q : {l : List Value // l.length = 32} → World → Prop} {w : World} (h : flumeref08_Quick p0 Q w) : cl Tryd.prog n_flumeref08_Quick #[.slice p0.a p0.n p0.c] (.row 32) w Q :=
  cl_tie Tryd.func37 flumeref08_Quick.k (args := [Kd.av .L p0]) (flumeref08_Quick.t p0 Q w) h

/-- flume/flumeref07.Shorten -/
def an_flumeref07_Shorten : Nat → LA
  | 3 => [(3, .L), (4, .L), (5, (.I .i64))] | _ => []
def flumeref07_Shorten (p0 : Sl) (Q : Sl → World → Prop) (w : World) : Prop :=
 lp (α := (Sl × (Sl × (Int × Unit)))) (fun K => K (⟨none, 0, 0⟩, (⟨none, 0, 0⟩, (0, ())))) w fun D3 J4 s1 w2 =>
 bif (decide (s1.2.2.1 < (p0.n : Int))) then
  (cl Tryd.prog n_flumeref07_Longest #[.slice p0.a p0.n p0.c, .int .i64 s1.2.2.1] (.tup (.pair (.I .i64) (.pair (.I .i64) .nil))) w2 fun (x5 : (Int × (Int × Unit))) w6 => bif (decide (x5.2.1 < 3)) then
  (ixa p0.a p0.n s1.2.2.1 1 fun a7 => ld (.I .u8) w6 a7 fun (x8 : Int) => nw w6 [.int .u8 x8] t_uint8 fun a9 w10 => app Tryd.prog t_s_uint8 t_s_uint8 s1.2.1 ⟨(some a9), 1, 1⟩ w10 fun r11 w12 => J4 (s1.1, (r11, ((IntKind.i64.wrap (s1.2.2.1 + 1)), ()))) w12)
  else cl Tryd.prog n_flumeref07_plain #[.slice s1.2.1.a s1.2.1.n s1.2.1.c] .L w6 fun (x13 : Sl) w14 => app Tryd.prog t_s_uint8 t_s_uint8 s1.1 x13 w14 fun r15 w16 => nw w16 [.int .u8 (IntKind.u8.wrap (IntKind.i64.wrap (x5.2.1 + 125)))] t_uint8 fun a17 w18 => app Tryd.prog t_s_uint8 t_s_uint8 r15 ⟨(some a17), 1, 1⟩ w18 fun r19 w20 => cl Tryd.prog n_flumeref02_Number #[.slice r19.a r19.n r19.c, .int .i64 x5.1] .L w20 fun (x21 : Sl) w22 => J4 (x21, (⟨none, 0, 0⟩, ((IntKind.i64.wrap (s1.2.2.1 + x5.2.1)), ()))) w22)
  else cl Tryd.prog n_flumeref07_plain #[.slice s1.2.1.a s1.2.1.n s1.2.1.c] .L w2 fun (x23 : Sl) w24 => app Tryd.prog t_s_uint8 t_s_uint8 s1.1 x23 w24 fun r25 w26 => Q r25 w26
theorem flumeref07_Shorten.t (p0 : Sl) (Q : Sl → World → Prop) (w : World) : flumeref07_Shorten p0 Q w = fvc Tryd.prog an_flumeref07_Shorten Tryd.f38 .L [Kd.av .L p0] w Q := by kernel_rfl
theorem flumeref07_Shorten.k : fnOk Tryd.prog Tryd.f38 = true := by kernel_rfl
theorem flumeref07_Shorten.cl {p0 : Sl} {Q : Sl → World → Prop} {w : World} (h : flumeref07_Shorten p0 Q w) : cl Tryd.prog n_flumeref07_Shorten #[.slice p0.a p0.n p0.c] .L w Q :=
  cl_tie Tryd.func38 flumeref07_Shorten.k (args := [Kd.av .L p0]) (flumeref07_Shorten.t p0 Q w) h

/-- flume/flumeref07.Restore -/
def an_flumeref07_Restore : Nat → LA
  | 3 => [(6, .L), (7, (.I .i64))] | 22 => [(6, .L), (106, (.I .i64))] | _ => []
def flumeref07_Restore (p0 : Sl) (p1 : Int) (Q : (Sl × (Int × Unit)) → World → Prop) (w : World) : Prop :=
 lp (α := (Sl × (Int × Unit))) (fun K => K (⟨none, 0, 0⟩, (0, ()))) w fun D3 J4 s1 w2 =>
 bif (decide (s1.2.1 < (p0.n : Int))) then
  (ixa p0.a p0.n s1.2.1 1 fun a5 => ld (.I .u8) w2 a5 fun (x6 : Int) => bif (decide ((IntKind.i64.wrap x6) < 128)) then
  (bif (decide ((IntKind.i64.wrap ((p0.n : Int) - (IntKind.i64.wrap (s1.2.1 + 1)))) < (IntKind.i64.wrap ((IntKind.i64.wrap x6) + 1)))) then
   (Q (⟨none, 0, 0⟩, (2, ())) w2)
   else bif (decide ((IntKind.i64.wrap ((IntKind.i64.wrap x6) + 1)) > p1)) then
   (Q (⟨none, 0, 0⟩, (71, ())) w2)
   else bif (decide ((s1.1.n : Int) > (IntKind.i64.wrap ((IntKind.i64.wrap (p1 - (IntKind.i64.wrap x6))) - 1)))) then
   (Q (⟨none, 0, 0⟩, (71, ())) w2)
   else sls p0 (IntKind.i64.wrap (s1.2.1 + 1)) (IntKind.i64.wrap ((IntKind.i64.wrap ((IntKind.i64.wrap (s1.2.1 + 1)) + (IntKind.i64.wrap x6))) + 1)) 1 fun r7 => app Tryd.prog t_s_uint8 t_s_uint8 s1.1 r7 w2 fun r8 w9 => J4 (r8, ((IntKind.i64.wrap ((IntKind.i64.wrap (s1.2.1 + 1)) + (IntKind.i64.wrap ((IntKind.i64.wrap x6) + 1)))), ())) w9)
  else sls p0 (IntKind.i64.wrap (s1.2.1 + 1)) p0.n 1 fun r10 => cl Tryd.prog n_flumeref02_Look #[.slice r10.a r10.n r10.c] (.tup (.pair (.I .i64) (.pair (.I .i64) (.pair (.I .i64) .nil)))) w2 fun (x11 : (Int × (Int × (Int × Unit)))) w12 => bif (x11.2.2.1 == 2) then
  (Q (⟨none, 0, 0⟩, (2, ())) w12)
  else bif (x11.2.2.1 != 0) then
  (Q (⟨none, 0, 0⟩, (70, ())) w12)
  else bif (decide ((IntKind.i64.wrap x6) > 191)) then
  (Q (⟨none, 0, 0⟩, (70, ())) w12)
  else bif (decide (x11.1 < 1)) then
  (Q (⟨none, 0, 0⟩, (70, ())) w12)
  else bif (decide (x11.1 > 512)) then
  (Q (⟨none, 0, 0⟩, (70, ())) w12)
  else bif (decide (x11.1 > (s1.1.n : Int))) then
  (Q (⟨none, 0, 0⟩, (70, ())) w12)
  else bif (decide ((IntKind.i64.wrap ((IntKind.i64.wrap x6) - 125)) > p1)) then
  (Q (⟨none, 0, 0⟩, (71, ())) w12)
  else bif (decide ((s1.1.n : Int) > (IntKind.i64.wrap (p1 - (IntKind.i64.wrap ((IntKind.i64.wrap x6) - 125)))))) then
  (Q (⟨none, 0, 0⟩, (71, ())) w12)
  else lp (α := (Sl × (Int × Unit))) (fun K => K (s1.1, (0, ()))) w12 fun D15 J16 s13 w14 =>
  bif (decide (s13.2.1 < (IntKind.i64.wrap ((IntKind.i64.wrap x6) - 125)))) then
   (ixa s13.1.a s13.1.n (IntKind.i64.wrap ((s13.1.n : Int) - x11.1)) 1 fun a17 => ld (.I .u8) w14 a17 fun (x18 : Int) => nw w14 [.int .u8 x18] t_uint8 fun a19 w20 => app Tryd.prog t_s_uint8 t_s_uint8 s13.1 ⟨(some a19), 1, 1⟩ w20 fun r21 w22 => J16 (r21, ((IntKind.i64.wrap (s13.2.1 + 1)), ())) w22)
   else J4 (s13.1, ((IntKind.i64.wrap ((IntKind.i64.wrap (s1.2.1 + 1)) + x11.2.1)), ())) w14)
  else Q (s1.1, (0, ())) w2
theorem flumeref07_Restore.t (p0 : Sl) (p1 : Int) (Q : (Sl × (Int × Unit)) → World → Prop) (w : World) : flumeref07_Restore p0 p1 Q w = fvc Tryd.prog an_flumeref07_Restore Tryd.f39 (.tup (.pair .L (.pair (.I .i64) .nil))) [Kd.av .L p0, Kd.av (.I .i64) p1] w Q := by kernel_rfl
theorem flumeref07_Restore.k : fnOk Tryd.prog Tryd.f39 = true := by kernel_rfl
theorem flumeref07_Restore.cl {p0 : Sl} {p1 : Int} {Q : (Sl × (Int × Unit)) → World → Prop} {w : World} (h : flumeref07_Restore p0 p1 Q w) : cl Tryd.prog n_flumeref07_Restore #[.slice p0.a p0.n p0.c, .int .i64 p1] (.tup (.pair .L (.pair (.I .i64) .nil))) w Q :=
  cl_tie Tryd.func39 flumeref07_Restore.k (args := [Kd.av .L p0, Kd.av (.I .i64) p1]) (flumeref07_Restore.t p0 p1 Q w) h

/-- flume/octet.Number -/
def an_octet_Number : Nat → LA
  | 8 => [(8, .L), (9, (.I .i64))] | _ => []
def octet_Number (p0 : Sl) (p1 : Int) (Q : Sl → World → Prop) (w : World) : Prop :=
 cl Tryd.prog n_octet_more #[.int .u64 (IntKind.u64.wrap (max p1 0))] (.I .i64) w fun (x1 : Int) w2 => bif decide (0 ≤ (IntKind.i64.wrap (8 - x1))) then (let j1 := (fun (y19 : Int) (w20 : World) =>
   mks Tryd.prog t_s_uint8 0 (IntKind.i64.wrap ((p0.n : Int) + 9)) w20 fun r21 w22 => app Tryd.prog t_s_uint8 t_s_uint8 r21 p0 w22 fun r23 w24 => nw w24 [.int .u8 y19] t_uint8 fun a25 w26 => app Tryd.prog t_s_uint8 t_s_uint8 r23 ⟨(some a25), 1, 1⟩ w26 fun r27 w28 => lp (α := (Sl × (Int × Unit))) (fun K => K (r27, ((IntKind.i64.wrap (x1 - 1)), ()))) w28 fun D31 J32 s29 w30 =>
 bif (decide (s29.2.1 ≥ 0)) then
  (bif decide (0 ≤ (IntKind.i64.wrap (8 * s29.2.1))) then (nw w30 [.int .u8 (IntKind.u8.wrap ((IntKind.u64.wrap (max p1 0)) / 2 ^ (min (Int.toNat (IntKind.i64.wrap (8 * s29.2.1))) 64)))] t_uint8 fun a33 w34 => app Tryd.prog t_s_uint8 t_s_uint8 s29.1 ⟨(some a33), 1, 1⟩ w34 fun r35 w36 => J32 (r35, ((IntKind.i64.wrap (s29.2.1 - 1)), ())) w36) else False)
  else Q s29.1 w30);
 bif (decide (x1 < 8)) then
 (bif decide (0 ≤ (IntKind.i64.wrap (8 * x1))) then (j1 (bits .or .u8 (IntKind.u8.wrap (255 * 2 ^ (min (Int.toNat (IntKind.i64.wrap (8 - x1))) 8))) (IntKind.u8.wrap ((IntKind.u64.wrap (max p1 0)) / 2 ^ (min (Int.toNat (IntKind.i64.wrap (8 * x1))) 64)))) w2) else False)
 else j1 (IntKind.u8.wrap (255 * 2 ^ (min (Int.toNat (IntKind.i64.wrap (8 - x1))) 8))) w2) else False
theorem octet_Number.t (p0 : Sl) (p1 : Int) (Q : Sl → World → Prop) (w : World) : octet_Number p0 p1 Q w = fvc Tryd.prog an_octet_Number Tryd.f40 .L [Kd.av .L p0, Kd.av (.I .i64) p1] w Q := by kernel_rfl
theorem octet_Number.k : fnOk Tryd.prog Tryd.f40 = true := by kernel_rfl
theorem octet_Number.cl {p0 : Sl} {p1 : Int} {Q : Sl → World → Prop} {w : World} (h : octet_Number p0 p1 Q w) : cl Tryd.prog n_octet_Number #[.slice p0.a p0.n p0.c, .int .i64 p1] .L w Q :=
  cl_tie Tryd.func40 octet_Number.k (args := [Kd.av .L p0, Kd.av (.I .i64) p1]) (octet_Number.t p0 p1 Q w) h
end Go.Proofs.YtkojpppnjloikaaDoor
set_option linter.unusedVariables false
set_option maxHeartbeats 4000000
namespace Go.Proofs.YtkojpppnjloikaaDoor
open Go.Fl
/-- flume/record.put -/
def an_record_put : Nat → LA
  | 1000002 => [(0, .nil)] | 4000002 => [(0, .nil)] | _ => []
def record_put (p0 : Sl) (p1 : (Int × (Int × ({l : List Value // l.length = 32} × (Sl × Unit))))) (Q : Sl → World → Prop) (w : World) : Prop :=
 nw w ((([.int .i64 p1.1, .int .i64 p1.2.1] : List Value) ++ (p1.2.2.1.1 ++ ([.slice p1.2.2.2.1.a p1.2.2.2.1.n p1.2.2.2.1.c] : List Value)))) t_api_Record fun a1 w2 => ld (.I .i64) w2 a1 fun (x3 : Int) => ld (.I .i64) w2 (a1.add 1) fun (x4 : Int) => nw w2 [.int .i64 x3, .int .i64 x4] t_int fun a5 w6 => cl Tryd.prog n_octet_Numbers #[.slice p0.a p0.n p0.c, .slice (some a5) 2 2] .L w6 fun (x7 : Sl) w8 => dr w8 fun w9 => (qn Tryd.prog (Instr.sliceAt t_api_Sum (.pointer (some (a1.add 2))) none none none) .L w9 fun (r10 : Sl) => (app Tryd.prog t_s_uint8 t_s_uint8 x7 r10 w9 fun r11 w12 => ld .L w12 (a1.add 34) fun (x13 : Sl) => cl Tryd.prog n_octet_Text #[.slice r11.a r11.n r11.c, .slice x13.a x13.n x13.c] .L w12 fun (x14 : Sl) w15 => Q x14 w15) ∧ (ld .L w9 (a1.add 34) fun (x16 : Sl) => app Tryd.prog t_s_uint8 t_s_uint8 x7 r10 w9 fun r17 w18 => cl Tryd.prog n_octet_Text #[.slice r17.a r17.n r17.c, .slice x16.a x16.n x16.c] .L w18 fun (x19 : Sl) w20 => Q x19 w20)) ∧ (ld .L w9 (a1.add 34) fun (x21 : Sl) => qn Tryd.prog (Instr.sliceAt t_api_Sum (.pointer (some (a1.add 2))) none none none) .L w9 fun (r22 : Sl) => app Tryd.prog t_s_uint8 t_s_uint8 x7 r22 w9 fun r23 w24 => cl Tryd.prog n_octet_Text #[.slice r23.a r23.n r23.c, .slice x21.a x21.n x21.c] .L w24 fun (x25 : Sl) w26 => Q x25 w26)
theorem record_put.t (p0 : Sl) (p1 : (Int × (Int × ({l : List Value // l.length = 32} × (Sl × Unit))))) (Q : Sl → World → Prop) (w : World) : record_put p0 p1 Q w = fvc Tryd.prog an_record_put Tryd.f41 .L [Kd.av .L p0, Kd.av (.pair (.I .i64) (.pair (.I .i64) (.pair (.row 32) (.pair .L .nil)))) p1] w Q := by kernel_rfl
theorem record_put.k : fnOk Tryd.prog Tryd.f41 = true := by kernel_rfl
theorem record_put.cl {p0 : Sl} {p1 : (Int × (Int × ({l : List Value // l.length = 32} × (Sl × Unit))))} {Q : Sl → World → Prop} {w : World} (h : record_put p0 p1 Q w) : cl Tryd.prog n_record_put #[.slice p0.a p0.n p0.c, .agg ((([.int .i64 p1.1, .int .i64 p1.2.1] : List Value) ++ (p1.2.2.1.1 ++ ([.slice p1.2.2.2.1.a p1.2.2.2.1.n p1.2.2.2.1.c] : List Value)))).toArray] .L w Q :=
  cl_tie Tryd.func41 record_put.k (args := [Kd.av .L p0, Kd.av (.pair (.I .i64) (.pair (.I .i64) (.pair (.row 32) (.pair .L .nil)))) p1]) (record_put.t p0 p1 Q w) h

/-- flume/flumeref02.Number -/
def an_flumeref02_Number : Nat → LA
  | 5 => [(1, (.I .i64)), (6, .L), (13, (.I .i64))] | _ => []
def flumeref02_Number (p0 : Sl) (p1 : Int) (Q : Sl → World → Prop) (w : World) : Prop :=
 cl Tryd.prog n_flumeref02_Follow #[.int .i64 (max p1 0)] (.I .i64) w fun (x1 : Int) w2 => lp (α := (Int × (Sl × (Int × Unit)))) (fun K => K ((max p1 0), (⟨none, 0, 0⟩, (0, ())))) w2 fun D5 J6 s3 w4 =>
 bif (decide (s3.2.2.1 < x1)) then
  (nw w4 [.int .u8 (IntKind.u8.wrap (Int.tmod s3.1 256))] t_uint8 fun a7 w8 => app Tryd.prog t_s_uint8 t_s_uint8 ⟨(some a7), 1, 1⟩ s3.2.1 w8 fun r9 w10 => J6 ((IntKind.i64.wrap (Int.tdiv s3.1 256)), (r9, ((IntKind.i64.wrap (s3.2.2.1 + 1)), ()))) w10)
  else nw w4 [] t_uint8 fun a11 w12 => app Tryd.prog t_s_uint8 t_s_uint8 ⟨(some a11), 0, 0⟩ p0 w12 fun r13 w14 => cl Tryd.prog n_flumeref02_Lead #[.int .i64 x1] (.I .i64) w14 fun (x15 : Int) w16 => nw w16 [.int .u8 (IntKind.u8.wrap (IntKind.i64.wrap (x15 + s3.1)))] t_uint8 fun a17 w18 => app Tryd.prog t_s_uint8 t_s_uint8 r13 ⟨(some a17), 1, 1⟩ w18 fun r19 w20 => app Tryd.prog t_s_uint8 t_s_uint8 r19 s3.2.1 w20 fun r21 w22 => Q r21 w22
theorem flumeref02_Number.t (p0 : Sl) (p1 : Int) (Q : Sl → World → Prop) (w : World) : flumeref02_Number p0 p1 Q w = fvc Tryd.prog an_flumeref02_Number Tryd.f42 .L [Kd.av .L p0, Kd.av (.I .i64) p1] w Q := by kernel_rfl
theorem flumeref02_Number.k : fnOk Tryd.prog Tryd.f42 = true := by kernel_rfl
theorem flumeref02_Number.cl {p0 : Sl} {p1 : Int} {Q : Sl → World → Prop} {w : World} (h : flumeref02_Number p0 p1 Q w) : cl Tryd.prog n_flumeref02_Number #[.slice p0.a p0.n p0.c, .int .i64 p1] .L w Q :=
  cl_tie Tryd.func42 flumeref02_Number.k (args := [Kd.av .L p0, Kd.av (.I .i64) p1]) (flumeref02_Number.t p0 p1 Q w) h

/-- flume/flumeref02.Text -/
def flumeref02_Text (p0 : Sl) (p1 : Sl) (Q : Sl → World → Prop) (w : World) : Prop :=
 cl Tryd.prog n_flumeref02_Number #[.slice p0.a p0.n p0.c, .int .i64 (p1.n : Int)] .L w fun (x1 : Sl) w2 => app Tryd.prog t_s_uint8 t_s_uint8 x1 p1 w2 fun r3 w4 => Q r3 w4
theorem flumeref02_Text.t (p0 : Sl) (p1 : Sl) (Q : Sl → World → Prop) (w : World) : flumeref02_Text p0 p1 Q w = fvc Tryd.prog (fun _ => []) Tryd.f43 .L [Kd.av .L p0, Kd.av .L p1] w Q := by kernel_rfl
theorem flumeref02_Text.k : fnOk Tryd.prog Tryd.f43 = true := by kernel_rfl
theorem flumeref02_Text.cl {p0 : Sl} {p1 : Sl} {Q : Sl → World → Prop} {w : World} (h : flumeref02_Text p0 p1 Q w) : cl Tryd.prog n_flumeref02_Text #[.slice p0.a p0.n p0.c, .slice p1.a p1.n p1.c] .L w Q :=
  cl_tie Tryd.func43 flumeref02_Text.k (args := [Kd.av .L p0, Kd.av .L p1]) (flumeref02_Text.t p0 p1 Q w) h

/-- (*flume/lz.chains).best -/
def an_lz_chains_best : Nat → LA
  | 4 => [(4, (.I .i64)), (5, (.I .i64)), (6, (.I .i64))] | 1000003 => [(0, .nil)] | _ => []
def lz_chains_best (p0 : Option Addr) (p1 : Int) (Q : (Int × (Int × Unit)) → World → Prop) (w : World) : Prop :=
 nz p0 fun a1 => ld .L w a1 fun (x2 : Sl) => bif (decide ((IntKind.i64.wrap (p1 + 3)) > (x2.n : Int))) then
 (Q (0, (0, ())) w)
 else dr w fun w3 => nz p0 fun a4 => ld .M w3 (a4.add 1) fun (x5 : Option Nat) => cl Tryd.prog n_lz_chains_at #[.pointer p0, .int .i64 p1] (.row 3) w3 fun (x6 : {l : List Value // l.length = 3}) w7 => Fr w3 w7 ∧ qn Tryd.prog (Instr.lookup t_map_3_uint8_int (.map x5) (.agg (x6.1).toArray) false) (.I .i64) w7 fun (x8 : Int) => lp (α := (Int × (Int × (Int × Unit)))) (fun K => K (0, (0, (x8, ())))) w7 fun D11 J12 s9 w10 =>
 bif (decide (s9.2.2.1 > 0)) then
  (bif (decide ((IntKind.i64.wrap (p1 - (IntKind.i64.wrap (s9.2.2.1 - 1)))) ≤ 512)) then
  (cl Tryd.prog n_lz_chains_alike #[.pointer p0, .int .i64 (IntKind.i64.wrap (s9.2.2.1 - 1)), .int .i64 p1] (.I .i64) w10 fun (x13 : Int) w14 => bif (decide (x13 > s9.2.1)) then
  (nz p0 fun a15 => ld .L w14 (a15.add 2) fun (x16 : Sl) => ixa x16.a x16.n (IntKind.i64.wrap (s9.2.2.1 - 1)) 1 fun a17 => ld (.I .i64) w14 a17 fun (x18 : Int) => J12 ((IntKind.i64.wrap (p1 - (IntKind.i64.wrap (s9.2.2.1 - 1)))), (x13, (x18, ()))) w14)
  else nz p0 fun a19 => ld .L w14 (a19.add 2) fun (x20 : Sl) => ixa x20.a x20.n (IntKind.i64.wrap (s9.2.2.1 - 1)) 1 fun a21 => ld (.I .i64) w14 a21 fun (x22 : Int) => J12 (s9.1, (s9.2.1, (x22, ()))) w14)
  else Q (s9.1, (s9.2.1, ())) w10)
  else Q (s9.1, (s9.2.1, ())) w10
theorem lz_chains_best.t (p0 : Option Addr) (p1 : Int) (Q : (Int × (Int × Unit)) → World → Prop) (w : World) : lz_chains_best p0 p1 Q w = fvc Tryd.prog an_lz_chains_best Tryd.f44 (.tup (.pair (.I .i64) (.pair (.I .i64) .nil))) [Kd.av .P p0, Kd.av (.I .i64) p1] w Q := by kernel_rfl
theorem lz_chains_best.k : fnOk Tryd.prog Tryd.f44 = true := by kernel_rfl
theorem lz_chains_best.cl {p0 : Option Addr} {p1 : Int} {Q : (Int × (Int × Unit)) → World → Prop} {w : World} (h : lz_chains_best p0 p1 Q w) : cl Tryd.prog n_lz_chains_best #[.pointer p0, .int .i64 p1] (.tup (.pair (.I .i64) (.pair (.I .i64) .nil))) w Q :=
  cl_tie Tryd.func44 lz_chains_best.k (args := [Kd.av .P p0, Kd.av (.I .i64) p1]) (lz_chains_best.t p0 p1 Q w) h

/-- (*flume/lz.chains).put -/
def an_lz_chains_put : Nat → LA
  | 1000002 => [(0, .nil)] | 1000003 => [(0, .nil)] | _ => []
def lz_chains_put (p0 : Option Addr) (p1 : Int) (Q : Unit → World → Prop) (w : World) : Prop :=
 nz p0 fun a1 => ld .L w a1 fun (x2 : Sl) => bif (decide ((IntKind.i64.wrap (p1 + 3)) ≤ (x2.n : Int))) then
 (cl Tryd.prog n_lz_chains_at #[.pointer p0, .int .i64 p1] (.row 3) w fun (x3 : {l : List Value // l.length = 3}) w4 => nw w4 ((zrow 3 (.int .u8 0)).1) t_3_uint8 fun a5 w6 => stL a5 w6 0 x3.1 fun w7 => dr w7 fun w8 => nz p0 fun a9 => ld .L w8 (a9.add 2) fun (x10 : Sl) => nz p0 fun a11 => ld .M w8 (a11.add 1) fun (x12 : Option Nat) => ld (.row 3) w8 a5 fun (x13 : {l : List Value // l.length = 3}) => qn Tryd.prog (Instr.lookup t_map_3_uint8_int (.map x12) (.agg (x13.1).toArray) false) (.I .i64) w8 fun (x14 : Int) => ixa x10.a x10.n p1 1 fun a15 => st1 w8 a15 (.int .i64 x14) fun w16 => dr w16 fun w17 => nz p0 fun a18 => ld .M w17 (a18.add 1) fun (x19 : Option Nat) => ld (.row 3) w17 a5 fun (x20 : {l : List Value // l.length = 3}) => ru Tryd.prog (Instr.mapUpdate t_map_3_uint8_int (.map x19) (.agg (x20.1).toArray) (.int .i64 (IntKind.i64.wrap (p1 + 1)))) w17 fun w21 => Q () w21)
 else Q () w
theorem lz_chains_put.t (p0 : Option Addr) (p1 : Int) (Q : Unit → World → Prop) (w : World) : lz_chains_put p0 p1 Q w = fvc Tryd.prog an_lz_chains_put Tryd.f45 (.tup .nil) [Kd.av .P p0, Kd.av (.I .i64) p1] w Q := by kernel_rfl
theorem lz_chains_put.k : fnOk Tryd.prog Tryd.f45 = true := by kernel_rfl
theorem lz_chains_put.cl {p0 : Option Addr} {p1 : Int} {Q : Unit → World → Prop} {w : World} (h : lz_chains_put p0 p1 Q w) : cl Tryd.prog n_lz_chains_put #[.pointer p0, .int .i64 p1] (.tup .nil) w Q :=
  cl_tie Tryd.func45 lz_chains_put.k (args := [Kd.av .P p0, Kd.av (.I .i64) p1]) (lz_chains_put.t p0 p1 Q w) h

/-- flume/octet.Read -/
def octet_Read (p0 : Sl) (Q : Option Addr → World → Prop) (w : World) : Prop :=
 nw w [] t_uint8 fun a1 w2 => app Tryd.prog t_s_uint8 t_s_uint8 ⟨(some a1), 0, 0⟩ p0 w2 fun r3 w4 => nw w4 ([.slice r3.a r3.n r3.c, .bool true]) t_octet_Reader fun a5 w6 => Q (some a5) w6
theorem octet_Read.t (p0 : Sl) (Q : Option Addr → World → Prop) (w : World) : octet_Read p0 Q w = fvc Tryd.prog (fun _ => []) Tryd.f47 .P [Kd.av .L p0] w Q := by kernel_rfl
theorem octet_Read.k : fnOk Tryd.prog Tryd.f47 = true := by kernel_rfl
theorem octet_Read.cl {p0 : Sl} {Q : Option Addr → World → Prop} {w : World} (h : octet_Read p0 Q w) : cl Tryd.prog n_octet_Read #[.slice p0.a p0.n p0.c] .P w Q :=
  cl_tie Tryd.func47 octet_Read.k (args := [Kd.av .L p0]) (octet_Read.t p0 Q w) h

/-- (*flume/octet.Reader).Number -/
def octet_Reader_Number (p0 : Option Addr) (Q : (Int × (Int × Unit)) → World → Prop) (w : World) : Prop :=
 bif p0.isNone then
 (Q (0, (6, ())) w)
 else nz p0 fun a1 => ld .B w (a1.add 1) fun (x2 : Bool) => bif (!x2) then
 (Q (0, (6, ())) w)
 else nz p0 fun a3 => ld .L w a3 fun (x4 : Sl) => cl Tryd.prog n_octet_look #[.slice x4.a x4.n x4.c] (.tup (.pair (.I .i64) (.pair (.I .i64) (.pair (.I .i64) .nil)))) w fun (x5 : (Int × (Int × (Int × Unit)))) w6 => nz p0 fun a7 => ld .L w6 a7 fun (x8 : Sl) => sls x8 x5.2.1 x8.n 1 fun r9 => nz p0 fun a10 => st1 w6 a10 (.slice r9.a r9.n r9.c) fun w11 => Q (x5.1, (x5.2.2.1, ())) w11
theorem octet_Reader_Number.t (p0 : Option Addr) (Q : (Int × (Int × Unit)) → World → Prop) (w : World) : octet_Reader_Number p0 Q w = fvc Tryd.prog (fun _ => []) Tryd.f48 (.tup (.pair (.I .i64) (.pair (.I .i64) .nil))) [Kd.av .P p0] w Q := by kernel_rfl
theorem octet_Reader_Number.k : fnOk Tryd.prog Tryd.f48 = true := by kernel_rfl
theorem octet_Reader_Number.cl {p0 : Option Addr} {Q : (Int × (Int × Unit)) → World → Prop} {w : World} (h : octet_Reader_Number p0 Q w) : cl Tryd.prog n_octet_Reader_Number #[.pointer p0] (.tup (.pair (.I .i64) (.pair (.I .i64) .nil))) w Q :=
  cl_tie Tryd.func48 octet_Reader_Number.k (args := [Kd.av .P p0]) (octet_Reader_Number.t p0 Q w) h

/-- flume/record.take -/
def an_record_take : Nat → LA
  | 8 => [(29, (.I .i64))] | _ => []
def record_take (p0 : Option Addr) (Q : ((Int × (Int × ({l : List Value // l.length = 32} × (Sl × Unit)))) × (Int × Unit)) → World → Prop) (w : World) : Prop :=
 nw w (([.int .i64 0, .int .i64 0] : List Value) ++ ((zrow 32 (.int .u8 0)).1 ++ ([.slice none 0 0] : List Value))) t_api_Record fun a1 w2 => nw w2 (([.int .i64 0, .int .i64 0] : List Value) ++ ((zrow 32 (.int .u8 0)).1 ++ ([.slice none 0 0] : List Value))) t_api_Record fun a3 w4 => cl Tryd.prog n_octet_Reader_Number #[.pointer p0] (.tup (.pair (.I .i64) (.pair (.I .i64) .nil))) w4 fun (x5 : (Int × (Int × Unit))) w6 => st1 w6 a3 (.int .i64 x5.1) fun w7 => cl Tryd.prog n_octet_Reader_Number #[.pointer p0] (.tup (.pair (.I .i64) (.pair (.I .i64) .nil))) w7 fun (x8 : (Int × (Int × Unit))) w9 => st1 w9 (a3.add 1) (.int .i64 x8.1) fun w10 => let j1 := (fun (y16 : Bool) (w17 : World) =>
   bif y16 then
 (st1 w17 a1 (.int .i64 0) fun w18 => st1 w18 (a1.add 1) (.int .i64 0) fun w19 => stL ((a1.add 1).add 1) w19 0 (zrow 32 (.int .u8 0)).1 fun w20 => st1 w20 (((a1.add 1).add 1).add 32) (.slice none 0 0) fun w21 => ld (.pair (.I .i64) (.pair (.I .i64) (.pair (.row 32) (.pair .L .nil)))) w21 a1 fun (r22 : (Int × (Int × ({l : List Value // l.length = 32} × (Sl × Unit))))) => Q ((r22.1, (r22.2.1, (r22.2.2.1, (r22.2.2.2.1, ())))), (100, ())) w21)
 else lp (α := (Int × Unit)) (fun K => K (0, ())) w17 fun D25 J26 s23 w24 =>
 bif (decide (s23.1 < 32)) then
  (cl Tryd.prog n_octet_Reader_Byte #[.pointer p0] (.tup (.pair (.I .u8) (.pair (.I .i64) .nil))) w24 fun (x27 : (Int × (Int × Unit))) w28 => bif (x27.2.1 != 0) then
  (st1 w28 a1 (.int .i64 0) fun w29 => st1 w29 (a1.add 1) (.int .i64 0) fun w30 => stL ((a1.add 1).add 1) w30 0 (zrow 32 (.int .u8 0)).1 fun w31 => st1 w31 (((a1.add 1).add 1).add 32) (.slice none 0 0) fun w32 => ld (.pair (.I .i64) (.pair (.I .i64) (.pair (.row 32) (.pair .L .nil)))) w32 a1 fun (r33 : (Int × (Int × ({l : List Value // l.length = 32} × (Sl × Unit))))) => Q ((r33.1, (r33.2.1, (r33.2.2.1, (r33.2.2.2.1, ())))), (100, ())) w32)
  else ixa (some (a3.add 2)) 32 s23.1 1 fun a34 => st1 w28 a34 (.int .u8 x27.1) fun w35 => J26 ((IntKind.i64.wrap (s23.1 + 1)), ()) w35)
  else cl Tryd.prog n_octet_Reader_Text #[.pointer p0, .int .i64 256] (.tup (.pair .L (.pair (.I .i64) .nil))) w24 fun (x36 : (Sl × (Int × Unit))) w37 => st1 w37 (a3.add 34) (.slice x36.1.a x36.1.n x36.1.c) fun w38 => let j2 := (fun (y47 : Bool) (w48 : World) =>
   bif y47 then
 (st1 w48 a1 (.int .i64 0) fun w49 => st1 w49 (a1.add 1) (.int .i64 0) fun w50 => stL ((a1.add 1).add 1) w50 0 (zrow 32 (.int .u8 0)).1 fun w51 => st1 w51 (((a1.add 1).add 1).add 32) (.slice none 0 0) fun w52 => ld (.pair (.I .i64) (.pair (.I .i64) (.pair (.row 32) (.pair .L .nil)))) w52 a1 fun (r53 : (Int × (Int × ({l : List Value // l.length = 32} × (Sl × Unit))))) => Q ((r53.1, (r53.2.1, (r53.2.2.1, (r53.2.2.2.1, ())))), (100, ())) w52)
 else ld (.pair (.I .i64) (.pair (.I .i64) (.pair (.row 32) (.pair .L .nil)))) w48 a3 fun (x54 : (Int × (Int × ({l : List Value // l.length = 32} × (Sl × Unit))))) => st1 w48 a1 (.int .i64 x54.1) fun w55 => st1 w55 (a1.add 1) (.int .i64 x54.2.1) fun w56 => stL ((a1.add 1).add 1) w56 0 x54.2.2.1.1 fun w57 => st1 w57 (((a1.add 1).add 1).add 32) (.slice x54.2.2.2.1.a x54.2.2.2.1.n x54.2.2.2.1.c) fun w58 => ld (.pair (.I .i64) (.pair (.I .i64) (.pair (.row 32) (.pair .L .nil)))) w58 a1 fun (r59 : (Int × (Int × ({l : List Value // l.length = 32} × (Sl × Unit))))) => Q ((r59.1, (r59.2.1, (r59.2.2.1, (r59.2.2.2.1, ())))), (0, ())) w58);
 bif (x36.2.1 != 0) then
 (j2 true w38)
 else ld (.pair (.I .i64) (.pair (.I .i64) (.pair (.row 32) (.pair .L .nil)))) w38 a3 fun (x39 : (Int × (Int × ({l : List Value // l.length = 32} × (Sl × Unit))))) => cl Tryd.prog n_record_Check #[.agg ((([.int .i64 x39.1, .int .i64 x39.2.1] : List Value) ++ (x39.2.2.1.1 ++ ([.slice x39.2.2.2.1.a x39.2.2.2.1.n x39.2.2.2.1.c] : List Value)))).toArray] (.I .i64) w38 fun (x40 : Int) w41 => j2 (x40 != 0) w41);
 bif (x5.2.1 != 0) then
 (j1 true w10)
 else j1 (x8.2.1 != 0) w10
theorem record_take.t (p0 : Option Addr) (Q : ((Int × (Int × ({l : List Value // l.length = 32} × (Sl × Unit)))) × (Int × Unit)) → World → Prop) (w : World) : record_take p0 Q w = fvc Tryd.prog an_record_take Tryd.f49 (.tup (.pair (.pair (.I .i64) (.pair (.I .i64) (.pair (.row 32) (.pair .L .nil)))) (.pair (.I .i64) .nil))) [Kd.av .P p0] w Q := by kernel_rfl
theorem record_take.k : fnOk Tryd.prog Tryd.f49 = true := by kernel_rfl
theorem record_take.cl {p0 : Option Addr} {Q : ((Int × (Int × ({l : List Value // l.length = 32} × (Sl × Unit)))) × (Int × Unit)) → World → Prop} {w : World} (h : record_take p0 Q w) : cl Tryd.prog n_record_take #[.pointer p0] (.tup (.pair (.pair (.I .i64) (.pair (.I .i64) (.pair (.row 32) (.pair .L .nil)))) (.pair (.I .i64) .nil))) w Q :=
  cl_tie Tryd.func49 record_take.k (args := [Kd.av .P p0]) (record_take.t p0 Q w) h

/-- (*flume/octet.Reader).End -/
def octet_Reader_End (p0 : Option Addr) (Q : Int → World → Prop) (w : World) : Prop :=
 bif p0.isNone then
 (Q 6 w)
 else nz p0 fun a1 => ld .B w (a1.add 1) fun (x2 : Bool) => bif (!x2) then
 (Q 6 w)
 else nz p0 fun a3 => ld .L w a3 fun (x4 : Sl) => bif (decide ((x4.n : Int) > 0)) then
 (Q 3 w)
 else Q 0 w
theorem octet_Reader_End.t (p0 : Option Addr) (Q : Int → World → Prop) (w : World) : octet_Reader_End p0 Q w = fvc Tryd.prog (fun _ => []) Tryd.f50 (.I .i64) [Kd.av .P p0] w Q := by kernel_rfl
theorem octet_Reader_End.k : fnOk Tryd.prog Tryd.f50 = true := by kernel_rfl
theorem octet_Reader_End.cl {p0 : Option Addr} {Q : Int → World → Prop} {w : World} (h : octet_Reader_End p0 Q w) : cl Tryd.prog n_octet_Reader_End #[.pointer p0] (.I .i64) w Q :=
  cl_tie Tryd.func50 octet_Reader_End.k (args := [Kd.av .P p0]) (octet_Reader_End.t p0 Q w) h

/-- (*flume/flumeref02.Reader).Number -/
def an_flumeref02_Reader_Number : Nat → LA
  | 1000001 => [(0, .nil)] | _ => []
def flumeref02_Reader_Number (p0 : Option Addr) (Q : (Int × (Int × Unit)) → World → Prop) (w : World) : Prop :=
 dr w fun w1 => nz p0 fun a2 => ld .L w1 a2 fun (x3 : Sl) => nz p0 fun a4 => ld (.I .i64) w1 (a4.add 1) fun (x5 : Int) => sls x3 x5 x3.n 1 fun r6 => cl Tryd.prog n_flumeref02_Look #[.slice r6.a r6.n r6.c] (.tup (.pair (.I .i64) (.pair (.I .i64) (.pair (.I .i64) .nil)))) w1 fun (x7 : (Int × (Int × (Int × Unit)))) w8 => nz p0 fun a9 => ld (.I .i64) w8 (a9.add 1) fun (x10 : Int) => nz p0 fun a11 => st1 w8 (a11.add 1) (.int .i64 (IntKind.i64.wrap (x10 + x7.2.1))) fun w12 => Q (x7.1, (x7.2.2.1, ())) w12
theorem flumeref02_Reader_Number.t (p0 : Option Addr) (Q : (Int × (Int × Unit)) → World → Prop) (w : World) : flumeref02_Reader_Number p0 Q w = fvc Tryd.prog an_flumeref02_Reader_Number Tryd.f51 (.tup (.pair (.I .i64) (.pair (.I .i64) .nil))) [Kd.av .P p0] w Q := by kernel_rfl
theorem flumeref02_Reader_Number.k : fnOk Tryd.prog Tryd.f51 = true := by kernel_rfl
theorem flumeref02_Reader_Number.cl {p0 : Option Addr} {Q : (Int × (Int × Unit)) → World → Prop} {w : World} (h : flumeref02_Reader_Number p0 Q w) : cl Tryd.prog n_flumeref02_Reader_Number #[.pointer p0] (.tup (.pair (.I .i64) (.pair (.I .i64) .nil))) w Q :=
  cl_tie Tryd.func51 flumeref02_Reader_Number.k (args := [Kd.av .P p0]) (flumeref02_Reader_Number.t p0 Q w) h
end Go.Proofs.YtkojpppnjloikaaDoor
set_option linter.unusedVariables false
set_option maxHeartbeats 4000000
namespace Go.Proofs.YtkojpppnjloikaaDoor
open Go.Fl
/-- (*flume/flumeref02.Reader).Byte -/
def flumeref02_Reader_Byte (p0 : Option Addr) (Q : (Int × (Int × Unit)) → World → Prop) (w : World) : Prop :=
 nz p0 fun a1 => ld (.I .i64) w (a1.add 1) fun (x2 : Int) => nz p0 fun a3 => ld .L w a3 fun (x4 : Sl) => dr w fun w5 => bif (x2 == (x4.n : Int)) then
 (Q (0, (2, ())) w5)
 else nz p0 fun a6 => ld (.I .i64) w5 (a6.add 1) fun (x7 : Int) => nz p0 fun a8 => st1 w5 (a8.add 1) (.int .i64 (IntKind.i64.wrap (x7 + 1))) fun w9 => nz p0 fun a10 => ld .L w9 a10 fun (x11 : Sl) => nz p0 fun a12 => ld (.I .i64) w9 (a12.add 1) fun (x13 : Int) => ixa x11.a x11.n (IntKind.i64.wrap (x13 - 1)) 1 fun a14 => ld (.I .u8) w9 a14 fun (x15 : Int) => dr w9 fun w16 => Q (x15, (0, ())) w16
theorem flumeref02_Reader_Byte.t (p0 : Option Addr) (Q : (Int × (Int × Unit)) → World → Prop) (w : World) : flumeref02_Reader_Byte p0 Q w = fvc Tryd.prog (fun _ => []) Tryd.f52 (.tup (.pair (.I .u8) (.pair (.I .i64) .nil))) [Kd.av .P p0] w Q := by kernel_rfl
theorem flumeref02_Reader_Byte.k : fnOk Tryd.prog Tryd.f52 = true := by kernel_rfl
theorem flumeref02_Reader_Byte.cl {p0 : Option Addr} {Q : (Int × (Int × Unit)) → World → Prop} {w : World} (h : flumeref02_Reader_Byte p0 Q w) : cl Tryd.prog n_flumeref02_Reader_Byte #[.pointer p0] (.tup (.pair (.I .u8) (.pair (.I .i64) .nil))) w Q :=
  cl_tie Tryd.func52 flumeref02_Reader_Byte.k (args := [Kd.av .P p0]) (flumeref02_Reader_Byte.t p0 Q w) h

/-- (*flume/flumeref02.Reader).Text -/
def an_flumeref02_Reader_Text : Nat → LA
  | 1000001 => [(0, .nil)] | 1000009 => [(0, .nil)] | _ => []
def flumeref02_Reader_Text (p0 : Option Addr) (p1 : Int) (Q : (Sl × (Int × Unit)) → World → Prop) (w : World) : Prop :=
 dr w fun w1 => nz p0 fun a2 => ld .L w1 a2 fun (x3 : Sl) => nz p0 fun a4 => ld (.I .i64) w1 (a4.add 1) fun (x5 : Int) => sls x3 x5 x3.n 1 fun r6 => cl Tryd.prog n_flumeref02_Look #[.slice r6.a r6.n r6.c] (.tup (.pair (.I .i64) (.pair (.I .i64) (.pair (.I .i64) .nil)))) w1 fun (x7 : (Int × (Int × (Int × Unit)))) w8 => bif (x7.2.2.1 != 0) then
 (Q (⟨none, 0, 0⟩, (x7.2.2.1, ())) w8)
 else let j1 := (fun  (w30 : World) =>
   nz p0 fun a31 => ld .L w30 a31 fun (x32 : Sl) => nz p0 fun a33 => ld (.I .i64) w30 (a33.add 1) fun (x34 : Int) => dr w30 fun w35 => bif (decide (x7.1 > (IntKind.i64.wrap ((IntKind.i64.wrap ((x32.n : Int) - x34)) - x7.2.1)))) then
 (Q (⟨none, 0, 0⟩, (2, ())) w35)
 else nz p0 fun a36 => ld (.I .i64) w35 (a36.add 1) fun (x37 : Int) => nz p0 fun a38 => st1 w35 (a38.add 1) (.int .i64 (IntKind.i64.wrap (x37 + (IntKind.i64.wrap (x7.2.1 + x7.1))))) fun w39 => dr w39 fun w40 => nz p0 fun a41 => ld .L w40 a41 fun (x42 : Sl) => nz p0 fun a43 => ld (.I .i64) w40 (a43.add 1) fun (x44 : Int) => nz p0 fun a45 => ld (.I .i64) w40 (a45.add 1) fun (x46 : Int) => sls x42 (IntKind.i64.wrap (x44 - x7.1)) x46 1 fun r47 => nw w40 [] t_uint8 fun a48 w49 => Fr w40 w49 ∧ app Tryd.prog t_s_uint8 t_s_uint8 ⟨(some a48), 0, 0⟩ r47 w49 fun r50 w51 => Q (r50, (0, ())) w51);
 bif (decide (x7.1 > p1)) then
 (bif (decide (x7.1 > 0)) then
 (Q (⟨none, 0, 0⟩, (4, ())) w8)
 else j1 w8)
 else j1 w8
theorem flumeref02_Reader_Text.t (p0 : Option Addr) (p1 : Int) (Q : (Sl × (Int × Unit)) → World → Prop) (w : World) : flumeref02_Reader_Text p0 p1 Q w = fvc Tryd.prog an_flumeref02_Reader_Text Tryd.f53 (.tup (.pair .L (.pair (.I .i64) .nil))) [Kd.av .P p0, Kd.av (.I .i64) p1] w Q := by kernel_rfl
theorem flumeref02_Reader_Text.k : fnOk Tryd.prog Tryd.f53 = true := by kernel_rfl
theorem flumeref02_Reader_Text.cl {p0 : Option Addr} {p1 : Int} {Q : (Sl × (Int × Unit)) → World → Prop} {w : World} (h : flumeref02_Reader_Text p0 p1 Q w) : cl Tryd.prog n_flumeref02_Reader_Text #[.pointer p0, .int .i64 p1] (.tup (.pair .L (.pair (.I .i64) .nil))) w Q :=
  cl_tie Tryd.func53 flumeref02_Reader_Text.k (args := [Kd.av .P p0, Kd.av (.I .i64) p1]) (flumeref02_Reader_Text.t p0 p1 Q w) h

/-- flume/lz.step -/
def an_lz_step : Nat → LA
  | 15 => [(67, (.I .i64))] | _ => []
def lz_step (p0 : Sl) (p1 : Sl) (Q : (Sl × (Int × (Int × Unit))) → World → Prop) (w : World) : Prop :=
 ixa p1.a p1.n 0 1 fun a1 => ld (.I .u8) w a1 fun (x2 : Int) => bif (decide (x2 < 128)) then
 (ixa p1.a p1.n 0 1 fun a3 => ld (.I .u8) w a3 fun (x4 : Int) => bif (decide ((p1.n : Int) ≤ (IntKind.i64.wrap ((IntKind.i64.wrap x4) + 1)))) then
  (Q (⟨none, 0, 0⟩, (0, (2, ()))) w)
  else qn Tryd.prog (Instr.sliceAt t_s_uint8 (.slice p1.a p1.n p1.c) (some (.int .i64 1)) (some (.int .i64 (IntKind.i64.wrap ((IntKind.i64.wrap ((IntKind.i64.wrap x4) + 1)) + 1)))) (some (.int .i64 (IntKind.i64.wrap ((IntKind.i64.wrap ((IntKind.i64.wrap x4) + 1)) + 1))))) .L w fun (r5 : Sl) => Q (r5, ((IntKind.i64.wrap ((IntKind.i64.wrap ((IntKind.i64.wrap x4) + 1)) + 1)), (0, ()))) w)
 else ixa p1.a p1.n 0 1 fun a6 => ld (.I .u8) w a6 fun (x7 : Int) => sls p1 1 p1.n 1 fun r8 => cl Tryd.prog n_octet_Read #[.slice r8.a r8.n r8.c] .P w fun (x9 : Option Addr) w10 => cl Tryd.prog n_octet_Reader_Within #[.pointer x9, .int .i64 1, .int .i64 (min 512 (p0.n : Int))] (.tup (.pair (.I .i64) (.pair (.I .i64) .nil))) w10 fun (x11 : (Int × (Int × Unit))) w12 => bif (x11.2.1 == 2) then
 (Q (⟨none, 0, 0⟩, (0, (x11.2.1, ()))) w12)
 else bif (x11.2.1 != 0) then
 (Q (⟨none, 0, 0⟩, (0, (70, ()))) w12)
 else bif (decide ((IntKind.i64.wrap ((IntKind.i64.wrap ((IntKind.i64.wrap x7) - 128)) + 3)) > 66)) then
 (Q (⟨none, 0, 0⟩, (0, (70, ()))) w12)
 else mks Tryd.prog t_s_uint8 (IntKind.i64.wrap ((IntKind.i64.wrap ((IntKind.i64.wrap x7) - 128)) + 3)) (IntKind.i64.wrap ((IntKind.i64.wrap ((IntKind.i64.wrap x7) - 128)) + 3)) w12 fun r13 w14 => lp (α := (Int × Unit)) (fun K => K (0, ())) w14 fun D17 J18 s15 w16 =>
 bif (decide (s15.1 < (r13.n : Int))) then
  (bif (decide (s15.1 < x11.1)) then
  (ixa p0.a p0.n (IntKind.i64.wrap ((IntKind.i64.wrap ((p0.n : Int) - x11.1)) + s15.1)) 1 fun a19 => ld (.I .u8) w16 a19 fun (x20 : Int) => ixa r13.a r13.n s15.1 1 fun a21 => st1 w16 a21 (.int .u8 x20) fun w22 => J18 ((IntKind.i64.wrap (s15.1 + 1)), ()) w22)
  else ixa r13.a r13.n (IntKind.i64.wrap (s15.1 - x11.1)) 1 fun a23 => ld (.I .u8) w16 a23 fun (x24 : Int) => ixa r13.a r13.n s15.1 1 fun a25 => st1 w16 a25 (.int .u8 x24) fun w26 => J18 ((IntKind.i64.wrap (s15.1 + 1)), ()) w26)
  else cl Tryd.prog n_octet_Reader_Left #[.pointer x9] (.I .i64) w16 fun (x27 : Int) w28 => Q (r13, ((IntKind.i64.wrap ((p1.n : Int) - x27)), (0, ()))) w28
theorem lz_step.t (p0 : Sl) (p1 : Sl) (Q : (Sl × (Int × (Int × Unit))) → World → Prop) (w : World) : lz_step p0 p1 Q w = fvc Tryd.prog an_lz_step Tryd.f54 (.tup (.pair .L (.pair (.I .i64) (.pair (.I .i64) .nil)))) [Kd.av .L p0, Kd.av .L p1] w Q := by kernel_rfl
theorem lz_step.k : fnOk Tryd.prog Tryd.f54 = true := by kernel_rfl
theorem lz_step.cl {p0 : Sl} {p1 : Sl} {Q : (Sl × (Int × (Int × Unit))) → World → Prop} {w : World} (h : lz_step p0 p1 Q w) : cl Tryd.prog n_lz_step #[.slice p0.a p0.n p0.c, .slice p1.a p1.n p1.c] (.tup (.pair .L (.pair (.I .i64) (.pair (.I .i64) .nil)))) w Q :=
  cl_tie Tryd.func54 lz_step.k (args := [Kd.av .L p0, Kd.av .L p1]) (lz_step.t p0 p1 Q w) h

/-- (*flume/digest.state).stir -/
def an_digest_state_stir : Nat → LA
  | 3 => [(18, (.I .i64))] | 13 => [(100, (.I .i64))] | 1000015 => [(0, .nil)] | _ => []
def digest_state_stir (p0 : Option Addr) (p1 : Sl) (Q : Unit → World → Prop) (w : World) : Prop :=
 cl Tryd.prog n_digest_spread #[.slice p1.a p1.n p1.c] (.row 64) w fun (x1 : {l : List Value // l.length = 64}) w2 => nw w2 ((zrow 64 (.int .u32 0)).1) t_64_uint32 fun a3 w4 => stL a3 w4 0 x1.1 fun w5 => nz p0 fun a6 => ld (.row 8) w5 a6 fun (x7 : {l : List Value // l.length = 8}) => nw w5 ((zrow 8 (.int .u32 0)).1) t_digest_state fun a8 w9 => stL a8 w9 0 x7.1 fun w10 => lp (α := (Int × Unit)) (fun K => K (0, ())) w10 fun D13 J14 s11 w12 =>
 bif (decide (s11.1 < 64)) then
  (ixa (some a8) 8 0 1 fun a15 => ld (.I .u32) w12 a15 fun (x16 : Int) => ixa (some a8) 8 4 1 fun a17 => ld (.I .u32) w12 a17 fun (x18 : Int) => dr w12 fun w19 => cl Tryd.prog n_math_bits_RotateLeft32 #[.int .u32 x18, .int .i64 (-6)] (.I .u32) w19 fun (x20 : Int) w21 => cl Tryd.prog n_math_bits_RotateLeft32 #[.int .u32 x18, .int .i64 (-11)] (.I .u32) w21 fun (x22 : Int) w23 => cl Tryd.prog n_math_bits_RotateLeft32 #[.int .u32 x18, .int .i64 (-25)] (.I .u32) w23 fun (x24 : Int) w25 => ixa (some a8) 8 7 1 fun a26 => ld (.I .u32) w25 a26 fun (x27 : Int) => ixa (some a8) 8 5 1 fun a28 => ld (.I .u32) w25 a28 fun (x29 : Int) => ixa (some a8) 8 6 1 fun a30 => ld (.I .u32) w25 a30 fun (x31 : Int) => ixa (some ⟨g_digest_rounds, 0, none⟩) 64 s11.1 1 fun a32 => ld (.I .u32) w25 a32 fun (x33 : Int) => ixa (some a3) 64 s11.1 1 fun a34 => ld (.I .u32) w25 a34 fun (x35 : Int) => dr w25 fun w36 => cl Tryd.prog n_math_bits_RotateLeft32 #[.int .u32 x16, .int .i64 (-2)] (.I .u32) w36 fun (x37 : Int) w38 => cl Tryd.prog n_math_bits_RotateLeft32 #[.int .u32 x16, .int .i64 (-13)] (.I .u32) w38 fun (x39 : Int) w40 => cl Tryd.prog n_math_bits_RotateLeft32 #[.int .u32 x16, .int .i64 (-22)] (.I .u32) w40 fun (x41 : Int) w42 => ixa (some a8) 8 1 1 fun a43 => ld (.I .u32) w42 a43 fun (x44 : Int) => ixa (some a8) 8 2 1 fun a45 => ld (.I .u32) w42 a45 fun (x46 : Int) => ixa (some a8) 8 1 1 fun a47 => ld (.I .u32) w42 a47 fun (x48 : Int) => ixa (some a8) 8 2 1 fun a49 => ld (.I .u32) w42 a49 fun (x50 : Int) => ixa (some a8) 8 1 1 fun a51 => ld (.I .u32) w42 a51 fun (x52 : Int) => ixa (some a8) 8 2 1 fun a53 => ld (.I .u32) w42 a53 fun (x54 : Int) => ixa (some a8) 8 3 1 fun a55 => ld (.I .u32) w42 a55 fun (x56 : Int) => ixa (some a8) 8 5 1 fun a57 => ld (.I .u32) w42 a57 fun (x58 : Int) => ixa (some a8) 8 6 1 fun a59 => ld (.I .u32) w42 a59 fun (x60 : Int) => qn Tryd.prog (Instr.build t_digest_state #[(0, .int .u32 (IntKind.u32.wrap ((IntKind.u32.wrap ((IntKind.u32.wrap ((IntKind.u32.wrap ((IntKind.u32.wrap (x27 + (bits .xor .u32 (bits .xor .u32 x20 x22) x24))) + (bits .xor .u32 (bits .and .u32 x18 x29) (bits .and .u32 (bits .xor .u32 4294967295 x18) x31)))) + x33)) + x35)) + (IntKind.u32.wrap ((bits .xor .u32 (bits .xor .u32 x37 x39) x41) + (bits .xor .u32 (bits .xor .u32 (bits .and .u32 x16 x44) (bits .and .u32 x16 x46)) (bits .and .u32 x48 x50))))))), (1, .int .u32 x16), (2, .int .u32 x52), (3, .int .u32 x54), (4, .int .u32 (IntKind.u32.wrap (x56 + (IntKind.u32.wrap ((IntKind.u32.wrap ((IntKind.u32.wrap ((IntKind.u32.wrap (x27 + (bits .xor .u32 (bits .xor .u32 x20 x22) x24))) + (bits .xor .u32 (bits .and .u32 x18 x29) (bits .and .u32 (bits .xor .u32 4294967295 x18) x31)))) + x33)) + x35))))), (5, .int .u32 x18), (6, .int .u32 x58), (7, .int .u32 x60)]) (.row 8) w42 fun (x61 : {l : List Value // l.length = 8}) => stL a8 w42 0 x61.1 fun w62 => J14 ((IntKind.i64.wrap (s11.1 + 1)), ()) w62)
  else lp (α := (Int × Unit)) (fun K => K (0, ())) w12 fun D65 J66 s63 w64 =>
 bif (decide (s63.1 < 8)) then
  (dr w64 fun w67 => nz p0 fun a68 => ixa (some a68) 8 s63.1 1 fun a69 => ld (.I .u32) w67 a69 fun (x70 : Int) => ixa (some a8) 8 s63.1 1 fun a71 => ld (.I .u32) w67 a71 fun (x72 : Int) => nz p0 fun a73 => ixa (some a73) 8 s63.1 1 fun a74 => st1 w67 a74 (.int .u32 (IntKind.u32.wrap (x70 + x72))) fun w75 => J66 ((IntKind.i64.wrap (s63.1 + 1)), ()) w75)
  else Q () w64
theorem digest_state_stir.t (p0 : Option Addr) (p1 : Sl) (Q : Unit → World → Prop) (w : World) : digest_state_stir p0 p1 Q w = fvc Tryd.prog an_digest_state_stir Tryd.f55 (.tup .nil) [Kd.av .P p0, Kd.av .L p1] w Q := by kernel_rfl
theorem digest_state_stir.k : fnOk Tryd.prog Tryd.f55 = true := by kernel_rfl
theorem digest_state_stir.cl {p0 : Option Addr} {p1 : Sl} {Q : Unit → World → Prop} {w : World} (h : digest_state_stir p0 p1 Q w) : cl Tryd.prog n_digest_state_stir #[.pointer p0, .slice p1.a p1.n p1.c] (.tup .nil) w Q :=
  cl_tie Tryd.func55 digest_state_stir.k (args := [Kd.av .P p0, Kd.av .L p1]) (digest_state_stir.t p0 p1 Q w) h

/-- flume/flumeref08.Sum -/
def an_flumeref08_Sum : Nat → LA
  | 4 => [(2, .L)] | 7 => [(2, .L), (8, (.I .i64))] | 12 => [(9, .L), (10, (.I .i64))] | 17 => [(61, (.I .i64))] | 20 => [(64, (.I .i64))] | _ => []
def flumeref08_Sum (p0 : Sl) (p1 : Sl) (p2 : Sl) (Q : {l : List Value // l.length = 32} → World → Prop) (w : World) : Prop :=
 nw w ((zrow 32 (.int .u8 0)).1) t_api_Sum fun a1 w2 => nw w2 [] t_uint8 fun a3 w4 => app Tryd.prog t_s_uint8 t_s_uint8 ⟨(some a3), 0, 0⟩ p2 w4 fun r5 w6 => nw w6 [.int .u8 128] t_uint8 fun a7 w8 => app Tryd.prog t_s_uint8 t_s_uint8 r5 ⟨(some a7), 1, 1⟩ w8 fun r9 w10 => lp (α := (Sl × Unit)) (fun K => K (r9, ())) w10 fun D13 J14 s11 w12 =>
 bif ((Int.tmod (s11.1.n : Int) 64) != 56) then
  (nw w12 [.int .u8 0] t_uint8 fun a15 w16 => app Tryd.prog t_s_uint8 t_s_uint8 s11.1 ⟨(some a15), 1, 1⟩ w16 fun r17 w18 => J14 (r17, ()) w18)
  else lp (α := (Sl × (Int × Unit))) (fun K => K (s11.1, (7, ()))) w12 fun D21 J22 s19 w20 =>
 bif (decide (s19.2.1 ≥ 0)) then
  (bif decide (0 ≤ (IntKind.u64.wrap (IntKind.i64.wrap (8 * s19.2.1)))) then (nw w20 [.int .u8 (IntKind.u8.wrap ((IntKind.i64.wrap (8 * (r5.n : Int))) / 2 ^ (min (Int.toNat (IntKind.u64.wrap (IntKind.i64.wrap (8 * s19.2.1)))) 64)))] t_uint8 fun a23 w24 => app Tryd.prog t_s_uint8 t_s_uint8 s19.1 ⟨(some a23), 1, 1⟩ w24 fun r25 w26 => J22 (r25, ((IntKind.i64.wrap (s19.2.1 - 1)), ())) w26) else False)
  else nw w20 [] t_uint32 fun a27 w28 => app Tryd.prog t_s_uint32 t_s_uint32 ⟨(some a27), 0, 0⟩ p0 w28 fun r29 w30 => lp (α := (Sl × (Int × Unit))) (fun K => K (r29, (0, ()))) w30 fun D33 J34 s31 w32 =>
 bif (decide (s31.2.1 < (s19.1.n : Int))) then
  (sls s19.1 s31.2.1 (IntKind.i64.wrap (s31.2.1 + 64)) 1 fun r35 => cl Tryd.prog n_flumeref08_block #[.slice s31.1.a s31.1.n s31.1.c, .slice p1.a p1.n p1.c, .slice r35.a r35.n r35.c] .L w32 fun (x36 : Sl) w37 => J34 (x36, ((IntKind.i64.wrap (s31.2.1 + 64)), ())) w37)
  else qn Tryd.prog (Instr.build t_api_Sum #[]) (.row 32) w32 fun (x38 : {l : List Value // l.length = 32}) => nw w32 ((zrow 32 (.int .u8 0)).1) t_api_Sum fun a39 w40 => stL a39 w40 0 x38.1 fun w41 => lp (α := (Int × Unit)) (fun K => K (0, ())) w41 fun D44 J45 s42 w43 =>
 bif (decide (s42.1 < 8)) then
  (lp (α := (Int × Unit)) (fun K => K (0, ())) w43 fun D48 J49 s46 w47 =>
  bif (decide (s46.1 < 4)) then
   (ixa s31.1.a s31.1.n s42.1 1 fun a50 => ld (.I .u32) w47 a50 fun (x51 : Int) => bif decide (0 ≤ (IntKind.u64.wrap (IntKind.i64.wrap (24 - (IntKind.i64.wrap (8 * s46.1)))))) then (ixa (some a39) 32 (IntKind.i64.wrap ((IntKind.i64.wrap (4 * s42.1)) + s46.1)) 1 fun a52 => st1 w47 a52 (.int .u8 (IntKind.u8.wrap (x51 / 2 ^ (min (Int.toNat (IntKind.u64.wrap (IntKind.i64.wrap (24 - (IntKind.i64.wrap (8 * s46.1)))))) 32)))) fun w53 => J49 ((IntKind.i64.wrap (s46.1 + 1)), ()) w53) else False)
   else J45 ((IntKind.i64.wrap (s42.1 + 1)), ()) w47)
  else ld (.row 32) w43 a39 fun (x54 : {l : List Value // l.length = 32}) => stL a1 w43 0 x54.1 fun w55 => ld (.row 32) w55 a1 fun (r56 : {l : List Value // l.length = 32}) => Q r56 w55
theorem flumeref08_Sum.t (p0 : Sl) (p1 : Sl) (p2 : Sl) (Q : {l : List Value // l.length = 32} → World → Prop) (w : World) : flumeref08_Sum p0 p1 p2 Q w = fvc Tryd.prog an_flumeref08_Sum Tryd.f56 (.row 32) [Kd.av .L p0, Kd.av .L p1, Kd.av .L p2] w Q := by kernel_rfl
theorem flumeref08_Sum.k : fnOk Tryd.prog Tryd.f56 = true := by kernel_rfl
theorem flumeref08_Sum.cl {p0 : Sl} {p1 : Sl} {p2 : Sl} {Q : {l : List Value // l.length = 32} → World → Prop} {w : World} (h : flumeref08_Sum p0 p1 p2 Q w) : cl Tryd.prog n_flumeref08_Sum #[.slice p0.a p0.n p0.c, .slice p1.a p1.n p1.c, .slice p2.a p2.n p2.c] (.row 32) w Q :=
  cl_tie Tryd.func56 flumeref08_Sum.k (args := [Kd.av .L p0, Kd.av .L p1, Kd.av .L p2]) (flumeref08_Sum.t p0 p1 p2 Q w) h

/-- flume/flumeref07.Longest -/
def an_flumeref07_Longest : Nat → LA
  | 3 => [(6, (.I .i64)), (7, (.I .i64)), (8, (.I .i64))] | 6 => [(9, (.I .i64))] | _ => []
def flumeref07_Longest (p0 : Sl) (p1 : Int) (Q : (Int × (Int × Unit)) → World → Prop) (w : World) : Prop :=
 lp (α := (Int × (Int × (Int × Unit)))) (fun K => K (0, (0, (1, ())))) w fun D3 J4 s1 w2 =>
 bif (decide (s1.2.2.1 ≤ 512)) then
  (bif (decide (s1.2.2.1 ≤ p1)) then
  (let j1 := (fun (y16 : Int) (y17 : Int) (w18 : World) =>
    J4 (y16, (y17, ((IntKind.i64.wrap (s1.2.2.1 + 1)), ()))) w18);
  lp (α := (Int × Unit)) (fun K => K (0, ())) w2 fun D7 J8 s5 w6 =>
  bif (decide (s5.1 < 66)) then (bif (decide ((IntKind.i64.wrap (p1 + s5.1)) < (p0.n : Int))) then (ixa p0.a p0.n (IntKind.i64.wrap (p1 + s5.1)) 1 fun a9 => ld (.I .u8) w6 a9 fun (x10 : Int) => ixa p0.a p0.n (IntKind.i64.wrap ((IntKind.i64.wrap (p1 - s1.2.2.1)) + s5.1)) 1 fun a11 => ld (.I .u8) w6 a11 fun (x12 : Int) => dr w6 fun w13 => bif (x10 == x12) then
   (J8 ((IntKind.i64.wrap (s5.1 + 1)), ()) w13)
   else bif (decide (s5.1 > s1.2.1)) then
  (j1 s1.2.2.1 s5.1 w13)
  else j1 s1.1 s1.2.1 w13) else dr w6 fun w14 => bif (decide (s5.1 > s1.2.1)) then
  (j1 s1.2.2.1 s5.1 w14)
  else j1 s1.1 s1.2.1 w14) else dr w6 fun w15 => bif (decide (s5.1 > s1.2.1)) then
  (j1 s1.2.2.1 s5.1 w15)
  else j1 s1.1 s1.2.1 w15)
  else Q (s1.1, (s1.2.1, ())) w2)
  else Q (s1.1, (s1.2.1, ())) w2
theorem flumeref07_Longest.t (p0 : Sl) (p1 : Int) (Q : (Int × (Int × Unit)) → World → Prop) (w : World) : flumeref07_Longest p0 p1 Q w = fvc Tryd.prog an_flumeref07_Longest Tryd.f57 (.tup (.pair (.I .i64) (.pair (.I .i64) .nil))) [Kd.av .L p0, Kd.av (.I .i64) p1] w Q := by kernel_rfl
theorem flumeref07_Longest.k : fnOk Tryd.prog Tryd.f57 = true := by kernel_rfl
theorem flumeref07_Longest.cl {p0 : Sl} {p1 : Int} {Q : (Int × (Int × Unit)) → World → Prop} {w : World} (h : flumeref07_Longest p0 p1 Q w) : cl Tryd.prog n_flumeref07_Longest #[.slice p0.a p0.n p0.c, .int .i64 p1] (.tup (.pair (.I .i64) (.pair (.I .i64) .nil))) w Q :=
  cl_tie Tryd.func57 flumeref07_Longest.k (args := [Kd.av .L p0, Kd.av (.I .i64) p1]) (flumeref07_Longest.t p0 p1 Q w) h

/-- flume/flumeref07.plain -/
def an_flumeref07_plain : Nat → LA
  | 2 => [(0, .L), (3, .L)] | 1000004 => [(0, .nil)] | _ => []
def flumeref07_plain (p0 : Sl) (Q : Sl → World → Prop) (w : World) : Prop :=
 lp (α := (Sl × (Sl × Unit))) (fun K => K (p0, (⟨none, 0, 0⟩, ()))) w fun D3 J4 s1 w2 =>
 bif (decide ((s1.1.n : Int) > 0)) then
  (dr w2 fun w5 => sls s1.1 0 (min 128 (s1.1.n : Int)) 1 fun r6 => nw w5 [.int .u8 (IntKind.u8.wrap (IntKind.i64.wrap ((min 128 (s1.1.n : Int)) - 1)))] t_uint8 fun a7 w8 => app Tryd.prog t_s_uint8 t_s_uint8 s1.2.1 ⟨(some a7), 1, 1⟩ w8 fun r9 w10 => app Tryd.prog t_s_uint8 t_s_uint8 r9 r6 w10 fun r11 w12 => sls s1.1 (min 128 (s1.1.n : Int)) s1.1.n 1 fun r13 => J4 (r13, (r11, ())) w12)
  else Q s1.2.1 w2
theorem flumeref07_plain.t (p0 : Sl) (Q : Sl → World → Prop) (w : World) : flumeref07_plain p0 Q w = fvc Tryd.prog an_flumeref07_plain Tryd.f58 .L [Kd.av .L p0] w Q := by kernel_rfl
theorem flumeref07_plain.k : fnOk Tryd.prog Tryd.f58 = true := by kernel_rfl
theorem flumeref07_plain.cl {p0 : Sl} {Q : Sl → World → Prop} {w : World} (h : flumeref07_plain p0 Q w) : cl Tryd.prog n_flumeref07_plain #[.slice p0.a p0.n p0.c] .L w Q :=
  cl_tie Tryd.func58 flumeref07_plain.k (args := [Kd.av .L p0]) (flumeref07_plain.t p0 Q w) h
end Go.Proofs.YtkojpppnjloikaaDoor
set_option linter.unusedVariables false
set_option maxHeartbeats 4000000
namespace Go.Proofs.YtkojpppnjloikaaDoor
open Go.Fl
/-- flume/flumeref02.Look -/
def an_flumeref02_Look : Nat → LA
  | 4 => [(5, (.I .i64))] | 10 => [(6, (.I .i64)), (7, (.I .i64))] | 1000015 => [(0, .nil)] | _ => []
def flumeref02_Look (p0 : Sl) (Q : (Int × (Int × (Int × Unit))) → World → Prop) (w : World) : Prop :=
 bif ((p0.n : Int) == 0) then
 (Q (0, (0, (2, ()))) w)
 else let j1 := (fun (y26 : Int) (w27 : World) =>
   bif (decide ((p0.n : Int) < (IntKind.i64.wrap (y26 + 1)))) then
 (Q (0, (0, (2, ()))) w27)
 else ixa p0.a p0.n 0 1 fun a28 => ld (.I .u8) w27 a28 fun (x29 : Int) => qcl Tryd.prog n_flumeref02_Lead #[.int .i64 y26] (.I .i64) w27 fun (x30 : Int) => dr w27 fun w31 => lp (α := (Int × (Int × Unit))) (fun K => K ((IntKind.i64.wrap ((IntKind.i64.wrap x29) - x30)), (1, ()))) w31 fun D34 J35 s32 w33 =>
 bif (decide (s32.2.1 ≤ y26)) then
  (bif (decide (s32.1 ≥ 36028797018963968)) then
  (Q (0, (0, (5, ()))) w33)
  else ixa p0.a p0.n s32.2.1 1 fun a36 => ld (.I .u8) w33 a36 fun (x37 : Int) => J35 ((IntKind.i64.wrap ((IntKind.i64.wrap (256 * s32.1)) + (IntKind.i64.wrap x37))), ((IntKind.i64.wrap (s32.2.1 + 1)), ())) w33)
  else dr w33 fun w38 => sls p0 0 (IntKind.i64.wrap (y26 + 1)) 1 fun r39 => bstr w38 r39 fun z40 => cl Tryd.prog n_flumeref02_Number #[.slice none 0 0, .int .i64 s32.1] .L w38 fun (x41 : Sl) w42 => Fr w38 w42 ∧ bstr w42 x41 fun z43 => bif (!(beqB ⟨z43.toArray⟩ ⟨z40.toArray⟩)) then
 (Q (0, (0, (20, ()))) w42)
 else Q (s32.1, ((IntKind.i64.wrap (y26 + 1)), (0, ()))) w42);
 lp (α := (Int × Unit)) (fun K => K (0, ())) w fun D3 J4 s1 w2 =>
 bif (decide (s1.1 < 8)) then (ixa p0.a p0.n 0 1 fun a5 => ld (.I .u8) w2 a5 fun (x6 : Int) => qcl Tryd.prog n_flumeref02_Lead #[.int .i64 (IntKind.i64.wrap (s1.1 + 1))] (.I .i64) w2 fun (x7 : Int) => dr w2 fun w8 => bif (decide ((IntKind.i64.wrap x6) ≥ x7)) then
  (J4 ((IntKind.i64.wrap (s1.1 + 1)), ()) w8)
  else j1 s1.1 w8) else dr w2 fun w9 => j1 s1.1 w9
theorem flumeref02_Look.t (p0 : Sl) (Q : (Int × (Int × (Int × Unit))) → World → Prop) (w : World) : flumeref02_Look p0 Q w = fvc Tryd.prog an_flumeref02_Look Tryd.f59 (.tup (.pair (.I .i64) (.pair (.I .i64) (.pair (.I .i64) .nil)))) [Kd.av .L p0] w Q := by kernel_rfl
theorem flumeref02_Look.k : fnOk Tryd.prog Tryd.f59 = true := by kernel_rfl
theorem flumeref02_Look.cl {p0 : Sl} {Q : (Int × (Int × (Int × Unit))) → World → Prop} {w : World} (h : flumeref02_Look p0 Q w) : cl Tryd.prog n_flumeref02_Look #[.slice p0.a p0.n p0.c] (.tup (.pair (.I .i64) (.pair (.I .i64) (.pair (.I .i64) .nil)))) w Q :=
  cl_tie Tryd.func59 flumeref02_Look.k (args := [Kd.av .L p0]) (flumeref02_Look.t p0 Q w) h

/-- flume/octet.more -/
def an_octet_more : Nat → LA
  | 2 => [(4, (.I .i64))] | _ => []
def octet_more (p0 : Int) (Q : Int → World → Prop) (w : World) : Prop :=
 lp (α := (Int × Unit)) (fun K => K (0, ())) w fun D3 J4 s1 w2 =>
 bif (decide (s1.1 < 8)) then
  (bif decide (0 ≤ (IntKind.i64.wrap (7 * (IntKind.i64.wrap (s1.1 + 1))))) then (bif (decide (p0 < (IntKind.u64.wrap (1 * 2 ^ (min (Int.toNat (IntKind.i64.wrap (7 * (IntKind.i64.wrap (s1.1 + 1))))) 64))))) then
  (Q s1.1 w2)
  else J4 ((IntKind.i64.wrap (s1.1 + 1)), ()) w2) else False)
  else Q 8 w2
theorem octet_more.t (p0 : Int) (Q : Int → World → Prop) (w : World) : octet_more p0 Q w = fvc Tryd.prog an_octet_more Tryd.f60 (.I .i64) [Kd.av (.I .u64) p0] w Q := by kernel_rfl
theorem octet_more.k : fnOk Tryd.prog Tryd.f60 = true := by kernel_rfl
theorem octet_more.cl {p0 : Int} {Q : Int → World → Prop} {w : World} (h : octet_more p0 Q w) : cl Tryd.prog n_octet_more #[.int .u64 p0] (.I .i64) w Q :=
  cl_tie Tryd.func60 octet_more.k (args := [Kd.av (.I .u64) p0]) (octet_more.t p0 Q w) h

/-- flume/octet.Numbers -/
def an_octet_Numbers : Nat → LA
  | 2 => [(0, .L), (9, (.I .i64))] | _ => []
def octet_Numbers (p0 : Sl) (p1 : Sl) (Q : Sl → World → Prop) (w : World) : Prop :=
 lp (α := (Sl × (Int × Unit))) (fun K => K (p0, (0, ()))) w fun D3 J4 s1 w2 =>
 bif (decide (s1.2.1 < (p1.n : Int))) then
  (ixa p1.a p1.n s1.2.1 1 fun a5 => ld (.I .i64) w2 a5 fun (x6 : Int) => cl Tryd.prog n_octet_Number #[.slice s1.1.a s1.1.n s1.1.c, .int .i64 x6] .L w2 fun (x7 : Sl) w8 => J4 (x7, ((IntKind.i64.wrap (s1.2.1 + 1)), ())) w8)
  else Q s1.1 w2
theorem octet_Numbers.t (p0 : Sl) (p1 : Sl) (Q : Sl → World → Prop) (w : World) : octet_Numbers p0 p1 Q w = fvc Tryd.prog an_octet_Numbers Tryd.f61 .L [Kd.av .L p0, Kd.av .L p1] w Q := by kernel_rfl
theorem octet_Numbers.k : fnOk Tryd.prog Tryd.f61 = true := by kernel_rfl
theorem octet_Numbers.cl {p0 : Sl} {p1 : Sl} {Q : Sl → World → Prop} {w : World} (h : octet_Numbers p0 p1 Q w) : cl Tryd.prog n_octet_Numbers #[.slice p0.a p0.n p0.c, .slice p1.a p1.n p1.c] .L w Q :=
  cl_tie Tryd.func61 octet_Numbers.k (args := [Kd.av .L p0, Kd.av .L p1]) (octet_Numbers.t p0 p1 Q w) h

/-- flume/octet.Text -/
def octet_Text (p0 : Sl) (p1 : Sl) (Q : Sl → World → Prop) (w : World) : Prop :=
 cl Tryd.prog n_octet_Number #[.slice p0.a p0.n p0.c, .int .i64 (p1.n : Int)] .L w fun (x1 : Sl) w2 => app Tryd.prog t_s_uint8 t_s_uint8 x1 p1 w2 fun r3 w4 => Q r3 w4
theorem octet_Text.t (p0 : Sl) (p1 : Sl) (Q : Sl → World → Prop) (w : World) : octet_Text p0 p1 Q w = fvc Tryd.prog (fun _ => []) Tryd.f62 .L [Kd.av .L p0, Kd.av .L p1] w Q := by kernel_rfl
theorem octet_Text.k : fnOk Tryd.prog Tryd.f62 = true := by kernel_rfl
theorem octet_Text.cl {p0 : Sl} {p1 : Sl} {Q : Sl → World → Prop} {w : World} (h : octet_Text p0 p1 Q w) : cl Tryd.prog n_octet_Text #[.slice p0.a p0.n p0.c, .slice p1.a p1.n p1.c] .L w Q :=
  cl_tie Tryd.func62 octet_Text.k (args := [Kd.av .L p0, Kd.av .L p1]) (octet_Text.t p0 p1 Q w) h

/-- flume/flumeref02.Follow -/
def an_flumeref02_Follow : Nat → LA
  | 2 => [(0, (.I .i64)), (3, (.I .i64))] | _ => []
def flumeref02_Follow (p0 : Int) (Q : Int → World → Prop) (w : World) : Prop :=
 lp (α := (Int × (Int × Unit))) (fun K => K (p0, (0, ()))) w fun D3 J4 s1 w2 =>
 bif (decide (s1.2.1 < 8)) then
  (bif (decide ((IntKind.i64.wrap (Int.tdiv s1.1 128)) > 0)) then
  (J4 ((IntKind.i64.wrap (Int.tdiv s1.1 128)), ((IntKind.i64.wrap (s1.2.1 + 1)), ())) w2)
  else Q s1.2.1 w2)
  else Q s1.2.1 w2
theorem flumeref02_Follow.t (p0 : Int) (Q : Int → World → Prop) (w : World) : flumeref02_Follow p0 Q w = fvc Tryd.prog an_flumeref02_Follow Tryd.f63 (.I .i64) [Kd.av (.I .i64) p0] w Q := by kernel_rfl
theorem flumeref02_Follow.k : fnOk Tryd.prog Tryd.f63 = true := by kernel_rfl
theorem flumeref02_Follow.cl {p0 : Int} {Q : Int → World → Prop} {w : World} (h : flumeref02_Follow p0 Q w) : cl Tryd.prog n_flumeref02_Follow #[.int .i64 p0] (.I .i64) w Q :=
  cl_tie Tryd.func63 flumeref02_Follow.k (args := [Kd.av (.I .i64) p0]) (flumeref02_Follow.t p0 Q w) h

/-- flume/flumeref02.Lead -/
def an_flumeref02_Lead : Nat → LA
  | 4 => [(3, (.I .i64)), (4, (.I .i64)), (6, (.I .i64))] | _ => []
def flumeref02_Lead (p0 : Int) (Q : Int → World → Prop) (w : World) : Prop :=
 lp (α := (Int × (Int × (Int × Unit)))) (fun K => K (0, (128, (0, ())))) w fun D3 J4 s1 w2 =>
 bif (decide (s1.2.2.1 < p0)) then
  (J4 ((IntKind.i64.wrap (s1.1 + s1.2.1)), ((IntKind.i64.wrap (Int.tdiv s1.2.1 2)), ((IntKind.i64.wrap (s1.2.2.1 + 1)), ()))) w2)
  else Q s1.1 w2
theorem flumeref02_Lead.t (p0 : Int) (Q : Int → World → Prop) (w : World) : flumeref02_Lead p0 Q w = fvc Tryd.prog an_flumeref02_Lead Tryd.f64 (.I .i64) [Kd.av (.I .i64) p0] w Q := by kernel_rfl
theorem flumeref02_Lead.k : fnOk Tryd.prog Tryd.f64 = true := by kernel_rfl
theorem flumeref02_Lead.cl {p0 : Int} {Q : Int → World → Prop} {w : World} (h : flumeref02_Lead p0 Q w) : cl Tryd.prog n_flumeref02_Lead #[.int .i64 p0] (.I .i64) w Q :=
  cl_tie Tryd.func64 flumeref02_Lead.k (args := [Kd.av (.I .i64) p0]) (flumeref02_Lead.t p0 Q w) h

/-- (*flume/lz.chains).at -/
def lz_chains_at (p0 : Option Addr) (p1 : Int) (Q : {l : List Value // l.length = 3} → World → Prop) (w : World) : Prop :=
 nw w ((zrow 3 (.int .u8 0)).1) t_3_uint8 fun a1 w2 => nz p0 fun a3 => ld .L w2 a3 fun (x4 : Sl) => sls x4 p1 (IntKind.i64.wrap (p1 + 3)) 1 fun r5 => qn Tryd.prog (Instr.arrayAt t_3_uint8 (.slice r5.a r5.n r5.c)) .P w2 fun (x6 : Option Addr) => nz x6 fun a8 => ld (.row 3) w2 a8 fun (x7 : {l : List Value // l.length = 3}) => stL a1 w2 0 x7.1 fun w9 => ld (.row 3) w9 a1 fun (r10 : {l : List Value // l.length = 3}) => Q r10 w9
theorem lz_chains_at.t (p0 : Option Addr) (p1 : Int) (Q : {l : List Value // l.length = 3} → World → Prop) (w : World) : lz_chains_at p0 p1 Q w = fvc Tryd.prog (fun _ => []) Tryd.f65 (.row 3) [Kd.av .P p0, Kd.av (.I .i64) p1] w Q := by kernel_rfl
theorem lz_chains_at.k : fnOk Tryd.prog Tryd.f65 = true := by kernel_rfl
theorem lz_chains_at.cl {p0 : Option Addr} {p1 : Int} {Q : {l : List Value // l.length = 3} → World → Prop} {w : World} (h : lz_chains_at p0 p1 Q w) : cl Tryd.prog n_lz_chains_at #[.pointer p0, .int .i64 p1] (.row 3) w Q :=
  cl_tie Tryd.func65 lz_chains_at.k (args := [Kd.av .P p0, Kd.av (.I .i64) p1]) (lz_chains_at.t p0 p1 Q w) h

/-- (*flume/lz.chains).alike -/
def an_lz_chains_alike : Nat → LA
  | 2 => [(7, (.I .i64))] | _ => []
def lz_chains_alike (p0 : Option Addr) (p1 : Int) (p2 : Int) (Q : Int → World → Prop) (w : World) : Prop :=
 lp (α := (Int × Unit)) (fun K => K (0, ())) w fun D3 J4 s1 w2 =>
 bif (decide (s1.1 < 66)) then (nz p0 fun a5 => ld .L w2 a5 fun (x6 : Sl) => bif (decide ((IntKind.i64.wrap (p2 + s1.1)) < (x6.n : Int))) then (nz p0 fun a7 => ld .L w2 a7 fun (x8 : Sl) => ixa x8.a x8.n (IntKind.i64.wrap (p1 + s1.1)) 1 fun a9 => ld (.I .u8) w2 a9 fun (x10 : Int) => nz p0 fun a11 => ld .L w2 a11 fun (x12 : Sl) => ixa x12.a x12.n (IntKind.i64.wrap (p2 + s1.1)) 1 fun a13 => ld (.I .u8) w2 a13 fun (x14 : Int) => dr w2 fun w15 => bif (x10 == x14) then
  (J4 ((IntKind.i64.wrap (s1.1 + 1)), ()) w15)
  else Q s1.1 w15) else dr w2 fun w16 => Q s1.1 w16) else dr w2 fun w17 => Q s1.1 w17
theorem lz_chains_alike.t (p0 : Option Addr) (p1 : Int) (p2 : Int) (Q : Int → World → Prop) (w : World) : lz_chains_alike p0 p1 p2 Q w = fvc Tryd.prog an_lz_chains_alike Tryd.f66 (.I .i64) [Kd.av .P p0, Kd.av (.I .i64) p1, Kd.av (.I .i64) p2] w Q := by kernel_rfl
theorem lz_chains_alike.k : fnOk Tryd.prog Tryd.f66 = true := by kernel_rfl
theorem lz_chains_alike.cl {p0 : Option Addr} {p1 : Int} {p2 : Int} {Q : Int → World → Prop} {w : World} (h : lz_chains_alike p0 p1 p2 Q w) : cl Tryd.prog n_lz_chains_alike #[.pointer p0, .int .i64 p1, .int .i64 p2] (.I .i64) w Q :=
  cl_tie Tryd.func66 lz_chains_alike.k (args := [Kd.av .P p0, Kd.av (.I .i64) p1, Kd.av (.I .i64) p2]) (lz_chains_alike.t p0 p1 p2 Q w) h

/-- slices.Chunk[[]byte,byte] -/
def slices_Chunk_byte_byte (p0 : Sl) (p1 : Int) (Q : Value → World → Prop) (w : World) : Prop :=
 nw w ([.slice p0.a p0.n p0.c]) t_s_uint8 fun a1 w2 => nw w2 ([.int .i64 p1]) t_int fun a3 w4 => ld (.I .i64) w4 a3 fun (x5 : Int) => bif (decide (x5 < 1)) then
 (False)
 else Q (.func (.func n_slices_Chunk_byte_byte_1) #[] #[.pointer (some a1), .pointer (some a3)]) w4
theorem slices_Chunk_byte_byte.t (p0 : Sl) (p1 : Int) (Q : Value → World → Prop) (w : World) : slices_Chunk_byte_byte p0 p1 Q w = fvc Tryd.prog (fun _ => []) Tryd.f67 .U [Kd.av .L p0, Kd.av (.I .i64) p1] w Q := by kernel_rfl
theorem slices_Chunk_byte_byte.k : fnOk Tryd.prog Tryd.f67 = true := by kernel_rfl
theorem slices_Chunk_byte_byte.cl {p0 : Sl} {p1 : Int} {Q : Value → World → Prop} {w : World} (h : slices_Chunk_byte_byte p0 p1 Q w) : cl Tryd.prog n_slices_Chunk_byte_byte #[.slice p0.a p0.n p0.c, .int .i64 p1] .U w Q :=
  cl_tie Tryd.func67 slices_Chunk_byte_byte.k (args := [Kd.av .L p0, Kd.av (.I .i64) p1]) (slices_Chunk_byte_byte.t p0 p1 Q w) h

/-- flume/octet.look -/
def an_octet_look : Nat → LA
  | 11 => [(6, (.I .u64)), (36, (.I .i64))] | _ => []
def octet_look (p0 : Sl) (Q : (Int × (Int × (Int × Unit))) → World → Prop) (w : World) : Prop :=
 bif ((p0.n : Int) == 0) then
 (Q (0, (0, (2, ()))) w)
 else ixa p0.a p0.n 0 1 fun a1 => ld (.I .u8) w a1 fun (x2 : Int) => cl Tryd.prog n_math_bits_LeadingZeros8 #[.int .u8 (bits .xor .u8 255 x2)] (.I .i64) w fun (x3 : Int) w4 => bif (decide ((p0.n : Int) ≤ x3)) then
 (Q (0, (0, (2, ()))) w4)
 else ixa p0.a p0.n 0 1 fun a5 => ld (.I .u8) w4 a5 fun (x6 : Int) => let j1 := (fun (y16 : Int) (w17 : World) =>
   sls p0 1 (IntKind.i64.wrap (x3 + 1)) 1 fun r18 => lp (α := (Int × (Int × Unit))) (fun K => K (y16, (0, ()))) w17 fun D21 J22 s19 w20 =>
 bif (decide (s19.2.1 < (r18.n : Int))) then
  (ixa r18.a r18.n s19.2.1 1 fun a23 => ld (.I .u8) w20 a23 fun (x24 : Int) => J22 ((bits .or .u64 (IntKind.u64.wrap (s19.1 * 2 ^ (min 8 64))) (IntKind.u64.wrap x24)), ((IntKind.i64.wrap (s19.2.1 + 1)), ())) w20)
  else bif (decide (s19.1 > 9223372036854775807)) then
 (Q (0, (0, (5, ()))) w20)
 else cl Tryd.prog n_octet_more #[.int .u64 s19.1] (.I .i64) w20 fun (x25 : Int) w26 => bif (x25 != x3) then
 (Q (0, (0, (20, ()))) w26)
 else Q ((IntKind.i64.wrap s19.1), ((IntKind.i64.wrap (x3 + 1)), (0, ()))) w26);
 bif (decide (x3 < 8)) then
 (bif decide (0 ≤ x3) then (j1 (bits .and .u64 (IntKind.u64.wrap x6) (127 / 2 ^ (min (Int.toNat x3) 64))) w4) else False)
 else j1 0 w4
theorem octet_look.t (p0 : Sl) (Q : (Int × (Int × (Int × Unit))) → World → Prop) (w : World) : octet_look p0 Q w = fvc Tryd.prog an_octet_look Tryd.f68 (.tup (.pair (.I .i64) (.pair (.I .i64) (.pair (.I .i64) .nil)))) [Kd.av .L p0] w Q := by kernel_rfl
theorem octet_look.k : fnOk Tryd.prog Tryd.f68 = true := by kernel_rfl
theorem octet_look.cl {p0 : Sl} {Q : (Int × (Int × (Int × Unit))) → World → Prop} {w : World} (h : octet_look p0 Q w) : cl Tryd.prog n_octet_look #[.slice p0.a p0.n p0.c] (.tup (.pair (.I .i64) (.pair (.I .i64) (.pair (.I .i64) .nil)))) w Q :=
  cl_tie Tryd.func68 octet_look.k (args := [Kd.av .L p0]) (octet_look.t p0 Q w) h

/-- (*flume/octet.Reader).Byte -/
def octet_Reader_Byte (p0 : Option Addr) (Q : (Int × (Int × Unit)) → World → Prop) (w : World) : Prop :=
 bif p0.isNone then
 (Q (0, (6, ())) w)
 else nz p0 fun a1 => ld .B w (a1.add 1) fun (x2 : Bool) => bif (!x2) then
 (Q (0, (6, ())) w)
 else nz p0 fun a3 => ld .L w a3 fun (x4 : Sl) => bif ((x4.n : Int) == 0) then
 (Q (0, (2, ())) w)
 else nz p0 fun a5 => ld .L w a5 fun (x6 : Sl) => ixa x6.a x6.n 0 1 fun a7 => ld (.I .u8) w a7 fun (x8 : Int) => nz p0 fun a9 => ld .L w a9 fun (x10 : Sl) => sls x10 1 x10.n 1 fun r11 => nz p0 fun a12 => st1 w a12 (.slice r11.a r11.n r11.c) fun w13 => Q (x8, (0, ())) w13
theorem octet_Reader_Byte.t (p0 : Option Addr) (Q : (Int × (Int × Unit)) → World → Prop) (w : World) : octet_Reader_Byte p0 Q w = fvc Tryd.prog (fun _ => []) Tryd.f69 (.tup (.pair (.I .u8) (.pair (.I .i64) .nil))) [Kd.av .P p0] w Q := by kernel_rfl
theorem octet_Reader_Byte.k : fnOk Tryd.prog Tryd.f69 = true := by kernel_rfl
theorem octet_Reader_Byte.cl {p0 : Option Addr} {Q : (Int × (Int × Unit)) → World → Prop} {w : World} (h : octet_Reader_Byte p0 Q w) : cl Tryd.prog n_octet_Reader_Byte #[.pointer p0] (.tup (.pair (.I .u8) (.pair (.I .i64) .nil))) w Q :=
  cl_tie Tryd.func69 octet_Reader_Byte.k (args := [Kd.av .P p0]) (octet_Reader_Byte.t p0 Q w) h

/-- (*flume/octet.Reader).Text -/
def octet_Reader_Text (p0 : Option Addr) (p1 : Int) (Q : (Sl × (Int × Unit)) → World → Prop) (w : World) : Prop :=
 bif p0.isNone then
 (Q (⟨none, 0, 0⟩, (6, ())) w)
 else nz p0 fun a1 => ld .B w (a1.add 1) fun (x2 : Bool) => bif (!x2) then
 (Q (⟨none, 0, 0⟩, (6, ())) w)
 else nz p0 fun a3 => ld .L w a3 fun (x4 : Sl) => cl Tryd.prog n_octet_look #[.slice x4.a x4.n x4.c] (.tup (.pair (.I .i64) (.pair (.I .i64) (.pair (.I .i64) .nil)))) w fun (x5 : (Int × (Int × (Int × Unit)))) w6 => bif (x5.2.2.1 != 0) then
 (Q (⟨none, 0, 0⟩, (x5.2.2.1, ())) w6)
 else bif (decide (x5.1 > (max p1 0))) then
 (Q (⟨none, 0, 0⟩, (4, ())) w6)
 else nz p0 fun a7 => ld .L w6 a7 fun (x8 : Sl) => bif (decide (x5.1 > (IntKind.i64.wrap ((x8.n : Int) - x5.2.1)))) then
 (Q (⟨none, 0, 0⟩, (2, ())) w6)
 else nw w6 [] t_uint8 fun a9 w10 => nz p0 fun a11 => ld .L w10 a11 fun (x12 : Sl) => sls x12 x5.2.1 (IntKind.i64.wrap (x5.2.1 + x5.1)) 1 fun r13 => app Tryd.prog t_s_uint8 t_s_uint8 ⟨(some a9), 0, 0⟩ r13 w10 fun r14 w15 => nz p0 fun a16 => ld .L w15 a16 fun (x17 : Sl) => sls x17 (IntKind.i64.wrap (x5.2.1 + x5.1)) x17.n 1 fun r18 => nz p0 fun a19 => st1 w15 a19 (.slice r18.a r18.n r18.c) fun w20 => Q (r14, (0, ())) w20
theorem octet_Reader_Text.t (p0 : Option Addr) (p1 : Int) (Q : (Sl × (Int × Unit)) → World → Prop) (w : World) : octet_Reader_Text p0 p1 Q w = fvc Tryd.prog (fun _ => []) Tryd.f70 (.tup (.pair .L (.pair (.I .i64) .nil))) [Kd.av .P p0, Kd.av (.I .i64) p1] w Q := by kernel_rfl
theorem octet_Reader_Text.k : fnOk Tryd.prog Tryd.f70 = true := by kernel_rfl
theorem octet_Reader_Text.cl {p0 : Option Addr} {p1 : Int} {Q : (Sl × (Int × Unit)) → World → Prop} {w : World} (h : octet_Reader_Text p0 p1 Q w) : cl Tryd.prog n_octet_Reader_Text #[.pointer p0, .int .i64 p1] (.tup (.pair .L (.pair (.I .i64) .nil))) w Q :=
  cl_tie Tryd.func70 octet_Reader_Text.k (args := [Kd.av .P p0, Kd.av (.I .i64) p1]) (octet_Reader_Text.t p0 p1 Q w) h

/-- (*flume/octet.Reader).Within -/
def octet_Reader_Within (p0 : Option Addr) (p1 : Int) (p2 : Int) (Q : (Int × (Int × Unit)) → World → Prop) (w : World) : Prop :=
 bif p0.isNone then
 (Q (0, (6, ())) w)
 else nz p0 fun a1 => ld .B w (a1.add 1) fun (x2 : Bool) => bif (!x2) then
 (Q (0, (6, ())) w)
 else nz p0 fun a3 => ld .L w a3 fun (x4 : Sl) => cl Tryd.prog n_octet_look #[.slice x4.a x4.n x4.c] (.tup (.pair (.I .i64) (.pair (.I .i64) (.pair (.I .i64) .nil)))) w fun (x5 : (Int × (Int × (Int × Unit)))) w6 => bif (x5.2.2.1 != 0) then
 (Q (0, (x5.2.2.1, ())) w6)
 else bif (decide (x5.1 < p1)) then
 (Q (0, (5, ())) w6)
 else bif (decide (x5.1 > p2)) then
 (Q (0, (5, ())) w6)
 else nz p0 fun a7 => ld .L w6 a7 fun (x8 : Sl) => sls x8 x5.2.1 x8.n 1 fun r9 => nz p0 fun a10 => st1 w6 a10 (.slice r9.a r9.n r9.c) fun w11 => Q (x5.1, (0, ())) w11
theorem octet_Reader_Within.t (p0 : Option Addr) (p1 : Int) (p2 : Int) (Q : (Int × (Int × Unit)) → World → Prop) (w : World) : octet_Reader_Within p0 p1 p2 Q w = fvc Tryd.prog (fun _ => []) Tryd.f71 (.tup (.pair (.I .i64) (.pair (.I .i64) .nil))) [Kd.av .P p0, Kd.av (.I .i64) p1, Kd.av (.I .i64) p2] w Q := by kernel_rfl
theorem octet_Reader_Within.k : fnOk Tryd.prog Tryd.f71 = true := by kernel_rfl
theorem octet_Reader_Within.cl {p0 : Option Addr} {p1 : Int} {p2 : Int} {Q : (Int × (Int × Unit)) → World → Prop} {w : World} (h : octet_Reader_Within p0 p1 p2 Q w) : cl Tryd.prog n_octet_Reader_Within #[.pointer p0, .int .i64 p1, .int .i64 p2] (.tup (.pair (.I .i64) (.pair (.I .i64) .nil))) w Q :=
  cl_tie Tryd.func71 octet_Reader_Within.k (args := [Kd.av .P p0, Kd.av (.I .i64) p1, Kd.av (.I .i64) p2]) (octet_Reader_Within.t p0 p1 p2 Q w) h

/-- (*flume/octet.Reader).Left -/
def octet_Reader_Left (p0 : Option Addr) (Q : Int → World → Prop) (w : World) : Prop :=
 bif p0.isNone then
 (Q 0 w)
 else nz p0 fun a1 => ld .L w a1 fun (x2 : Sl) => Q (x2.n : Int) w
theorem octet_Reader_Left.t (p0 : Option Addr) (Q : Int → World → Prop) (w : World) : octet_Reader_Left p0 Q w = fvc Tryd.prog (fun _ => []) Tryd.f72 (.I .i64) [Kd.av .P p0] w Q := by kernel_rfl
theorem octet_Reader_Left.k : fnOk Tryd.prog Tryd.f72 = true := by kernel_rfl
theorem octet_Reader_Left.cl {p0 : Option Addr} {Q : Int → World → Prop} {w : World} (h : octet_Reader_Left p0 Q w) : cl Tryd.prog n_octet_Reader_Left #[.pointer p0] (.I .i64) w Q :=
  cl_tie Tryd.func72 octet_Reader_Left.k (args := [Kd.av .P p0]) (octet_Reader_Left.t p0 Q w) h
end Go.Proofs.YtkojpppnjloikaaDoor
set_option linter.unusedVariables false
set_option maxHeartbeats 4000000
namespace Go.Proofs.YtkojpppnjloikaaDoor
open Go.Fl
/-- flume/digest.spread -/
def an_digest_spread : Nat → LA
  | 3 => [(10, (.I .i64))] | 8 => [(5, (.I .i64))] | 1000005 => [(0, .nil)] | 1000013 => [(0, .nil)] | _ => []
def digest_spread (p0 : Sl) (Q : {l : List Value // l.length = 64} → World → Prop) (w : World) : Prop :=
 nw w ((zrow 64 (.int .u32 0)).1) t_64_uint32 fun a1 w2 => nw w2 ((zrow 64 (.int .u32 0)).1) t_64_uint32 fun a3 w4 => lp (α := (Int × Unit)) (fun K => K (0, ())) w4 fun D7 J8 s5 w6 =>
 bif (decide (s5.1 < 16)) then
  (dr w6 fun w9 => ixa p0.a p0.n (IntKind.i64.wrap (4 * s5.1)) 1 fun a10 => ld (.I .u8) w9 a10 fun (x11 : Int) => ixa p0.a p0.n (IntKind.i64.wrap ((IntKind.i64.wrap (4 * s5.1)) + 1)) 1 fun a12 => ld (.I .u8) w9 a12 fun (x13 : Int) => ixa p0.a p0.n (IntKind.i64.wrap ((IntKind.i64.wrap (4 * s5.1)) + 2)) 1 fun a14 => ld (.I .u8) w9 a14 fun (x15 : Int) => ixa p0.a p0.n (IntKind.i64.wrap ((IntKind.i64.wrap (4 * s5.1)) + 3)) 1 fun a16 => ld (.I .u8) w9 a16 fun (x17 : Int) => ixa (some a3) 64 s5.1 1 fun a18 => st1 w9 a18 (.int .u32 (bits .or .u32 (bits .or .u32 (bits .or .u32 (IntKind.u32.wrap ((IntKind.u32.wrap x11) * 2 ^ (min 24 32))) (IntKind.u32.wrap ((IntKind.u32.wrap x13) * 2 ^ (min 16 32)))) (IntKind.u32.wrap ((IntKind.u32.wrap x15) * 2 ^ (min 8 32)))) (IntKind.u32.wrap x17))) fun w19 => J8 ((IntKind.i64.wrap (s5.1 + 1)), ()) w19)
  else lp (α := (Int × Unit)) (fun K => K (16, ())) w6 fun D22 J23 s20 w21 =>
 bif (decide (s20.1 < 64)) then
  (ixa (some a3) 64 (IntKind.i64.wrap (s20.1 - 15)) 1 fun a24 => ld (.I .u32) w21 a24 fun (x25 : Int) => ixa (some a3) 64 (IntKind.i64.wrap (s20.1 - 2)) 1 fun a26 => ld (.I .u32) w21 a26 fun (x27 : Int) => dr w21 fun w28 => cl Tryd.prog n_math_bits_RotateLeft32 #[.int .u32 x25, .int .i64 (-7)] (.I .u32) w28 fun (x29 : Int) w30 => cl Tryd.prog n_math_bits_RotateLeft32 #[.int .u32 x25, .int .i64 (-18)] (.I .u32) w30 fun (x31 : Int) w32 => cl Tryd.prog n_math_bits_RotateLeft32 #[.int .u32 x27, .int .i64 (-17)] (.I .u32) w32 fun (x33 : Int) w34 => cl Tryd.prog n_math_bits_RotateLeft32 #[.int .u32 x27, .int .i64 (-19)] (.I .u32) w34 fun (x35 : Int) w36 => dr w36 fun w37 => ixa (some a3) 64 (IntKind.i64.wrap (s20.1 - 16)) 1 fun a38 => ld (.I .u32) w37 a38 fun (x39 : Int) => ixa (some a3) 64 (IntKind.i64.wrap (s20.1 - 7)) 1 fun a40 => ld (.I .u32) w37 a40 fun (x41 : Int) => ixa (some a3) 64 s20.1 1 fun a42 => st1 w37 a42 (.int .u32 (IntKind.u32.wrap ((IntKind.u32.wrap ((IntKind.u32.wrap (x39 + (bits .xor .u32 (bits .xor .u32 x29 x31) (x25 / 2 ^ (min 3 32))))) + x41)) + (bits .xor .u32 (bits .xor .u32 x33 x35) (x27 / 2 ^ (min 10 32)))))) fun w43 => J23 ((IntKind.i64.wrap (s20.1 + 1)), ()) w43)
  else ld (.row 64) w21 a3 fun (x44 : {l : List Value // l.length = 64}) => stL a1 w21 0 x44.1 fun w45 => ld (.row 64) w45 a1 fun (r46 : {l : List Value // l.length = 64}) => Q r46 w45
theorem digest_spread.t (p0 : Sl) (Q : {l : List Value // l.length = 64} → World → Prop) (w : World) : digest_spread p0 Q w = fvc Tryd.prog an_digest_spread Tryd.f73 (.row 64) [Kd.av .L p0] w Q := by kernel_rfl
theorem digest_spread.k : fnOk Tryd.prog Tryd.f73 = true := by kernel_rfl
theorem digest_spread.cl {p0 : Sl} {Q : {l : List Value // l.length = 64} → World → Prop} {w : World} (h : digest_spread p0 Q w) : cl Tryd.prog n_digest_spread #[.slice p0.a p0.n p0.c] (.row 64) w Q :=
  cl_tie Tryd.func73 digest_spread.k (args := [Kd.av .L p0]) (digest_spread.t p0 Q w) h

/-- math/bits.RotateLeft32 -/
def math_bits_RotateLeft32 (p0 : Int) (p1 : Int) (Q : Int → World → Prop) (w : World) : Prop :=
 bif decide (0 ≤ (bits .and .u64 (IntKind.u64.wrap p1) 31)) then (bif decide (0 ≤ (IntKind.u64.wrap (32 - (bits .and .u64 (IntKind.u64.wrap p1) 31)))) then (Q (bits .or .u32 (IntKind.u32.wrap (p0 * 2 ^ (min (Int.toNat (bits .and .u64 (IntKind.u64.wrap p1) 31)) 32))) (p0 / 2 ^ (min (Int.toNat (IntKind.u64.wrap (32 - (bits .and .u64 (IntKind.u64.wrap p1) 31)))) 32))) w) else False) else False
theorem math_bits_RotateLeft32.t (p0 : Int) (p1 : Int) (Q : Int → World → Prop) (w : World) : math_bits_RotateLeft32 p0 p1 Q w = fvc Tryd.prog (fun _ => []) Tryd.f74 (.I .u32) [Kd.av (.I .u32) p0, Kd.av (.I .i64) p1] w Q := by kernel_rfl
theorem math_bits_RotateLeft32.k : fnOk Tryd.prog Tryd.f74 = true := by kernel_rfl
theorem math_bits_RotateLeft32.cl {p0 : Int} {p1 : Int} {Q : Int → World → Prop} {w : World} (h : math_bits_RotateLeft32 p0 p1 Q w) : cl Tryd.prog n_math_bits_RotateLeft32 #[.int .u32 p0, .int .i64 p1] (.I .u32) w Q :=
  cl_tie Tryd.func74 math_bits_RotateLeft32.k (args := [Kd.av (.I .u32) p0, Kd.av (.I .i64) p1]) (math_bits_RotateLeft32.t p0 p1 Q w) h

/-- flume/flumeref08.block -/
def an_flumeref08_block : Nat → LA
  | 3 => [(7, .L), (19, (.I .i64))] | 12 => [(11, .L), (106, (.I .i64))] | 22 => [(17, .L), (193, (.I .i64))] | 1000006 => [(0, .nil)] | 1000008 => [(0, .nil)] | 1000024 => [(0, .nil)] | _ => []
def flumeref08_block (p0 : Sl) (p1 : Sl) (p2 : Sl) (Q : Sl → World → Prop) (w : World) : Prop :=
 lp (α := (Sl × (Int × Unit))) (fun K => K (⟨none, 0, 0⟩, (0, ()))) w fun D3 J4 s1 w2 =>
 bif (decide (s1.2.1 < 64)) then
  (bif (decide (s1.2.1 < 16)) then
  (dr w2 fun w5 => ixa p2.a p2.n (IntKind.i64.wrap (4 * s1.2.1)) 1 fun a6 => ld (.I .u8) w5 a6 fun (x7 : Int) => ixa p2.a p2.n (IntKind.i64.wrap ((IntKind.i64.wrap (4 * s1.2.1)) + 1)) 1 fun a8 => ld (.I .u8) w5 a8 fun (x9 : Int) => ixa p2.a p2.n (IntKind.i64.wrap ((IntKind.i64.wrap (4 * s1.2.1)) + 2)) 1 fun a10 => ld (.I .u8) w5 a10 fun (x11 : Int) => ixa p2.a p2.n (IntKind.i64.wrap ((IntKind.i64.wrap (4 * s1.2.1)) + 3)) 1 fun a12 => ld (.I .u8) w5 a12 fun (x13 : Int) => nw w5 [.int .u32 (IntKind.u32.wrap ((IntKind.u32.wrap ((IntKind.u32.wrap ((IntKind.u32.wrap ((IntKind.u32.wrap x7) * 16777216)) + (IntKind.u32.wrap ((IntKind.u32.wrap x9) * 65536)))) + (IntKind.u32.wrap ((IntKind.u32.wrap x11) * 256)))) + (IntKind.u32.wrap x13)))] t_uint32 fun a14 w15 => app Tryd.prog t_s_uint32 t_s_uint32 s1.1 ⟨(some a14), 1, 1⟩ w15 fun r16 w17 => J4 (r16, ((IntKind.i64.wrap (s1.2.1 + 1)), ())) w17)
  else ixa s1.1.a s1.1.n (IntKind.i64.wrap (s1.2.1 - 15)) 1 fun a18 => ld (.I .u32) w2 a18 fun (x19 : Int) => ixa s1.1.a s1.1.n (IntKind.i64.wrap (s1.2.1 - 2)) 1 fun a20 => ld (.I .u32) w2 a20 fun (x21 : Int) => dr w2 fun w22 => dr w22 fun w23 => ixa s1.1.a s1.1.n (IntKind.i64.wrap (s1.2.1 - 16)) 1 fun a24 => ld (.I .u32) w23 a24 fun (x25 : Int) => ixa s1.1.a s1.1.n (IntKind.i64.wrap (s1.2.1 - 7)) 1 fun a26 => ld (.I .u32) w23 a26 fun (x27 : Int) => cl Tryd.prog n_flumeref08_rotr #[.int .u32 x19, .int .u64 7] (.I .u32) w23 fun (x28 : Int) w29 => Fr w23 w29 ∧ cl Tryd.prog n_flumeref08_rotr #[.int .u32 x19, .int .u64 18] (.I .u32) w29 fun (x30 : Int) w31 => Fr w29 w31 ∧ cl Tryd.prog n_flumeref08_rotr #[.int .u32 x21, .int .u64 17] (.I .u32) w31 fun (x32 : Int) w33 => Fr w31 w33 ∧ cl Tryd.prog n_flumeref08_rotr #[.int .u32 x21, .int .u64 19] (.I .u32) w33 fun (x34 : Int) w35 => Fr w33 w35 ∧ nw w35 [.int .u32 (IntKind.u32.wrap ((IntKind.u32.wrap ((IntKind.u32.wrap (x25 + (bits .xor .u32 (bits .xor .u32 x28 x30) (x19 / 2 ^ (min 3 32))))) + x27)) + (bits .xor .u32 (bits .xor .u32 x32 x34) (x21 / 2 ^ (min 10 32)))))] t_uint32 fun a36 w37 => app Tryd.prog t_s_uint32 t_s_uint32 s1.1 ⟨(some a36), 1, 1⟩ w37 fun r38 w39 => J4 (r38, ((IntKind.i64.wrap (s1.2.1 + 1)), ())) w39)
  else nw w2 [] t_uint32 fun a40 w41 => app Tryd.prog t_s_uint32 t_s_uint32 ⟨(some a40), 0, 0⟩ p0 w41 fun r42 w43 => lp (α := (Sl × (Int × Unit))) (fun K => K (r42, (0, ()))) w43 fun D46 J47 s44 w45 =>
 bif (decide (s44.2.1 < 64)) then
  (ixa s44.1.a s44.1.n 0 1 fun a48 => ld (.I .u32) w45 a48 fun (x49 : Int) => ixa s44.1.a s44.1.n 4 1 fun a50 => ld (.I .u32) w45 a50 fun (x51 : Int) => dr w45 fun w52 => ixa s44.1.a s44.1.n 7 1 fun a53 => ld (.I .u32) w52 a53 fun (x54 : Int) => qcl Tryd.prog n_flumeref08_rotr #[.int .u32 x51, .int .u64 6] (.I .u32) w52 fun (x55 : Int) => qcl Tryd.prog n_flumeref08_rotr #[.int .u32 x51, .int .u64 11] (.I .u32) w52 fun (x56 : Int) => qcl Tryd.prog n_flumeref08_rotr #[.int .u32 x51, .int .u64 25] (.I .u32) w52 fun (x57 : Int) => ixa s44.1.a s44.1.n 5 1 fun a58 => ld (.I .u32) w52 a58 fun (x59 : Int) => ixa s44.1.a s44.1.n 6 1 fun a60 => ld (.I .u32) w52 a60 fun (x61 : Int) => ixa p1.a p1.n s44.2.1 1 fun a62 => ld (.I .u32) w52 a62 fun (x63 : Int) => ixa s1.1.a s1.1.n s44.2.1 1 fun a64 => ld (.I .u32) w52 a64 fun (x65 : Int) => dr w52 fun w66 => qcl Tryd.prog n_flumeref08_rotr #[.int .u32 x49, .int .u64 2] (.I .u32) w66 fun (x67 : Int) => qcl Tryd.prog n_flumeref08_rotr #[.int .u32 x49, .int .u64 13] (.I .u32) w66 fun (x68 : Int) => qcl Tryd.prog n_flumeref08_rotr #[.int .u32 x49, .int .u64 22] (.I .u32) w66 fun (x69 : Int) => ixa s44.1.a s44.1.n 1 1 fun a70 => ld (.I .u32) w66 a70 fun (x71 : Int) => ixa s44.1.a s44.1.n 2 1 fun a72 => ld (.I .u32) w66 a72 fun (x73 : Int) => ixa s44.1.a s44.1.n 1 1 fun a74 => ld (.I .u32) w66 a74 fun (x75 : Int) => ixa s44.1.a s44.1.n 2 1 fun a76 => ld (.I .u32) w66 a76 fun (x77 : Int) => dr w66 fun w78 => nw w78 [.int .u32 (IntKind.u32.wrap ((IntKind.u32.wrap ((IntKind.u32.wrap ((IntKind.u32.wrap ((IntKind.u32.wrap (x54 + (bits .xor .u32 (bits .xor .u32 x55 x56) x57))) + (bits .xor .u32 (bits .and .u32 x51 x59) (bits .and .u32 (IntKind.u32.wrap (4294967295 - x51)) x61)))) + x63)) + x65)) + (IntKind.u32.wrap ((bits .xor .u32 (bits .xor .u32 x67 x68) x69) + (bits .xor .u32 (bits .xor .u32 (bits .and .u32 x49 x71) (bits .and .u32 x49 x73)) (bits .and .u32 x75 x77))))))] t_uint32 fun a79 w80 => sls s44.1 0 7 1 fun r81 => app Tryd.prog t_s_uint32 t_s_uint32 ⟨(some a79), 1, 1⟩ r81 w80 fun r82 w83 => ixa r82.a r82.n 4 1 fun a84 => ld (.I .u32) w83 a84 fun (x85 : Int) => ixa r82.a r82.n 4 1 fun a86 => st1 w83 a86 (.int .u32 (IntKind.u32.wrap (x85 + (IntKind.u32.wrap ((IntKind.u32.wrap ((IntKind.u32.wrap ((IntKind.u32.wrap (x54 + (bits .xor .u32 (bits .xor .u32 x55 x56) x57))) + (bits .xor .u32 (bits .and .u32 x51 x59) (bits .and .u32 (IntKind.u32.wrap (4294967295 - x51)) x61)))) + x63)) + x65))))) fun w87 => J47 (r82, ((IntKind.i64.wrap (s44.2.1 + 1)), ())) w87)
  else lp (α := (Sl × (Int × Unit))) (fun K => K (⟨none, 0, 0⟩, (0, ()))) w45 fun D90 J91 s88 w89 =>
 bif (decide (s88.2.1 < 8)) then
  (dr w89 fun w92 => ixa p0.a p0.n s88.2.1 1 fun a93 => ld (.I .u32) w92 a93 fun (x94 : Int) => ixa s44.1.a s44.1.n s88.2.1 1 fun a95 => ld (.I .u32) w92 a95 fun (x96 : Int) => nw w92 [.int .u32 (IntKind.u32.wrap (x94 + x96))] t_uint32 fun a97 w98 => app Tryd.prog t_s_uint32 t_s_uint32 s88.1 ⟨(some a97), 1, 1⟩ w98 fun r99 w100 => J91 (r99, ((IntKind.i64.wrap (s88.2.1 + 1)), ())) w100)
  else Q s88.1 w89
theorem flumeref08_block.t (p0 : Sl) (p1 : Sl) (p2 : Sl) (Q : Sl → World → Prop) (w : World) : flumeref08_block p0 p1 p2 Q w = fvc Tryd.prog an_flumeref08_block Tryd.f75 .L [Kd.av .L p0, Kd.av .L p1, Kd.av .L p2] w Q := by kernel_rfl
theorem flumeref08_block.k : fnOk Tryd.prog Tryd.f75 = true := by kernel_rfl
theorem flumeref08_block.cl {p0 : Sl} {p1 : Sl} {p2 : Sl} {Q : Sl → World → Prop} {w : World} (h : flumeref08_block p0 p1 p2 Q w) : cl Tryd.prog n_flumeref08_block #[.slice p0.a p0.n p0.c, .slice p1.a p1.n p1.c, .slice p2.a p2.n p2.c] .L w Q :=
  cl_tie Tryd.func75 flumeref08_block.k (args := [Kd.av .L p0, Kd.av .L p1, Kd.av .L p2]) (flumeref08_block.t p0 p1 p2 Q w) h

/-- math/bits.LeadingZeros8 -/
def math_bits_LeadingZeros8 (p0 : Int) (Q : Int → World → Prop) (w : World) : Prop :=
 cl Tryd.prog n_math_bits_Len8 #[.int .u8 p0] (.I .i64) w fun (x1 : Int) w2 => Q (IntKind.i64.wrap (8 - x1)) w2
theorem math_bits_LeadingZeros8.t (p0 : Int) (Q : Int → World → Prop) (w : World) : math_bits_LeadingZeros8 p0 Q w = fvc Tryd.prog (fun _ => []) Tryd.f77 (.I .i64) [Kd.av (.I .u8) p0] w Q := by kernel_rfl
theorem math_bits_LeadingZeros8.k : fnOk Tryd.prog Tryd.f77 = true := by kernel_rfl
theorem math_bits_LeadingZeros8.cl {p0 : Int} {Q : Int → World → Prop} {w : World} (h : math_bits_LeadingZeros8 p0 Q w) : cl Tryd.prog n_math_bits_LeadingZeros8 #[.int .u8 p0] (.I .i64) w Q :=
  cl_tie Tryd.func77 math_bits_LeadingZeros8.k (args := [Kd.av (.I .u8) p0]) (math_bits_LeadingZeros8.t p0 Q w) h

/-- flume/flumeref08.rotr -/
def flumeref08_rotr (p0 : Int) (p1 : Int) (Q : Int → World → Prop) (w : World) : Prop :=
 bif decide (0 ≤ p1) then (bif decide (0 ≤ (IntKind.u64.wrap (32 - p1))) then (Q (bits .or .u32 (p0 / 2 ^ (min (Int.toNat p1) 32)) (IntKind.u32.wrap (p0 * 2 ^ (min (Int.toNat (IntKind.u64.wrap (32 - p1))) 32)))) w) else False) else False
theorem flumeref08_rotr.t (p0 : Int) (p1 : Int) (Q : Int → World → Prop) (w : World) : flumeref08_rotr p0 p1 Q w = fvc Tryd.prog (fun _ => []) Tryd.f78 (.I .u32) [Kd.av (.I .u32) p0, Kd.av (.I .u64) p1] w Q := by kernel_rfl
theorem flumeref08_rotr.k : fnOk Tryd.prog Tryd.f78 = true := by kernel_rfl
theorem flumeref08_rotr.cl {p0 : Int} {p1 : Int} {Q : Int → World → Prop} {w : World} (h : flumeref08_rotr p0 p1 Q w) : cl Tryd.prog n_flumeref08_rotr #[.int .u32 p0, .int .u64 p1] (.I .u32) w Q :=
  cl_tie Tryd.func78 flumeref08_rotr.k (args := [Kd.av (.I .u32) p0, Kd.av (.I .u64) p1]) (flumeref08_rotr.t p0 p1 Q w) h

/-- math/bits.Len8 -/
def math_bits_Len8 (p0 : Int) (Q : Int → World → Prop) (w : World) : Prop :=
 0 ≤ p0 ∧ p0 < ((⟨#[0, 1, 2, 2, 3, 3, 3, 3, 4, 4, 4, 4, 4, 4, 4, 4, 5, 5, 5, 5, 5, 5, 5, 5, 5, 5, 5, 5, 5, 5, 5, 5, 6, 6, 6, 6, 6, 6, 6, 6, 6, 6, 6, 6, 6, 6, 6, 6, 6, 6, 6, 6, 6, 6, 6, 6, 6, 6, 6, 6, 6, 6, 6, 6, 7, 7, 7, 7, 7, 7, 7, 7, 7, 7, 7, 7, 7, 7, 7, 7, 7, 7, 7, 7, 7, 7, 7, 7, 7, 7, 7, 7, 7, 7, 7, 7, 7, 7, 7, 7, 7, 7, 7, 7, 7, 7, 7, 7, 7, 7, 7, 7, 7, 7, 7, 7, 7, 7, 7, 7, 7, 7, 7, 7, 7, 7, 7, 7, 8, 8, 8, 8, 8, 8, 8, 8, 8, 8, 8, 8, 8, 8, 8, 8, 8, 8, 8, 8, 8, 8, 8, 8, 8, 8, 8, 8, 8, 8, 8, 8, 8, 8, 8, 8, 8, 8, 8, 8, 8, 8, 8, 8, 8, 8, 8, 8, 8, 8, 8, 8, 8, 8, 8, 8, 8, 8, 8, 8, 8, 8, 8, 8, 8, 8, 8, 8, 8, 8, 8, 8, 8, 8, 8, 8, 8, 8, 8, 8, 8, 8, 8, 8, 8, 8, 8, 8, 8, 8, 8, 8, 8, 8, 8, 8, 8, 8, 8, 8, 8, 8, 8, 8, 8, 8, 8, 8, 8, 8, 8, 8, 8, 8, 8, 8, 8, 8, 8, 8, 8, 8, 8, 8, 8, 8, 8, 8]⟩ : ByteArray).size : Int) ∧ (Q (IntKind.i64.wrap (((⟨#[0, 1, 2, 2, 3, 3, 3, 3, 4, 4, 4, 4, 4, 4, 4, 4, 5, 5, 5, 5, 5, 5, 5, 5, 5, 5, 5, 5, 5, 5, 5, 5, 6, 6, 6, 6, 6, 6, 6, 6, 6, 6, 6, 6, 6, 6, 6, 6, 6, 6, 6, 6, 6, 6, 6, 6, 6, 6, 6, 6, 6, 6, 6, 6, 7, 7, 7, 7, 7, 7, 7, 7, 7, 7, 7, 7, 7, 7, 7, 7, 7, 7, 7, 7, 7, 7, 7, 7, 7, 7, 7, 7, 7, 7, 7, 7, 7, 7, 7, 7, 7, 7, 7, 7, 7, 7, 7, 7, 7, 7, 7, 7, 7, 7, 7, 7, 7, 7, 7, 7, 7, 7, 7, 7, 7, 7, 7, 7, 8, 8, 8, 8, 8, 8, 8, 8, 8, 8, 8, 8, 8, 8, 8, 8, 8, 8, 8, 8, 8, 8, 8, 8, 8, 8, 8, 8, 8, 8, 8, 8, 8, 8, 8, 8, 8, 8, 8, 8, 8, 8, 8, 8, 8, 8, 8, 8, 8, 8, 8, 8, 8, 8, 8, 8, 8, 8, 8, 8, 8, 8, 8, 8, 8, 8, 8, 8, 8, 8, 8, 8, 8, 8, 8, 8, 8, 8, 8, 8, 8, 8, 8, 8, 8, 8, 8, 8, 8, 8, 8, 8, 8, 8, 8, 8, 8, 8, 8, 8, 8, 8, 8, 8, 8, 8, 8, 8, 8, 8, 8, 8, 8, 8, 8, 8, 8, 8, 8, 8, 8, 8, 8, 8, 8, 8, 8, 8]⟩ : ByteArray).data.toList.getD (Int.toNat p0) 0).toNat : Int)) w)
theorem math_bits_Len8.t (p0 : Int) (Q : Int → World → Prop) (w : World) : math_bits_Len8 p0 Q w = fvc Tryd.prog (fun _ => []) Tryd.f79 (.I .i64) [Kd.av (.I .u8) p0] w Q := by kernel_rfl
theorem math_bits_Len8.k : fnOk Tryd.prog Tryd.f79 = true := by kernel_rfl
theorem math_bits_Len8.cl {p0 : Int} {Q : Int → World → Prop} {w : World} (h : math_bits_Len8 p0 Q w) : cl Tryd.prog n_math_bits_Len8 #[.int .u8 p0] (.I .i64) w Q :=
  cl_tie Tryd.func79 math_bits_Len8.k (args := [Kd.av (.I .u8) p0]) (math_bits_Len8.t p0 Q w) h
end Go.Proofs.YtkojpppnjloikaaDoor

namespace Go.Fl
open Go.RowKit

theorem bP {p : Prop} [Decidable p] {X Y : Prop} (h : p) (k : X) : bif decide p then X else Y := by rw [decide_eq_true h]; exact k
theorem bN {p : Prop} [Decidable p] {X Y : Prop} (h : ¬p) (k : Y) : bif decide p then X else Y := by rw [decide_eq_false h]; exact k
theorem bD {p : Prop} [Decidable p] {X Y : Prop} (ht : p → X) (hf : ¬p → Y) : bif decide p then X else Y := by
  by_cases h : p
  · exact bP h (ht h)
  · exact bN h (hf h)
theorem bT {b : Bool} {X Y : Prop} (h : b = true) (k : X) : bif b then X else Y := by rw [h]; exact k
theorem bF {b : Bool} {X Y : Prop} (h : b = false) (k : Y) : bif b then X else Y := by rw [h]; exact k
theorem bB {b : Bool} {X Y : Prop} (ht : b = true → X) (hf : b = false → Y) : bif b then X else Y := by cases b; exact hf rfl; exact ht rfl
theorem bE {a b : Int} {X Y : Prop} (ht : a = b → X) (hf : a ≠ b → Y) : bif a == b then X else Y := by
  by_cases h : a = b
  · exact bT (by simpa using h) (ht h)
  · exact bF (by simpa using h) (hf h)
theorem bNe {a b : Int} {X Y : Prop} (ht : a ≠ b → X) (hf : a = b → Y) : bif a != b then X else Y := by
  by_cases h : a = b
  · exact bF (by simpa using h) (hf h)
  · exact bT (by simpa using h) (ht h)

theorem i64w {n : Int} (h : -9223372036854775808 ≤ n) (h' : n ≤ 9223372036854775807) : IntKind.i64.wrap n = n := by rw [IntKind.wrap_i64]; omega
theorem u64w {n : Int} (h : 0 ≤ n) (h' : n ≤ 18446744073709551615) : IntKind.u64.wrap n = n := by simp only [IntKind.wrap, IntKind.bits, IntKind.signed]; simp; omega
theorem u8w (n : Int) : IntKind.u8.wrap n = n % 256 := IntKind.wrap_u8 n
theorem u32w (n : Int) : IntKind.u32.wrap n = n % 4294967296 := IntKind.wrap_u32 n

/-- A loop: an invariant, and what every round lowers. -/
theorem lpI {α : Type} {init : (α → Prop) → Prop} {w : World} {body : (Nat → AV) → (α → World → Prop) → α → World → Prop} (J : α → World → Prop) (μ : α → World → Nat)
    (h0 : init fun s => J s w) (h : ∀ D s w', J s w' → body D (fun s' w'' => J s' w'' ∧ μ s' w'' < μ s w') s w') : lp init w body := ⟨J, μ, h0, h⟩

theorem Fr.on {a b c : World} (h : Fr a b) (k : Below a.heap.size b c) : Fr a c := Below.trans h k
theorem Fr.alloc (w : World) (o : Obj) : Fr w (w.alloc o) := (Below.refl _ w).alloc (Nat.le_refl _) o
theorem Fr.drewN (w : World) (n : Nat) : Fr w (w.drewN n) := ⟨rfl, rfl, rfl, Nat.le_refl _, fun _ _ => rfl⟩

theorem own_kept {w w' : World} {base : Nat} {e : TypeId} {size : Nat} {v : Value} {n : Nat} {xs : List Value} (h : w.ownsRow base e size v n xs) (hf : Fr w w') : w'.ownsRow base e size v n xs := by
  refine ⟨h.1, ?_⟩
  rcases h.2 with hn | ⟨g, cap, cur, rfl, hb, hgg, rest⟩
  · exact .inl hn
  · exact .inr ⟨g, cap, cur, rfl, hb, (hf.block g (Array.getElem?_eq_some_iff.1 hgg).1).trans hgg, rest⟩

/-- A slice of the call's own that holds bytes. -/
def OwB (w : World) (base : Nat) (e : TypeId) (s : Sl) (l : List UInt8) : Prop := w.ownsRow base e 1 (.slice s.a s.n s.c) s.n (u8s l)
theorem OwB.len {w : World} {base : Nat} {e : TypeId} {s : Sl} {l : List UInt8} (h : OwB w base e s l) : s.n = l.length := by
  have := h.1; rw [u8s_length] at this; omega
theorem OwB.rd {w : World} {base : Nat} {e : TypeId} {s : Sl} {l : List UInt8} (h : OwB w base e s l) : Rd w s.a (u8s l) := Rd.of_own h
theorem OwB.fr {w w' : World} {base : Nat} {e : TypeId} {s : Sl} {l : List UInt8} (h : OwB w base e s l) (hf : Fr w w') : OwB w' base e s l := own_kept h hf
theorem OwB.nil (w : World) (base : Nat) (e : TypeId) : OwB w base e ⟨none, 0, 0⟩ [] := World.ownsRow_nil w base e 1
theorem OwB.cap {w : World} {base : Nat} {e : TypeId} {s : Sl} {l : List UInt8} (h : OwB w base e s l) : s.n ≤ s.c := by
  rcases h.2 with ⟨hv, hn⟩ | ⟨g, cap, cur, hv, _, _, hc, _⟩
  · injection hv with _ h1 h2; omega
  · injection hv with _ h1 h2; omega
theorem OwB.block {w : World} {base : Nat} {e : TypeId} {s : Sl} {l : List UInt8} (h : OwB w base e s l) : ∀ k, (Value.slice s.a s.n s.c).ownBlock = some k → base ≤ k ∧ k < w.heap.size := h.lt

/-- A slice that reads as bytes. -/
structure Bs (w : World) (s : Sl) (l : List UInt8) : Prop where
  rd : Rd w s.a (u8s l)
  len : s.n = l.length
  cap : s.n ≤ s.c
theorem Bs.fr {w w' : World} {s : Sl} {l : List UInt8} (h : Bs w s l) (hf : Fr w w') : Bs w' s l := ⟨h.rd.below hf, h.len, h.cap⟩
theorem OwB.bs {w : World} {base : Nat} {e : TypeId} {s : Sl} {l : List UInt8} (h : OwB w base e s l) : Bs w s l := ⟨h.rd, h.len, h.cap⟩

theorem sl_of_own {w : World} {base : Nat} {e : TypeId} {size : Nat} {v : Value} {n : Nat} {xs : List Value} (h : w.ownsRow base e size v n xs) : ∃ s : Sl, v = .slice s.a s.n s.c ∧ s.n = n := by
  rcases h.2 with ⟨rfl, rfl⟩ | ⟨g, cap, cur, rfl, _⟩
  · exact ⟨⟨none, 0, 0⟩, rfl, rfl⟩
  · exact ⟨⟨some ⟨g, 0, none⟩, n, cap⟩, rfl, rfl⟩

/-- append onto a row of the call's own. -/
theorem app_own {P : Program} {t ty e : TypeId} {size bytes : Nat} (hT : SlT P t e size bytes) {base : Nat} {s x : Sl} {w : World} {K : Sl → World → Prop} {xs news : List Value}
    (hown : w.ownsRow base e size (.slice s.a s.n s.c) s.n xs) (hr : Rd w x.a news) (hl : news.length = x.n * size) (h1 : ∀ u ∈ news, u.oneCell' = true)
    (hb : (s.n + x.n) * bytes ≤ 140737488355328) (h63 : s.n + x.n ≤ 140737488355328) (hbase : base ≤ w.heap.size)
    (h : ∀ (r : Sl) w', r.n = s.n + x.n → w'.ownsRow base e size (.slice r.a r.n r.c) r.n (xs ++ news) → w.grownBy w' (Value.slice s.a s.n s.c).ownBlock →
      ((Value.slice r.a r.n r.c).ownBlock = (Value.slice s.a s.n s.c).ownBlock ∨ (Value.slice r.a r.n r.c).ownBlock = some w.heap.size) → K r w') : app P t ty s x w K := by
  obtain ⟨v', w', hrun, h2, h3, h4⟩ := run_append_rd (P := P) (ty := ty) hT base hown (c := x.c) hr hl h1 hb h63 hbase
  obtain ⟨r, rfl, hn⟩ := sl_of_own h2
  exact ⟨r, w', hrun, h r w' hn (hn ▸ h2) h3 h4⟩

/-- append of bytes. -/
theorem app_B {P : Program} {t ty e : TypeId} (hT : SlT P t e 1 1) {base : Nat} {s x : Sl} {w : World} {K : Sl → World → Prop} {l m : List UInt8}
    (hs : OwB w base e s l) (hx : Rd w x.a (u8s m)) (hm : m.length = x.n) (hl : l.length + m.length ≤ 140737488355328) (hbase : base ≤ w.heap.size)
    (h : ∀ (r : Sl) w', OwB w' base e r (l ++ m) → Below base w w' → (∀ k, k < w.heap.size → (Value.slice s.a s.n s.c).ownBlock ≠ some k → w'.heap[k]? = w.heap[k]?) → 
      ((Value.slice r.a r.n r.c).ownBlock = (Value.slice s.a s.n s.c).ownBlock ∨ (Value.slice r.a r.n r.c).ownBlock = some w.heap.size) → K r w') : app P t ty s x w K := by
  have hn := hs.len
  refine app_own hT hs hx (by simp [u8s_length, hm]) (u8s_one m) (by omega) (by omega) hbase fun r w' hr ho hg hat => h r w' ?_ ?_ ?_ hat
  · unfold OwB; rw [u8s_append]; exact ho
  · exact (Below.refl base w).grown hg hbase fun k hk => (hs.block k hk).1
  · exact fun k hk hne => hg.block k hk fun e => hne e.symm

/-- make([]T, 0, n). -/
theorem mks0 {P : Program} {t e : TypeId} {size bytes : Nat} (hT : SlT P t e size bytes) (base : Nat) {C : Int} {w : World} {K : Sl → World → Prop} (n : Nat) (hC : C = (n : Int)) (hb : bytes * n ≤ 140737488355328) (h63 : n ≤ 140737488355328) (hbase : base ≤ w.heap.size)
    (h : ∀ w', w'.ownsRow base e size (.slice (some ⟨w.heap.size, 0, none⟩) 0 n) 0 [] → Fr w w' → K ⟨some ⟨w.heap.size, 0, none⟩, 0, n⟩ w') : mks P t 0 C w K := by
  obtain ⟨i, z, hi, hz, hsize, hby, hzs⟩ := hT.info
  subst hC
  obtain ⟨w', hrun, r1, r2⟩ := run_make_own (P := P) w base t e i z size hT.under hi hz hsize .i64 .i64 n (by rw [hby]; omega) (by simp only [maxLen]; omega) hbase
  exact ⟨⟨some ⟨w.heap.size, 0, none⟩, 0, n⟩, w', hrun, h w' r1 ((Below.refl _ w).grown r2 (Nat.le_refl _) (by simp))⟩

/-- A new block. -/
theorem nwI {w : World} {cs : List Value} {t : TypeId} {K : Addr → World → Prop}
    (h : ∀ b w', b = w.heap.size → w'.heap.size = w.heap.size + 1 → Fr w w' → w'.heap[b]? = some (.cells cs.toArray t (0, 0)) → Rd w' (some ⟨b, 0, none⟩) cs → K ⟨b, 0, none⟩ w') : nw w cs t K := by
  refine h w.heap.size _ rfl (by simp) (Fr.alloc _ _) (heap_alloc_new w _) ?_
  intro j u hu
  refine ⟨_, rfl, ?_⟩
  have hadd : (⟨w.heap.size, 0, none⟩ : Addr).add j = ⟨w.heap.size, j, none⟩ := by unfold Addr.add; split <;> simp_all
  rw [hadd, cell_of_row (w.alloc (.cells cs.toArray t)) w.heap.size j cs.toArray t (0, 0) (heap_alloc_new w _)]
  simpa using hu

theorem Rd.u8 {w : World} {A : Option Addr} {l : List UInt8} (h : Rd w A (u8s l)) {i : Nat} (hi : i < l.length) : ∃ ad, A = some ad ∧ w.cell? (ad.add i) = some (.int .u8 (l[i].toNat)) := by
  have := h.at i (by rw [u8s_length]; exact hi)
  simpa [u8s] using this
/-- A byte of a slice is read. -/
theorem ixB {w w' : World} {s : Sl} {l : List UInt8} {i : Int} {K : Int → Prop} (hs : Rd w s.a (u8s l)) (hl : s.n = l.length) (h0 : 0 ≤ i) (hi : i.toNat < l.length) (hw : Fr w w')
    (h : K (l[i.toNat].toNat)) : ixa s.a s.n i 1 fun a => ld (.I .u8) w' a K := by
  obtain ⟨ad, ha, hc⟩ := (hs.below hw).u8 hi
  refine ⟨h0, by omega, ?_⟩
  rw [ha]
  exact ⟨_, hc, h⟩
theorem ixB0 {w w' : World} {s : Sl} {b : UInt8} {t : List UInt8} {K : Int → Prop} (hs : Rd w s.a (u8s (b :: t))) (hl : s.n = (b :: t).length) (hw : Fr w w')
    (h : K (b.toNat)) : ixa s.a s.n 0 1 fun a => ld (.I .u8) w' a K := ixB hs hl (by decide) (by simp) hw h
theorem bstrI {w w' : World} {x : Sl} {l : List UInt8} {K : List UInt8 → Prop} (h : Rd w x.a (u8s l)) (hl : l.length = x.n) (hw : Fr w w') (hk : K l) : bstr w' x K := ⟨l, hl, h.below hw, hk⟩
theorem beqB_eq (a b : List UInt8) : beqB ⟨a.toArray⟩ ⟨b.toArray⟩ = decide (a = b) := by
  unfold beqB
  rw [ByteArray.toList_eq, ByteArray.toList_eq]
  simp [Bool.beq_eq_decide_eq]
/-- A law's call, as its row wants it. -/
theorem lawE {P : Program} {f : FuncId} {args : Array Value} {w : World} (h : cl P f args .B w fun r w' => r = true ∧ Fr w w') : Calls P f args w fun e w' => e = .returned (.bool true) ∧ Below w.heap.size w w' := by
  refine Calls.mono h ?_
  rintro e w' ⟨x, rfl, rfl, hf⟩
  exact ⟨rfl, hf⟩

/-- A part of a slice. -/
theorem Bs.cut {w : World} {s : Sl} {l : List UInt8} (h : Bs w s l) {i j : Nat} (hij : i ≤ j) (hj : j ≤ l.length) : Bs w (cut s i j 1) ((l.take j).drop i) := by
  have hl := h.len
  have hc := h.cap
  refine ⟨?_, by simp [Fl.cut, List.length_take]; omega, by simp [Fl.cut]; omega⟩
  have hr : Rd w s.a (u8s (l.take j)) := by
    have := h.rd.take j
    rwa [show (u8s l).take j = u8s (l.take j) from by simp [u8s, List.map_take]] at this
  have hd := hr.drop i
  rw [show (u8s (l.take j)).drop i = u8s ((l.take j).drop i) from by simp [u8s, List.map_drop]] at hd
  unfold Fl.cut
  by_cases hci : s.c = i
  · simp only [hci, if_true]
    have : (l.take j).drop i = [] := by rw [List.drop_eq_nil_iff, List.length_take]; omega
    rw [this]; exact Rd.nil _ _
  · rw [if_neg hci]
    rw [show (fun x => atOff x (i : Int) 1) = fun x : Addr => x.add i from rfl]
    exact hd
theorem slsB {w : World} {s : Sl} {l : List UInt8} {i j : Int} {K : Sl → Prop} (h : Bs w s l) (h0 : 0 ≤ i) (hij : i ≤ j) (hj : j ≤ l.length)
    (hk : ∀ r : Sl, Bs w r ((l.take j.toNat).drop i.toNat) → (∀ ad, r.a = some ad → ∃ ad', s.a = some ad' ∧ ad.block = ad'.block) → r.c ≤ s.c → K r) : sls s i j 1 K := by
  have hl := h.len
  have hc := h.cap
  refine ⟨h0, hij, by omega, hk _ (h.cut (by omega) (by omega)) (fun ad ha => ?_) (by simp [Fl.cut])⟩
  unfold Fl.cut at ha
  split at ha
  · exact ⟨ad, ha, rfl⟩
  · cases hs : s.a with
    | none => rw [hs] at ha; cases ha
    | some ad' =>
      rw [hs] at ha
      simp only [Option.map_some, Option.some.injEq] at ha
      refine ⟨ad', rfl, ?_⟩
      rw [← ha, atOff_eq, add_block]
theorem Bs.nil (w : World) (c : Nat) : Bs w ⟨none, 0, c⟩ [] := ⟨Rd.nil _ _, rfl, Nat.zero_le _⟩
theorem OwB.new {w : World} {base : Nat} {e : TypeId} {b : Nat} (h : w.heap[b]? = some (.cells #[] e (0, 0))) (hb : base ≤ b) : OwB w base e ⟨some ⟨b, 0, none⟩, 0, 0⟩ [] :=
  ⟨rfl, .inr ⟨b, 0, #[], rfl, hb, h, Nat.le_refl _, Nat.zero_le _, rfl, rfl⟩⟩
theorem OwB.mono {w : World} {base base' : Nat} {e : TypeId} {s : Sl} {l : List UInt8} (h : OwB w base e s l) (hb : base' ≤ base) : OwB w base' e s l := by
  refine ⟨h.1, ?_⟩
  rcases h.2 with hn | ⟨g, cap, cur, hv, hg, rest⟩
  · exact .inl hn
  · exact .inr ⟨g, cap, cur, hv, Nat.le_trans hb hg, rest⟩
/-- append to a new empty slice. -/
theorem copyB {P : Program} {t ty e : TypeId} (hT : SlT P t e 1 1) {x : Sl} {l : List UInt8} {w : World} {K : Sl → World → Prop} (hx : Bs w x l) (hl : l.length ≤ 140737488355328)
    (h : ∀ (r : Sl) w', OwB w' w.heap.size e r l → Fr w w' → K r w') : nw w [] e fun a w2 => app P t ty ⟨some a, 0, 0⟩ x w2 K := by
  refine nwI fun b w2 hb hsz hf hblk _ => ?_
  refine app_B hT (base := w.heap.size) (l := []) (OwB.new hblk (by omega)) (hx.fr hf).rd hx.len.symm (by simpa using hl) hf.size fun r w3 ho hb3 _ _ => h r w3 ?_ (hf.on hb3)
  simpa using ho

/-- A slice that reads as numbers. -/
structure Is (w : World) (s : Sl) (l : List Int) : Prop where
  rd : Rd w s.a (l.map (Value.int .i64))
  len : s.n = l.length
  cap : s.n ≤ s.c
theorem Is.fr {w w' : World} {s : Sl} {l : List Int} (h : Is w s l) (hf : Fr w w') : Is w' s l := ⟨h.rd.below hf, h.len, h.cap⟩
theorem ixI {w w' : World} {s : Sl} {l : List Int} {i : Int} {K : Int → Prop} (hs : Is w s l) (h0 : 0 ≤ i) (hi : i.toNat < l.length) (hw : Fr w w')
    (h : K l[i.toNat]) : ixa s.a s.n i 1 fun a => ld (.I .i64) w' a K := by
  have := (hs.rd.below hw).at i.toNat (by simpa using hi)
  obtain ⟨ad, ha, hc⟩ := this
  rw [List.getElem_map] at hc
  refine ⟨h0, by have := hs.len; omega, ?_⟩
  rw [ha]
  exact ⟨_, hc, h⟩
theorem wfI64 {n : Int} (h : (Lit.int .i64 n).wf = true) : -9223372036854775808 ≤ n ∧ n ≤ 9223372036854775807 := by
  simp only [Lit.wf, IntKind.min, IntKind.max, IntKind.signed, IntKind.bits, Bool.and_eq_true, decide_eq_true_eq, if_true] at h
  omega
/-- A slice of numbers that came in. -/
abbrev RowK (k : IntKind) (w : World) (a : Option Addr) (len cap : Nat) (zs : List Int) : Prop :=
  (a = none ∧ len = 0 ∧ cap = 0 ∧ zs = []) ∨
  ∃ x, a = some x ∧ len ≤ cap ∧ cap ≤ maxLen ∧ zs.length = cap ∧ (∀ i, i < zs.length → w.cell? (x.add i) = some (.int k (zs.getD i 0))) ∧ ∀ n ∈ zs, (Lit.int k n).wf = true
theorem rowRd {k : IntKind} {w : World} {a : Option Addr} {len cap : Nat} {zs : List Int} (h : RowK k w a len cap zs) :
    Rd w a ((zs.take len).map (Value.int k)) ∧ len = (zs.take len).length ∧ len ≤ cap ∧ ∀ n ∈ zs.take len, (Lit.int k n).wf = true := by
  rcases h with ⟨rfl, rfl, rfl, rfl⟩ | ⟨x, rfl, hc, hm, hl, hcell, hw⟩
  · exact ⟨Rd.nil _ _, rfl, Nat.le_refl _, by simp⟩
  · refine ⟨fun j u hu => ⟨x, rfl, ?_⟩, by simp [List.length_take]; omega, hc, fun n hn => hw n (List.mem_of_mem_take hn)⟩
    rw [List.getElem?_map, List.getElem?_take] at hu
    split at hu
    case isTrue hj =>
      rw [hcell j (by omega)]
      rw [List.getD_eq_getElem?_getD]
      cases hz : zs[j]? with
      | none => simp [hz] at hu
      | some z => simpa [hz] using hu
    case isFalse => simp at hu
theorem rowB {w : World} {a : Option Addr} {len cap : Nat} {zs : List Int} (h : RowK .u8 w a len cap zs) : ∃ l : List UInt8, Bs w ⟨a, len, cap⟩ l := by
  obtain ⟨h1, h2, h3, h4⟩ := rowRd h
  refine ⟨(zs.take len).map fun n => UInt8.ofNat n.toNat, ?_, by simpa using h2, h3⟩
  unfold u8s
  rw [List.map_map]
  rwa [List.map_congr_left (g := Value.int .u8)]
  intro n hn
  have := h4 n hn
  simp only [Lit.wf, IntKind.min, IntKind.max, IntKind.signed, IntKind.bits, Bool.and_eq_true] at this
  simp only [Function.comp, UInt8.toNat_ofNat']
  congr 1
  simp at this
  omega
theorem rowI {w : World} {a : Option Addr} {len cap : Nat} {zs : List Int} (h : RowK .i64 w a len cap zs) : ∃ l : List Int, Is w ⟨a, len, cap⟩ l ∧ ∀ n ∈ l, -9223372036854775808 ≤ n ∧ n ≤ 9223372036854775807 := by
  obtain ⟨h1, h2, h3, h4⟩ := rowRd h
  exact ⟨_, ⟨h1, h2, h3⟩, fun n hn => wfI64 (h4 n hn)⟩
end Go.Fl
namespace Go.Fl

def moreF : Nat → Nat → Nat
  | 0, _ => 0
  | f + 1, x => if x < 128 then 0 else moreF f (x / 128) + 1
/-- How many bytes follow a number's first one. -/
def moreN (x : Nat) : Nat := moreF 8 x
theorem moreF_le : ∀ f x, moreF f x ≤ f
  | 0, _ => Nat.le_refl _
  | f + 1, x => by unfold moreF; split; omega; have := moreF_le f (x / 128); omega
theorem moreN_le (x : Nat) : moreN x ≤ 8 := moreF_le 8 x
theorem moreF_of : ∀ {f k x : Nat}, k < f → x < 128 ^ (k + 1) → (∀ j, j < k → 128 ^ (j + 1) ≤ x) → moreF f x = k
  | f + 1, 0, x, _, h, _ => by unfold moreF; rw [if_pos (by simpa using h)]
  | f + 1, k + 1, x, hk, h, hl => by
    have h0 : 128 ≤ x := by simpa using hl 0 (by omega)
    unfold moreF
    rw [if_neg (by omega), moreF_of (k := k) (by omega) (by rw [Nat.div_lt_iff_lt_mul (by decide)]; simpa [Nat.pow_succ] using h)
      (fun j hj => by rw [Nat.le_div_iff_mul_le (by decide)]; have := hl (j + 1) (by omega); simpa [Nat.pow_succ] using this)]
theorem moreF_top : ∀ {f x : Nat}, (∀ j, j < f → 128 ^ (j + 1) ≤ x) → moreF f x = f
  | 0, _, _ => rfl
  | f + 1, x, hl => by
    have h0 : 128 ≤ x := by simpa using hl 0 (by omega)
    unfold moreF
    rw [if_neg (by omega), moreF_top (fun j hj => by rw [Nat.le_div_iff_mul_le (by decide)]; have := hl (j + 1) (by omega); simpa [Nat.pow_succ] using this)]
/-- Where it stops, and what stands ahead. -/
theorem moreF_spec : ∀ {f x : Nat}, (moreF f x < f → x < 128 ^ (moreF f x + 1)) ∧ ∀ j, j < moreF f x → 128 ^ (j + 1) ≤ x
  | 0, x => ⟨fun h => by simp [moreF] at h, fun j h => by simp [moreF] at h⟩
  | f + 1, x => by
    unfold moreF
    split
    · rename_i h; exact ⟨fun _ => by simpa using h, fun j hj => by omega⟩
    · rename_i h
      obtain ⟨h1, h2⟩ := moreF_spec (f := f) (x := x / 128)
      refine ⟨fun hlt => ?_, fun j hj => ?_⟩
      · have := h1 (by omega)
        rw [Nat.div_lt_iff_lt_mul (by decide)] at this
        rw [Nat.pow_succ]; exact this
      · cases j with
        | zero => simp; omega
        | succ j =>
          have := h2 j (by omega)
          rw [Nat.le_div_iff_mul_le (by decide)] at this
          rw [Nat.pow_succ]; exact this

/-- The k lowest bytes of a number, the highest one first. -/
def lowB (x : Nat) : Nat → List UInt8
  | 0 => []
  | k + 1 => UInt8.ofNat (x / 256 ^ k) :: lowB x k
theorem lowB_length (x : Nat) : ∀ k, (lowB x k).length = k
  | 0 => rfl
  | k + 1 => by simp [lowB, lowB_length x k]
/-- What stands in the first byte: as many ones as bytes follow, and what is left of the number. -/
def leadB (x k : Nat) : Nat := 256 - 2 ^ (8 - k) + if k < 8 then x / 256 ^ k else 0
def numB (x : Nat) : List UInt8 := UInt8.ofNat (leadB x (moreN x)) :: lowB x (moreN x)
theorem numB_length (x : Nat) : (numB x).length = moreN x + 1 := by simp [numB, lowB_length]

theorem lowB_succ (x k : Nat) : lowB x (k + 1) = UInt8.ofNat (x / 256 ^ k) :: lowB x k := rfl
/-- Laid from the highest one on: the first m of k. -/
theorem lowB_take {x : Nat} : ∀ {k m : Nat}, m < k → (lowB x k).take (m + 1) = (lowB x k).take m ++ [UInt8.ofNat (x / 256 ^ (k - 1 - m))]
  | k + 1, 0, _ => by simp [lowB]
  | k + 1, m + 1, h => by
    simp only [lowB, List.take_succ_cons, List.cons_append]
    rw [lowB_take (by omega), show k + 1 - 1 - (m + 1) = k - 1 - m from by omega]

theorem lead_small {x k : Nat} (hk : k < 8) (hx : x < 128 ^ (k + 1)) : x / 256 ^ k < 2 ^ (7 - k) := by
  rw [Nat.div_lt_iff_lt_mul (Nat.pow_pos (by decide))]
  refine Nat.lt_of_lt_of_le hx (Nat.le_of_eq ?_)
  match k, hk with
  | 0, _ => rfl
  | 1, _ => rfl
  | 2, _ => rfl
  | 3, _ => rfl
  | 4, _ => rfl
  | 5, _ => rfl
  | 6, _ => rfl
  | 7, _ => rfl
theorem ones_eq {k : Nat} (hk : k ≤ 8) : 255 * 2 ^ (8 - k) % 256 = 256 - 2 ^ (8 - k) := by
  match k, hk with
  | 0, _ => rfl
  | 1, _ => rfl
  | 2, _ => rfl
  | 3, _ => rfl
  | 4, _ => rfl
  | 5, _ => rfl
  | 6, _ => rfl
  | 7, _ => rfl
  | 8, _ => rfl
theorem leadB_lt {x k : Nat} (hx : k < 8 → x < 128 ^ (k + 1)) (hk : k ≤ 8) : leadB x k < 256 := by
  unfold leadB
  by_cases h : k < 8
  · rw [if_pos h]
    have := lead_small h (hx h)
    have h2 : 2 ^ (8 - k) = 2 * 2 ^ (7 - k) := by rw [show 8 - k = 7 - k + 1 from by omega, Nat.pow_succ, Nat.mul_comm]
    have h3 : 2 ^ (8 - k) ≤ 2 ^ 8 := Nat.pow_le_pow_right (by decide) (by omega)
    have h4 : 0 < 2 ^ (7 - k) := Nat.pow_pos (by decide)
    omega
  · rw [if_neg h]
    have : 0 < 2 ^ (8 - k) := Nat.pow_pos (by decide)
    omega
theorem or_lead {x k : Nat} (hk : k < 8) (hx : x < 128 ^ (k + 1)) : (255 * 2 ^ (8 - k) % 256) ||| (x / 256 ^ k) = leadB x k := by
  have hs := lead_small hk hx
  rw [ones_eq (by omega), leadB, if_pos hk]
  have h2 : 2 ^ (8 - k) = 2 * 2 ^ (7 - k) := by rw [show 8 - k = 7 - k + 1 from by omega, Nat.pow_succ, Nat.mul_comm]
  have hd : 256 - 2 ^ (8 - k) = 2 ^ (7 - k) * (2 ^ (k + 1) - 2) := by
    rw [Nat.mul_sub, ← Nat.pow_add, show 7 - k + (k + 1) = 8 from by omega]
    omega
  rw [hd, ← Nat.two_pow_add_eq_or_of_lt hs]

/-! ### Reading -/
/-- How many ones a byte begins with. -/
def ones (b : Nat) : Nat := if b < 128 then 0 else if b < 192 then 1 else if b < 224 then 2 else if b < 240 then 3 else if b < 248 then 4 else if b < 252 then 5 else if b < 254 then 6 else if b < 255 then 7 else 8
theorem ones_le (b : Nat) : ones b ≤ 8 := by unfold ones; (repeat' split) <;> omega
theorem ones_of {b k : Nat} (hk : k < 8) (h1 : 256 - 2 ^ (8 - k) ≤ b) (h2 : b < 256 - 2 ^ (7 - k)) : ones b = k := by
  match k, hk with
  | 0, _ | 1, _ | 2, _ | 3, _ | 4, _ | 5, _ | 6, _ | 7, _ => simp at h1 h2; unfold ones; (repeat' split) <;> omega
theorem ones_spec {b : Nat} (hb : b < 256) : 256 - 2 ^ (8 - ones b) ≤ b ∧ (ones b < 8 → b < 256 - 2 ^ (7 - ones b)) := by
  unfold ones
  (repeat' split) <;> simp <;> omega

/-- Digits to the base 256 behind a first one. -/
def beN (a : Nat) (l : List UInt8) : Nat := l.foldl (fun x c => x * 256 + c.toNat) a
theorem beN_cons (a : Nat) (c : UInt8) (l : List UInt8) : beN a (c :: l) = beN (a * 256 + c.toNat) l := rfl
theorem beN_append (a : Nat) (l m : List UInt8) : beN a (l ++ m) = beN (beN a l) m := by simp [beN]
theorem beN_lt {a B : Nat} : ∀ {l : List UInt8}, a < B → beN a l < B * 256 ^ l.length
  | [], h => by simpa [beN] using h
  | c :: l, h => by
    rw [beN_cons]
    have hc := c.toNat_lt
    have := beN_lt (a := a * 256 + c.toNat) (B := B * 256) (l := l) (by omega)
    rwa [Nat.mul_assoc, ← Nat.pow_succ'] at this
theorem beN_ge (a : Nat) : ∀ l : List UInt8, a ≤ beN a l
  | [] => Nat.le_refl _
  | c :: l => by rw [beN_cons]; have := beN_ge (a * 256 + c.toNat) l; omega
/-- The digits of a number, put together again. -/
theorem beN_low (x : Nat) : ∀ k, beN (x / 256 ^ k) (lowB x k) = x
  | 0 => by simp [lowB, beN]
  | k + 1 => by
    rw [lowB_succ, beN_cons]
    have : x / 256 ^ (k + 1) * 256 + (UInt8.ofNat (x / 256 ^ k)).toNat = x / 256 ^ k := by
      rw [Nat.pow_succ, ← Nat.div_div_eq_div_mul]
      simp
      omega
    rw [this, beN_low x k]
theorem low_beN : ∀ {k : Nat} {a : Nat} {l : List UInt8}, l.length = k → lowB (beN a l) k = l ∧ beN a l / 256 ^ k = a
  | 0, a, l, h => by
    have : l = [] := List.eq_nil_of_length_eq_zero h
    subst this; simp [lowB, beN]
  | k + 1, a, c :: l, h => by
    obtain ⟨h1, h2⟩ := low_beN (k := k) (a := a * 256 + c.toNat) (l := l) (by simpa using h)
    have hc := c.toNat_lt
    rw [beN_cons, lowB_succ, h2, h1]
    refine ⟨?_, ?_⟩
    · congr 1
      apply UInt8.toNat_inj.1
      simp
    · rw [Nat.pow_succ, ← Nat.div_div_eq_div_mul, h2]; omega

/-- The number with which bytes begin, how many it has, and the error. -/
def lookS : List UInt8 → Nat × Nat × Nat
  | [] => (0, 0, 2)
  | b :: t =>
    if t.length < ones b.toNat then (0, 0, 2) else
    let x := beN (if ones b.toNat < 8 then b.toNat % 2 ^ (7 - ones b.toNat) else 0) (t.take (ones b.toNat))
    if x > 9223372036854775807 then (0, 0, 5) else if moreN x ≠ ones b.toNat then (0, 0, 20) else (x, ones b.toNat + 1, 0)

theorem lookS_cons (b : UInt8) (t : List UInt8) : lookS (b :: t) = if t.length < ones b.toNat then (0, 0, 2) else
    if beN (if ones b.toNat < 8 then b.toNat % 2 ^ (7 - ones b.toNat) else 0) (t.take (ones b.toNat)) > 9223372036854775807 then (0, 0, 5) else
    if moreN (beN (if ones b.toNat < 8 then b.toNat % 2 ^ (7 - ones b.toNat) else 0) (t.take (ones b.toNat))) ≠ ones b.toNat then (0, 0, 20) else (beN (if ones b.toNat < 8 then b.toNat % 2 ^ (7 - ones b.toNat) else 0) (t.take (ones b.toNat)), ones b.toNat + 1, 0) := rfl

theorem ones_lead {x : Nat} : ones (leadB x (moreN x)) = moreN x := by
  have hsp := (moreF_spec (f := 8) (x := x)).1
  change moreN x < 8 → x < 128 ^ (moreN x + 1) at hsp
  have hk8 := moreN_le x
  by_cases h : moreN x < 8
  · have hs := lead_small h (hsp h)
    have h2 : 2 ^ (8 - moreN x) = 2 * 2 ^ (7 - moreN x) := by rw [show 8 - moreN x = 7 - moreN x + 1 from by omega, Nat.pow_succ, Nat.mul_comm]
    have h3 : 2 ^ (8 - moreN x) ≤ 2 ^ 8 := Nat.pow_le_pow_right (by decide) (by omega)
    generalize hq : x / 256 ^ moreN x = q at hs
    refine ones_of h ?_ ?_ <;> unfold leadB <;> rw [if_pos h, hq] <;> omega
  · have : moreN x = 8 := by omega
    rw [this]; rfl

/-- What was put is read, whatever stands behind. -/
theorem look_num {x : Nat} (hx : x ≤ 9223372036854775807) (rest : List UInt8) : lookS (numB x ++ rest) = (x, moreN x + 1, 0) := by
  have hsp := (moreF_spec (f := 8) (x := x)).1
  change moreN x < 8 → x < 128 ^ (moreN x + 1) at hsp
  have hk8 := moreN_le x
  have hlt := leadB_lt hsp hk8
  have hb : (UInt8.ofNat (leadB x (moreN x))).toNat = leadB x (moreN x) := by simp; omega
  have hx' : beN (if moreN x < 8 then leadB x (moreN x) % 2 ^ (7 - moreN x) else 0) (lowB x (moreN x)) = x := by
    have : (if moreN x < 8 then leadB x (moreN x) % 2 ^ (7 - moreN x) else 0) = x / 256 ^ moreN x := by
      split
      · rename_i h
        have hs := lead_small h (hsp h)
        unfold leadB
        rw [if_pos h]
        have h2 : 2 ^ (8 - moreN x) = 2 * 2 ^ (7 - moreN x) := by rw [show 8 - moreN x = 7 - moreN x + 1 from by omega, Nat.pow_succ, Nat.mul_comm]
        have hd : 256 - 2 ^ (8 - moreN x) = 2 ^ (7 - moreN x) * (2 ^ (moreN x + 1) - 2) := by
          rw [Nat.mul_sub, ← Nat.pow_add, show 7 - moreN x + (moreN x + 1) = 8 from by omega]
          omega
        rw [hd, Nat.mul_add_mod]
        exact Nat.mod_eq_of_lt hs
      · rename_i h
        have : moreN x = 8 := by omega
        rw [this]
        exact (Nat.div_eq_of_lt (by omega)).symm
    rw [this, beN_low]
  rw [numB, List.cons_append, lookS, hb, ones_lead, if_neg (by simp [lowB_length]), List.take_append_of_le_length (by simp [lowB_length]), List.take_of_length_le (by simp [lowB_length])]
  simp only [hx']
  rw [if_neg (by omega), if_neg (by simp)]

theorem lead_mod {b k : Nat} (hk : k < 8) (h1 : 256 - 2 ^ (8 - k) ≤ b) (h2 : b < 256 - 2 ^ (7 - k)) : b % 2 ^ (7 - k) = b - (256 - 2 ^ (8 - k)) := by
  have e2 : 2 ^ (8 - k) = 2 * 2 ^ (7 - k) := by rw [show 8 - k = 7 - k + 1 from by omega, Nat.pow_succ, Nat.mul_comm]
  have e3 : 2 ^ (8 - k) ≤ 2 ^ 8 := Nat.pow_le_pow_right (by decide) (by omega)
  have hd : 256 - 2 ^ (8 - k) = 2 ^ (7 - k) * (2 ^ (k + 1) - 2) := by
    rw [Nat.mul_sub, ← Nat.pow_add, show 7 - k + (k + 1) = 8 from by omega]
    omega
  obtain ⟨r, rfl⟩ : ∃ r, b = (256 - 2 ^ (8 - k)) + r := ⟨b - (256 - 2 ^ (8 - k)), by omega⟩
  conv => lhs; rw [hd, Nat.mul_add_mod]
  rw [Nat.add_sub_cancel_left]
  exact Nat.mod_eq_of_lt (by omega)

/-- What is read, put again, is the bytes that were read. -/
theorem look_back {l : List UInt8} {n k : Nat} (h : lookS l = (n, k, 0)) : k = moreN n + 1 ∧ k ≤ l.length ∧ l.take k = numB n ∧ n ≤ 9223372036854775807 := by
  cases l with
  | nil => simp [lookS] at h
  | cons b t =>
    rw [lookS_cons] at h
    split at h
    · simp at h
    · rename_i hlen
      generalize hX : beN (if ones b.toNat < 8 then b.toNat % 2 ^ (7 - ones b.toNat) else 0) (t.take (ones b.toNat)) = X at h
      split at h
      · simp at h
      · rename_i hbig
        split at h
        · simp at h
        · rename_i hmore
          simp only [Prod.mk.injEq] at h
          obtain ⟨rfl, rfl, _⟩ := h
          have hmore : moreN X = ones b.toNat := Decidable.not_not.1 hmore
          have hb := b.toNat_lt
          have hsp := ones_spec (b := b.toNat) hb
          have ho8 := ones_le b.toNat
          obtain ⟨h1, h2⟩ := low_beN (k := ones b.toNat) (a := if ones b.toNat < 8 then b.toNat % 2 ^ (7 - ones b.toNat) else 0) (l := t.take (ones b.toNat)) (by rw [List.length_take]; omega)
          rw [hX] at h1 h2
          refine ⟨by omega, by simp; omega, ?_, by omega⟩
          rw [List.take_succ_cons, numB, hmore, h1]
          congr 1
          apply UInt8.toNat_inj.1
          have hl : leadB X (ones b.toNat) = b.toNat := by
            unfold leadB
            split
            · rename_i h
              rw [h2, if_pos h]
              obtain ⟨g1, g2⟩ := hsp
              have g2 := g2 h
              have e2 : 2 ^ (8 - ones b.toNat) = 2 * 2 ^ (7 - ones b.toNat) := by rw [show 8 - ones b.toNat = 7 - ones b.toNat + 1 from by omega, Nat.pow_succ, Nat.mul_comm]
              have e3 : 2 ^ (8 - ones b.toNat) ≤ 2 ^ 8 := Nat.pow_le_pow_right (by decide) (by omega)
              have hd : 256 - 2 ^ (8 - ones b.toNat) = 2 ^ (7 - ones b.toNat) * (2 ^ (ones b.toNat + 1) - 2) := by
                rw [Nat.mul_sub, ← Nat.pow_add, show 7 - ones b.toNat + (ones b.toNat + 1) = 8 from by omega]
                omega
              have e5 := lead_mod h g1 g2
              omega
            · rename_i h
              have h8 : ones b.toNat = 8 := by omega
              rw [h8] at hsp ⊢
              simp at hsp ⊢
              omega
          rw [hl]
          simp
/-- Numbers, one behind the other. -/
def numsB (ns : List Int) : List UInt8 := ns.flatMap fun n => numB n.toNat
theorem numsB_nil : numsB [] = [] := rfl
theorem numsB_cons (n : Int) (ns : List Int) : numsB (n :: ns) = numB n.toNat ++ numsB ns := by simp [numsB]
theorem numsB_append (a b : List Int) : numsB (a ++ b) = numsB a ++ numsB b := by simp [numsB]
theorem numB_le (x : Nat) : (numB x).length ≤ 9 := by rw [numB_length]; have := moreN_le x; omega
theorem numsB_le : ∀ ns : List Int, (numsB ns).length ≤ 9 * ns.length
  | [] => by simp [numsB]
  | n :: ns => by
    rw [numsB_cons, List.length_append, List.length_cons]
    have := numsB_le ns
    have := numB_le n.toNat
    omega
theorem numsB_take {ns : List Int} {k : Nat} (hk : k < ns.length) : numsB (ns.take (k + 1)) = numsB (ns.take k) ++ numB (ns[k]).toNat := by
  rw [List.take_succ_eq_append_getElem hk, numsB_append]
  simp [numsB]
theorem ones_y {b : Nat} (hb : b < 256) : (if ones b < 8 then b % 2 ^ (7 - ones b) else 0) = b - (256 - 2 ^ (8 - ones b)) := by
  obtain ⟨h1, h2⟩ := ones_spec hb
  split
  · rename_i h; exact lead_mod h h1 (h2 h)
  · rename_i h
    have := ones_le b
    have h8 : ones b = 8 := by omega
    rw [h8] at h1 ⊢
    simp at h1 ⊢
    omega
/-- The bytes of a number just if it has as many as its first byte tells. -/
theorem num_iff {b : UInt8} {t : List UInt8} {X : Nat} (hX : X = beN (b.toNat - (256 - 2 ^ (8 - ones b.toNat))) (t.take (ones b.toNat))) (hl : ones b.toNat ≤ t.length) (h63 : X ≤ 9223372036854775807) :
    numB X = b :: t.take (ones b.toNat) ↔ moreN X = ones b.toNat := by
  constructor
  · intro h
    have := congrArg List.length h
    rw [numB_length, List.length_cons, List.length_take, Nat.min_eq_left hl] at this
    omega
  · intro h
    have hk : lookS (b :: t) = (X, ones b.toNat + 1, 0) := by
      rw [lookS_cons, ones_y b.toNat_lt, ← hX, if_neg (by omega), if_neg (by omega), if_neg (by omega)]
    obtain ⟨_, _, ht, _⟩ := look_back hk
    rw [← ht, List.take_succ_cons]
theorem beN_far {a : Nat} {l : List UInt8} {k : Nat} (h : a ≥ 36028797018963968) (hk : k < l.length) : beN a (l.drop k) > 9223372036854775807 := by
  have hl : (l.drop k).length = l.length - k := List.length_drop
  cases hd : l.drop k with
  | nil => rw [hd] at hl; simp at hl; omega
  | cons c m =>
    rw [beN_cons]
    have := beN_ge (a * 256 + c.toNat) m
    omega
end Go.Fl
namespace Go.Proofs.YtkojpppnjloikaaDoor
open Go.RowKit Go.Fl
theorem slB : SlT Tryd.prog t_s_uint8 t_uint8 1 1 := SlT.mk' (z := .int .u8 0) (by kernel_rfl) (by kernel_rfl) rfl (by decide)

theorem pow7 (k : Nat) : (2 : Nat) ^ (7 * k) = 128 ^ k := by rw [Nat.pow_mul]
theorem pow7i (k : Nat) : (2 : Int) ^ (7 * k) = ((128 ^ k : Nat) : Int) := by rw [← pow7]; simp
theorem octet_more_ok {x : Int} {w : World} (h0 : 0 ≤ x) (h1 : x ≤ 18446744073709551615) : cl Tryd.prog n_octet_more #[.int .u64 x] (.I .i64) w fun r w' => r = moreN x.toNat ∧ w = w' := by
  refine octet_more.cl ?_
  unfold octet_more
  refine lpI (fun s w' => w = w' ∧ ∃ k : Nat, k ≤ 8 ∧ s.1 = k ∧ ∀ j, j < k → 128 ^ (j + 1) ≤ x.toNat) (fun s _ => (8 - s.1).toNat) ⟨rfl, 0, by omega, rfl, fun j h => by omega⟩ ?_
  rintro _ ⟨s, ⟨⟩⟩ w' ⟨rfl, k, hk, rfl, hn⟩
  dsimp only
  rw [i64w (n := (k : Int) + 1) (by omega) (by omega), i64w (n := 7 * ((k : Int) + 1)) (by omega) (by omega)]
  have e : min (7 * ((k : Int) + 1)).toNat 64 = 7 * (k + 1) ∨ k = 8 := by omega
  refine bD (fun h8 => bP (by omega) ?_) (fun h8 => ⟨?_, rfl⟩)
  · rw [e.resolve_right (by omega), Int.one_mul, pow7i]
    have hp : (128 : Nat) ^ (k + 1) ≤ 72057594037927936 := Nat.pow_le_pow_right (n := 128) (i := k + 1) (j := 8) (by decide) (by omega)
    have hM := moreF_of (f := 8) (k := k) (x := x.toNat) (by omega)
    obtain ⟨B, hB⟩ : ∃ B, (128 : Nat) ^ (k + 1) = B := ⟨_, rfl⟩
    rw [hB] at hp hM ⊢
    rw [u64w (by omega) (by omega)]
    refine bD (fun hx => ⟨?_, rfl⟩) (fun hx => ⟨⟨rfl, k + 1, by omega, rfl, fun j hj => ?_⟩, by omega⟩)
    · rw [moreN, hM (by omega) hn]
    · by_cases hjk : j = k
      · subst hjk; rw [hB]; omega
      · exact hn j (by omega)
  · obtain rfl : k = 8 := by omega
    rw [moreN, moreF_top hn]; rfl

theorem u8_ofNat (n : Nat) : (((UInt8.ofNat n).toNat : Nat) : Int) = (n : Int) % 256 := by simp
theorem pow256i (k : Nat) : (2 : Int) ^ (8 * k) = ((256 ^ k : Nat) : Int) := by
  have : (2 : Nat) ^ (8 * k) = 256 ^ k := by rw [Nat.pow_mul]
  rw [← this]; simp
theorem u8s_single (x : UInt8) : u8s [x] = [.int .u8 x.toNat] := rfl

theorem octet_Number_ok {s : Sl} {n : Int} {l : List UInt8} {w : World} (hs : Bs w s l) (hl : l.length ≤ 1099511627776) (hn : n ≤ 9223372036854775807) :
    cl Tryd.prog n_octet_Number #[.slice s.a s.n s.c, .int .i64 n] .L w fun (r : Sl) w' => OwB w' w.heap.size t_uint8 r (l ++ numB n.toNat) ∧ Fr w w' := by
  refine octet_Number.cl ?_
  unfold octet_Number
  have hx : max n 0 = (n.toNat : Int) := by omega
  rw [hx, u64w (by omega) (by omega)]
  generalize hxx : n.toNat = x
  refine (octet_more_ok (by omega) (by omega)).mono ?_
  rintro k w' ⟨rfl, rfl⟩
  rw [Int.toNat_natCast]
  have hk8 := moreN_le x
  have hsp := (moreF_spec (f := 8) (x := x)).1
  change moreN x < 8 → x < 128 ^ (moreN x + 1) at hsp
  have hnum : numB x = UInt8.ofNat (leadB x (moreN x)) :: lowB x (moreN x) := rfl
  generalize moreN x = k at hk8 hsp hnum
  rw [i64w (n := 8 - (k : Int)) (by omega) (by omega)]
  refine bP (by omega) ?_
  intro j1
  have hln := hs.len
  have hj : ∀ (y : Int) (w' : World), y = ((UInt8.ofNat (leadB x k)).toNat : Int) → w = w' → j1 y w' := by
    rintro y w' rfl rfl
    show mks _ _ _ _ _ _
    rw [i64w (by omega) (by omega)]
    refine mks0 slB w.heap.size (s.n + 9) (by omega) (by omega) (by omega) (Nat.le_refl _) fun w1 ho1 hf1 => ?_
    refine app_B slB (base := w.heap.size) (l := []) (m := l) ho1 (hs.fr hf1).rd hs.len.symm (by simp; omega) hf1.size fun r w2 ho2 hb2 _ _ => ?_
    have hf2 : Fr w w2 := hf1.on hb2
    refine nwI fun b w3 hb hsz hf3 hblk hrd => ?_
    refine app_B slB (base := w.heap.size) (m := [UInt8.ofNat (leadB x k)]) (ho2.fr hf3) hrd rfl (by simp; omega) (by have := hf2.size; have := hf3.size; omega) fun r w4 ho4 hb4 _ _ => ?_
    have hf4 : Below w.heap.size w w4 := (hf2.trans hf3).on hb4
    rw [i64w (n := (k : Int) - 1) (by omega) (by omega)]
    refine lpI (fun s w'' => ∃ m : Nat, m ≤ k ∧ s.2.1 = (k : Int) - 1 - m ∧ OwB w'' w.heap.size t_uint8 s.1 (l ++ (UInt8.ofNat (leadB x k) :: (lowB x k).take m)) ∧ Fr w w'') (fun s _ => (s.2.1 + 1).toNat)
      ⟨0, by omega, by simp, by simpa using ho4, hf4⟩ ?_
    rintro _ ⟨s', i, ⟨⟩⟩ w5 ⟨m, hm, hi, ho5, hf5⟩
    simp only at hi ho5
    subst hi
    dsimp only
    refine bD (fun h0 => bP ?_ ?_) (fun h0 => ⟨?_, hf5⟩)
    · rw [i64w (by omega) (by omega)]; omega
    · rw [i64w (n := 8 * _) (by omega) (by omega), i64w (by omega) (by omega)]
      have e : min (8 * ((k : Int) - 1 - m)).toNat 64 = 8 * (k - 1 - m) := by omega
      rw [e, pow256i, u8w]
      have hcell : (x : Int) / ((256 ^ (k - 1 - m) : Nat) : Int) % 256 = ((UInt8.ofNat (x / 256 ^ (k - 1 - m))).toNat : Int) := by rw [u8_ofNat]; simp
      rw [hcell]
      refine nwI fun b w6 hb hsz hf6 hblk hrd => ?_
      refine app_B slB (base := w.heap.size) (m := [UInt8.ofNat (x / 256 ^ (k - 1 - m))]) (ho5.fr hf6) hrd rfl ?_ (by have := hf5.size; have := hf6.size; omega) fun r w7 ho7 hb7 _ _ => ?_
      · simp [lowB_length]; omega
      · refine ⟨⟨m + 1, by omega, by simp; omega, ?_, (hf5.trans hf6).on hb7⟩, by simp; omega⟩
        rw [lowB_take (by omega)]
        simpa using ho7
    · obtain rfl : m = k := by omega
      rw [hnum]
      rwa [List.take_of_length_le (by rw [lowB_length]; exact Nat.le_refl _)] at ho5
  refine bD ?_ ?_ <;> intro h8
  · rw [i64w (n := 8 * (k : Int)) (by omega) (by omega)]
    refine bP (by omega) ?_
    refine hj _ _ ?_ rfl
    rw [show min (8 * (k : Int)).toNat 64 = 8 * k from by omega, pow256i, u8w, u8w, show min (8 - (k : Int)).toNat 8 = 8 - k from by omega]
    have ho := or_lead (x := x) (k := k) (by omega) (hsp (by omega))
    have hlt := lead_small (x := x) (k := k) (by omega) (hsp (by omega))
    have h7 : (2 : Nat) ^ (7 - k) ≤ 2 ^ 7 := Nat.pow_le_pow_right (by decide) (by omega)
    have e1 : (255 : Int) * 2 ^ (8 - k) % 256 = ((255 * 2 ^ (8 - k) % 256 : Nat) : Int) := by simp
    have e2 : (x : Int) / ((256 ^ k : Nat) : Int) % 256 = ((x / 256 ^ k : Nat) : Int) := by
      rw [← Int.natCast_ediv]
      generalize x / 256 ^ k = q at hlt
      omega
    rw [e1, e2, u8_or_nat _ _ (by omega) (by generalize x / 256 ^ k = q at hlt; omega), ho, u8_ofNat]
    have := leadB_lt hsp hk8
    omega
  · obtain rfl : k = 8 := by omega
    refine hj _ _ ?_ rfl
    simp [leadB, u8w]

theorem Lz8_ok {x : Int} {w : World} (h0 : 0 ≤ x) (h1 : x < 256) : cl Tryd.prog n_math_bits_LeadingZeros8 #[.int .u8 x] (.I .i64) w fun (r : Int) w' => r = ones (255 - x.toNat) ∧ w = w' := by
  refine math_bits_LeadingZeros8.cl ?_
  unfold math_bits_LeadingZeros8
  obtain ⟨n, rfl⟩ : ∃ n : Nat, x = n := ⟨x.toNat, by omega⟩
  refine cl.mono (K := fun (r : Int) w' => r = (8 : Int) - (ones (255 - n) : Int) ∧ w = w') (math_bits_Len8.cl ?_) ?_
  · unfold math_bits_Len8
    refine ⟨h0, (by refine Eq.mp ?_ h1; kernel_rfl), ?_, rfl⟩
    have h1' : n < 256 := by omega
    rw [Int.toNat_natCast]
    clear h0 h1
    revert n
    decide +kernel
  · rintro r w' ⟨rfl, rfl⟩
    have := ones_le (255 - n)
    rw [i64w (by omega) (by omega)]
    exact ⟨by simp; omega, rfl⟩

theorem xor255 {x : Nat} (h : x < 256) : bits .xor .u8 255 (x : Int) = ((255 - x : Nat) : Int) := by
  have := u8_xor_nat 255 x (by decide) h
  rw [show ((255 : Nat) : Int) = 255 from rfl] at this
  rw [this]
  congr 1
  revert x
  decide +kernel

/-- look. -/
theorem octet_look_ok {s : Sl} {l : List UInt8} {w : World} (hs : Bs w s l) (hl : l.length ≤ 1099511627776) :
    cl Tryd.prog n_octet_look #[.slice s.a s.n s.c] (.tup (.pair (.I .i64) (.pair (.I .i64) (.pair (.I .i64) .nil)))) w
      fun (r : Int × Int × Int × Unit) w' => r = (((lookS l).1 : Int), ((lookS l).2.1 : Int), ((lookS l).2.2 : Int), ()) ∧ w = w' := by
  refine octet_look.cl ?_
  unfold octet_look
  have hn := hs.len
  cases l with
  | nil => exact bT (by simp [hn]) ⟨rfl, rfl⟩
  | cons b t =>
    refine bF (by simp [hn]; omega) ?_
    have hb := b.toNat_lt
    have ho := ones_le b.toNat
    refine ixB0 hs.rd hs.len (Fr.refl w) ?_
    rw [xor255 (by omega)]
    refine (Lz8_ok (by omega) (by omega)).mono ?_
    rintro k w' ⟨rfl, rfl⟩
    rw [Int.toNat_natCast, show 255 - (255 - b.toNat) = b.toNat from by omega]
    generalize hk : ones b.toNat = k at ho
    rw [lookS_cons, hk]
    refine bD ?_ ?_ <;> intro hlen
    · rw [if_pos (by simp [hn] at hlen; omega)]; exact ⟨rfl, rfl⟩
    · have hlen' : k ≤ t.length := by simp [hn] at hlen; omega
      rw [if_neg (by omega)]
      refine ixB0 hs.rd hs.len (Fr.refl w) ?_
      intro j1
      have hj : ∀ (y : Nat) (w' : World), (y < 2 ^ (7 - k) ∧ k < 8 ∨ y = 0) → y = (if k < 8 then b.toNat % 2 ^ (7 - k) else 0) → w = w' → j1 y w' := by
        rintro y w' hy hyk rfl
        show sls _ _ _ _ _
        rw [i64w (n := (k : Int) + 1) (by omega) (by omega)]
        refine slsB hs (by decide) (by omega) (by simp; omega) fun r hr _ _ => ?_
        simp only [Int.toNat_one, show ((k : Int) + 1).toNat = k + 1 from by omega, List.take_succ_cons, List.drop_succ_cons, List.drop_zero] at hr
        have hrl := hr.len
        rw [List.length_take, Nat.min_eq_left hlen'] at hrl
        have hBk : beN y (t.take k) < 18446744073709551616 := by
          rcases hy with ⟨hy, hk8⟩ | rfl
          · have h1 := beN_lt (l := t.take k) hy
            rw [List.length_take, Nat.min_eq_left hlen'] at h1
            refine Nat.lt_of_lt_of_le h1 ?_
            match k, hk8 with
            | 0, _ | 1, _ | 2, _ | 3, _ | 4, _ | 5, _ | 6, _ | 7, _ => decide
          · have h1 := beN_lt (a := 0) (B := 1) (l := t.take k) (by decide)
            rw [List.length_take, Nat.min_eq_left hlen', Nat.one_mul] at h1
            refine Nat.lt_of_lt_of_le h1 ?_
            exact Nat.pow_le_pow_right (n := 256) (i := k) (j := 8) (by decide) ho
        refine lpI (fun s w' => w = w' ∧ ∃ i : Nat, i ≤ k ∧ s.2.1 = i ∧ s.1 = (beN y (t.take i) : Nat)) (fun s _ => (k - s.2.1).toNat) ⟨rfl, 0, by omega, rfl, by simp [beN]⟩ ?_
        rintro _ ⟨z, i, ⟨⟩⟩ w' ⟨rfl, i, hik, rfl, rfl⟩
        dsimp only
        refine bD ?_ ?_ <;> intro hi
        · have hik' : i < k := by omega
          refine ixB hr.rd hr.len (by omega) (by simp [List.length_take]; omega) (Fr.refl w) ?_
          have hlt' : beN y (t.take (i + 1)) ≤ beN y (t.take k) := by
            have hsp := List.take_append_drop (i + 1) (t.take k)
            rw [List.take_take, Nat.min_eq_left (by omega)] at hsp
            rw [← hsp, beN_append]
            exact beN_ge _ _
          have hst : t.take (i + 1) = t.take i ++ [t[i]] := by rw [List.take_succ_eq_append_getElem (by omega)]
          have hstep : beN y (t.take (i + 1)) = beN y (t.take i) * 256 + t[i].toNat := by rw [hst, beN_append]; rfl
          have hc := t[i].toNat_lt
          simp only [Int.toNat_natCast, List.getElem_take]
          rw [show min 8 64 = 8 from rfl, u64w (n := _ * 2 ^ 8) (by omega) (by omega), u64w (n := ((t[i].toNat : Nat) : Int)) (by omega) (by omega)]
          have e1 : ((beN y (t.take i) : Nat) : Int) * 2 ^ 8 = ((beN y (t.take i) * 256 : Nat) : Int) := by simp
          rw [e1, u64_or_nat _ _ (by omega) (by omega), i64w (by omega) (by omega)]
          refine ⟨⟨trivial, i + 1, by omega, rfl, ?_⟩, by omega⟩

          rw [hstep]
          congr 1
          rw [show beN y (t.take i) * 256 = 2 ^ 8 * beN y (t.take i) from by omega, ← Nat.two_pow_add_eq_or_of_lt (by omega)]
        · obtain rfl : i = k := by omega
          simp only [← hyk]
          generalize beN y (t.take i) = X at hBk
          refine bD ?_ ?_ <;> intro hX
          · rw [if_pos (by omega)]; exact ⟨rfl, trivial⟩
          · rw [if_neg (by omega)]
            refine (octet_more_ok (by omega) (by omega)).mono ?_
            rintro m w' ⟨rfl, rfl⟩
            rw [Int.toNat_natCast]
            refine bNe ?_ ?_ <;> intro hm
            · rw [if_pos (by omega)]; exact ⟨rfl, rfl⟩
            · rw [if_neg (by omega), i64w (by omega) (by omega)]; exact ⟨by simp, rfl⟩
      refine bD ?_ ?_ <;> intro h8
      · refine bP (by omega) ?_
        have h7 : (2 : Nat) ^ (7 - k) ≤ 2 ^ 7 := Nat.pow_le_pow_right (by decide) (by omega)
        have hm : b.toNat % 2 ^ (7 - k) < 2 ^ (7 - k) := Nat.mod_lt _ (Nat.pow_pos (by decide))
        have e : bits .and .u64 (IntKind.u64.wrap (b.toNat : Int)) (127 / 2 ^ min ((k : Int)).toNat 64) = ((b.toNat % 2 ^ (7 - k) : Nat) : Int) := by
          rw [u64w (by omega) (by omega), show min ((k : Int)).toNat 64 = k from by omega]
          have e2 : (127 : Int) / 2 ^ k = ((2 ^ (7 - k) - 1 : Nat) : Int) := by
            match k, (show k < 8 by omega) with
            | 0, _ | 1, _ | 2, _ | 3, _ | 4, _ | 5, _ | 6, _ | 7, _ => decide
          rw [e2, u64_and_nat _ _ (by omega) (by omega), Nat.and_two_pow_sub_one_eq_mod]
        rw [e]
        exact hj _ _ (.inl ⟨hm, by omega⟩) (by rw [if_pos (by omega)]) rfl
      · exact hj 0 _ (.inr rfl) (by rw [if_neg (by omega)]) rfl
end Go.Proofs.YtkojpppnjloikaaDoor
namespace Go.Proofs.YtkojpppnjloikaaDoor
open Go.RowKit Go.Fl
theorem octet_Text_ok {s x : Sl} {l m : List UInt8} {w : World} (hs : Bs w s l) (hx : Bs w x m) (hl : l.length ≤ 549755813888) (hm : m.length ≤ 549755813888) :
    cl Tryd.prog n_octet_Text #[.slice s.a s.n s.c, .slice x.a x.n x.c] .L w fun (r : Sl) w' => OwB w' w.heap.size t_uint8 r (l ++ numB m.length ++ m) ∧ Fr w w' := by
  refine octet_Text.cl ?_
  unfold octet_Text
  have hn := hx.len
  have h9 := numB_le m.length
  refine (octet_Number_ok hs (by omega) (by omega)).mono ?_
  rintro r w1 ⟨ho, hf⟩
  rw [Int.toNat_natCast, hn] at ho
  refine app_B slB (base := w.heap.size) ho (hx.fr hf).rd hn.symm (by simp; omega) hf.size fun r w2 ho2 hb2 _ _ => ⟨ho2, hf.on hb2⟩

theorem octet_Numbers_ok {s x : Sl} {l : List UInt8} {ns : List Int} {w : World} (hs : Bs w s l) (hx : Is w x ns) (hl : l.length + 9 * ns.length ≤ 1099511627776) (hn : ∀ n ∈ ns, n ≤ 9223372036854775807) :
    cl Tryd.prog n_octet_Numbers #[.slice s.a s.n s.c, .slice x.a x.n x.c] .L w fun (r : Sl) w' => Bs w' r (l ++ numsB ns) ∧ (ns = [] ∧ r = s ∨ OwB w' w.heap.size t_uint8 r (l ++ numsB ns)) ∧ Fr w w' := by
  refine octet_Numbers.cl ?_
  unfold octet_Numbers
  have hxn := hx.len
  refine lpI (fun s' w' => ∃ k : Nat, k ≤ ns.length ∧ s'.2.1 = k ∧ Bs w' s'.1 (l ++ numsB (ns.take k)) ∧ (k = 0 ∧ s'.1 = s ∨ OwB w' w.heap.size t_uint8 s'.1 (l ++ numsB (ns.take k))) ∧ Fr w w') (fun s' _ => (x.n - s'.2.1).toNat)
    ⟨0, by omega, rfl, by simpa [numsB] using hs, .inl ⟨rfl, rfl⟩, Fr.refl w⟩ ?_
  rintro _ ⟨r, i, ⟨⟩⟩ w1 ⟨k, hk, rfl, hr, ho, hf⟩
  dsimp only at hr ho ⊢
  have hlen := numsB_le (ns.take k)
  rw [List.length_take, Nat.min_eq_left hk] at hlen
  refine bD ?_ ?_ <;> intro h
  · have hk' : k < ns.length := by omega
    refine ixI hx (by omega) (by simpa using hk') hf ?_
    simp only [Int.toNat_natCast]
    refine (octet_Number_ok hr (by simp; omega) (hn _ (List.getElem_mem _))).mono ?_
    rintro r' w2 ⟨ho2, hf2⟩
    rw [List.append_assoc, ← numsB_take hk'] at ho2
    rw [i64w (by omega) (by omega)]
    exact ⟨⟨k + 1, by omega, by simp, ho2.bs, .inr (ho2.mono hf.size), hf.trans hf2⟩, by omega⟩
  · obtain rfl : k = ns.length := by omega
    rw [List.take_length] at hr ho
    exact ⟨hr, ho.imp (fun h => ⟨List.eq_nil_of_length_eq_zero h.1, h.2⟩) id, hf⟩

theorem Clone_byte_ok {s : Sl} {l : List UInt8} {w : World} (hs : Bs w s l) (hl : l.length ≤ 1099511627776) :
    cl Tryd.prog n_slices_Clone_byte_byte #[.slice s.a s.n s.c] .L w fun (r : Sl) w' => OwB w' w.heap.size t_uint8 r l ∧ Fr w w' := by
  refine slices_Clone_byte_byte.cl ?_
  unfold slices_Clone_byte_byte
  refine bB ?_ ?_ <;> intro h
  · have : l = [] := by
      rcases l with _ | ⟨b, t⟩
      · rfl
      · obtain ⟨ad, ha, _⟩ := hs.rd.u8 (l := b :: t) (i := 0) (by simp)
        rw [ha] at h
        cases h
    subst this
    exact ⟨OwB.nil _ _ _, Fr.refl w⟩
  · exact copyB slB hs (by omega) fun r w' ho hf => ⟨ho, hf⟩

theorem Equal_ok {s x : Sl} {l m : List UInt8} {w : World} (hs : Bs w s l) (hx : Bs w x m) :
    cl Tryd.prog n_bytes_Equal #[.slice s.a s.n s.c, .slice x.a x.n x.c] .B w fun (r : Bool) w' => r = decide (l = m) ∧ w = w' := by
  refine bytes_Equal.cl ?_
  unfold bytes_Equal
  refine bstrI hs.rd hs.len.symm (Fr.refl w) ?_
  refine bstrI hx.rd hx.len.symm (Fr.refl w) ?_
  rw [beqB_eq]
  exact ⟨rfl, rfl⟩

theorem aw1 : [] ++ numB (Int.toNat 16384) = [192, 64, 0] := by decide +kernel
theorem aw2 : [] ++ numsB [128, 0] = [128, 128, 0] := by decide +kernel
end Go.Proofs.YtkojpppnjloikaaDoor
namespace Go.Fl
open Go.RowKit

theorem ldB0 {w : World} {g i : Nat} {cs : Array Value} {t : TypeId} {f : Nat × Nat} {b : Bool} {K : Bool → Prop} (h : w.heap[g]? = some (.cells cs t f)) (hi : cs[i]? = some (.bool b)) (k : K b) : ld .B w ⟨g, i, none⟩ K :=
  ⟨b, (cell_of_row w g i cs t f h).trans hi, k⟩
theorem ldL0 {w : World} {g i : Nat} {cs : Array Value} {t : TypeId} {f : Nat × Nat} {s : Sl} {K : Sl → Prop} (h : w.heap[g]? = some (.cells cs t f)) (hi : cs[i]? = some (.slice s.a s.n s.c)) (k : K s) : ld .L w ⟨g, i, none⟩ K :=
  ⟨s, (cell_of_row w g i cs t f h).trans hi, k⟩
theorem ldI0 {w : World} {g i : Nat} {cs : Array Value} {t : TypeId} {f : Nat × Nat} {kd : IntKind} {n : Int} {K : Int → Prop} (h : w.heap[g]? = some (.cells cs t f)) (hi : cs[i]? = some (.int kd n)) (k : K n) : ld (.I kd) w ⟨g, i, none⟩ K :=
  ⟨n, (cell_of_row w g i cs t f h).trans hi, k⟩
theorem ldP0 {w : World} {g i : Nat} {cs : Array Value} {t : TypeId} {f : Nat × Nat} {p : Option Addr} {K : Option Addr → Prop} (h : w.heap[g]? = some (.cells cs t f)) (hi : cs[i]? = some (.pointer p)) (k : K p) : ld .P w ⟨g, i, none⟩ K :=
  ⟨p, (cell_of_row w g i cs t f h).trans hi, k⟩

theorem st0 {w : World} {g i : Nat} {cs : Array Value} {t : TypeId} {v : Value} {K : World → Prop} (h : w.heap[g]? = some (.cells cs t (0, 0))) (hi : i < cs.size)
    (hk : ∀ w', w'.heap[g]? = some (.cells (cs.setIfInBounds i v) t (0, 0)) → w.grownBy w' (some g) → w'.heap.size = w.heap.size → K w') : st1 w ⟨g, i, none⟩ v K := by
  refine ⟨⟨cs[i], by rw [cell_of_row w g i cs t _ h]; exact Array.getElem?_eq_getElem hi⟩, by simp [World.frozen?, h], hk _ ?_ ⟨rfl, rfl, rfl, by simp [World.setCell], fun k _ hk => Below.heap_setCell _ _ _ _ (fun e => hk (by rw [e]))⟩ (by simp [World.setCell])⟩
  simp [World.setCell, Array.getElem?_modify, h]

theorem Fr.heap {w w' : World} (h : Fr w w') {g : Nat} {o : Obj} (hg : w.heap[g]? = some o) : w'.heap[g]? = some o :=
  (h.block g (Array.getElem?_eq_some_iff.1 hg).1).trans hg

/-- A part of memory stays. -/
def Kp (S : Nat → Prop) (w w' : World) : Prop := ∀ k, k < w.heap.size → S k → w'.heap[k]? = w.heap[k]?
theorem Kp.rd {S : Nat → Prop} {w w' : World} {A : Option Addr} {xs : List Value} (h : Rd w A xs) (hk : Kp S w w') (hS : ∀ ad, A = some ad → S ad.block) : Rd w' A xs :=
  h.keep fun ad e j hlt => World.cell?_of_block (w := w) (by rw [add_block]; exact hk _ hlt (hS ad e))
theorem Bs.kp {S : Nat → Prop} {w w' : World} {s : Sl} {l : List UInt8} (h : Bs w s l) (hk : Kp S w w') (hS : ∀ ad, s.a = some ad → S ad.block) : Bs w' s l := ⟨Kp.rd h.rd hk hS, h.len, h.cap⟩
theorem Bs.kpn {S : Nat → Prop} {w w' : World} {s : Sl} {l : List UInt8} (h : Bs w s l) (hk : Kp S w w') (hS : l ≠ [] → ∀ ad, s.a = some ad → S ad.block) : Bs w' s l := by
  cases l with
  | nil => exact ⟨Rd.nil _ _, h.len, h.cap⟩
  | cons b t => exact h.kp hk (hS (by simp))
theorem Bs.lt {w : World} {s : Sl} {l : List UInt8} (h : Bs w s l) (hl : l ≠ []) : ∀ ad, s.a = some ad → ad.block < w.heap.size := fun ad ha => by
  cases l with
  | nil => exact absurd rfl hl
  | cons b t =>
    obtain ⟨ad', ha', hc⟩ := h.rd.u8 (l := b :: t) (i := 0) (by simp)
    rw [ha] at ha'
    cases ha'
    have := World.block_lt_of_cell? w _ hc
    rwa [add_block] at this
theorem kp_grown {w w' : World} {g : Nat} (h : w.grownBy w' (some g)) : Kp (· ≠ g) w w' := fun k hk hne => h.block k hk (fun e => hne (Option.some.inj e))
theorem OwB.own {w : World} {base : Nat} {e : TypeId} {s : Sl} {l : List UInt8} (h : OwB w base e s l) : ∀ ad, s.a = some ad → base ≤ ad.block ∧ ad.block < w.heap.size := fun ad ha => h.block ad.block (by rw [ha]; rfl)
theorem OwB.kp {S : Nat → Prop} {w w' : World} {base : Nat} {e : TypeId} {s : Sl} {l : List UInt8} (h : OwB w base e s l) (hk : Kp S w w') (hS : ∀ ad, s.a = some ad → S ad.block) : OwB w' base e s l := by
  refine ⟨h.1, ?_⟩
  rcases h.2 with hn | ⟨g, cap, cur, hv, hb, hgg, rest⟩
  · exact .inl hn
  · have ha : s.a = some ⟨g, 0, none⟩ := by injection hv
    exact .inr ⟨g, cap, cur, hv, hb, (hk g (Array.getElem?_eq_some_iff.1 hgg).1 (hS _ ha)).trans hgg, rest⟩
theorem grown_below {w w' : World} {g base : Nat} (h : w.grownBy w' (some g)) (hb : base ≤ g) (hs : base ≤ w.heap.size) : Below base w w' :=
  (Below.refl base w).grown h hs fun k hk => by cases hk; exact hb
theorem fr_grown {w w' : World} {g : Nat} (h : Fr w w') : w.grownBy w' (some g) := ⟨h.os, h.tape, h.output, h.size, fun k hk _ => h.block k hk⟩
/-- A byte of an own slice is written. -/
theorem stB {w : World} {base : Nat} {e : TypeId} {s : Sl} {l : List UInt8} {i : Int} {v : Value} {K : World → Prop} (h : OwB w base e s l) (h0 : 0 ≤ i) (hi : i.toNat < l.length) (b : UInt8) (hv : v = .int .u8 b.toNat)
    (hk : ∀ w', OwB w' base e s (l.set i.toNat b) → Below base w w' → (∀ k, some k ≠ (Value.slice s.a s.n s.c).ownBlock → w'.heap[k]? = w.heap[k]?) → w'.heap.size = w.heap.size → K w') : ixa s.a s.n i 1 fun a => st1 w a v K := by
  have hl := h.len
  obtain ⟨h1, h2⟩ := h
  rcases h2 with ⟨_, hn⟩ | ⟨g, cap, cur, hs, hb, hg, hnc, hcm, hsz, ht⟩
  · omega
  · have ha : s.a = some ⟨g, 0, none⟩ := by injection hs
    refine ⟨h0, by omega, ?_⟩
    rw [ha]
    have he : atOff ⟨g, 0, none⟩ i 1 = ⟨g, i.toNat, none⟩ := by
      show Addr.add _ _ = _
      unfold Addr.add
      split <;> simp_all
    show st1 w (atOff ⟨g, 0, none⟩ i 1) v K
    rw [he]
    refine st0 hg (by omega) fun w' hb' hgr hsz' => hk w' ⟨?_, .inr ⟨g, cap, _, hs, hb, hb', hnc, hcm, by simpa using hsz, ?_⟩⟩ ⟨hgr.os, hgr.tape, hgr.output, hgr.size, fun k hk => ?_⟩ (fun k hk => ?_) hsz'
    · simpa [u8s] using h1
    · rw [Array.toList_setIfInBounds, List.take_set, ht, hv]
      simp [u8s, List.map_set]
    · by_cases hkl : k < w.heap.size
      · exact hgr.block k hkl (fun e => by cases e; omega)
      · rw [Array.getElem?_eq_none (by omega), Array.getElem?_eq_none (by omega)]
    · rw [ha] at hk
      by_cases hkl : k < w.heap.size
      · exact hgr.block k hkl hk
      · rw [Array.getElem?_eq_none (by omega), Array.getElem?_eq_none (by omega)]
theorem run_append_none {P : Program} (w : World) {t ty e : TypeId} {i : TypeInfo} (ht : P.underlying t = some (.slice e)) (hi : P.info? e = some i) (A B : Option Addr) {n c d : Nat} (hle : n ≤ c) :
    (Builtin.append_ #[t, t] ty #[.slice A n c, .slice B 0 d]).run P w = .ok (.slice A n c) w := by
  cases A <;> cases B <;> simp [Builtin.append_, run_underlying ht, sizeOf, typeInfo, hi, Builtin.lenOf, Builtin.firstCells, loadCells, loadCellsFrom, hle, storeCells]
/-- append to a new empty slice: no block that was there turns. -/
theorem app0B {P : Program} {t ty e : TypeId} (hT : SlT P t e 1 1) {base b : Nat} {x : Sl} {w : World} {K : Sl → World → Prop} {m : List UInt8} (hb : w.heap[b]? = some (.cells #[] e (0, 0))) (hbb : base ≤ b) (hx : Bs w x m) (hl : m.length ≤ 140737488355328) (hbase : base ≤ w.heap.size)
    (h : ∀ (r : Sl) w', OwB w' base e r m → Fr w w' → K r w') : app P t ty ⟨some ⟨b, 0, none⟩, 0, 0⟩ x w K := by
  obtain ⟨i, z, hi, hz, hsize, hby, hzs⟩ := hT.info
  have hn := hx.len
  cases m with
  | nil =>
    obtain ⟨A, n, c⟩ := x
    obtain rfl : n = 0 := hn
    exact ⟨_, w, run_append_none w hT.under hi _ _ (Nat.le_refl _), h _ _ (OwB.new hb hbb) (Fr.refl w)⟩
  | cons u m =>
    obtain ⟨ad, ha, _⟩ := hx.rd.u8 (l := u :: m) (i := 0) (by simp)
    obtain ⟨v', w', hrun, ho, hg⟩ := run_append_arg_grows (P := P) w t ty e i z 1 1 hT.under hi hz hsize hby hzs (by decide) ⟨b, 0, none⟩ 0 0 [] rfl (fun j u hu => by simp at hu) ad x.n x.c (u8s (u :: m)) (by rw [u8s_length, hn]; simp)
      (fun j u' hu => by obtain ⟨ad', ha', hc⟩ := hx.rd j u' hu; rw [ha] at ha'; cases ha'; exact hc) (by rw [hn]; simp) (by simp only [maxLen]; rw [hn]; simp at hl ⊢; omega) (by rw [hn]; simp at hl ⊢; omega)
    rw [Nat.zero_add, List.nil_append] at ho
    obtain ⟨r, rfl, hrn⟩ := sl_of_own ho
    refine ⟨r, w', by rw [ha]; exact hrun, h r w' ?_ ⟨hg.os, hg.tape, hg.output, hg.size, fun k hk => hg.block k hk (by simp)⟩⟩
    have : OwB w' w.heap.size e r (u :: m) := by unfold OwB; rw [← hrn] at ho; exact ho
    exact this.mono hbase
end Go.Fl
namespace Go.Fl

theorem lookS_le (l : List UInt8) : (lookS l).2.1 ≤ l.length := by
  cases l with
  | nil => simp [lookS]
  | cons b t =>
    rw [lookS_cons]
    generalize beN (if ones b.toNat < 8 then b.toNat % 2 ^ (7 - ones b.toNat) else 0) (t.take (ones b.toNat)) = X
    split
    · simp
    · split
      · simp
      · split
        · simp
        · simp; omega
theorem look_err {l : List UInt8} (h : (lookS l).2.2 ≠ 0) : (lookS l).1 = 0 ∧ (lookS l).2.1 = 0 := by
  cases l with
  | nil => simp [lookS]
  | cons b t =>
    rw [lookS_cons] at h ⊢
    generalize beN (if ones b.toNat < 8 then b.toNat % 2 ^ (7 - ones b.toNat) else 0) (t.take (ones b.toNat)) = X at *
    split
    · simp
    · split
      · simp
      · split
        · simp
        · rename_i h1 h2 h3
          rw [if_neg h1, if_neg h2, if_neg h3] at h
          simp at h
theorem look_short {x j : Nat} (hj : j < (numB x).length) : lookS ((numB x).take j) = (0, 0, 2) := by
  cases j with
  | zero => rfl
  | succ j =>
    rw [numB_length] at hj
    have hsp := (moreF_spec (f := 8) (x := x)).1
    change moreN x < 8 → x < 128 ^ (moreN x + 1) at hsp
    have hlt := leadB_lt hsp (moreN_le x)
    have hb : (UInt8.ofNat (leadB x (moreN x))).toNat = leadB x (moreN x) := by simp; omega
    rw [numB, List.take_succ_cons, lookS_cons, hb, ones_lead, if_pos (by simp [lowB_length]; omega)]
/-- The next byte; its error; how many bytes are read. -/
def rdByte : List UInt8 → Nat × Nat × Nat
  | [] => (0, 2, 0)
  | b :: _ => (b.toNat, 0, 1)
/-- The next number from lo to hi; its error; how many bytes are read. -/
def rdWithin (l : List UInt8) (lo hi : Int) : Int × Int × Nat :=
  if (lookS l).2.2 ≠ 0 then (0, (lookS l).2.2, 0) else if ((lookS l).1 : Int) < lo ∨ ((lookS l).1 : Int) > hi then (0, 5, 0) else ((lookS l).1, 0, (lookS l).2.1)
/-- The next yes or no. -/
def rdFlag (l : List UInt8) : Bool × Nat × Nat :=
  if (lookS l).2.2 ≠ 0 then (false, (lookS l).2.2, 0) else if (lookS l).1 > 1 then (false, 20, 0) else (decide ((lookS l).1 = 1), 0, (lookS l).2.1)
/-- The next text; its error; how many bytes are read. -/
def rdText (l : List UInt8) (most : Int) : List UInt8 × Nat × Nat :=
  if (lookS l).2.2 ≠ 0 then ([], (lookS l).2.2, 0) else if ((lookS l).1 : Int) > max most 0 then ([], 4, 0) else
  if (lookS l).1 > l.length - (lookS l).2.1 then ([], 2, 0) else ((l.drop (lookS l).2.1).take (lookS l).1, 0, (lookS l).2.1 + (lookS l).1)
theorem rdText_le (l : List UInt8) (most : Int) : (rdText l most).2.2 ≤ l.length := by
  have := lookS_le l
  unfold rdText
  repeat' split
  all_goals simp
  omega
theorem rdFlag_le (l : List UInt8) : (rdFlag l).2.2 ≤ l.length := by
  have := lookS_le l
  unfold rdFlag
  repeat' split
  all_goals simp
  omega
theorem rdWithin_le (l : List UInt8) (lo hi : Int) : (rdWithin l lo hi).2.2 ≤ l.length := by
  have := lookS_le l
  unfold rdWithin
  repeat' split
  all_goals simp
  omega
theorem rdByte_le (l : List UInt8) : (rdByte l).2.2 ≤ l.length := by cases l <;> simp [rdByte]
theorem rdText_err {l : List UInt8} {most : Int} (h : (rdText l most).2.1 ≠ 0) : (rdText l most).2.2 = 0 ∧ (rdText l most).1 = [] := by
  unfold rdText at h ⊢
  split
  · simp
  · split
    · simp
    · split
      · simp
      · rename_i h1 h2 h3
        rw [if_neg h1, if_neg h2, if_neg h3] at h
        simp at h
/-- A text that was put is read. -/
theorem rdText_put {m : List UInt8} {most : Int} (hm : m.length ≤ 9223372036854775807) (hh : (m.length : Int) ≤ max most 0) (rest : List UInt8) : rdText (numB m.length ++ (m ++ rest)) most = (m, 0, (numB m.length).length + m.length) := by
  unfold rdText
  rw [look_num hm]
  simp only [numB_length]
  rw [if_neg (by simp), if_neg (by omega), if_neg (by simp [numB_length])]
  have : (numB m.length ++ (m ++ rest)).drop (moreN m.length + 1) = m ++ rest := by rw [← numB_length, List.drop_left]
  rw [this, List.take_left]
theorem rdFlag_put (y : Bool) (rest : List UInt8) : rdFlag (numB (bif y then 1 else 0) ++ rest) = (y, 0, (numB (bif y then 1 else 0)).length) := by
  unfold rdFlag
  have h : (bif y then 1 else 0) ≤ 1 := by cases y <;> decide
  rw [look_num (by omega)]
  simp only [numB_length]
  rw [if_neg (by simp), if_neg (by omega)]
  cases y <;> simp
/-- A text's beginning is too short. -/
theorem rdText_short {m : List UInt8} {most : Int} (hm : m.length ≤ 9223372036854775807) (hh : (m.length : Int) ≤ max most 0) {j : Nat} (hj : j < (numB m.length).length + m.length) : (rdText ((numB m.length ++ m).take j) most).2.1 = 2 := by
  rcases Nat.lt_or_ge j (numB m.length).length with h | h
  · rw [List.take_append_of_le_length (by omega)]
    unfold rdText
    rw [look_short h]
    simp
  · rw [List.take_append, List.take_of_length_le h]
    unfold rdText
    rw [look_num hm]
    simp only [List.length_append, List.length_take]
    rw [if_neg (by simp), if_neg (by omega), if_pos (by rw [numB_length] at *; omega)]
/-- What is read, put again, is what was read. -/
theorem rdText_back {l : List UInt8} {most : Int} (h : (rdText l most).2.1 = 0) : l.take (rdText l most).2.2 = numB (rdText l most).1.length ++ (rdText l most).1 := by
  unfold rdText at h ⊢
  have hle := lookS_le l
  split
  · rename_i h1; rw [if_pos h1] at h; exact absurd h h1
  · rename_i h1
    rw [if_neg h1] at h
    split
    · rename_i h2; rw [if_pos h2] at h; simp at h
    · rename_i h2
      rw [if_neg h2] at h
      split
      · rename_i h3; rw [if_pos h3] at h; simp at h
      · rename_i h3
        obtain ⟨n, k, e, hl⟩ : ∃ n k e, lookS l = (n, k, e) := ⟨_, _, _, rfl⟩
        rw [hl] at h1 h2 h3 hle ⊢
        have h1 := Decidable.not_not.1 h1
        dsimp only at h1 h2 h3 hle ⊢
        subst h1
        obtain ⟨hk, hkl, ht, hn⟩ := look_back hl
        rw [List.length_take, List.length_drop, Nat.min_eq_left (by omega), List.take_add, ht]
end Go.Fl
namespace Go.Proofs.YtkojpppnjloikaaDoor
open Go.RowKit Go.Fl

/-- A reader over bytes. -/
def Rdr (w : World) (base g : Nat) (l : List UInt8) : Prop :=
  ∃ s : Sl, w.heap[g]? = some (.cells #[.slice s.a s.n s.c, .bool true] t_octet_Reader (0, 0)) ∧ Bs w s l ∧ (∀ ad, s.a = some ad → base ≤ ad.block ∧ ad.block < g) ∧ l.length ≤ 1099511627776
theorem Rdr.fr {w w' : World} {base g : Nat} {l : List UInt8} (h : Rdr w base g l) (hf : Fr w w') : Rdr w' base g l := by
  obtain ⟨s, h1, h2, h3⟩ := h
  exact ⟨s, hf.heap h1, h2.fr hf, h3⟩
theorem Rdr.kp {S : Nat → Prop} {w w' : World} {base g : Nat} {l : List UInt8} (h : Rdr w base g l) (hk : Kp S w w') (hS : ∀ k, base ≤ k → k ≤ g → S k) (hg : base ≤ g) : Rdr w' base g l := by
  obtain ⟨s, h1, h2, h3, h4⟩ := h
  exact ⟨s, (hk g (Array.getElem?_eq_some_iff.1 h1).1 (hS g hg (Nat.le_refl _))).trans h1, h2.kp hk fun ad ha => hS _ (h3 ad ha).1 (Nat.le_of_lt (h3 ad ha).2), h3, h4⟩
theorem Rdr.lt {w : World} {base g : Nat} {l : List UInt8} (h : Rdr w base g l) : g < w.heap.size := by
  obtain ⟨s, h1, _⟩ := h
  exact (Array.getElem?_eq_some_iff.1 h1).1

/-- The reader goes on. -/
theorem Rdr.adv {w : World} {base g : Nat} {l : List UInt8} (h : Rdr w base g l) {i : Int} {k : Nat} (hi : i = k) (hk : k ≤ l.length) {K : World → Prop}
    (hK : ∀ w', Rdr w' base g (l.drop k) → w.grownBy w' (some g) → w'.heap.size = w.heap.size → K w') :
    nz (some ⟨g, 0, none⟩) fun a => ld .L w a fun (x : Sl) => sls x i x.n 1 fun r => nz (some ⟨g, 0, none⟩) fun a' => st1 w a' (.slice r.a r.n r.c) fun w' => K w' := by
  obtain ⟨s, h1, h2, h3, h4⟩ := h
  have hl := h2.len
  subst hi
  show ld .L w ⟨g, 0, none⟩ _
  refine ldL0 h1 rfl ?_
  refine slsB h2 (by omega) (by omega) (by omega) fun r hr ha _ => ?_
  show st1 w ⟨g, 0, none⟩ _ _
  refine st0 h1 (by simp) fun w' hb hg hsz => hK w' ⟨r, hb, ?_, ?_, by simp; omega⟩ hg hsz
  · rw [Int.toNat_natCast, Int.toNat_natCast, List.take_of_length_le (by omega)] at hr
    refine hr.kp (kp_grown hg) fun ad had => ?_
    obtain ⟨ad', h5, h6⟩ := ha ad had
    rw [h6]
    exact Nat.ne_of_lt (h3 ad' h5).2
  · intro ad had
    obtain ⟨ad', h5, h6⟩ := ha ad had
    rw [h6]
    exact h3 ad' h5

theorem Read_ok {s : Sl} {l : List UInt8} {w : World} (hs : Bs w s l) (hl : l.length ≤ 1099511627776) :
    cl Tryd.prog n_octet_Read #[.slice s.a s.n s.c] .P w fun (r : Option Addr) w' => ∃ g, r = some ⟨g, 0, none⟩ ∧ w.heap.size ≤ g ∧ Rdr w' w.heap.size g l ∧ Fr w w' := by
  refine octet_Read.cl ?_
  unfold octet_Read
  refine copyB slB hs (by omega) fun r w1 ho hf => ?_
  refine nwI fun b w2 hb hsz hf2 hblk _ => ?_
  have hh := hf.size
  exact ⟨b, rfl, by omega, ⟨r, hblk, ho.bs.fr hf2, fun ad ha => ⟨(ho.own ad ha).1, by have := (ho.own ad ha).2; omega⟩, hl⟩, hf.trans hf2⟩

section
variable {w : World} {base g : Nat} {l : List UInt8}
theorem Left_ok (h : Rdr w base g l) : cl Tryd.prog n_octet_Reader_Left #[.pointer (some ⟨g, 0, none⟩)] (.I .i64) w fun (r : Int) w' => r = l.length ∧ w = w' := by
  obtain ⟨s, h1, h2, h3, h4⟩ := h
  refine octet_Reader_Left.cl ?_
  unfold octet_Reader_Left
  refine bF rfl ?_
  show ld .L w ⟨g, 0, none⟩ _
  exact ldL0 h1 rfl ⟨by rw [h2.len], rfl⟩

/-- The next number, its error, how many bytes it has. -/
theorem Reader_Number_ok (h : Rdr w base g l) : cl Tryd.prog n_octet_Reader_Number #[.pointer (some ⟨g, 0, none⟩)] (.tup (.pair (.I .i64) (.pair (.I .i64) .nil))) w
    fun (r : Int × Int × Unit) w' => r = (((lookS l).1 : Int), ((lookS l).2.2 : Int), ()) ∧ Rdr w' base g (l.drop (lookS l).2.1) ∧ w.grownBy w' (some g) := by
  have h' := h
  obtain ⟨s, h1, h2, h3, h4⟩ := h
  refine octet_Reader_Number.cl ?_
  unfold octet_Reader_Number
  refine bF rfl ?_
  show ld .B w ⟨g, 1, none⟩ _
  refine ldB0 h1 rfl (bF rfl ?_)
  show ld .L w ⟨g, 0, none⟩ _
  refine ldL0 h1 rfl ?_
  refine (octet_look_ok h2 h4).mono ?_
  rintro _ _ ⟨rfl, rfl⟩
  exact h'.adv rfl (lookS_le l) fun w' hr hg _ => ⟨rfl, hr, hg⟩

theorem End_ok (h : Rdr w base g l) : cl Tryd.prog n_octet_Reader_End #[.pointer (some ⟨g, 0, none⟩)] (.I .i64) w fun (r : Int) w' => r = (if l = [] then 0 else 3) ∧ w = w' := by
  obtain ⟨s, h1, h2, h3, h4⟩ := h
  refine octet_Reader_End.cl ?_
  unfold octet_Reader_End
  refine bF rfl ?_
  show ld .B w ⟨g, 1, none⟩ _
  refine ldB0 h1 rfl (bF rfl ?_)
  show ld .L w ⟨g, 0, none⟩ _
  refine ldL0 h1 rfl ?_
  have hl := h2.len
  cases l with
  | nil => exact bN (by simp [hl]) ⟨rfl, rfl⟩
  | cons b t => exact bP (by simp [hl]) ⟨rfl, rfl⟩

theorem Byte_ok (h : Rdr w base g l) : cl Tryd.prog n_octet_Reader_Byte #[.pointer (some ⟨g, 0, none⟩)] (.tup (.pair (.I .u8) (.pair (.I .i64) .nil))) w
    fun (r : Int × Int × Unit) w' => r = (((rdByte l).1 : Int), ((rdByte l).2.1 : Int), ()) ∧ Rdr w' base g (l.drop (rdByte l).2.2) ∧ w.grownBy w' (some g) := by
  have h' := h
  obtain ⟨s, h1, h2, h3, h4⟩ := h
  refine octet_Reader_Byte.cl ?_
  unfold octet_Reader_Byte
  refine bF rfl ?_
  show ld .B w ⟨g, 1, none⟩ _
  refine ldB0 h1 rfl (bF rfl ?_)
  show ld .L w ⟨g, 0, none⟩ _
  refine ldL0 h1 rfl ?_
  have hl := h2.len
  cases l with
  | nil => exact bT (by simp [hl]) ⟨rfl, h', World.grownBy.refl _ _⟩
  | cons b t =>
    refine bF (by simp [hl]; omega) ?_
    show ld .L w ⟨g, 0, none⟩ _
    refine ldL0 h1 rfl ?_
    refine ixB0 h2.rd h2.len (Fr.refl w) ?_
    exact h'.adv (k := 1) rfl (by simp) fun w' hr hg _ => ⟨rfl, hr, hg⟩

theorem Within_ok (h : Rdr w base g l) {lo hi : Int} : cl Tryd.prog n_octet_Reader_Within #[.pointer (some ⟨g, 0, none⟩), .int .i64 lo, .int .i64 hi] (.tup (.pair (.I .i64) (.pair (.I .i64) .nil))) w
    fun (r : Int × Int × Unit) w' => r = ((rdWithin l lo hi).1, (rdWithin l lo hi).2.1, ()) ∧ Rdr w' base g (l.drop (rdWithin l lo hi).2.2) ∧ w.grownBy w' (some g) := by
  have h' := h
  obtain ⟨s, h1, h2, h3, h4⟩ := h
  refine octet_Reader_Within.cl ?_
  unfold octet_Reader_Within
  refine bF rfl ?_
  show ld .B w ⟨g, 1, none⟩ _
  refine ldB0 h1 rfl (bF rfl ?_)
  show ld .L w ⟨g, 0, none⟩ _
  refine ldL0 h1 rfl ?_
  refine (octet_look_ok h2 h4).mono ?_
  rintro _ _ ⟨rfl, rfl⟩
  dsimp only
  unfold rdWithin
  refine bNe ?_ ?_ <;> intro he
  · rw [if_pos (by omega)]
    exact ⟨rfl, h', World.grownBy.refl _ _⟩
  · rw [if_neg (by omega)]
    refine bD ?_ ?_ <;> intro h1
    · rw [if_pos (.inl h1)]
      exact ⟨rfl, h', World.grownBy.refl _ _⟩
    · refine bD ?_ ?_ <;> intro h2
      · rw [if_pos (.inr h2)]
        exact ⟨rfl, h', World.grownBy.refl _ _⟩
      · rw [if_neg (by omega)]
        exact h'.adv rfl (lookS_le l) fun w' hr hg _ => ⟨rfl, hr, hg⟩

theorem Reader_Text_ok (h : Rdr w base g l) {most : Int} : cl Tryd.prog n_octet_Reader_Text #[.pointer (some ⟨g, 0, none⟩), .int .i64 most] (.tup (.pair .L (.pair (.I .i64) .nil))) w
    fun (r : Sl × Int × Unit) w' => r.2 = (((rdText l most).2.1 : Int), ()) ∧ OwB w' w.heap.size t_uint8 r.1 (rdText l most).1 ∧ Rdr w' base g (l.drop (rdText l most).2.2) ∧ w.grownBy w' (some g) := by
  have h' := h
  obtain ⟨s, h1, h2, h3, h4⟩ := h
  refine octet_Reader_Text.cl ?_
  unfold octet_Reader_Text
  refine bF rfl ?_
  show ld .B w ⟨g, 1, none⟩ _
  refine ldB0 h1 rfl (bF rfl ?_)
  show ld .L w ⟨g, 0, none⟩ _
  refine ldL0 h1 rfl ?_
  refine (octet_look_ok h2 h4).mono ?_
  rintro _ _ ⟨rfl, rfl⟩
  dsimp only
  have hle := lookS_le l
  have hn := h2.len
  unfold rdText
  refine bNe ?_ ?_ <;> intro he
  · rw [if_pos (by omega)]
    exact ⟨rfl, OwB.nil _ _ _, h', World.grownBy.refl _ _⟩
  · rw [if_neg (by omega)]
    refine bD ?_ ?_ <;> intro hm
    · rw [if_pos hm]
      exact ⟨rfl, OwB.nil _ _ _, h', World.grownBy.refl _ _⟩
    · rw [if_neg hm]
      show ld .L w ⟨g, 0, none⟩ _
      refine ldL0 h1 rfl ?_
      rw [i64w (n := (s.n : Int) - _) (by omega) (by omega)]
      refine bD ?_ ?_ <;> intro hs
      · rw [if_pos (by omega)]
        exact ⟨rfl, OwB.nil _ _ _, h', World.grownBy.refl _ _⟩
      · rw [if_neg (by omega)]
        generalize (lookS l).2.1 = k at *
        generalize (lookS l).1 = n at *
        refine nwI fun b w1 hb hsz hf hblk _ => ?_
        show ld .L w1 ⟨g, 0, none⟩ _
        refine ldL0 (hf.heap h1) rfl ?_
        rw [i64w (n := (k : Int) + n) (by omega) (by omega)]
        refine slsB (h2.fr hf) (by omega) (by omega) (by omega) fun x hx _ _ => ?_
        rw [show ((k : Int) + n).toNat = k + n from by omega, Int.toNat_natCast] at hx
        refine app_B slB (base := w.heap.size) (l := []) (OwB.new hblk (by omega)) hx.rd hx.len.symm (by simp; omega) hf.size fun r w2 ho hb2 hkp hor => ?_
        have hf2 : Fr w w2 := hf.on hb2
        refine (h'.fr hf2).adv (k := k + n) (by omega) (by omega) fun w3 hr hg hsz3 => ⟨rfl, ?_, hr, ?_⟩
        · have hlt := h'.lt
          have e : (l.take (k + n)).drop k = (l.drop k).take n := by rw [List.drop_take, Nat.add_sub_cancel_left]
          rw [List.nil_append, e] at ho
          refine ho.kp (kp_grown hg) fun ad ha => ?_
          have := (ho.own ad ha).1
          omega
        · exact World.grownBy.trans (fr_grown hf2) hg
end

/-- No reader: none, or one that no call made. -/
def NoRdr (w : World) (p : Option Addr) : Prop := p = none ∨ ∃ g, p = some ⟨g, 0, none⟩ ∧ w.heap[g]? = some (.cells #[.slice none 0 0, .bool false] t_octet_Reader (0, 0))
section
variable {w : World} {p : Option Addr}
theorem no_Left (h : NoRdr w p) : cl Tryd.prog n_octet_Reader_Left #[.pointer p] (.I .i64) w fun (r : Int) w' => r = 0 ∧ w = w' := by
  refine octet_Reader_Left.cl ?_
  unfold octet_Reader_Left
  rcases h with rfl | ⟨g, rfl, h1⟩
  · exact bT rfl ⟨rfl, rfl⟩
  · refine bF rfl ?_
    show ld .L w ⟨g, 0, none⟩ _
    exact ldL0 (s := ⟨none, 0, 0⟩) h1 rfl ⟨rfl, rfl⟩
theorem no_Number (h : NoRdr w p) : cl Tryd.prog n_octet_Reader_Number #[.pointer p] (.tup (.pair (.I .i64) (.pair (.I .i64) .nil))) w fun (r : Int × Int × Unit) w' => r = (0, 6, ()) ∧ w = w' := by
  refine octet_Reader_Number.cl ?_
  unfold octet_Reader_Number
  rcases h with rfl | ⟨g, rfl, h1⟩
  · exact bT rfl ⟨rfl, rfl⟩
  · refine bF rfl ?_
    show ld .B w ⟨g, 1, none⟩ _
    exact ldB0 h1 rfl (bT rfl ⟨rfl, rfl⟩)
theorem no_Within (h : NoRdr w p) {lo hi : Int} : cl Tryd.prog n_octet_Reader_Within #[.pointer p, .int .i64 lo, .int .i64 hi] (.tup (.pair (.I .i64) (.pair (.I .i64) .nil))) w fun (r : Int × Int × Unit) w' => r = (0, 6, ()) ∧ w = w' := by
  refine octet_Reader_Within.cl ?_
  unfold octet_Reader_Within
  rcases h with rfl | ⟨g, rfl, h1⟩
  · exact bT rfl ⟨rfl, rfl⟩
  · refine bF rfl ?_
    show ld .B w ⟨g, 1, none⟩ _
    exact ldB0 h1 rfl (bT rfl ⟨rfl, rfl⟩)
theorem no_Text (h : NoRdr w p) {most : Int} : cl Tryd.prog n_octet_Reader_Text #[.pointer p, .int .i64 most] (.tup (.pair .L (.pair (.I .i64) .nil))) w fun (r : Sl × Int × Unit) w' => r = (⟨none, 0, 0⟩, 6, ()) ∧ w = w' := by
  refine octet_Reader_Text.cl ?_
  unfold octet_Reader_Text
  rcases h with rfl | ⟨g, rfl, h1⟩
  · exact bT rfl ⟨rfl, rfl⟩
  · refine bF rfl ?_
    show ld .B w ⟨g, 1, none⟩ _
    exact ldB0 h1 rfl (bT rfl ⟨rfl, rfl⟩)
theorem no_Byte (h : NoRdr w p) : cl Tryd.prog n_octet_Reader_Byte #[.pointer p] (.tup (.pair (.I .u8) (.pair (.I .i64) .nil))) w fun (r : Int × Int × Unit) w' => r = (0, 6, ()) ∧ w = w' := by
  refine octet_Reader_Byte.cl ?_
  unfold octet_Reader_Byte
  rcases h with rfl | ⟨g, rfl, h1⟩
  · exact bT rfl ⟨rfl, rfl⟩
  · refine bF rfl ?_
    show ld .B w ⟨g, 1, none⟩ _
    exact ldB0 h1 rfl (bT rfl ⟨rfl, rfl⟩)
theorem no_End (h : NoRdr w p) : cl Tryd.prog n_octet_Reader_End #[.pointer p] (.I .i64) w fun (r : Int) w' => r = 6 ∧ w = w' := by
  refine octet_Reader_End.cl ?_
  unfold octet_Reader_End
  rcases h with rfl | ⟨g, rfl, h1⟩
  · exact bT rfl ⟨rfl, rfl⟩
  · refine bF rfl ?_
    show ld .B w ⟨g, 1, none⟩ _
    exact ldB0 h1 rfl (bT rfl ⟨rfl, rfl⟩)
end
end Go.Proofs.YtkojpppnjloikaaDoor
namespace Go.Proofs.YtkojpppnjloikaaDoor
open Go.RowKit Go.Fl

theorem Follow_ok {x : Nat} {w : World} (h1 : x ≤ 9223372036854775807) : cl Tryd.prog n_flumeref02_Follow #[.int .i64 (x : Int)] (.I .i64) w fun (r : Int) w' => r = moreN x ∧ w = w' := by
  refine flumeref02_Follow.cl ?_
  unfold flumeref02_Follow
  refine lpI (fun s w' => w = w' ∧ ∃ k : Nat, k ≤ 8 ∧ s.2.1 = k ∧ s.1 = ((x / 128 ^ k : Nat) : Int) ∧ ∀ j, j < k → 128 ^ (j + 1) ≤ x) (fun s _ => (8 - s.2.1).toNat) ⟨rfl, 0, by omega, rfl, by simp, fun j h => by omega⟩ ?_
  rintro _ ⟨n, s, ⟨⟩⟩ w' ⟨rfl, k, hk, rfl, rfl, hn⟩
  dsimp only
  have hd : Int.tdiv ((x / 128 ^ k : Nat) : Int) 128 = ((x / 128 ^ (k + 1) : Nat) : Int) := by
    rw [Nat.pow_succ, ← Nat.div_div_eq_div_mul]
    exact (Int.ofNat_tdiv _ _).symm
  have hle : x / 128 ^ (k + 1) ≤ x := Nat.div_le_self _ _
  rw [hd]
  have hpos : 0 < 128 ^ (k + 1) := Nat.pow_pos (by decide)
  have hiff : x / 128 ^ (k + 1) > 0 ↔ 128 ^ (k + 1) ≤ x := by show 0 < _ ↔ _; rw [Nat.div_pos_iff]; omega
  generalize hq : x / 128 ^ (k + 1) = q at *
  rw [i64w (n := (q : Int)) (by omega) (by omega)]
  refine bD ?_ ?_ <;> intro h8
  · refine bD ?_ ?_ <;> intro hp
    · rw [i64w (by omega) (by omega)]
      refine ⟨⟨rfl, k + 1, by omega, rfl, by rw [hq], fun j hj => ?_⟩, by omega⟩
      by_cases hjk : j = k
      · subst hjk; exact hiff.1 (by omega)
      · exact hn j (by omega)
    · refine ⟨?_, rfl⟩
      rw [moreN, moreF_of (k := k) (by omega) (by have := mt hiff.2; omega) hn]
  · obtain rfl : k = 8 := by omega
    refine ⟨?_, rfl⟩
    rw [moreN, moreF_top hn]

theorem Lead_ok {k : Nat} {w : World} (hk : k ≤ 8) : cl Tryd.prog n_flumeref02_Lead #[.int .i64 (k : Int)] (.I .i64) w fun (r : Int) w' => r = ((256 - 2 ^ (8 - k) : Nat) : Int) ∧ w = w' := by
  refine flumeref02_Lead.cl ?_
  unfold flumeref02_Lead
  refine lpI (fun s w' => w = w' ∧ ∃ i : Nat, i ≤ k ∧ s.2.2.1 = i ∧ s.1 = ((256 - 2 ^ (8 - i) : Nat) : Int) ∧ s.2.1 = ((128 / 2 ^ i : Nat) : Int)) (fun s _ => (k - s.2.2.1).toNat) ⟨rfl, 0, by omega, rfl, by simp, by simp⟩ ?_
  rintro _ ⟨n, b, i, ⟨⟩⟩ w' ⟨rfl, i, hi, rfl, rfl, rfl⟩
  dsimp only
  refine bD ?_ ?_ <;> intro h
  · have hi' : i < 8 := by omega
    refine ⟨⟨rfl, i + 1, by omega, by rw [i64w (by omega) (by omega)]; rfl, ?_, ?_⟩, by rw [i64w (by omega) (by omega)]; omega⟩
    · clear h hi hk
      revert i
      decide +kernel
    · clear h hi hk
      revert i
      decide +kernel
  · obtain rfl : i = k := by omega
    exact ⟨rfl, rfl⟩

theorem low_tail {x k : Nat} : [UInt8.ofNat (x / 256 ^ k)] ++ lowB x k = lowB x (k + 1) := rfl
theorem ref_Number_ok {s : Sl} {n : Int} {l : List UInt8} {w : World} (hs : Bs w s l) (hl : l.length ≤ 1099511627776) (hn : n ≤ 9223372036854775807) :
    cl Tryd.prog n_flumeref02_Number #[.slice s.a s.n s.c, .int .i64 n] .L w fun (r : Sl) w' => OwB w' w.heap.size t_uint8 r (l ++ numB n.toNat) ∧ Fr w w' := by
  refine flumeref02_Number.cl ?_
  unfold flumeref02_Number
  have hx : max n 0 = (n.toNat : Int) := by omega
  rw [hx]
  generalize hxx : n.toNat = x
  refine (Follow_ok (by omega)).mono ?_
  rintro _ _ ⟨rfl, rfl⟩
  have hk8 := moreN_le x
  have hsp := (moreF_spec (f := 8) (x := x)).1
  change moreN x < 8 → x < 128 ^ (moreN x + 1) at hsp
  have hlt := leadB_lt hsp hk8
  have hnum : numB x = UInt8.ofNat (leadB x (moreN x)) :: lowB x (moreN x) := rfl
  generalize moreN x = k at *
  refine lpI (fun s w' => ∃ i : Nat, i ≤ k ∧ s.2.2.1 = i ∧ s.1 = ((x / 256 ^ i : Nat) : Int) ∧ OwB w' w.heap.size t_uint8 s.2.1 (lowB x i) ∧ Fr w w') (fun s _ => (k - s.2.2.1).toNat) ⟨0, by omega, rfl, by simp, OwB.nil _ _ _, Fr.refl w⟩ ?_
  rintro _ ⟨n', t, i, ⟨⟩⟩ w1 ⟨i, hi, rfl, rfl, ht, hf⟩
  dsimp only at ht ⊢
  have hle : x / 256 ^ i ≤ x := Nat.div_le_self _ _
  refine bD ?_ ?_ <;> intro h
  · have hc : IntKind.u8.wrap (Int.tmod ((x / 256 ^ i : Nat) : Int) 256) = ((UInt8.ofNat (x / 256 ^ i)).toNat : Int) := by
      rw [u8w, u8_ofNat]
      have : Int.tmod ((x / 256 ^ i : Nat) : Int) 256 = ((x / 256 ^ i % 256 : Nat) : Int) := (Int.ofNat_tmod _ _).symm
      rw [this]
      omega
    rw [hc]
    refine nwI fun b w2 hb hsz hf2 hblk hrd => ?_
    have hh := hf.size
    refine app_B slB (base := w.heap.size) (l := [UInt8.ofNat (x / 256 ^ i)]) (m := lowB x i) ⟨rfl, .inr ⟨b, 1, _, rfl, by omega, hblk, Nat.le_refl _, by decide, rfl, rfl⟩⟩ (ht.fr hf2).rd ht.len.symm (by simp [lowB_length]; omega) (by omega) fun r w3 ho hb3 _ _ => ?_
    have hd : Int.tdiv ((x / 256 ^ i : Nat) : Int) 256 = ((x / 256 ^ (i + 1) : Nat) : Int) := by
      rw [Nat.pow_succ, ← Nat.div_div_eq_div_mul]
      exact (Int.ofNat_tdiv _ _).symm
    have hle' : x / 256 ^ (i + 1) ≤ x := Nat.div_le_self _ _
    rw [hd, i64w (n := (i : Int) + 1) (by omega) (by omega)]
    refine ⟨⟨i + 1, by omega, rfl, ?_, ho, (hf.trans hf2).on hb3⟩, by omega⟩
    generalize x / 256 ^ (i + 1) = q at *
    exact i64w (by omega) (by omega)
  · obtain rfl : i = k := by omega
    refine nwI fun b w2 hb hsz hf2 hblk _ => ?_
    have hh := hf.size
    refine app_B slB (base := w1.heap.size) (l := []) (OwB.new hblk (by omega)) (hs.fr (hf.trans hf2)).rd hs.len.symm (by simp; omega) (by omega) fun r w3 ho hb3 _ _ => ?_
    have hf3 : Fr w1 w3 := hf2.on hb3
    refine (Lead_ok hk8).mono ?_
    rintro _ _ ⟨rfl, rfl⟩
    have hlead : IntKind.u8.wrap (IntKind.i64.wrap (((256 - 2 ^ (8 - i) : Nat) : Int) + ((x / 256 ^ i : Nat) : Int))) = ((UInt8.ofNat (leadB x i)).toNat : Int) := by
      have e : leadB x i = 256 - 2 ^ (8 - i) + x / 256 ^ i := by
        unfold leadB
        split
        · rfl
        · obtain rfl : i = 8 := by omega
          rw [Nat.div_eq_of_lt (show x < 256 ^ 8 by omega)]
      rw [u8_ofNat, u8w, e]
      generalize x / 256 ^ i = q at *
      generalize 256 - 2 ^ (8 - i) = p at *
      rw [i64w (by omega) (by omega)]
      omega
    rw [hlead]
    refine nwI fun b4 w4 hb4 hsz4 hf4 hblk4 hrd4 => ?_
    have hh3 := hf3.size
    refine app_B slB (base := w1.heap.size) (m := [UInt8.ofNat (leadB x i)]) (ho.fr hf4) hrd4 rfl (by simp; omega) (by omega) fun r5 w5 ho5 hb5 _ _ => ?_
    have hf5 : Fr w1 w5 := (hf3.trans hf4).on hb5
    have hh5 := hf5.size
    refine app_B slB (base := w1.heap.size) ho5 (ht.fr hf5).rd ht.len.symm (by simp [lowB_length]; omega) (by omega) fun r6 w6 ho6 hb6 _ _ => ⟨?_, hf.trans (hf5.on hb6)⟩
    rw [hnum]
    simpa using ho6.mono hh

theorem ref_Text_ok {s x : Sl} {l m : List UInt8} {w : World} (hs : Bs w s l) (hx : Bs w x m) (hl : l.length ≤ 549755813888) (hm : m.length ≤ 549755813888) :
    cl Tryd.prog n_flumeref02_Text #[.slice s.a s.n s.c, .slice x.a x.n x.c] .L w fun (r : Sl) w' => OwB w' w.heap.size t_uint8 r (l ++ numB m.length ++ m) ∧ Fr w w' := by
  refine flumeref02_Text.cl ?_
  unfold flumeref02_Text
  have hn := hx.len
  have h9 := numB_le m.length
  refine (ref_Number_ok hs (by omega) (by omega)).mono ?_
  rintro r w1 ⟨ho, hf⟩
  rw [Int.toNat_natCast, hn] at ho
  refine app_B slB (base := w.heap.size) ho (hx.fr hf).rd hn.symm (by simp; omega) hf.size fun r w2 ho2 hb2 _ _ => ⟨ho2, hf.on hb2⟩

end Go.Proofs.YtkojpppnjloikaaDoor
namespace Go.Proofs.YtkojpppnjloikaaDoor
open Go.RowKit Go.Fl

theorem Lead_q {k : Nat} {w : World} {K : Int → Prop} (hk : k ≤ 8) (h : K ((256 - 2 ^ (8 - k) : Nat) : Int)) : qcl Tryd.prog n_flumeref02_Lead #[.int .i64 (k : Int)] (.I .i64) w K := by
  refine ⟨((256 - 2 ^ (8 - k) : Nat) : Int), fun n => (Lead_ok hk).mono ?_, h⟩
  rintro _ _ ⟨rfl, rfl⟩
  exact ⟨rfl, n, rfl⟩

theorem ref_Look_ok {s : Sl} {l : List UInt8} {w : World} (hs : Bs w s l) (hl : l.length ≤ 1099511627776) :
    cl Tryd.prog n_flumeref02_Look #[.slice s.a s.n s.c] (.tup (.pair (.I .i64) (.pair (.I .i64) (.pair (.I .i64) .nil)))) w
      fun (r : Int × Int × Int × Unit) w' => r = (((lookS l).1 : Int), ((lookS l).2.1 : Int), ((lookS l).2.2 : Int), ()) ∧ Fr w w' := by
  refine flumeref02_Look.cl ?_
  unfold flumeref02_Look
  have hn := hs.len
  cases l with
  | nil => exact bT (by simp [hn]) ⟨rfl, Fr.refl w⟩
  | cons b t =>
    refine bF (by simp [hn]; omega) ?_
    have hb := b.toNat_lt
    have ho := ones_le b.toNat
    rw [List.length_cons] at hn hl
    intro j1
    have hj : ∀ w', Fr w w' → j1 (ones b.toNat : Int) w' := by
      intro w' hf
      have hoy := ones_y hb
      have hsp := (ones_spec hb).1
      show bif _ then _ else _
      rw [lookS_cons, hoy]
      have hiff : ∀ X, X = beN (b.toNat - (256 - 2 ^ (8 - ones b.toNat))) (t.take (ones b.toNat)) → ones b.toNat ≤ t.length → X ≤ 9223372036854775807 → (numB X = b :: t.take (ones b.toNat) ↔ moreN X = ones b.toNat) := fun X h1 h2 h3 => num_iff h1 h2 h3
      generalize ones b.toNat = k at *
      rw [i64w (n := (k : Int) + 1) (by omega) (by omega)]
      refine bD ?_ ?_ <;> intro hlen
      · rw [if_pos (by omega)]; exact ⟨rfl, hf⟩
      · rw [if_neg (by omega)]
        refine ixB0 hs.rd (by simp [hn]) hf ?_
        refine Lead_q ho ?_
        intro n1
        have hf1 : Fr w (w'.drewN n1) := hf.trans (Fr.drewN _ _)
        generalize w'.drewN n1 = w1 at hf1
        generalize hy : b.toNat - (256 - 2 ^ (8 - k)) = y at *
        have hkt : k ≤ t.length := by omega
        refine lpI (fun s' w'' => Fr w w'' ∧ ∃ i : Nat, i ≤ k ∧ s'.2.1 = (i : Int) + 1 ∧ s'.1 = (beN y (t.take i) : Nat) ∧ beN y (t.take i) ≤ 9223372036854775807) (fun s' _ => (k + 1 - s'.2.1).toNat) ⟨hf1, 0, by omega, rfl, ?_, ?_⟩ ?_
        · rw [i64w (n := (b.toNat : Int)) (by omega) (by omega), i64w (by omega) (by omega)]
          show _ = ((y : Nat) : Int)
          omega
        · show y ≤ _
          omega
        · rintro _ ⟨z, i, ⟨⟩⟩ w2 ⟨hf2, i, hik, rfl, rfl, h63⟩
          dsimp only
          refine bD ?_ ?_ <;> intro hi
          · have hik' : i < k := by omega
            have hX : beN y (t.take k) = beN (beN y (t.take i)) ((t.take k).drop i) := by
              rw [← beN_append]
              congr 1
              have := List.take_append_drop i (t.take k)
              rw [List.take_take, Nat.min_eq_left (by omega)] at this
              exact this.symm
            refine bD ?_ ?_ <;> intro hbig
            · have := beN_far (l := t.take k) (k := i) (show beN y (t.take i) ≥ 36028797018963968 by omega) (by rw [List.length_take]; omega)
              rw [hX, if_pos this]
              exact ⟨rfl, hf2⟩
            · refine ixB hs.rd (by simp [hn]) (by omega) (by rw [List.length_cons]; omega) hf2 ?_
              have e1 : ((i : Int) + 1).toNat = i + 1 := by omega
              have hst : t.take (i + 1) = t.take i ++ [t[i]] := by rw [List.take_succ_eq_append_getElem (by omega)]
              have hstep : beN y (t.take (i + 1)) = beN y (t.take i) * 256 + t[i].toNat := by rw [hst, beN_append]; rfl
              have hc := t[i].toNat_lt
              simp only [e1, List.getElem_cons_succ]
              rw [i64w (n := 256 * _) (by omega) (by omega), i64w (n := ((t[i].toNat : Nat) : Int)) (by omega) (by omega), i64w (by omega) (by omega), i64w (by omega) (by omega)]
              refine ⟨⟨hf2, i + 1, by omega, by simp, ?_, by omega⟩, by omega⟩
              rw [hstep]
              omega
          · obtain rfl : i = k := by omega
            have hiff := hiff _ rfl hkt h63
            generalize beN y (t.take i) = X at *
            rw [if_neg (by omega)]
            intro n2
            have hf3 : Fr w (w2.drewN n2) := hf2.trans (Fr.drewN _ _)
            generalize w2.drewN n2 = w3 at hf3
            refine slsB (hs.fr hf3) (by decide) (by omega) (by rw [List.length_cons]; omega) fun r hr _ _ => ?_
            rw [show ((i : Int) + 1).toNat = i + 1 from by omega, Int.toNat_zero, List.drop_zero, List.take_succ_cons] at hr
            refine bstrI hr.rd hr.len.symm (Fr.refl _) ?_
            refine (ref_Number_ok (Bs.nil w3 0) (by simp) (by omega)).mono ?_
            rintro x w4 ⟨hx, hf4⟩
            rw [List.nil_append, Int.toNat_natCast] at hx
            refine ⟨hf4, bstrI hx.rd hx.len.symm (Fr.refl _) ?_⟩
            rw [beqB_eq]
            by_cases hm : moreN X = i
            · rw [if_neg (by omega)]
              refine bF (by rw [decide_eq_true (hiff.2 hm)]; rfl) ⟨?_, hf3.trans hf4⟩
              simp
            · rw [if_pos hm]
              exact bT (by rw [decide_eq_false (fun h => hm (hiff.1 h))]; rfl) ⟨rfl, hf3.trans hf4⟩
    refine lpI (fun s' w' => Fr w w' ∧ ∃ k : Nat, k ≤ 8 ∧ s'.1 = k ∧ ∀ j, j ≤ k → 256 - 2 ^ (8 - j) ≤ b.toNat) (fun s' _ => (8 - s'.1).toNat) ⟨Fr.refl w, 0, by omega, rfl, fun j hj => by rw [Nat.le_zero.1 hj]; simp⟩ ?_
    rintro _ ⟨k, ⟨⟩⟩ w' ⟨hf, k, hk, rfl, hle⟩
    dsimp only
    refine bD ?_ ?_ <;> intro h8
    · refine ixB0 hs.rd (by simp [hn]) hf ?_
      rw [i64w (n := (k : Int) + 1) (by omega) (by omega), show (k : Int) + 1 = ((k + 1 : Nat) : Int) from by simp]
      refine Lead_q (by omega) ?_
      intro n
      have hf' : Fr w (w'.drewN n) := hf.trans (Fr.drewN _ _)
      rw [i64w (n := (b.toNat : Int)) (by omega) (by omega)]
      refine bD ?_ ?_ <;> intro hge
      · refine ⟨⟨hf', k + 1, by omega, rfl, fun j hj => ?_⟩, by omega⟩
        by_cases hjk : j ≤ k
        · exact hle j hjk
        · obtain rfl : j = k + 1 := by omega
          omega
      · have : ones b.toNat = k := ones_of (by omega) (hle k (Nat.le_refl _)) (by rw [show 7 - k = 8 - (k + 1) from by omega]; omega)
        rw [← this]
        exact hj _ hf'
    · obtain rfl : k = 8 := by omega
      have h255 := hle 8 (Nat.le_refl _)
      have h1 : ones b.toNat = 8 := by
        have : b.toNat = 255 := by simp at h255; omega
        rw [this]; rfl
      intro n
      have := hj (w'.drewN n) (hf.trans (Fr.drewN _ _))
      rwa [h1] at this
end Go.Proofs.YtkojpppnjloikaaDoor
