/- What the code of Go functions of this seat asks, in numbers, lists and worlds: printed by a program of mine (wip/tools). -/
import Derived.Test.YtkojpppnjloikaaDoorId
set_option linter.unusedVariables false
set_option maxHeartbeats 4000000
namespace Go.Proofs.YtkojpppnjloikaaDoor
open Go.Fl
/-- flume/flumeref10.Get -/
def an_flumeref10_Get : Nat → LA
  | 5 => [(25, (.I .i64))] | 19 => [(91, (.I .i64))] | _ => []
def flumeref10_Get (p0 : Sl) (Q : ((Int × (Int × (Int × (Int × (Int × ((Int × (Int × ({l : List Value // l.length = 32} × (Sl × Unit)))) × Unit)))))) × (Int × Unit)) → World → Prop) (w : World) : Prop :=
 nw w (([.int .i64 0, .int .i64 0, .int .i64 0, .int .i64 0, .int .i64 0] : List Value) ++ ((([.int .i64 0, .int .i64 0] : List Value) ++ ((zrow 32 (.int .u8 0)).1 ++ ([.slice none 0 0] : List Value))) ++ ([] : List Value))) t_api_Note fun a1 w2 => nw w2 ([.slice p0.a p0.n p0.c, .int .i64 0]) t_flumeref02_Reader fun a3 w4 => nw w4 (([.int .i64 0, .int .i64 0, .int .i64 0, .int .i64 0, .int .i64 0] : List Value) ++ ((([.int .i64 0, .int .i64 0] : List Value) ++ ((zrow 32 (.int .u8 0)).1 ++ ([.slice none 0 0] : List Value))) ++ ([] : List Value))) t_api_Note fun a5 w6 => st1 w6 a5 (.int .i64 0) fun w7 => st1 w7 (a5.add 1) (.int .i64 0) fun w8 => st1 w8 ((a5.add 1).add 1) (.int .i64 0) fun w9 => st1 w9 (((a5.add 1).add 1).add 1) (.int .i64 0) fun w10 => st1 w10 ((((a5.add 1).add 1).add 1).add 1) (.int .i64 0) fun w11 => st1 w11 (((((a5.add 1).add 1).add 1).add 1).add 1) (.int .i64 0) fun w12 => st1 w12 ((((((a5.add 1).add 1).add 1).add 1).add 1).add 1) (.int .i64 0) fun w13 => stL (((((((a5.add 1).add 1).add 1).add 1).add 1).add 1).add 1) w13 0 (zrow 32 (.int .u8 0)).1 fun w14 => st1 w14 ((((((((a5.add 1).add 1).add 1).add 1).add 1).add 1).add 1).add 32) (.slice none 0 0) fun w15 => cl Tryd.prog n_flumeref02_Reader_Number #[.pointer (some a3)] (.tup (.pair (.I .i64) (.pair (.I .i64) .nil))) w15 fun (x16 : (Int × (Int × Unit))) w17 => st1 w17 a5 (.int .i64 x16.1) fun w18 => nw w18 [.int .i64 1, .int .i64 2, .int .i64 3, .int .i64 4, .int .i64 5, .int .i64 6] t_int fun a19 w20 => lp (α := (Int × Unit)) (fun K => K (0, ())) w20 fun D23 J24 s21 w22 =>
 bif (decide (s21.1 < 6)) then
  (ixa (some a19) 6 s21.1 1 fun a25 => ld (.I .i64) w22 a25 fun (x26 : Int) => ld (.I .i64) w22 a5 fun (x27 : Int) => bif (x27 == x26) then
  (cl Tryd.prog n_flumeref02_Reader_Number #[.pointer (some a3)] (.tup (.pair (.I .i64) (.pair (.I .i64) .nil))) w22 fun (x28 : (Int × (Int × Unit))) w29 => st1 w29 (a5.add 1) (.int .i64 x28.1) fun w30 => J24 ((IntKind.i64.wrap (s21.1 + 1)), ()) w30)
  else J24 ((IntKind.i64.wrap (s21.1 + 1)), ()) w22)
  else let j9 := (fun  (w240 : World) =>
   let j14 := (fun  (w347 : World) =>
   let j16 := (fun  (w404 : World) =>
   ld (.pair (.I .i64) (.pair (.I .i64) (.pair (.I .i64) (.pair (.I .i64) (.pair (.I .i64) (.pair (.pair (.I .i64) (.pair (.I .i64) (.pair (.row 32) (.pair .L .nil)))) .nil)))))) w404 a5 fun (x405 : (Int × (Int × (Int × (Int × (Int × ((Int × (Int × ({l : List Value // l.length = 32} × (Sl × Unit)))) × Unit))))))) => cl Tryd.prog n_flumeref10_Put #[.agg ((([.int .i64 x405.1, .int .i64 x405.2.1, .int .i64 x405.2.2.1, .int .i64 x405.2.2.2.1, .int .i64 x405.2.2.2.2.1] : List Value) ++ ((([.int .i64 x405.2.2.2.2.2.1.1, .int .i64 x405.2.2.2.2.2.1.2.1] : List Value) ++ (x405.2.2.2.2.2.1.2.2.1.1 ++ ([.slice x405.2.2.2.2.2.1.2.2.2.1.a x405.2.2.2.2.2.1.2.2.2.1.n x405.2.2.2.2.2.1.2.2.2.1.c] : List Value))) ++ ([] : List Value)))).toArray] (.tup (.pair .L (.pair (.I .i64) .nil))) w404 fun (x406 : (Sl × (Int × Unit))) w407 => let j17 := (fun (y420 : Bool) (w421 : World) =>
   bif y420 then
 (st1 w421 a1 (.int .i64 0) fun w422 => st1 w422 (a1.add 1) (.int .i64 0) fun w423 => st1 w423 ((a1.add 1).add 1) (.int .i64 0) fun w424 => st1 w424 (((a1.add 1).add 1).add 1) (.int .i64 0) fun w425 => st1 w425 ((((a1.add 1).add 1).add 1).add 1) (.int .i64 0) fun w426 => st1 w426 (((((a1.add 1).add 1).add 1).add 1).add 1) (.int .i64 0) fun w427 => st1 w427 ((((((a1.add 1).add 1).add 1).add 1).add 1).add 1) (.int .i64 0) fun w428 => stL (((((((a1.add 1).add 1).add 1).add 1).add 1).add 1).add 1) w428 0 (zrow 32 (.int .u8 0)).1 fun w429 => st1 w429 ((((((((a1.add 1).add 1).add 1).add 1).add 1).add 1).add 1).add 32) (.slice none 0 0) fun w430 => ld (.pair (.I .i64) (.pair (.I .i64) (.pair (.I .i64) (.pair (.I .i64) (.pair (.I .i64) (.pair (.pair (.I .i64) (.pair (.I .i64) (.pair (.row 32) (.pair .L .nil)))) .nil)))))) w430 a1 fun (r431 : (Int × (Int × (Int × (Int × (Int × ((Int × (Int × ({l : List Value // l.length = 32} × (Sl × Unit)))) × Unit))))))) => Q ((r431.1, (r431.2.1, (r431.2.2.1, (r431.2.2.2.1, (r431.2.2.2.2.1, ((r431.2.2.2.2.2.1.1, (r431.2.2.2.2.2.1.2.1, (r431.2.2.2.2.2.1.2.2.1, (r431.2.2.2.2.2.1.2.2.2.1, ())))), ())))))), (100, ())) w430)
 else ld (.pair (.I .i64) (.pair (.I .i64) (.pair (.I .i64) (.pair (.I .i64) (.pair (.I .i64) (.pair (.pair (.I .i64) (.pair (.I .i64) (.pair (.row 32) (.pair .L .nil)))) .nil)))))) w421 a5 fun (x432 : (Int × (Int × (Int × (Int × (Int × ((Int × (Int × ({l : List Value // l.length = 32} × (Sl × Unit)))) × Unit))))))) => st1 w421 a1 (.int .i64 x432.1) fun w433 => st1 w433 (a1.add 1) (.int .i64 x432.2.1) fun w434 => st1 w434 ((a1.add 1).add 1) (.int .i64 x432.2.2.1) fun w435 => st1 w435 (((a1.add 1).add 1).add 1) (.int .i64 x432.2.2.2.1) fun w436 => st1 w436 ((((a1.add 1).add 1).add 1).add 1) (.int .i64 x432.2.2.2.2.1) fun w437 => st1 w437 (((((a1.add 1).add 1).add 1).add 1).add 1) (.int .i64 x432.2.2.2.2.2.1.1) fun w438 => st1 w438 ((((((a1.add 1).add 1).add 1).add 1).add 1).add 1) (.int .i64 x432.2.2.2.2.2.1.2.1) fun w439 => stL (((((((a1.add 1).add 1).add 1).add 1).add 1).add 1).add 1) w439 0 x432.2.2.2.2.2.1.2.2.1.1 fun w440 => st1 w440 ((((((((a1.add 1).add 1).add 1).add 1).add 1).add 1).add 1).add 32) (.slice x432.2.2.2.2.2.1.2.2.2.1.a x432.2.2.2.2.2.1.2.2.2.1.n x432.2.2.2.2.2.1.2.2.2.1.c) fun w441 => ld (.pair (.I .i64) (.pair (.I .i64) (.pair (.I .i64) (.pair (.I .i64) (.pair (.I .i64) (.pair (.pair (.I .i64) (.pair (.I .i64) (.pair (.row 32) (.pair .L .nil)))) .nil)))))) w441 a1 fun (r442 : (Int × (Int × (Int × (Int × (Int × ((Int × (Int × ({l : List Value // l.length = 32} × (Sl × Unit)))) × Unit))))))) => Q ((r442.1, (r442.2.1, (r442.2.2.1, (r442.2.2.2.1, (r442.2.2.2.2.1, ((r442.2.2.2.2.2.1.1, (r442.2.2.2.2.2.1.2.1, (r442.2.2.2.2.2.1.2.2.1, (r442.2.2.2.2.2.1.2.2.2.1, ())))), ())))))), (0, ())) w441);
 bif (x406.2.1 != 0) then
 (j17 true w407)
 else bstr w407 x406.1 fun z408 => bstr w407 p0 fun z409 => j17 (!(beqB ⟨z408.toArray⟩ ⟨z409.toArray⟩)) w407);
 ld (.I .i64) w347 a5 fun (x348 : Int) => bif (x348 == 2) then
 (cl Tryd.prog n_flumeref02_Reader_Number #[.pointer (some a3)] (.tup (.pair (.I .i64) (.pair (.I .i64) .nil))) w347 fun (x349 : (Int × (Int × Unit))) w350 => st1 w350 (a5.add 5) (.int .i64 x349.1) fun w351 => cl Tryd.prog n_flumeref02_Reader_Number #[.pointer (some a3)] (.tup (.pair (.I .i64) (.pair (.I .i64) .nil))) w351 fun (x352 : (Int × (Int × Unit))) w353 => st1 w353 ((a5.add 5).add 1) (.int .i64 x352.1) fun w354 => lp (α := (Int × Unit)) (fun K => K (0, ())) w354 fun D357 J358 s355 w356 =>
  bif (decide (s355.1 < 32)) then
   (cl Tryd.prog n_flumeref02_Reader_Byte #[.pointer (some a3)] (.tup (.pair (.I .u8) (.pair (.I .i64) .nil))) w356 fun (x359 : (Int × (Int × Unit))) w360 => ixa (some ((a5.add 5).add 2)) 32 s355.1 1 fun a361 => st1 w360 a361 (.int .u8 x359.1) fun w362 => J358 ((IntKind.i64.wrap (s355.1 + 1)), ()) w362)
   else cl Tryd.prog n_flumeref02_Reader_Text #[.pointer (some a3), .int .i64 256] (.tup (.pair .L (.pair (.I .i64) .nil))) w356 fun (x363 : (Sl × (Int × Unit))) w364 => st1 w364 ((a5.add 5).add 34) (.slice x363.1.a x363.1.n x363.1.c) fun w365 => j16 w365)
 else j16 w347);
 let j10 := (fun (y247 : Bool) (w248 : World) =>
   bif y247 then
 (cl Tryd.prog n_flumeref02_Reader_Number #[.pointer (some a3)] (.tup (.pair (.I .i64) (.pair (.I .i64) .nil))) w248 fun (x249 : (Int × (Int × Unit))) w250 => st1 w250 (a5.add 4) (.int .i64 x249.1) fun w251 => j14 w251)
 else j14 w248);
 ld (.I .i64) w240 a5 fun (x241 : Int) => bif (x241 == 2) then
 (j10 true w240)
 else ld (.I .i64) w240 a5 fun (x242 : Int) => bif (x242 == 5) then
 (j10 true w240)
 else ld (.I .i64) w240 a5 fun (x243 : Int) => j10 (x243 == 6) w240);
 ld (.I .i64) w22 a5 fun (x31 : Int) => bif (x31 == 1) then
 (cl Tryd.prog n_flumeref02_Reader_Number #[.pointer (some a3)] (.tup (.pair (.I .i64) (.pair (.I .i64) .nil))) w22 fun (x32 : (Int × (Int × Unit))) w33 => st1 w33 (a5.add 2) (.int .i64 x32.1) fun w34 => cl Tryd.prog n_flumeref02_Reader_Number #[.pointer (some a3)] (.tup (.pair (.I .i64) (.pair (.I .i64) .nil))) w34 fun (x35 : (Int × (Int × Unit))) w36 => st1 w36 (a5.add 3) (.int .i64 x35.1) fun w37 => j9 w37)
 else j9 w22
theorem flumeref10_Get.t (p0 : Sl) (Q : ((Int × (Int × (Int × (Int × (Int × ((Int × (Int × ({l : List Value // l.length = 32} × (Sl × Unit)))) × Unit)))))) × (Int × Unit)) → World → Prop) (w : World) : flumeref10_Get p0 Q w = fvc Tryd.prog an_flumeref10_Get Tryd.f29 (.tup (.pair (.pair (.I .i64) (.pair (.I .i64) (.pair (.I .i64) (.pair (.I .i64) (.pair (.I .i64) (.pair (.pair (.I .i64) (.pair (.I .i64) (.pair (.row 32) (.pair .L .nil)))) .nil)))))) (.pair (.I .i64) .nil))) [Kd.av .L p0] w Q := by kernel_rfl
theorem flumeref10_Get.k : fnOk Tryd.prog Tryd.f29 = true := by kernel_rfl
theorem flumeref10_Get.cl {p0 : Sl} {Q : ((Int × (Int × (Int × (Int × (Int × ((Int × (Int × ({l : List Value // l.length = 32} × (Sl × Unit)))) × Unit)))))) × (Int × Unit)) → World → Prop} {w : World} (h : flumeref10_Get p0 Q w) : cl Tryd.prog n_flumeref10_Get #[.slice p0.a p0.n p0.c] (.tup (.pair (.pair (.I .i64) (.pair (.I .i64) (.pair (.I .i64) (.pair (.I .i64) (.pair (.I .i64) (.pair (.pair (.I .i64) (.pair (.I .i64) (.pair (.row 32) (.pair .L .nil)))) .nil)))))) (.pair (.I .i64) .nil))) w Q :=
  cl_tie Tryd.func29 flumeref10_Get.k (args := [Kd.av .L p0]) (flumeref10_Get.t p0 Q w) h

/-- flume/flumeref10.SameNote -/
def flumeref10_SameNote (p0 : (Int × (Int × (Int × (Int × (Int × ((Int × (Int × ({l : List Value // l.length = 32} × (Sl × Unit)))) × Unit))))))) (p1 : (Int × (Int × (Int × (Int × (Int × ((Int × (Int × ({l : List Value // l.length = 32} × (Sl × Unit)))) × Unit))))))) (Q : Bool → World → Prop) (w : World) : Prop :=
 nw w ((([.int .i64 p0.1, .int .i64 p0.2.1, .int .i64 p0.2.2.1, .int .i64 p0.2.2.2.1, .int .i64 p0.2.2.2.2.1] : List Value) ++ ((([.int .i64 p0.2.2.2.2.2.1.1, .int .i64 p0.2.2.2.2.2.1.2.1] : List Value) ++ (p0.2.2.2.2.2.1.2.2.1.1 ++ ([.slice p0.2.2.2.2.2.1.2.2.2.1.a p0.2.2.2.2.2.1.2.2.2.1.n p0.2.2.2.2.2.1.2.2.2.1.c] : List Value))) ++ ([] : List Value)))) t_api_Note fun a1 w2 => nw w2 ((([.int .i64 p1.1, .int .i64 p1.2.1, .int .i64 p1.2.2.1, .int .i64 p1.2.2.2.1, .int .i64 p1.2.2.2.2.1] : List Value) ++ ((([.int .i64 p1.2.2.2.2.2.1.1, .int .i64 p1.2.2.2.2.2.1.2.1] : List Value) ++ (p1.2.2.2.2.2.1.2.2.1.1 ++ ([.slice p1.2.2.2.2.2.1.2.2.2.1.a p1.2.2.2.2.2.1.2.2.2.1.n p1.2.2.2.2.2.1.2.2.2.1.c] : List Value))) ++ ([] : List Value)))) t_api_Note fun a3 w4 => ld (.I .i64) w4 a1 fun (x5 : Int) => ld (.I .i64) w4 a3 fun (x6 : Int) => bif (x5 == x6) then
 (ld (.I .i64) w4 (a1.add 1) fun (x7 : Int) => ld (.I .i64) w4 (a3.add 1) fun (x8 : Int) => bif (x7 == x8) then
 (ld (.I .i64) w4 (a1.add 2) fun (x9 : Int) => ld (.I .i64) w4 (a3.add 2) fun (x10 : Int) => bif (x9 == x10) then
 (ld (.I .i64) w4 (a1.add 3) fun (x11 : Int) => ld (.I .i64) w4 (a3.add 3) fun (x12 : Int) => bif (x11 == x12) then
 (ld (.I .i64) w4 (a1.add 4) fun (x13 : Int) => ld (.I .i64) w4 (a3.add 4) fun (x14 : Int) => bif (x13 == x14) then
 (ld (.pair (.I .i64) (.pair (.I .i64) (.pair (.row 32) (.pair .L .nil)))) w4 (a1.add 5) fun (x15 : (Int × (Int × ({l : List Value // l.length = 32} × (Sl × Unit))))) => ld (.pair (.I .i64) (.pair (.I .i64) (.pair (.row 32) (.pair .L .nil)))) w4 (a3.add 5) fun (x16 : (Int × (Int × ({l : List Value // l.length = 32} × (Sl × Unit))))) => cl Tryd.prog n_flumeref10_Same #[.agg ((([.int .i64 x15.1, .int .i64 x15.2.1] : List Value) ++ (x15.2.2.1.1 ++ ([.slice x15.2.2.2.1.a x15.2.2.2.1.n x15.2.2.2.1.c] : List Value)))).toArray, .agg ((([.int .i64 x16.1, .int .i64 x16.2.1] : List Value) ++ (x16.2.2.1.1 ++ ([.slice x16.2.2.2.1.a x16.2.2.2.1.n x16.2.2.2.1.c] : List Value)))).toArray] .B w4 fun (x17 : Bool) w18 => Q x17 w18)
 else Q false w4)
 else Q false w4)
 else Q false w4)
 else Q false w4)
 else Q false w4
theorem flumeref10_SameNote.t (p0 : (Int × (Int × (Int × (Int × (Int × ((Int × (Int × ({l : List Value // l.length = 32} × (Sl × Unit)))) × Unit))))))) (p1 : (Int × (Int × (Int × (Int × (Int × ((Int × (Int × ({l : List Value // l.length = 32} × (Sl × Unit)))) × Unit))))))) (Q : Bool → World → Prop) (w : World) : flumeref10_SameNote p0 p1 Q w = fvc Tryd.prog (fun _ => []) Tryd.f30 .B [Kd.av (.pair (.I .i64) (.pair (.I .i64) (.pair (.I .i64) (.pair (.I .i64) (.pair (.I .i64) (.pair (.pair (.I .i64) (.pair (.I .i64) (.pair (.row 32) (.pair .L .nil)))) .nil)))))) p0, Kd.av (.pair (.I .i64) (.pair (.I .i64) (.pair (.I .i64) (.pair (.I .i64) (.pair (.I .i64) (.pair (.pair (.I .i64) (.pair (.I .i64) (.pair (.row 32) (.pair .L .nil)))) .nil)))))) p1] w Q := by kernel_rfl
theorem flumeref10_SameNote.k : fnOk Tryd.prog Tryd.f30 = true := by kernel_rfl
theorem flumeref10_SameNote.cl {p0 : (Int × (Int × (Int × (Int × (Int × ((Int × (Int × ({l : List Value // l.length = 32} × (Sl × Unit)))) × Unit))))))} {p1 : (Int × (Int × (Int × (Int × (Int × ((Int × (Int × ({l : List Value // l.length = 32} × (Sl × Unit)))) × Unit))))))} {Q : Bool → World → Prop} {w : World} (h : flumeref10_SameNote p0 p1 Q w) : cl Tryd.prog n_flumeref10_SameNote #[.agg ((([.int .i64 p0.1, .int .i64 p0.2.1, .int .i64 p0.2.2.1, .int .i64 p0.2.2.2.1, .int .i64 p0.2.2.2.2.1] : List Value) ++ ((([.int .i64 p0.2.2.2.2.2.1.1, .int .i64 p0.2.2.2.2.2.1.2.1] : List Value) ++ (p0.2.2.2.2.2.1.2.2.1.1 ++ ([.slice p0.2.2.2.2.2.1.2.2.2.1.a p0.2.2.2.2.2.1.2.2.2.1.n p0.2.2.2.2.2.1.2.2.2.1.c] : List Value))) ++ ([] : List Value)))).toArray, .agg ((([.int .i64 p1.1, .int .i64 p1.2.1, .int .i64 p1.2.2.1, .int .i64 p1.2.2.2.1, .int .i64 p1.2.2.2.2.1] : List Value) ++ ((([.int .i64 p1.2.2.2.2.2.1.1, .int .i64 p1.2.2.2.2.2.1.2.1] : List Value) ++ (p1.2.2.2.2.2.1.2.2.1.1 ++ ([.slice p1.2.2.2.2.2.1.2.2.2.1.a p1.2.2.2.2.2.1.2.2.2.1.n p1.2.2.2.2.2.1.2.2.2.1.c] : List Value))) ++ ([] : List Value)))).toArray] .B w Q :=
  cl_tie Tryd.func30 flumeref10_SameNote.k (args := [Kd.av (.pair (.I .i64) (.pair (.I .i64) (.pair (.I .i64) (.pair (.I .i64) (.pair (.I .i64) (.pair (.pair (.I .i64) (.pair (.I .i64) (.pair (.row 32) (.pair .L .nil)))) .nil)))))) p0, Kd.av (.pair (.I .i64) (.pair (.I .i64) (.pair (.I .i64) (.pair (.I .i64) (.pair (.I .i64) (.pair (.pair (.I .i64) (.pair (.I .i64) (.pair (.row 32) (.pair .L .nil)))) .nil)))))) p1]) (flumeref10_SameNote.t p0 p1 Q w) h

/-- flume/record.fields -/
def an_record_fields : Nat → LA
  | 1000003 => [(0, .nil)] | 1000007 => [(0, .nil)] | _ => []
def record_fields (p0 : Option Addr) (Q : Sl → World → Prop) (w : World) : Prop :=
 nz p0 fun a1 => ld (.I .i64) w a1 fun (x2 : Int) => bif (x2 == 1) then
 (dr w fun w3 => nz p0 fun a4 => nz p0 fun a5 => nz p0 fun a6 => nw w3 [.pointer (some (a4.add 1)), .pointer (some (a5.add 2)), .pointer (some (a6.add 3))] t_p_int fun a7 w8 => Q ⟨(some a7), 3, 3⟩ w8)
 else let j1 := (fun (y20 : Bool) (w21 : World) =>
   bif y20 then
 (dr w21 fun w22 => nz p0 fun a23 => nz p0 fun a24 => nw w22 [.pointer (some (a23.add 1)), .pointer (some (a24.add 4))] t_p_int fun a25 w26 => Q ⟨(some a25), 2, 2⟩ w26)
 else bif (x2 == 3) then
 (bif (x2 == 3) then
 (nz p0 fun a27 => nw w21 [.pointer (some (a27.add 1))] t_p_int fun a28 w29 => Q ⟨(some a28), 1, 1⟩ w29)
 else Q ⟨none, 0, 0⟩ w21)
 else bif (x2 == 4) then
 (nz p0 fun a30 => nw w21 [.pointer (some (a30.add 1))] t_p_int fun a31 w32 => Q ⟨(some a31), 1, 1⟩ w32)
 else Q ⟨none, 0, 0⟩ w21);
 bif (x2 == 2) then
 (j1 (x2 == 2) w)
 else bif (x2 == 5) then
 (j1 (x2 == 5) w)
 else j1 (x2 == 6) w
theorem record_fields.t (p0 : Option Addr) (Q : Sl → World → Prop) (w : World) : record_fields p0 Q w = fvc Tryd.prog an_record_fields Tryd.f31 .L [Kd.av .P p0] w Q := by kernel_rfl
theorem record_fields.k : fnOk Tryd.prog Tryd.f31 = true := by kernel_rfl
theorem record_fields.cl {p0 : Option Addr} {Q : Sl → World → Prop} {w : World} (h : record_fields p0 Q w) : cl Tryd.prog n_record_fields #[.pointer p0] .L w Q :=
  cl_tie Tryd.func31 record_fields.k (args := [Kd.av .P p0]) (record_fields.t p0 Q w) h

/-- flume/flumeref10.numbers -/
def flumeref10_numbers (p0 : (Int × (Int × (Int × (Int × (Int × ((Int × (Int × ({l : List Value // l.length = 32} × (Sl × Unit)))) × Unit))))))) (Q : Sl → World → Prop) (w : World) : Prop :=
 nw w ((([.int .i64 p0.1, .int .i64 p0.2.1, .int .i64 p0.2.2.1, .int .i64 p0.2.2.2.1, .int .i64 p0.2.2.2.2.1] : List Value) ++ ((([.int .i64 p0.2.2.2.2.2.1.1, .int .i64 p0.2.2.2.2.2.1.2.1] : List Value) ++ (p0.2.2.2.2.2.1.2.2.1.1 ++ ([.slice p0.2.2.2.2.2.1.2.2.2.1.a p0.2.2.2.2.2.1.2.2.2.1.n p0.2.2.2.2.2.1.2.2.2.1.c] : List Value))) ++ ([] : List Value)))) t_api_Note fun a1 w2 => ld (.I .i64) w2 a1 fun (x3 : Int) => bif (x3 == 1) then
 (ld (.I .i64) w2 (a1.add 1) fun (x4 : Int) => ld (.I .i64) w2 (a1.add 2) fun (x5 : Int) => ld (.I .i64) w2 (a1.add 3) fun (x6 : Int) => nw w2 [.int .i64 x4, .int .i64 x5, .int .i64 x6] t_int fun a7 w8 => Q ⟨(some a7), 3, 3⟩ w8)
 else let j1 := (fun (y19 : Bool) (w20 : World) =>
   bif y19 then
 (ld (.I .i64) w20 (a1.add 1) fun (x21 : Int) => ld (.I .i64) w20 (a1.add 4) fun (x22 : Int) => nw w20 [.int .i64 x21, .int .i64 x22] t_int fun a23 w24 => Q ⟨(some a23), 2, 2⟩ w24)
 else bif (x3 == 3) then
 (bif (x3 == 3) then
 (ld (.I .i64) w20 (a1.add 1) fun (x25 : Int) => nw w20 [.int .i64 x25] t_int fun a26 w27 => Q ⟨(some a26), 1, 1⟩ w27)
 else Q ⟨none, 0, 0⟩ w20)
 else bif (x3 == 4) then
 (ld (.I .i64) w20 (a1.add 1) fun (x28 : Int) => nw w20 [.int .i64 x28] t_int fun a29 w30 => Q ⟨(some a29), 1, 1⟩ w30)
 else Q ⟨none, 0, 0⟩ w20);
 bif (x3 == 2) then
 (j1 (x3 == 2) w2)
 else bif (x3 == 5) then
 (j1 (x3 == 5) w2)
 else j1 (x3 == 6) w2
theorem flumeref10_numbers.t (p0 : (Int × (Int × (Int × (Int × (Int × ((Int × (Int × ({l : List Value // l.length = 32} × (Sl × Unit)))) × Unit))))))) (Q : Sl → World → Prop) (w : World) : flumeref10_numbers p0 Q w = fvc Tryd.prog (fun _ => []) Tryd.f32 .L [Kd.av (.pair (.I .i64) (.pair (.I .i64) (.pair (.I .i64) (.pair (.I .i64) (.pair (.I .i64) (.pair (.pair (.I .i64) (.pair (.I .i64) (.pair (.row 32) (.pair .L .nil)))) .nil)))))) p0] w Q := by kernel_rfl
theorem flumeref10_numbers.k : fnOk Tryd.prog Tryd.f32 = true := by kernel_rfl
theorem flumeref10_numbers.cl {p0 : (Int × (Int × (Int × (Int × (Int × ((Int × (Int × ({l : List Value // l.length = 32} × (Sl × Unit)))) × Unit))))))} {Q : Sl → World → Prop} {w : World} (h : flumeref10_numbers p0 Q w) : cl Tryd.prog n_flumeref10_numbers #[.agg ((([.int .i64 p0.1, .int .i64 p0.2.1, .int .i64 p0.2.2.1, .int .i64 p0.2.2.2.1, .int .i64 p0.2.2.2.2.1] : List Value) ++ ((([.int .i64 p0.2.2.2.2.2.1.1, .int .i64 p0.2.2.2.2.2.1.2.1] : List Value) ++ (p0.2.2.2.2.2.1.2.2.1.1 ++ ([.slice p0.2.2.2.2.2.1.2.2.2.1.a p0.2.2.2.2.2.1.2.2.2.1.n p0.2.2.2.2.2.1.2.2.2.1.c] : List Value))) ++ ([] : List Value)))).toArray] .L w Q :=
  cl_tie Tryd.func32 flumeref10_numbers.k (args := [Kd.av (.pair (.I .i64) (.pair (.I .i64) (.pair (.I .i64) (.pair (.I .i64) (.pair (.I .i64) (.pair (.pair (.I .i64) (.pair (.I .i64) (.pair (.row 32) (.pair .L .nil)))) .nil)))))) p0]) (flumeref10_numbers.t p0 Q w) h

/-- flume/lz.Restore -/
def an_lz_Restore : Nat → LA
  | 2 => [(0, .L), (6, .L)] | _ => []
def lz_Restore (p0 : Sl) (p1 : Int) (Q : (Sl × (Int × Unit)) → World → Prop) (w : World) : Prop :=
 lp (α := (Sl × (Sl × Unit))) (fun K => K (p0, (⟨none, 0, 0⟩, ()))) w fun D3 J4 s1 w2 =>
 bif (decide ((s1.1.n : Int) > 0)) then
  (cl Tryd.prog n_lz_step #[.slice s1.2.1.a s1.2.1.n s1.2.1.c, .slice s1.1.a s1.1.n s1.1.c] (.tup (.pair .L (.pair (.I .i64) (.pair (.I .i64) .nil)))) w2 fun (x5 : (Sl × (Int × (Int × Unit)))) w6 => bif (x5.2.2.1 != 0) then
  (Q (⟨none, 0, 0⟩, (x5.2.2.1, ())) w6)
  else bif (decide ((x5.1.n : Int) > (IntKind.i64.wrap (p1 - (s1.2.1.n : Int))))) then
  (Q (⟨none, 0, 0⟩, (71, ())) w6)
  else app Tryd.prog t_s_uint8 t_s_uint8 s1.2.1 x5.1 w6 fun r7 w8 => sls s1.1 x5.2.1 s1.1.n 1 fun r9 => J4 (r9, (r7, ())) w8)
  else Q (s1.2.1, (0, ())) w2
theorem lz_Restore.t (p0 : Sl) (p1 : Int) (Q : (Sl × (Int × Unit)) → World → Prop) (w : World) : lz_Restore p0 p1 Q w = fvc Tryd.prog an_lz_Restore Tryd.f33 (.tup (.pair .L (.pair (.I .i64) .nil))) [Kd.av .L p0, Kd.av (.I .i64) p1] w Q := by kernel_rfl
theorem lz_Restore.k : fnOk Tryd.prog Tryd.f33 = true := by kernel_rfl
theorem lz_Restore.cl {p0 : Sl} {p1 : Int} {Q : (Sl × (Int × Unit)) → World → Prop} {w : World} (h : lz_Restore p0 p1 Q w) : cl Tryd.prog n_lz_Restore #[.slice p0.a p0.n p0.c, .int .i64 p1] (.tup (.pair .L (.pair (.I .i64) .nil))) w Q :=
  cl_tie Tryd.func33 lz_Restore.k (args := [Kd.av .L p0, Kd.av (.I .i64) p1]) (lz_Restore.t p0 p1 Q w) h

/-- flume/digest.New -/
def digest_New  (Q : Option Addr → World → Prop) (w : World) : Prop :=
 ld (.row 8) w ⟨g_digest_first, 0, none⟩ fun (x1 : {l : List Value // l.length = 8}) => nw w ((x1.1 ++ ([.slice none 0 0, .int .i64 0, .bool true] : List Value))) t_digest_Hash fun a2 w3 => Q (some a2) w3
theorem digest_New.t  (Q : Option Addr → World → Prop) (w : World) : digest_New  Q w = fvc Tryd.prog (fun _ => []) Tryd.f34 .P [] w Q := by kernel_rfl
theorem digest_New.k : fnOk Tryd.prog Tryd.f34 = true := by kernel_rfl
theorem digest_New.cl  {Q : Option Addr → World → Prop} {w : World} (h : digest_New  Q w) : cl Tryd.prog n_digest_New #[] .P w Q :=
  cl_tie Tryd.func34 digest_New.k (args := []) (digest_New.t  Q w) h
end Go.Proofs.YtkojpppnjloikaaDoor
