/- What the code of Go functions of this seat asks, in numbers, lists and worlds: printed by a program of mine (wip/tools). -/
import Derived.Test.YtkojpppnjloikaaDoorId
set_option linter.unusedVariables false
set_option maxHeartbeats 4000000
namespace Go.Proofs.YtkojpppnjloikaaDoor
open Go.Fl
/-- flume/record.Fits -/
def an_record_Fits : Nat → LA
  | 3 => [(16, (.I .i64))] | 1000007 => [(0, .nil)] | 2000010 => [(0, .nil), (6, .B)] | 2000011 => [(0, .nil), (7, .B)] | 2000012 => [(0, .nil), (8, .B)] | _ => []
def record_Fits (p0 : (Int × (Int × (Int × (Int × (Int × ((Int × (Int × ({l : List Value // l.length = 32} × (Sl × Unit)))) × Unit))))))) (Q : Int → World → Prop) (w : World) : Prop :=
 nw w ((([.int .i64 p0.1, .int .i64 p0.2.1, .int .i64 p0.2.2.1, .int .i64 p0.2.2.2.1, .int .i64 p0.2.2.2.2.1] : List Value) ++ ((([.int .i64 p0.2.2.2.2.2.1.1, .int .i64 p0.2.2.2.2.2.1.2.1] : List Value) ++ (p0.2.2.2.2.2.1.2.2.1.1 ++ ([.slice p0.2.2.2.2.2.1.2.2.2.1.a p0.2.2.2.2.2.1.2.2.2.1.n p0.2.2.2.2.2.1.2.2.2.1.c] : List Value))) ++ ([] : List Value)))) t_api_Note fun a1 w2 => ld (.I .i64) w2 a1 fun (x3 : Int) => ld (.pair (.I .i64) (.pair (.I .i64) (.pair (.row 32) (.pair .L .nil)))) w2 (a1.add 5) fun (x4 : (Int × (Int × ({l : List Value // l.length = 32} × (Sl × Unit))))) => nw w2 (([.int .i64 0, .int .i64 0, .int .i64 0, .int .i64 0, .int .i64 0] : List Value) ++ ((([.int .i64 0, .int .i64 0] : List Value) ++ ((zrow 32 (.int .u8 0)).1 ++ ([.slice none 0 0] : List Value))) ++ ([] : List Value))) t_api_Note fun a5 w6 => st1 w6 a5 (.int .i64 x3) fun w7 => st1 w7 (a5.add 1) (.int .i64 0) fun w8 => st1 w8 ((a5.add 1).add 1) (.int .i64 0) fun w9 => st1 w9 (((a5.add 1).add 1).add 1) (.int .i64 0) fun w10 => st1 w10 ((((a5.add 1).add 1).add 1).add 1) (.int .i64 0) fun w11 => st1 w11 (((((a5.add 1).add 1).add 1).add 1).add 1) (.int .i64 x4.1) fun w12 => st1 w12 ((((((a5.add 1).add 1).add 1).add 1).add 1).add 1) (.int .i64 x4.2.1) fun w13 => stL (((((((a5.add 1).add 1).add 1).add 1).add 1).add 1).add 1) w13 0 x4.2.2.1.1 fun w14 => st1 w14 ((((((((a5.add 1).add 1).add 1).add 1).add 1).add 1).add 1).add 32) (.slice x4.2.2.2.1.a x4.2.2.2.1.n x4.2.2.2.1.c) fun w15 => cl Tryd.prog n_record_fields #[.pointer (some a1)] .L w15 fun (x16 : Sl) w17 => lp (α := (Int × Unit)) (fun K => K (0, ())) w17 fun D20 J21 s18 w19 =>
 bif (decide (s18.1 < (x16.n : Int))) then
  (ixa x16.a x16.n s18.1 1 fun a22 => ld .P w19 a22 fun (x23 : Option Addr) => nz x23 fun a28 => ld (.I .i64) w19 a28 fun (x29 : Int) => bif (decide (x29 < 1)) then
  (Q 100 w19)
  else nz x23 fun a30 => ld (.I .i64) w19 a30 fun (x31 : Int) => bif (decide (x31 > 1073741824)) then
  (Q 100 w19)
  else dr w19 fun w32 => nz x23 fun a33 => ld (.I .i64) w32 a33 fun (x34 : Int) => cl Tryd.prog n_record_fields #[.pointer (some a5)] .L w32 fun (x35 : Sl) w36 => Fr w32 w36 ∧ ixa x35.a x35.n s18.1 1 fun a37 => ld .P w36 a37 fun (x38 : Option Addr) => nz x38 fun a39 => st1 w36 a39 (.int .i64 x34) fun w40 => J21 ((IntKind.i64.wrap (s18.1 + 1)), ()) w40)
  else jn (α := (Bool × Unit)) (fun D254 s252 w253 =>
   jn (α := (Bool × Unit)) (fun D364 s362 w363 =>
   jn (α := (Bool × Unit)) (fun D418 s416 w417 =>
   cl Tryd.prog n_record_fields #[.pointer (some a1)] .L w417 fun (x453 : Sl) w454 => bif ((x453.n : Int) == 0) then
 (Q 100 w454)
 else bif (!s252.1) then
 (Q 100 w454)
 else bif (!s362.1) then
 (Q 100 w454)
 else ld (.I .i64) w454 a1 fun (x455 : Int) => bif (x455 != 2) then
 (bif (!s416.1) then
 (Q 100 w454)
 else ld (.I .i64) w454 a1 fun (x456 : Int) => bif (x456 == 2) then
 (ld (.pair (.I .i64) (.pair (.I .i64) (.pair (.row 32) (.pair .L .nil)))) w454 (a1.add 5) fun (x457 : (Int × (Int × ({l : List Value // l.length = 32} × (Sl × Unit))))) => cl Tryd.prog n_record_Check #[.agg ((([.int .i64 x457.1, .int .i64 x457.2.1] : List Value) ++ (x457.2.2.1.1 ++ ([.slice x457.2.2.2.1.a x457.2.2.2.1.n x457.2.2.2.1.c] : List Value)))).toArray] (.I .i64) w454 fun (x458 : Int) w459 => bif (x458 != 0) then
 (Q 100 w459)
 else Q 0 w459)
 else Q 0 w454)
 else ld (.I .i64) w454 a1 fun (x460 : Int) => bif (x460 == 2) then
 (ld (.pair (.I .i64) (.pair (.I .i64) (.pair (.row 32) (.pair .L .nil)))) w454 (a1.add 5) fun (x461 : (Int × (Int × ({l : List Value // l.length = 32} × (Sl × Unit))))) => cl Tryd.prog n_record_Check #[.agg ((([.int .i64 x461.1, .int .i64 x461.2.1] : List Value) ++ (x461.2.2.1.1 ++ ([.slice x461.2.2.2.1.a x461.2.2.2.1.n x461.2.2.2.1.c] : List Value)))).toArray] (.I .i64) w454 fun (x462 : Int) w463 => bif (x462 != 0) then
 (Q 100 w463)
 else Q 0 w463)
 else Q 0 w454) fun J419 =>
 ld (.I .i64) w363 (a1.add 5) fun (x366 : Int) => bif (x366 == 0) then
 (ld (.I .i64) w363 ((a1.add 5).add 1) fun (x367 : Int) => bif (x367 == 0) then
 (ld (.row 32) w363 ((a1.add 5).add 2) fun (x368 : {l : List Value // l.length = 32}) => qn Tryd.prog (Instr.build t_api_Sum #[]) (.row 32) w363 fun (x369 : {l : List Value // l.length = 32}) => qn Tryd.prog (do eqGuard .eql t_api_Sum (.const .nilIface) (.const .nilIface) (.agg (x368.1).toArray) (.agg (x369.1).toArray); binOp .eql t_api_Sum (.agg (x368.1).toArray) (.agg (x369.1).toArray)) .B w363 fun (x370 : Bool) => bif x370 then
 (ld .L w363 ((a1.add 5).add 34) fun (x371 : Sl) => J419 (((x371.n : Int) == 0), ()) w363)
 else J419 (false, ()) w363)
 else J419 (false, ()) w363)
 else J419 (false, ()) w363) fun J365 =>
 ld (.I .i64) w253 (a5.add 1) fun (x256 : Int) => ld (.I .i64) w253 (a1.add 1) fun (x257 : Int) => bif (x256 == x257) then
 (ld (.I .i64) w253 (a5.add 2) fun (x258 : Int) => ld (.I .i64) w253 (a1.add 2) fun (x259 : Int) => bif (x258 == x259) then
 (ld (.I .i64) w253 (a5.add 3) fun (x260 : Int) => ld (.I .i64) w253 (a1.add 3) fun (x261 : Int) => bif (x260 == x261) then
 (ld (.I .i64) w253 (a5.add 4) fun (x262 : Int) => ld (.I .i64) w253 (a1.add 4) fun (x263 : Int) => J365 ((x262 == x263), ()) w253)
 else J365 (false, ()) w253)
 else J365 (false, ()) w253)
 else J365 (false, ()) w253) fun J255 =>
 ld (.I .i64) w19 a1 fun (x41 : Int) => bif (x41 != 1) then
 (J255 (true, ()) w19)
 else ld (.I .i64) w19 (a1.add 2) fun (x42 : Int) => bif (decide (x42 ≤ 65535)) then
 (ld (.I .i64) w19 (a1.add 3) fun (x43 : Int) => J255 ((decide (x43 ≤ 65535)), ()) w19)
 else J255 (false, ()) w19
theorem record_Fits.t (p0 : (Int × (Int × (Int × (Int × (Int × ((Int × (Int × ({l : List Value // l.length = 32} × (Sl × Unit)))) × Unit))))))) (Q : Int → World → Prop) (w : World) : record_Fits p0 Q w = fvc Tryd.prog an_record_Fits Tryd.f15 (.I .i64) [Kd.av (.pair (.I .i64) (.pair (.I .i64) (.pair (.I .i64) (.pair (.I .i64) (.pair (.I .i64) (.pair (.pair (.I .i64) (.pair (.I .i64) (.pair (.row 32) (.pair .L .nil)))) .nil)))))) p0] w Q := by kernel_rfl
theorem record_Fits.k : fnOk Tryd.prog Tryd.f15 = true := by kernel_rfl
theorem record_Fits.cl {p0 : (Int × (Int × (Int × (Int × (Int × ((Int × (Int × ({l : List Value // l.length = 32} × (Sl × Unit)))) × Unit))))))} {Q : Int → World → Prop} {w : World} (h : record_Fits p0 Q w) : cl Tryd.prog n_record_Fits #[.agg ((([.int .i64 p0.1, .int .i64 p0.2.1, .int .i64 p0.2.2.1, .int .i64 p0.2.2.2.1, .int .i64 p0.2.2.2.2.1] : List Value) ++ ((([.int .i64 p0.2.2.2.2.2.1.1, .int .i64 p0.2.2.2.2.2.1.2.1] : List Value) ++ (p0.2.2.2.2.2.1.2.2.1.1 ++ ([.slice p0.2.2.2.2.2.1.2.2.2.1.a p0.2.2.2.2.2.1.2.2.2.1.n p0.2.2.2.2.2.1.2.2.2.1.c] : List Value))) ++ ([] : List Value)))).toArray] (.I .i64) w Q :=
  cl_tie Tryd.func15 record_Fits.k (args := [Kd.av (.pair (.I .i64) (.pair (.I .i64) (.pair (.I .i64) (.pair (.I .i64) (.pair (.I .i64) (.pair (.pair (.I .i64) (.pair (.I .i64) (.pair (.row 32) (.pair .L .nil)))) .nil)))))) p0]) (record_Fits.t p0 Q w) h

/-- flume/flumeref10.Fits -/
def an_flumeref10_Fits : Nat → LA
  | 3 => [(12, (.I .i64))] | 2000009 => [(0, .nil), (6, .B)] | 2000010 => [(0, .nil), (7, .B)] | _ => []
def flumeref10_Fits (p0 : (Int × (Int × (Int × (Int × (Int × ((Int × (Int × ({l : List Value // l.length = 32} × (Sl × Unit)))) × Unit))))))) (Q : Int → World → Prop) (w : World) : Prop :=
 nw w ((([.int .i64 p0.1, .int .i64 p0.2.1, .int .i64 p0.2.2.1, .int .i64 p0.2.2.2.1, .int .i64 p0.2.2.2.2.1] : List Value) ++ ((([.int .i64 p0.2.2.2.2.2.1.1, .int .i64 p0.2.2.2.2.2.1.2.1] : List Value) ++ (p0.2.2.2.2.2.1.2.2.1.1 ++ ([.slice p0.2.2.2.2.2.1.2.2.2.1.a p0.2.2.2.2.2.1.2.2.2.1.n p0.2.2.2.2.2.1.2.2.2.1.c] : List Value))) ++ ([] : List Value)))) t_api_Note fun a1 w2 => ld (.pair (.I .i64) (.pair (.I .i64) (.pair (.I .i64) (.pair (.I .i64) (.pair (.I .i64) (.pair (.pair (.I .i64) (.pair (.I .i64) (.pair (.row 32) (.pair .L .nil)))) .nil)))))) w2 a1 fun (x3 : (Int × (Int × (Int × (Int × (Int × ((Int × (Int × ({l : List Value // l.length = 32} × (Sl × Unit)))) × Unit))))))) => cl Tryd.prog n_flumeref10_numbers #[.agg ((([.int .i64 x3.1, .int .i64 x3.2.1, .int .i64 x3.2.2.1, .int .i64 x3.2.2.2.1, .int .i64 x3.2.2.2.2.1] : List Value) ++ ((([.int .i64 x3.2.2.2.2.2.1.1, .int .i64 x3.2.2.2.2.2.1.2.1] : List Value) ++ (x3.2.2.2.2.2.1.2.2.1.1 ++ ([.slice x3.2.2.2.2.2.1.2.2.2.1.a x3.2.2.2.2.2.1.2.2.2.1.n x3.2.2.2.2.2.1.2.2.2.1.c] : List Value))) ++ ([] : List Value)))).toArray] .L w2 fun (x4 : Sl) w5 => lp (α := (Int × Unit)) (fun K => K (0, ())) w5 fun D8 J9 s6 w7 =>
 bif (decide (s6.1 < (x4.n : Int))) then
  (ixa x4.a x4.n s6.1 1 fun a10 => ld (.I .i64) w7 a10 fun (x11 : Int) => bif (decide (x11 < 1)) then
  (Q 100 w7)
  else bif (decide (x11 > 1073741824)) then
  (Q 100 w7)
  else J9 ((IntKind.i64.wrap (s6.1 + 1)), ()) w7)
  else jn (α := (Bool × Unit)) (fun D37 s35 w36 =>
   jn (α := (Bool × Unit)) (fun D75 s73 w74 =>
   bif x4.a.isNone then
 (Q 100 w74)
 else bif s35.1 then
 (Q 100 w74)
 else ld (.I .i64) w74 (a1.add 2) fun (x110 : Int) => bif (decide (x110 > 65535)) then
 (Q 100 w74)
 else ld (.I .i64) w74 (a1.add 3) fun (x111 : Int) => bif (decide (x111 > 65535)) then
 (Q 100 w74)
 else ld (.I .i64) w74 a1 fun (x112 : Int) => bif (x112 != 2) then
 (bif s73.1 then
 (Q 100 w74)
 else ld (.I .i64) w74 a1 fun (x113 : Int) => bif (x113 == 2) then
 (ld (.pair (.I .i64) (.pair (.I .i64) (.pair (.row 32) (.pair .L .nil)))) w74 (a1.add 5) fun (x114 : (Int × (Int × ({l : List Value // l.length = 32} × (Sl × Unit))))) => cl Tryd.prog n_flumeref10_Check #[.agg ((([.int .i64 x114.1, .int .i64 x114.2.1] : List Value) ++ (x114.2.2.1.1 ++ ([.slice x114.2.2.2.1.a x114.2.2.2.1.n x114.2.2.2.1.c] : List Value)))).toArray] (.I .i64) w74 fun (x115 : Int) w116 => bif (x115 != 0) then
 (Q 100 w116)
 else Q 0 w116)
 else Q 0 w74)
 else ld (.I .i64) w74 a1 fun (x117 : Int) => bif (x117 == 2) then
 (ld (.pair (.I .i64) (.pair (.I .i64) (.pair (.row 32) (.pair .L .nil)))) w74 (a1.add 5) fun (x118 : (Int × (Int × ({l : List Value // l.length = 32} × (Sl × Unit))))) => cl Tryd.prog n_flumeref10_Check #[.agg ((([.int .i64 x118.1, .int .i64 x118.2.1] : List Value) ++ (x118.2.2.1.1 ++ ([.slice x118.2.2.2.1.a x118.2.2.2.1.n x118.2.2.2.1.c] : List Value)))).toArray] (.I .i64) w74 fun (x119 : Int) w120 => bif (x119 != 0) then
 (Q 100 w120)
 else Q 0 w120)
 else Q 0 w74) fun J76 =>
 ld (.I .i64) w36 (a1.add 5) fun (x39 : Int) => bif (x39 != 0) then
 (J76 (true, ()) w36)
 else ld (.I .i64) w36 ((a1.add 5).add 1) fun (x40 : Int) => bif (x40 != 0) then
 (J76 (true, ()) w36)
 else ld (.row 32) w36 ((a1.add 5).add 2) fun (x41 : {l : List Value // l.length = 32}) => qn Tryd.prog (Instr.build t_api_Sum #[]) (.row 32) w36 fun (x42 : {l : List Value // l.length = 32}) => qn Tryd.prog (do eqGuard .neq t_api_Sum (.const .nilIface) (.const .nilIface) (.agg (x41.1).toArray) (.agg (x42.1).toArray); binOp .neq t_api_Sum (.agg (x41.1).toArray) (.agg (x42.1).toArray)) .B w36 fun (x43 : Bool) => bif x43 then
 (J76 (true, ()) w36)
 else ld .L w36 ((a1.add 5).add 34) fun (x44 : Sl) => J76 ((decide ((x44.n : Int) > 0)), ()) w36) fun J38 =>
 ld (.I .i64) w7 a1 fun (x12 : Int) => bif (x12 != 1) then
 (ld (.I .i64) w7 (a1.add 2) fun (x13 : Int) => bif (x13 != 0) then
 (J38 (true, ()) w7)
 else ld (.I .i64) w7 (a1.add 3) fun (x14 : Int) => bif (x14 != 0) then
 (J38 (true, ()) w7)
 else ld (.I .i64) w7 a1 fun (x15 : Int) => bif (x15 != 2) then
 (ld (.I .i64) w7 a1 fun (x16 : Int) => bif (x16 != 5) then
 (ld (.I .i64) w7 a1 fun (x17 : Int) => bif (x17 != 6) then
 (ld (.I .i64) w7 (a1.add 4) fun (x18 : Int) => J38 ((x18 != 0), ()) w7)
 else J38 (false, ()) w7)
 else J38 (false, ()) w7)
 else J38 (false, ()) w7)
 else ld (.I .i64) w7 a1 fun (x19 : Int) => bif (x19 != 2) then
 (ld (.I .i64) w7 a1 fun (x20 : Int) => bif (x20 != 5) then
 (ld (.I .i64) w7 a1 fun (x21 : Int) => bif (x21 != 6) then
 (ld (.I .i64) w7 (a1.add 4) fun (x22 : Int) => J38 ((x22 != 0), ()) w7)
 else J38 (false, ()) w7)
 else J38 (false, ()) w7)
 else J38 (false, ()) w7
theorem flumeref10_Fits.t (p0 : (Int × (Int × (Int × (Int × (Int × ((Int × (Int × ({l : List Value // l.length = 32} × (Sl × Unit)))) × Unit))))))) (Q : Int → World → Prop) (w : World) : flumeref10_Fits p0 Q w = fvc Tryd.prog an_flumeref10_Fits Tryd.f16 (.I .i64) [Kd.av (.pair (.I .i64) (.pair (.I .i64) (.pair (.I .i64) (.pair (.I .i64) (.pair (.I .i64) (.pair (.pair (.I .i64) (.pair (.I .i64) (.pair (.row 32) (.pair .L .nil)))) .nil)))))) p0] w Q := by kernel_rfl
theorem flumeref10_Fits.k : fnOk Tryd.prog Tryd.f16 = true := by kernel_rfl
theorem flumeref10_Fits.cl {p0 : (Int × (Int × (Int × (Int × (Int × ((Int × (Int × ({l : List Value // l.length = 32} × (Sl × Unit)))) × Unit))))))} {Q : Int → World → Prop} {w : World} (h : flumeref10_Fits p0 Q w) : cl Tryd.prog n_flumeref10_Fits #[.agg ((([.int .i64 p0.1, .int .i64 p0.2.1, .int .i64 p0.2.2.1, .int .i64 p0.2.2.2.1, .int .i64 p0.2.2.2.2.1] : List Value) ++ ((([.int .i64 p0.2.2.2.2.2.1.1, .int .i64 p0.2.2.2.2.2.1.2.1] : List Value) ++ (p0.2.2.2.2.2.1.2.2.1.1 ++ ([.slice p0.2.2.2.2.2.1.2.2.2.1.a p0.2.2.2.2.2.1.2.2.2.1.n p0.2.2.2.2.2.1.2.2.2.1.c] : List Value))) ++ ([] : List Value)))).toArray] (.I .i64) w Q :=
  cl_tie Tryd.func16 flumeref10_Fits.k (args := [Kd.av (.pair (.I .i64) (.pair (.I .i64) (.pair (.I .i64) (.pair (.I .i64) (.pair (.I .i64) (.pair (.pair (.I .i64) (.pair (.I .i64) (.pair (.row 32) (.pair .L .nil)))) .nil)))))) p0]) (flumeref10_Fits.t p0 Q w) h

/-- flume/record.Open -/
def an_record_Open : Nat → LA
  | 1000013 => [(0, .nil)] | _ => []
def record_Open (p0 : (Int × (Int × ({l : List Value // l.length = 32} × (Sl × Unit))))) (Q : (Sl × (Int × Unit)) → World → Prop) (w : World) : Prop :=
 nw w ((([.int .i64 p0.1, .int .i64 p0.2.1] : List Value) ++ (p0.2.2.1.1 ++ ([.slice p0.2.2.2.1.a p0.2.2.2.1.n p0.2.2.2.1.c] : List Value)))) t_api_Record fun a1 w2 => ld (.pair (.I .i64) (.pair (.I .i64) (.pair (.row 32) (.pair .L .nil)))) w2 a1 fun (x3 : (Int × (Int × ({l : List Value // l.length = 32} × (Sl × Unit))))) => cl Tryd.prog n_record_Check #[.agg ((([.int .i64 x3.1, .int .i64 x3.2.1] : List Value) ++ (x3.2.2.1.1 ++ ([.slice x3.2.2.2.1.a x3.2.2.2.1.n x3.2.2.2.1.c] : List Value)))).toArray] (.I .i64) w2 fun (x4 : Int) w5 => bif (x4 != 0) then
 (Q (⟨none, 0, 0⟩, (x4, ())) w5)
 else ld .L w5 (a1.add 34) fun (x6 : Sl) => cl Tryd.prog n_slices_Clone_byte_byte #[.slice x6.a x6.n x6.c] .L w5 fun (x7 : Sl) w8 => let j1 := (fun (y22 : Sl) (w23 : World) =>
   dr w23 fun w24 => ld (.row 32) w24 (a1.add 2) fun (x25 : {l : List Value // l.length = 32}) => nw w24 [.slice y22.a y22.n y22.c] t_s_uint8 fun a26 w27 => Fr w24 w27 ∧ cl Tryd.prog n_digest_Of #[.slice (some a26) 1 1] (.row 32) w27 fun (x28 : {l : List Value // l.length = 32}) w29 => Fr w27 w29 ∧ qn Tryd.prog (do eqGuard .neq t_api_Sum (.const .nilIface) (.const .nilIface) (.agg (x28.1).toArray) (.agg (x25.1).toArray); binOp .neq t_api_Sum (.agg (x28.1).toArray) (.agg (x25.1).toArray)) .B w29 fun (x30 : Bool) => bif x30 then
 (Q (⟨none, 0, 0⟩, (111, ())) w29)
 else Q (y22, (0, ())) w29);
 ld (.I .i64) w8 a1 fun (x9 : Int) => bif (x9 == 1) then
 (Q (⟨none, 0, 0⟩, (110, ())) w8)
 else bif (x9 == 3) then
 (ld .L w8 (a1.add 34) fun (x10 : Sl) => ld (.I .i64) w8 (a1.add 1) fun (x11 : Int) => cl Tryd.prog n_lz_Restore #[.slice x10.a x10.n x10.c, .int .i64 x11] (.tup (.pair .L (.pair (.I .i64) .nil))) w8 fun (x12 : (Sl × (Int × Unit))) w13 => bif (x12.2.1 != 0) then
  (Q (⟨none, 0, 0⟩, (100, ())) w13)
  else ld (.I .i64) w13 (a1.add 1) fun (x14 : Int) => bif ((x12.1.n : Int) != x14) then
  (Q (⟨none, 0, 0⟩, (100, ())) w13)
  else j1 x12.1 w13)
 else j1 x7 w8
theorem record_Open.t (p0 : (Int × (Int × ({l : List Value // l.length = 32} × (Sl × Unit))))) (Q : (Sl × (Int × Unit)) → World → Prop) (w : World) : record_Open p0 Q w = fvc Tryd.prog an_record_Open Tryd.f17 (.tup (.pair .L (.pair (.I .i64) .nil))) [Kd.av (.pair (.I .i64) (.pair (.I .i64) (.pair (.row 32) (.pair .L .nil)))) p0] w Q := by kernel_rfl
theorem record_Open.k : fnOk Tryd.prog Tryd.f17 = true := by kernel_rfl
theorem record_Open.cl {p0 : (Int × (Int × ({l : List Value // l.length = 32} × (Sl × Unit))))} {Q : (Sl × (Int × Unit)) → World → Prop} {w : World} (h : record_Open p0 Q w) : cl Tryd.prog n_record_Open #[.agg ((([.int .i64 p0.1, .int .i64 p0.2.1] : List Value) ++ (p0.2.2.1.1 ++ ([.slice p0.2.2.2.1.a p0.2.2.2.1.n p0.2.2.2.1.c] : List Value)))).toArray] (.tup (.pair .L (.pair (.I .i64) .nil))) w Q :=
  cl_tie Tryd.func17 record_Open.k (args := [Kd.av (.pair (.I .i64) (.pair (.I .i64) (.pair (.row 32) (.pair .L .nil)))) p0]) (record_Open.t p0 Q w) h

/-- flume/digest.Of -/
def an_digest_Of : Nat → LA
  | 3 => [(9, (.I .i64))] | _ => []
def digest_Of (p0 : Sl) (Q : {l : List Value // l.length = 32} → World → Prop) (w : World) : Prop :=
 nw w ((zrow 32 (.int .u8 0)).1) t_api_Sum fun a1 w2 => cl Tryd.prog n_digest_New #[] .P w2 fun (x3 : Option Addr) w4 => lp (α := (Int × Unit)) (fun K => K (0, ())) w4 fun D7 J8 s5 w6 =>
 bif (decide (s5.1 < (p0.n : Int))) then
  (ixa p0.a p0.n s5.1 1 fun a9 => ld .L w6 a9 fun (x10 : Sl) => cl Tryd.prog n_digest_Hash_Write #[.pointer x3, .slice x10.a x10.n x10.c] (.tup .nil) w6 fun (x11 : Unit) w12 => J8 ((IntKind.i64.wrap (s5.1 + 1)), ()) w12)
  else cl Tryd.prog n_digest_Hash_Sum #[.pointer x3] (.row 32) w6 fun (x13 : {l : List Value // l.length = 32}) w14 => stL a1 w14 0 x13.1 fun w15 => ld (.row 32) w15 a1 fun (r16 : {l : List Value // l.length = 32}) => Q r16 w15
theorem digest_Of.t (p0 : Sl) (Q : {l : List Value // l.length = 32} → World → Prop) (w : World) : digest_Of p0 Q w = fvc Tryd.prog an_digest_Of Tryd.f18 (.row 32) [Kd.av .L p0] w Q := by kernel_rfl
theorem digest_Of.k : fnOk Tryd.prog Tryd.f18 = true := by kernel_rfl
theorem digest_Of.cl {p0 : Sl} {Q : {l : List Value // l.length = 32} → World → Prop} {w : World} (h : digest_Of p0 Q w) : cl Tryd.prog n_digest_Of #[.slice p0.a p0.n p0.c] (.row 32) w Q :=
  cl_tie Tryd.func18 digest_Of.k (args := [Kd.av .L p0]) (digest_Of.t p0 Q w) h

/-- slices.Clone[[]byte,byte] -/
def slices_Clone_byte_byte (p0 : Sl) (Q : Sl → World → Prop) (w : World) : Prop :=
 bif p0.a.isNone then
 (Q ⟨none, 0, 0⟩ w)
 else nw w [] t_uint8 fun a1 w2 => app Tryd.prog t_s_uint8 t_s_uint8 ⟨(some a1), 0, 0⟩ p0 w2 fun r3 w4 => Q r3 w4
theorem slices_Clone_byte_byte.t (p0 : Sl) (Q : Sl → World → Prop) (w : World) : slices_Clone_byte_byte p0 Q w = fvc Tryd.prog (fun _ => []) Tryd.f19 .L [Kd.av .L p0] w Q := by kernel_rfl
theorem slices_Clone_byte_byte.k : fnOk Tryd.prog Tryd.f19 = true := by kernel_rfl
theorem slices_Clone_byte_byte.cl {p0 : Sl} {Q : Sl → World → Prop} {w : World} (h : slices_Clone_byte_byte p0 Q w) : cl Tryd.prog n_slices_Clone_byte_byte #[.slice p0.a p0.n p0.c] .L w Q :=
  cl_tie Tryd.func19 slices_Clone_byte_byte.k (args := [Kd.av .L p0]) (slices_Clone_byte_byte.t p0 Q w) h
end Go.Proofs.YtkojpppnjloikaaDoor
