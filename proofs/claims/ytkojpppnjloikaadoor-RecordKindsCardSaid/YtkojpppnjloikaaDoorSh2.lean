/- What the code of Go functions of this seat asks, in numbers, lists and worlds: printed by a program of mine (wip/tools). -/
import Derived.Test.YtkojpppnjloikaaDoorId
set_option linter.unusedVariables false
set_option maxHeartbeats 4000000
namespace Go.Proofs.YtkojpppnjloikaaDoor
open Go.Fl
/-- flume/flumelaw10.RecordForm -/
def flumelaw10_RecordForm (p0 : (Int × (Int × (Int × (Int × (Int × ((Int × (Int × ({l : List Value // l.length = 32} × (Sl × Unit)))) × Unit))))))) (p1 : Sl) (Q : Bool → World → Prop) (w : World) : Prop :=
 nw w ((([.int .i64 p0.1, .int .i64 p0.2.1, .int .i64 p0.2.2.1, .int .i64 p0.2.2.2.1, .int .i64 p0.2.2.2.2.1] : List Value) ++ ((([.int .i64 p0.2.2.2.2.2.1.1, .int .i64 p0.2.2.2.2.2.1.2.1] : List Value) ++ (p0.2.2.2.2.2.1.2.2.1.1 ++ ([.slice p0.2.2.2.2.2.1.2.2.2.1.a p0.2.2.2.2.2.1.2.2.2.1.n p0.2.2.2.2.2.1.2.2.2.1.c] : List Value))) ++ ([] : List Value)))) t_api_Note fun a1 w2 => ld .L w2 ((a1.add 5).add 34) fun (x3 : Sl) => bif (decide ((x3.n : Int) > 4096)) then
 (cl Tryd.prog n_flumelaw10_awake #[] .B w2 fun (x4 : Bool) w5 => Q x4 w5)
 else bif (decide ((p1.n : Int) > 4096)) then
 (cl Tryd.prog n_flumelaw10_awake #[] .B w2 fun (x6 : Bool) w7 => Q x6 w7)
 else ld (.pair (.I .i64) (.pair (.I .i64) (.pair (.I .i64) (.pair (.I .i64) (.pair (.I .i64) (.pair (.pair (.I .i64) (.pair (.I .i64) (.pair (.row 32) (.pair .L .nil)))) .nil)))))) w2 a1 fun (x8 : (Int × (Int × (Int × (Int × (Int × ((Int × (Int × ({l : List Value // l.length = 32} × (Sl × Unit)))) × Unit))))))) => cl Tryd.prog n_record_Put #[.agg ((([.int .i64 x8.1, .int .i64 x8.2.1, .int .i64 x8.2.2.1, .int .i64 x8.2.2.2.1, .int .i64 x8.2.2.2.2.1] : List Value) ++ ((([.int .i64 x8.2.2.2.2.2.1.1, .int .i64 x8.2.2.2.2.2.1.2.1] : List Value) ++ (x8.2.2.2.2.2.1.2.2.1.1 ++ ([.slice x8.2.2.2.2.2.1.2.2.2.1.a x8.2.2.2.2.2.1.2.2.2.1.n x8.2.2.2.2.2.1.2.2.2.1.c] : List Value))) ++ ([] : List Value)))).toArray] (.tup (.pair .L (.pair (.I .i64) .nil))) w2 fun (x9 : (Sl × (Int × Unit))) w10 => let j1 := (fun  (w53 : World) =>
   cl Tryd.prog n_record_Get #[.slice p1.a p1.n p1.c] (.tup (.pair (.pair (.I .i64) (.pair (.I .i64) (.pair (.I .i64) (.pair (.I .i64) (.pair (.I .i64) (.pair (.pair (.I .i64) (.pair (.I .i64) (.pair (.row 32) (.pair .L .nil)))) .nil)))))) (.pair (.I .i64) .nil))) w53 fun (x54 : ((Int × (Int × (Int × (Int × (Int × ((Int × (Int × ({l : List Value // l.length = 32} × (Sl × Unit)))) × Unit)))))) × (Int × Unit))) w55 => nw w55 (([.int .i64 0, .int .i64 0, .int .i64 0, .int .i64 0, .int .i64 0] : List Value) ++ ((([.int .i64 0, .int .i64 0] : List Value) ++ ((zrow 32 (.int .u8 0)).1 ++ ([.slice none 0 0] : List Value))) ++ ([] : List Value))) t_api_Note fun a56 w57 => st1 w57 a56 (.int .i64 x54.1.1) fun w58 => st1 w58 (a56.add 1) (.int .i64 x54.1.2.1) fun w59 => st1 w59 ((a56.add 1).add 1) (.int .i64 x54.1.2.2.1) fun w60 => st1 w60 (((a56.add 1).add 1).add 1) (.int .i64 x54.1.2.2.2.1) fun w61 => st1 w61 ((((a56.add 1).add 1).add 1).add 1) (.int .i64 x54.1.2.2.2.2.1) fun w62 => st1 w62 (((((a56.add 1).add 1).add 1).add 1).add 1) (.int .i64 x54.1.2.2.2.2.2.1.1) fun w63 => st1 w63 ((((((a56.add 1).add 1).add 1).add 1).add 1).add 1) (.int .i64 x54.1.2.2.2.2.2.1.2.1) fun w64 => stL (((((((a56.add 1).add 1).add 1).add 1).add 1).add 1).add 1) w64 0 x54.1.2.2.2.2.2.1.2.2.1.1 fun w65 => st1 w65 ((((((((a56.add 1).add 1).add 1).add 1).add 1).add 1).add 1).add 32) (.slice x54.1.2.2.2.2.2.1.2.2.2.1.a x54.1.2.2.2.2.2.1.2.2.2.1.n x54.1.2.2.2.2.2.1.2.2.2.1.c) fun w66 => bif (x54.2.1 != 0) then
 (bif (x54.2.1 == 100) then
  (ld (.pair (.I .i64) (.pair (.I .i64) (.pair (.I .i64) (.pair (.I .i64) (.pair (.I .i64) (.pair (.pair (.I .i64) (.pair (.I .i64) (.pair (.row 32) (.pair .L .nil)))) .nil)))))) w66 a56 fun (x67 : (Int × (Int × (Int × (Int × (Int × ((Int × (Int × ({l : List Value // l.length = 32} × (Sl × Unit)))) × Unit))))))) => cl Tryd.prog n_flumeref10_SameNote #[.agg ((([.int .i64 x67.1, .int .i64 x67.2.1, .int .i64 x67.2.2.1, .int .i64 x67.2.2.2.1, .int .i64 x67.2.2.2.2.1] : List Value) ++ ((([.int .i64 x67.2.2.2.2.2.1.1, .int .i64 x67.2.2.2.2.2.1.2.1] : List Value) ++ (x67.2.2.2.2.2.1.2.2.1.1 ++ ([.slice x67.2.2.2.2.2.1.2.2.2.1.a x67.2.2.2.2.2.1.2.2.2.1.n x67.2.2.2.2.2.1.2.2.2.1.c] : List Value))) ++ ([] : List Value)))).toArray, .agg ((([.int .i64 0, .int .i64 0, .int .i64 0, .int .i64 0, .int .i64 0] : List Value) ++ ((([.int .i64 0, .int .i64 0] : List Value) ++ ((zrow 32 (.int .u8 0)).1 ++ ([.slice none 0 0] : List Value))) ++ ([] : List Value)))).toArray] .B w66 fun (x68 : Bool) w69 => bif x68 then
  (cl Tryd.prog n_flumelaw10_awake #[] .B w69 fun (x70 : Bool) w71 => Q x70 w71)
  else Q false w69)
  else Q false w66)
 else ld (.pair (.I .i64) (.pair (.I .i64) (.pair (.I .i64) (.pair (.I .i64) (.pair (.I .i64) (.pair (.pair (.I .i64) (.pair (.I .i64) (.pair (.row 32) (.pair .L .nil)))) .nil)))))) w66 a56 fun (x72 : (Int × (Int × (Int × (Int × (Int × ((Int × (Int × ({l : List Value // l.length = 32} × (Sl × Unit)))) × Unit))))))) => cl Tryd.prog n_record_Put #[.agg ((([.int .i64 x72.1, .int .i64 x72.2.1, .int .i64 x72.2.2.1, .int .i64 x72.2.2.2.1, .int .i64 x72.2.2.2.2.1] : List Value) ++ ((([.int .i64 x72.2.2.2.2.2.1.1, .int .i64 x72.2.2.2.2.2.1.2.1] : List Value) ++ (x72.2.2.2.2.2.1.2.2.1.1 ++ ([.slice x72.2.2.2.2.2.1.2.2.2.1.a x72.2.2.2.2.2.1.2.2.2.1.n x72.2.2.2.2.2.1.2.2.2.1.c] : List Value))) ++ ([] : List Value)))).toArray] (.tup (.pair .L (.pair (.I .i64) .nil))) w66 fun (x73 : (Sl × (Int × Unit))) w74 => bif (x73.2.1 == 0) then
 (cl Tryd.prog n_bytes_Equal #[.slice x73.1.a x73.1.n x73.1.c, .slice p1.a p1.n p1.c] .B w74 fun (x75 : Bool) w76 => bif x75 then
 (cl Tryd.prog n_flumelaw10_awake #[] .B w76 fun (x77 : Bool) w78 => Q x77 w78)
 else Q false w76)
 else Q false w74);
 bif (x9.2.1 == 0) then
 (cl Tryd.prog n_record_Get #[.slice x9.1.a x9.1.n x9.1.c] (.tup (.pair (.pair (.I .i64) (.pair (.I .i64) (.pair (.I .i64) (.pair (.I .i64) (.pair (.I .i64) (.pair (.pair (.I .i64) (.pair (.I .i64) (.pair (.row 32) (.pair .L .nil)))) .nil)))))) (.pair (.I .i64) .nil))) w10 fun (x11 : ((Int × (Int × (Int × (Int × (Int × ((Int × (Int × ({l : List Value // l.length = 32} × (Sl × Unit)))) × Unit)))))) × (Int × Unit))) w12 => nw w12 (([.int .i64 0, .int .i64 0, .int .i64 0, .int .i64 0, .int .i64 0] : List Value) ++ ((([.int .i64 0, .int .i64 0] : List Value) ++ ((zrow 32 (.int .u8 0)).1 ++ ([.slice none 0 0] : List Value))) ++ ([] : List Value))) t_api_Note fun a13 w14 => st1 w14 a13 (.int .i64 x11.1.1) fun w15 => st1 w15 (a13.add 1) (.int .i64 x11.1.2.1) fun w16 => st1 w16 ((a13.add 1).add 1) (.int .i64 x11.1.2.2.1) fun w17 => st1 w17 (((a13.add 1).add 1).add 1) (.int .i64 x11.1.2.2.2.1) fun w18 => st1 w18 ((((a13.add 1).add 1).add 1).add 1) (.int .i64 x11.1.2.2.2.2.1) fun w19 => st1 w19 (((((a13.add 1).add 1).add 1).add 1).add 1) (.int .i64 x11.1.2.2.2.2.2.1.1) fun w20 => st1 w20 ((((((a13.add 1).add 1).add 1).add 1).add 1).add 1) (.int .i64 x11.1.2.2.2.2.2.1.2.1) fun w21 => stL (((((((a13.add 1).add 1).add 1).add 1).add 1).add 1).add 1) w21 0 x11.1.2.2.2.2.2.1.2.2.1.1 fun w22 => st1 w22 ((((((((a13.add 1).add 1).add 1).add 1).add 1).add 1).add 1).add 32) (.slice x11.1.2.2.2.2.2.1.2.2.2.1.a x11.1.2.2.2.2.2.1.2.2.2.1.n x11.1.2.2.2.2.2.1.2.2.2.1.c) fun w23 => bif (x11.2.1 != 0) then
  (Q false w23)
  else ld (.pair (.I .i64) (.pair (.I .i64) (.pair (.I .i64) (.pair (.I .i64) (.pair (.I .i64) (.pair (.pair (.I .i64) (.pair (.I .i64) (.pair (.row 32) (.pair .L .nil)))) .nil)))))) w23 a1 fun (x24 : (Int × (Int × (Int × (Int × (Int × ((Int × (Int × ({l : List Value // l.length = 32} × (Sl × Unit)))) × Unit))))))) => ld (.pair (.I .i64) (.pair (.I .i64) (.pair (.I .i64) (.pair (.I .i64) (.pair (.I .i64) (.pair (.pair (.I .i64) (.pair (.I .i64) (.pair (.row 32) (.pair .L .nil)))) .nil)))))) w23 a13 fun (x25 : (Int × (Int × (Int × (Int × (Int × ((Int × (Int × ({l : List Value // l.length = 32} × (Sl × Unit)))) × Unit))))))) => cl Tryd.prog n_flumeref10_SameNote #[.agg ((([.int .i64 x24.1, .int .i64 x24.2.1, .int .i64 x24.2.2.1, .int .i64 x24.2.2.2.1, .int .i64 x24.2.2.2.2.1] : List Value) ++ ((([.int .i64 x24.2.2.2.2.2.1.1, .int .i64 x24.2.2.2.2.2.1.2.1] : List Value) ++ (x24.2.2.2.2.2.1.2.2.1.1 ++ ([.slice x24.2.2.2.2.2.1.2.2.2.1.a x24.2.2.2.2.2.1.2.2.2.1.n x24.2.2.2.2.2.1.2.2.2.1.c] : List Value))) ++ ([] : List Value)))).toArray, .agg ((([.int .i64 x25.1, .int .i64 x25.2.1, .int .i64 x25.2.2.1, .int .i64 x25.2.2.2.1, .int .i64 x25.2.2.2.2.1] : List Value) ++ ((([.int .i64 x25.2.2.2.2.2.1.1, .int .i64 x25.2.2.2.2.2.1.2.1] : List Value) ++ (x25.2.2.2.2.2.1.2.2.1.1 ++ ([.slice x25.2.2.2.2.2.1.2.2.2.1.a x25.2.2.2.2.2.1.2.2.2.1.n x25.2.2.2.2.2.1.2.2.2.1.c] : List Value))) ++ ([] : List Value)))).toArray] .B w23 fun (x26 : Bool) w27 => bif (!x26) then
  (Q false w27)
  else j1 w27)
 else j1 w10
theorem flumelaw10_RecordForm.t (p0 : (Int × (Int × (Int × (Int × (Int × ((Int × (Int × ({l : List Value // l.length = 32} × (Sl × Unit)))) × Unit))))))) (p1 : Sl) (Q : Bool → World → Prop) (w : World) : flumelaw10_RecordForm p0 p1 Q w = fvc Tryd.prog (fun _ => []) Tryd.f11 .B [Kd.av (.pair (.I .i64) (.pair (.I .i64) (.pair (.I .i64) (.pair (.I .i64) (.pair (.I .i64) (.pair (.pair (.I .i64) (.pair (.I .i64) (.pair (.row 32) (.pair .L .nil)))) .nil)))))) p0, Kd.av .L p1] w Q := by kernel_rfl
theorem flumelaw10_RecordForm.k : fnOk Tryd.prog Tryd.f11 = true := by kernel_rfl
theorem flumelaw10_RecordForm.cl {p0 : (Int × (Int × (Int × (Int × (Int × ((Int × (Int × ({l : List Value // l.length = 32} × (Sl × Unit)))) × Unit))))))} {p1 : Sl} {Q : Bool → World → Prop} {w : World} (h : flumelaw10_RecordForm p0 p1 Q w) : cl Tryd.prog n_flumelaw10_RecordForm #[.agg ((([.int .i64 p0.1, .int .i64 p0.2.1, .int .i64 p0.2.2.1, .int .i64 p0.2.2.2.1, .int .i64 p0.2.2.2.2.1] : List Value) ++ ((([.int .i64 p0.2.2.2.2.2.1.1, .int .i64 p0.2.2.2.2.2.1.2.1] : List Value) ++ (p0.2.2.2.2.2.1.2.2.1.1 ++ ([.slice p0.2.2.2.2.2.1.2.2.2.1.a p0.2.2.2.2.2.1.2.2.2.1.n p0.2.2.2.2.2.1.2.2.2.1.c] : List Value))) ++ ([] : List Value)))).toArray, .slice p1.a p1.n p1.c] .B w Q :=
  cl_tie Tryd.func11 flumelaw10_RecordForm.k (args := [Kd.av (.pair (.I .i64) (.pair (.I .i64) (.pair (.I .i64) (.pair (.I .i64) (.pair (.I .i64) (.pair (.pair (.I .i64) (.pair (.I .i64) (.pair (.row 32) (.pair .L .nil)))) .nil)))))) p0, Kd.av .L p1]) (flumelaw10_RecordForm.t p0 p1 Q w) h

/-- flume/flumelaw10.awake -/
def flumelaw10_awake  (Q : Bool → World → Prop) (w : World) : Prop :=
 nw w [.int .u8 97, .int .u8 98, .int .u8 99] t_uint8 fun a1 w2 => rn Tryd.prog (convert t_s_uint8 t_s_uint8 (.slice (some a1) 3 3)) .L w2 fun (r3 : Sl) w4 => cl Tryd.prog n_record_Make #[.slice r3.a r3.n r3.c, .bool false] (.tup (.pair (.pair (.I .i64) (.pair (.I .i64) (.pair (.row 32) (.pair .L .nil)))) (.pair (.I .i64) .nil))) w4 fun (x5 : ((Int × (Int × ({l : List Value // l.length = 32} × (Sl × Unit)))) × (Int × Unit))) w6 => nw w6 (([.int .i64 0, .int .i64 0] : List Value) ++ ((zrow 32 (.int .u8 0)).1 ++ ([.slice none 0 0] : List Value))) t_api_Record fun a7 w8 => st1 w8 a7 (.int .i64 x5.1.1) fun w9 => st1 w9 (a7.add 1) (.int .i64 x5.1.2.1) fun w10 => stL ((a7.add 1).add 1) w10 0 x5.1.2.2.1.1 fun w11 => st1 w11 (((a7.add 1).add 1).add 32) (.slice x5.1.2.2.2.1.a x5.1.2.2.2.1.n x5.1.2.2.2.1.c) fun w12 => ld (.pair (.I .i64) (.pair (.I .i64) (.pair (.row 32) (.pair .L .nil)))) w12 a7 fun (x13 : (Int × (Int × ({l : List Value // l.length = 32} × (Sl × Unit))))) => cl Tryd.prog n_record_Open #[.agg ((([.int .i64 x13.1, .int .i64 x13.2.1] : List Value) ++ (x13.2.2.1.1 ++ ([.slice x13.2.2.2.1.a x13.2.2.2.1.n x13.2.2.2.1.c] : List Value)))).toArray] (.tup (.pair .L (.pair (.I .i64) .nil))) w12 fun (x14 : (Sl × (Int × Unit))) w15 => cl Tryd.prog n_record_Put #[.agg ((([.int .i64 3, .int .i64 7, .int .i64 0, .int .i64 0, .int .i64 0] : List Value) ++ ((([.int .i64 0, .int .i64 0] : List Value) ++ ((zrow 32 (.int .u8 0)).1 ++ ([.slice none 0 0] : List Value))) ++ ([] : List Value)))).toArray] (.tup (.pair .L (.pair (.I .i64) .nil))) w15 fun (x16 : (Sl × (Int × Unit))) w17 => bif (x5.2.1 == 0) then
 (ld (.I .i64) w17 a7 fun (x18 : Int) => bif (x18 == 2) then
 (bif (x14.2.1 == 0) then
 (bstr w17 x14.1 fun z19 => bif (beqB ⟨z19.toArray⟩ ⟨#[97, 98, 99]⟩) then
 (bif (x16.2.1 == 0) then
 (bstr w17 x16.1 fun z20 => bif (beqB ⟨z20.toArray⟩ ⟨#[3, 7]⟩) then
 (cl Tryd.prog n_record_Check #[.agg ((([.int .i64 0, .int .i64 0] : List Value) ++ ((zrow 32 (.int .u8 0)).1 ++ ([.slice none 0 0] : List Value)))).toArray] (.I .i64) w17 fun (x21 : Int) w22 => Q (x21 == 100) w22)
 else Q false w17)
 else Q false w17)
 else Q false w17)
 else Q false w17)
 else Q false w17)
 else Q false w17
theorem flumelaw10_awake.t  (Q : Bool → World → Prop) (w : World) : flumelaw10_awake  Q w = fvc Tryd.prog (fun _ => []) Tryd.f12 .B [] w Q := by kernel_rfl
theorem flumelaw10_awake.k : fnOk Tryd.prog Tryd.f12 = true := by kernel_rfl
theorem flumelaw10_awake.cl  {Q : Bool → World → Prop} {w : World} (h : flumelaw10_awake  Q w) : cl Tryd.prog n_flumelaw10_awake #[] .B w Q :=
  cl_tie Tryd.func12 flumelaw10_awake.k (args := []) (flumelaw10_awake.t  Q w) h

/-- flume/record.Check -/
def record_Check (p0 : (Int × (Int × ({l : List Value // l.length = 32} × (Sl × Unit))))) (Q : Int → World → Prop) (w : World) : Prop :=
 nw w ((([.int .i64 p0.1, .int .i64 p0.2.1] : List Value) ++ (p0.2.2.1.1 ++ ([.slice p0.2.2.2.1.a p0.2.2.2.1.n p0.2.2.2.1.c] : List Value)))) t_api_Record fun a1 w2 => ld .L w2 (a1.add 34) fun (x3 : Sl) => let j1 := (fun (y10 : Bool) (w11 : World) =>
   bif (!y10) then
 (Q 100 w11)
 else ld (.I .i64) w11 (a1.add 1) fun (x12 : Int) => bif (decide (x12 < 1)) then
 (Q 100 w11)
 else ld (.I .i64) w11 (a1.add 1) fun (x13 : Int) => bif (decide (x13 > 256)) then
 (Q 100 w11)
 else Q 0 w11);
 ld (.I .i64) w2 a1 fun (x4 : Int) => bif (x4 == 1) then
 (ld .L w2 (a1.add 34) fun (x5 : Sl) => j1 ((x5.n : Int) == 0) w2)
 else bif (x4 == 2) then
 (ld .L w2 (a1.add 34) fun (x6 : Sl) => ld (.I .i64) w2 (a1.add 1) fun (x7 : Int) => j1 ((x6.n : Int) == x7) w2)
 else bif (x4 == 3) then
 (j1 (decide ((x3.n : Int) ≤ 256)) w2)
 else j1 false w2
theorem record_Check.t (p0 : (Int × (Int × ({l : List Value // l.length = 32} × (Sl × Unit))))) (Q : Int → World → Prop) (w : World) : record_Check p0 Q w = fvc Tryd.prog (fun _ => []) Tryd.f13 (.I .i64) [Kd.av (.pair (.I .i64) (.pair (.I .i64) (.pair (.row 32) (.pair .L .nil)))) p0] w Q := by kernel_rfl
theorem record_Check.k : fnOk Tryd.prog Tryd.f13 = true := by kernel_rfl
theorem record_Check.cl {p0 : (Int × (Int × ({l : List Value // l.length = 32} × (Sl × Unit))))} {Q : Int → World → Prop} {w : World} (h : record_Check p0 Q w) : cl Tryd.prog n_record_Check #[.agg ((([.int .i64 p0.1, .int .i64 p0.2.1] : List Value) ++ (p0.2.2.1.1 ++ ([.slice p0.2.2.2.1.a p0.2.2.2.1.n p0.2.2.2.1.c] : List Value)))).toArray] (.I .i64) w Q :=
  cl_tie Tryd.func13 record_Check.k (args := [Kd.av (.pair (.I .i64) (.pair (.I .i64) (.pair (.row 32) (.pair .L .nil)))) p0]) (record_Check.t p0 Q w) h

/-- flume/flumeref10.Check -/
def flumeref10_Check (p0 : (Int × (Int × ({l : List Value // l.length = 32} × (Sl × Unit))))) (Q : Int → World → Prop) (w : World) : Prop :=
 nw w ((([.int .i64 p0.1, .int .i64 p0.2.1] : List Value) ++ (p0.2.2.1.1 ++ ([.slice p0.2.2.2.1.a p0.2.2.2.1.n p0.2.2.2.1.c] : List Value)))) t_api_Record fun a1 w2 => ld .L w2 (a1.add 34) fun (x3 : Sl) => let j1 := (fun (y15 : Bool) (w16 : World) =>
   bif (!y15) then
 (Q 100 w16)
 else ld (.I .i64) w16 (a1.add 1) fun (x17 : Int) => bif (decide (x17 < 1)) then
 (Q 100 w16)
 else ld (.I .i64) w16 (a1.add 1) fun (x18 : Int) => bif (decide (x18 > 256)) then
 (Q 100 w16)
 else Q 0 w16);
 ld (.I .i64) w2 a1 fun (x4 : Int) => bif (x4 == 1) then
 (bif ((x3.n : Int) == 0) then
 (j1 true w2)
 else ld (.I .i64) w2 a1 fun (x5 : Int) => bif (x5 == 2) then
 (ld (.I .i64) w2 (a1.add 1) fun (x6 : Int) => bif ((x3.n : Int) == x6) then
 (j1 true w2)
 else ld (.I .i64) w2 a1 fun (x7 : Int) => bif (x7 == 3) then
 (j1 (decide ((x3.n : Int) ≤ 256)) w2)
 else j1 false w2)
 else ld (.I .i64) w2 a1 fun (x8 : Int) => bif (x8 == 3) then
 (j1 (decide ((x3.n : Int) ≤ 256)) w2)
 else j1 false w2)
 else ld (.I .i64) w2 a1 fun (x9 : Int) => bif (x9 == 2) then
 (ld (.I .i64) w2 (a1.add 1) fun (x10 : Int) => bif ((x3.n : Int) == x10) then
 (j1 true w2)
 else ld (.I .i64) w2 a1 fun (x11 : Int) => bif (x11 == 3) then
 (j1 (decide ((x3.n : Int) ≤ 256)) w2)
 else j1 false w2)
 else ld (.I .i64) w2 a1 fun (x12 : Int) => bif (x12 == 3) then
 (j1 (decide ((x3.n : Int) ≤ 256)) w2)
 else j1 false w2
theorem flumeref10_Check.t (p0 : (Int × (Int × ({l : List Value // l.length = 32} × (Sl × Unit))))) (Q : Int → World → Prop) (w : World) : flumeref10_Check p0 Q w = fvc Tryd.prog (fun _ => []) Tryd.f14 (.I .i64) [Kd.av (.pair (.I .i64) (.pair (.I .i64) (.pair (.row 32) (.pair .L .nil)))) p0] w Q := by kernel_rfl
theorem flumeref10_Check.k : fnOk Tryd.prog Tryd.f14 = true := by kernel_rfl
theorem flumeref10_Check.cl {p0 : (Int × (Int × ({l : List Value // l.length = 32} × (Sl × Unit))))} {Q : Int → World → Prop} {w : World} (h : flumeref10_Check p0 Q w) : cl Tryd.prog n_flumeref10_Check #[.agg ((([.int .i64 p0.1, .int .i64 p0.2.1] : List Value) ++ (p0.2.2.1.1 ++ ([.slice p0.2.2.2.1.a p0.2.2.2.1.n p0.2.2.2.1.c] : List Value)))).toArray] (.I .i64) w Q :=
  cl_tie Tryd.func14 flumeref10_Check.k (args := [Kd.av (.pair (.I .i64) (.pair (.I .i64) (.pair (.row 32) (.pair .L .nil)))) p0]) (flumeref10_Check.t p0 Q w) h
end Go.Proofs.YtkojpppnjloikaaDoor
