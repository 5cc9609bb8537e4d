/- What the code of Go functions of this seat asks, in numbers, lists and worlds: printed by a program of mine (wip/tools). -/
import Derived.Test.YtkojpppnjloikaaDoorId
set_option linter.unusedVariables false
set_option maxHeartbeats 4000000
namespace Go.Proofs.YtkojpppnjloikaaDoor
open Go.Fl
/-- (*flume/lz.chains).best -/
def an_lz_chains_best : Nat → LA
  | 4 => [(4, (.I .i64)), (5, (.I .i64)), (6, (.I .i64))] | 1000003 => [(0, .nil)] | _ => []
def lz_chains_best (p0 : Option Addr) (p1 : Int) (Q : (Int × (Int × Unit)) → World → Prop) (w : World) : Prop :=
 nz p0 fun a1 => ld .L w a1 fun (x2 : Sl) => bif (decide ((IntKind.i64.wrap (p1 + 3)) > (x2.n : Int))) then
 (Q (0, (0, ())) w)
 else dr w fun w3 => nz p0 fun a4 => ld .M w3 (a4.add 1) fun (x5 : Option Nat) => cl Tryd.prog n_lz_chains_at #[.pointer p0, .int .i64 p1] (.row 3) w3 fun (x6 : {l : List Value // l.length = 3}) w7 => Fr w3 w7 ∧ qn Tryd.prog (Instr.lookup t_map_3_uint8_int (.map x5) (.agg (x6.1).toArray) false) (.I .i64) w7 fun (x8 : Int) => lp (α := (Int × (Int × (Int × Unit)))) (fun K => K (0, (0, (x8, ())))) w7 fun D11 J12 s9 w10 =>
 bif (decide (s9.2.2.1 > 0)) then
  (bif (decide ((IntKind.i64.wrap (p1 - (IntKind.i64.wrap (s9.2.2.1 - 1)))) ≤ 512)) then
  (cl Tryd.prog n_lz_chains_alike #[.pointer p0, .int .i64 (IntKind.i64.wrap (s9.2.2.1 - 1)), .int .i64 p1] (.I .i64) w10 fun (x13 : Int) w14 => bif (decide (x13 > s9.2.1)) then
  (nz p0 fun a15 => ld .L w14 (a15.add 2) fun (x16 : Sl) => ixa x16.a x16.n (IntKind.i64.wrap (s9.2.2.1 - 1)) 1 fun a17 => ld (.I .i64) w14 a17 fun (x18 : Int) => J12 ((IntKind.i64.wrap (p1 - (IntKind.i64.wrap (s9.2.2.1 - 1)))), (x13, (x18, ()))) w14)
  else nz p0 fun a19 => ld .L w14 (a19.add 2) fun (x20 : Sl) => ixa x20.a x20.n (IntKind.i64.wrap (s9.2.2.1 - 1)) 1 fun a21 => ld (.I .i64) w14 a21 fun (x22 : Int) => J12 (s9.1, (s9.2.1, (x22, ()))) w14)
  else Q (s9.1, (s9.2.1, ())) w10)
  else Q (s9.1, (s9.2.1, ())) w10
theorem lz_chains_best.t (p0 : Option Addr) (p1 : Int) (Q : (Int × (Int × Unit)) → World → Prop) (w : World) : lz_chains_best p0 p1 Q w = fvc Tryd.prog an_lz_chains_best Tryd.f44 (.tup (.pair (.I .i64) (.pair (.I .i64) .nil))) [Kd.av .P p0, Kd.av (.I .i64) p1] w Q := by kernel_rfl
theorem lz_chains_best.k : fnOk Tryd.prog Tryd.f44 = true := by kernel_rfl
theorem lz_chains_best.cl {p0 : Option Addr} {p1 : Int} {Q : (Int × (Int × Unit)) → World → Prop} {w : World} (h : lz_chains_best p0 p1 Q w) : cl Tryd.prog n_lz_chains_best #[.pointer p0, .int .i64 p1] (.tup (.pair (.I .i64) (.pair (.I .i64) .nil))) w Q :=
  cl_tie Tryd.func44 lz_chains_best.k (args := [Kd.av .P p0, Kd.av (.I .i64) p1]) (lz_chains_best.t p0 p1 Q w) h

/-- (*flume/lz.chains).put -/
def an_lz_chains_put : Nat → LA
  | 1000002 => [(0, .nil)] | 1000003 => [(0, .nil)] | _ => []
def lz_chains_put (p0 : Option Addr) (p1 : Int) (Q : Unit → World → Prop) (w : World) : Prop :=
 nz p0 fun a1 => ld .L w a1 fun (x2 : Sl) => bif (decide ((IntKind.i64.wrap (p1 + 3)) ≤ (x2.n : Int))) then
 (cl Tryd.prog n_lz_chains_at #[.pointer p0, .int .i64 p1] (.row 3) w fun (x3 : {l : List Value // l.length = 3}) w4 => nw w4 ((zrow 3 (.int .u8 0)).1) t_3_uint8 fun a5 w6 => stL a5 w6 0 x3.1 fun w7 => dr w7 fun w8 => nz p0 fun a9 => ld .L w8 (a9.add 2) fun (x10 : Sl) => nz p0 fun a11 => ld .M w8 (a11.add 1) fun (x12 : Option Nat) => ld (.row 3) w8 a5 fun (x13 : {l : List Value // l.length = 3}) => qn Tryd.prog (Instr.lookup t_map_3_uint8_int (.map x12) (.agg (x13.1).toArray) false) (.I .i64) w8 fun (x14 : Int) => ixa x10.a x10.n p1 1 fun a15 => st1 w8 a15 (.int .i64 x14) fun w16 => dr w16 fun w17 => nz p0 fun a18 => ld .M w17 (a18.add 1) fun (x19 : Option Nat) => ld (.row 3) w17 a5 fun (x20 : {l : List Value // l.length = 3}) => ru Tryd.prog (Instr.mapUpdate t_map_3_uint8_int (.map x19) (.agg (x20.1).toArray) (.int .i64 (IntKind.i64.wrap (p1 + 1)))) w17 fun w21 => Q () w21)
 else Q () w
theorem lz_chains_put.t (p0 : Option Addr) (p1 : Int) (Q : Unit → World → Prop) (w : World) : lz_chains_put p0 p1 Q w = fvc Tryd.prog an_lz_chains_put Tryd.f45 (.tup .nil) [Kd.av .P p0, Kd.av (.I .i64) p1] w Q := by kernel_rfl
theorem lz_chains_put.k : fnOk Tryd.prog Tryd.f45 = true := by kernel_rfl
theorem lz_chains_put.cl {p0 : Option Addr} {p1 : Int} {Q : Unit → World → Prop} {w : World} (h : lz_chains_put p0 p1 Q w) : cl Tryd.prog n_lz_chains_put #[.pointer p0, .int .i64 p1] (.tup .nil) w Q :=
  cl_tie Tryd.func45 lz_chains_put.k (args := [Kd.av .P p0, Kd.av (.I .i64) p1]) (lz_chains_put.t p0 p1 Q w) h

/-- flume/octet.Read -/
def octet_Read (p0 : Sl) (Q : Option Addr → World → Prop) (w : World) : Prop :=
 nw w [] t_uint8 fun a1 w2 => app Tryd.prog t_s_uint8 t_s_uint8 ⟨(some a1), 0, 0⟩ p0 w2 fun r3 w4 => nw w4 ([.slice r3.a r3.n r3.c, .bool true]) t_octet_Reader fun a5 w6 => Q (some a5) w6
theorem octet_Read.t (p0 : Sl) (Q : Option Addr → World → Prop) (w : World) : octet_Read p0 Q w = fvc Tryd.prog (fun _ => []) Tryd.f47 .P [Kd.av .L p0] w Q := by kernel_rfl
theorem octet_Read.k : fnOk Tryd.prog Tryd.f47 = true := by kernel_rfl
theorem octet_Read.cl {p0 : Sl} {Q : Option Addr → World → Prop} {w : World} (h : octet_Read p0 Q w) : cl Tryd.prog n_octet_Read #[.slice p0.a p0.n p0.c] .P w Q :=
  cl_tie Tryd.func47 octet_Read.k (args := [Kd.av .L p0]) (octet_Read.t p0 Q w) h

/-- (*flume/octet.Reader).Number -/
def octet_Reader_Number (p0 : Option Addr) (Q : (Int × (Int × Unit)) → World → Prop) (w : World) : Prop :=
 bif p0.isNone then
 (Q (0, (6, ())) w)
 else nz p0 fun a1 => ld .B w (a1.add 1) fun (x2 : Bool) => bif (!x2) then
 (Q (0, (6, ())) w)
 else nz p0 fun a3 => ld .L w a3 fun (x4 : Sl) => cl Tryd.prog n_octet_look #[.slice x4.a x4.n x4.c] (.tup (.pair (.I .i64) (.pair (.I .i64) (.pair (.I .i64) .nil)))) w fun (x5 : (Int × (Int × (Int × Unit)))) w6 => nz p0 fun a7 => ld .L w6 a7 fun (x8 : Sl) => sls x8 x5.2.1 x8.n 1 fun r9 => nz p0 fun a10 => st1 w6 a10 (.slice r9.a r9.n r9.c) fun w11 => Q (x5.1, (x5.2.2.1, ())) w11
theorem octet_Reader_Number.t (p0 : Option Addr) (Q : (Int × (Int × Unit)) → World → Prop) (w : World) : octet_Reader_Number p0 Q w = fvc Tryd.prog (fun _ => []) Tryd.f48 (.tup (.pair (.I .i64) (.pair (.I .i64) .nil))) [Kd.av .P p0] w Q := by kernel_rfl
theorem octet_Reader_Number.k : fnOk Tryd.prog Tryd.f48 = true := by kernel_rfl
theorem octet_Reader_Number.cl {p0 : Option Addr} {Q : (Int × (Int × Unit)) → World → Prop} {w : World} (h : octet_Reader_Number p0 Q w) : cl Tryd.prog n_octet_Reader_Number #[.pointer p0] (.tup (.pair (.I .i64) (.pair (.I .i64) .nil))) w Q :=
  cl_tie Tryd.func48 octet_Reader_Number.k (args := [Kd.av .P p0]) (octet_Reader_Number.t p0 Q w) h

/-- flume/record.take -/
def an_record_take : Nat → LA
  | 8 => [(29, (.I .i64))] | _ => []
def record_take (p0 : Option Addr) (Q : ((Int × (Int × ({l : List Value // l.length = 32} × (Sl × Unit)))) × (Int × Unit)) → World → Prop) (w : World) : Prop :=
 nw w (([.int .i64 0, .int .i64 0] : List Value) ++ ((zrow 32 (.int .u8 0)).1 ++ ([.slice none 0 0] : List Value))) t_api_Record fun a1 w2 => nw w2 (([.int .i64 0, .int .i64 0] : List Value) ++ ((zrow 32 (.int .u8 0)).1 ++ ([.slice none 0 0] : List Value))) t_api_Record fun a3 w4 => cl Tryd.prog n_octet_Reader_Number #[.pointer p0] (.tup (.pair (.I .i64) (.pair (.I .i64) .nil))) w4 fun (x5 : (Int × (Int × Unit))) w6 => st1 w6 a3 (.int .i64 x5.1) fun w7 => cl Tryd.prog n_octet_Reader_Number #[.pointer p0] (.tup (.pair (.I .i64) (.pair (.I .i64) .nil))) w7 fun (x8 : (Int × (Int × Unit))) w9 => st1 w9 (a3.add 1) (.int .i64 x8.1) fun w10 => let j1 := (fun (y16 : Bool) (w17 : World) =>
   bif y16 then
 (st1 w17 a1 (.int .i64 0) fun w18 => st1 w18 (a1.add 1) (.int .i64 0) fun w19 => stL ((a1.add 1).add 1) w19 0 (zrow 32 (.int .u8 0)).1 fun w20 => st1 w20 (((a1.add 1).add 1).add 32) (.slice none 0 0) fun w21 => ld (.pair (.I .i64) (.pair (.I .i64) (.pair (.row 32) (.pair .L .nil)))) w21 a1 fun (r22 : (Int × (Int × ({l : List Value // l.length = 32} × (Sl × Unit))))) => Q ((r22.1, (r22.2.1, (r22.2.2.1, (r22.2.2.2.1, ())))), (100, ())) w21)
 else lp (α := (Int × Unit)) (fun K => K (0, ())) w17 fun D25 J26 s23 w24 =>
 bif (decide (s23.1 < 32)) then
  (cl Tryd.prog n_octet_Reader_Byte #[.pointer p0] (.tup (.pair (.I .u8) (.pair (.I .i64) .nil))) w24 fun (x27 : (Int × (Int × Unit))) w28 => bif (x27.2.1 != 0) then
  (st1 w28 a1 (.int .i64 0) fun w29 => st1 w29 (a1.add 1) (.int .i64 0) fun w30 => stL ((a1.add 1).add 1) w30 0 (zrow 32 (.int .u8 0)).1 fun w31 => st1 w31 (((a1.add 1).add 1).add 32) (.slice none 0 0) fun w32 => ld (.pair (.I .i64) (.pair (.I .i64) (.pair (.row 32) (.pair .L .nil)))) w32 a1 fun (r33 : (Int × (Int × ({l : List Value // l.length = 32} × (Sl × Unit))))) => Q ((r33.1, (r33.2.1, (r33.2.2.1, (r33.2.2.2.1, ())))), (100, ())) w32)
  else ixa (some (a3.add 2)) 32 s23.1 1 fun a34 => st1 w28 a34 (.int .u8 x27.1) fun w35 => J26 ((IntKind.i64.wrap (s23.1 + 1)), ()) w35)
  else cl Tryd.prog n_octet_Reader_Text #[.pointer p0, .int .i64 256] (.tup (.pair .L (.pair (.I .i64) .nil))) w24 fun (x36 : (Sl × (Int × Unit))) w37 => st1 w37 (a3.add 34) (.slice x36.1.a x36.1.n x36.1.c) fun w38 => let j2 := (fun (y47 : Bool) (w48 : World) =>
   bif y47 then
 (st1 w48 a1 (.int .i64 0) fun w49 => st1 w49 (a1.add 1) (.int .i64 0) fun w50 => stL ((a1.add 1).add 1) w50 0 (zrow 32 (.int .u8 0)).1 fun w51 => st1 w51 (((a1.add 1).add 1).add 32) (.slice none 0 0) fun w52 => ld (.pair (.I .i64) (.pair (.I .i64) (.pair (.row 32) (.pair .L .nil)))) w52 a1 fun (r53 : (Int × (Int × ({l : List Value // l.length = 32} × (Sl × Unit))))) => Q ((r53.1, (r53.2.1, (r53.2.2.1, (r53.2.2.2.1, ())))), (100, ())) w52)
 else ld (.pair (.I .i64) (.pair (.I .i64) (.pair (.row 32) (.pair .L .nil)))) w48 a3 fun (x54 : (Int × (Int × ({l : List Value // l.length = 32} × (Sl × Unit))))) => st1 w48 a1 (.int .i64 x54.1) fun w55 => st1 w55 (a1.add 1) (.int .i64 x54.2.1) fun w56 => stL ((a1.add 1).add 1) w56 0 x54.2.2.1.1 fun w57 => st1 w57 (((a1.add 1).add 1).add 32) (.slice x54.2.2.2.1.a x54.2.2.2.1.n x54.2.2.2.1.c) fun w58 => ld (.pair (.I .i64) (.pair (.I .i64) (.pair (.row 32) (.pair .L .nil)))) w58 a1 fun (r59 : (Int × (Int × ({l : List Value // l.length = 32} × (Sl × Unit))))) => Q ((r59.1, (r59.2.1, (r59.2.2.1, (r59.2.2.2.1, ())))), (0, ())) w58);
 bif (x36.2.1 != 0) then
 (j2 true w38)
 else ld (.pair (.I .i64) (.pair (.I .i64) (.pair (.row 32) (.pair .L .nil)))) w38 a3 fun (x39 : (Int × (Int × ({l : List Value // l.length = 32} × (Sl × Unit))))) => cl Tryd.prog n_record_Check #[.agg ((([.int .i64 x39.1, .int .i64 x39.2.1] : List Value) ++ (x39.2.2.1.1 ++ ([.slice x39.2.2.2.1.a x39.2.2.2.1.n x39.2.2.2.1.c] : List Value)))).toArray] (.I .i64) w38 fun (x40 : Int) w41 => j2 (x40 != 0) w41);
 bif (x5.2.1 != 0) then
 (j1 true w10)
 else j1 (x8.2.1 != 0) w10
theorem record_take.t (p0 : Option Addr) (Q : ((Int × (Int × ({l : List Value // l.length = 32} × (Sl × Unit)))) × (Int × Unit)) → World → Prop) (w : World) : record_take p0 Q w = fvc Tryd.prog an_record_take Tryd.f49 (.tup (.pair (.pair (.I .i64) (.pair (.I .i64) (.pair (.row 32) (.pair .L .nil)))) (.pair (.I .i64) .nil))) [Kd.av .P p0] w Q := by kernel_rfl
theorem record_take.k : fnOk Tryd.prog Tryd.f49 = true := by kernel_rfl
theorem record_take.cl {p0 : Option Addr} {Q : ((Int × (Int × ({l : List Value // l.length = 32} × (Sl × Unit)))) × (Int × Unit)) → World → Prop} {w : World} (h : record_take p0 Q w) : cl Tryd.prog n_record_take #[.pointer p0] (.tup (.pair (.pair (.I .i64) (.pair (.I .i64) (.pair (.row 32) (.pair .L .nil)))) (.pair (.I .i64) .nil))) w Q :=
  cl_tie Tryd.func49 record_take.k (args := [Kd.av .P p0]) (record_take.t p0 Q w) h

/-- (*flume/octet.Reader).End -/
def octet_Reader_End (p0 : Option Addr) (Q : Int → World → Prop) (w : World) : Prop :=
 bif p0.isNone then
 (Q 6 w)
 else nz p0 fun a1 => ld .B w (a1.add 1) fun (x2 : Bool) => bif (!x2) then
 (Q 6 w)
 else nz p0 fun a3 => ld .L w a3 fun (x4 : Sl) => bif (decide ((x4.n : Int) > 0)) then
 (Q 3 w)
 else Q 0 w
theorem octet_Reader_End.t (p0 : Option Addr) (Q : Int → World → Prop) (w : World) : octet_Reader_End p0 Q w = fvc Tryd.prog (fun _ => []) Tryd.f50 (.I .i64) [Kd.av .P p0] w Q := by kernel_rfl
theorem octet_Reader_End.k : fnOk Tryd.prog Tryd.f50 = true := by kernel_rfl
theorem octet_Reader_End.cl {p0 : Option Addr} {Q : Int → World → Prop} {w : World} (h : octet_Reader_End p0 Q w) : cl Tryd.prog n_octet_Reader_End #[.pointer p0] (.I .i64) w Q :=
  cl_tie Tryd.func50 octet_Reader_End.k (args := [Kd.av .P p0]) (octet_Reader_End.t p0 Q w) h

/-- (*flume/flumeref02.Reader).Number -/
def an_flumeref02_Reader_Number : Nat → LA
  | 1000001 => [(0, .nil)] | _ => []
def flumeref02_Reader_Number (p0 : Option Addr) (Q : (Int × (Int × Unit)) → World → Prop) (w : World) : Prop :=
 dr w fun w1 => nz p0 fun a2 => ld .L w1 a2 fun (x3 : Sl) => nz p0 fun a4 => ld (.I .i64) w1 (a4.add 1) fun (x5 : Int) => sls x3 x5 x3.n 1 fun r6 => cl Tryd.prog n_flumeref02_Look #[.slice r6.a r6.n r6.c] (.tup (.pair (.I .i64) (.pair (.I .i64) (.pair (.I .i64) .nil)))) w1 fun (x7 : (Int × (Int × (Int × Unit)))) w8 => nz p0 fun a9 => ld (.I .i64) w8 (a9.add 1) fun (x10 : Int) => nz p0 fun a11 => st1 w8 (a11.add 1) (.int .i64 (IntKind.i64.wrap (x10 + x7.2.1))) fun w12 => Q (x7.1, (x7.2.2.1, ())) w12
theorem flumeref02_Reader_Number.t (p0 : Option Addr) (Q : (Int × (Int × Unit)) → World → Prop) (w : World) : flumeref02_Reader_Number p0 Q w = fvc Tryd.prog an_flumeref02_Reader_Number Tryd.f51 (.tup (.pair (.I .i64) (.pair (.I .i64) .nil))) [Kd.av .P p0] w Q := by kernel_rfl
theorem flumeref02_Reader_Number.k : fnOk Tryd.prog Tryd.f51 = true := by kernel_rfl
theorem flumeref02_Reader_Number.cl {p0 : Option Addr} {Q : (Int × (Int × Unit)) → World → Prop} {w : World} (h : flumeref02_Reader_Number p0 Q w) : cl Tryd.prog n_flumeref02_Reader_Number #[.pointer p0] (.tup (.pair (.I .i64) (.pair (.I .i64) .nil))) w Q :=
  cl_tie Tryd.func51 flumeref02_Reader_Number.k (args := [Kd.av .P p0]) (flumeref02_Reader_Number.t p0 Q w) h

/-- (*flume/flumeref02.Reader).Byte -/
def flumeref02_Reader_Byte (p0 : Option Addr) (Q : (Int × (Int × Unit)) → World → Prop) (w : World) : Prop :=
 nz p0 fun a1 => ld (.I .i64) w (a1.add 1) fun (x2 : Int) => nz p0 fun a3 => ld .L w a3 fun (x4 : Sl) => dr w fun w5 => bif (x2 == (x4.n : Int)) then
 (Q (0, (2, ())) w5)
 else nz p0 fun a6 => ld (.I .i64) w5 (a6.add 1) fun (x7 : Int) => nz p0 fun a8 => st1 w5 (a8.add 1) (.int .i64 (IntKind.i64.wrap (x7 + 1))) fun w9 => nz p0 fun a10 => ld .L w9 a10 fun (x11 : Sl) => nz p0 fun a12 => ld (.I .i64) w9 (a12.add 1) fun (x13 : Int) => ixa x11.a x11.n (IntKind.i64.wrap (x13 - 1)) 1 fun a14 => ld (.I .u8) w9 a14 fun (x15 : Int) => dr w9 fun w16 => Q (x15, (0, ())) w16
theorem flumeref02_Reader_Byte.t (p0 : Option Addr) (Q : (Int × (Int × Unit)) → World → Prop) (w : World) : flumeref02_Reader_Byte p0 Q w = fvc Tryd.prog (fun _ => []) Tryd.f52 (.tup (.pair (.I .u8) (.pair (.I .i64) .nil))) [Kd.av .P p0] w Q := by kernel_rfl
theorem flumeref02_Reader_Byte.k : fnOk Tryd.prog Tryd.f52 = true := by kernel_rfl
theorem flumeref02_Reader_Byte.cl {p0 : Option Addr} {Q : (Int × (Int × Unit)) → World → Prop} {w : World} (h : flumeref02_Reader_Byte p0 Q w) : cl Tryd.prog n_flumeref02_Reader_Byte #[.pointer p0] (.tup (.pair (.I .u8) (.pair (.I .i64) .nil))) w Q :=
  cl_tie Tryd.func52 flumeref02_Reader_Byte.k (args := [Kd.av .P p0]) (flumeref02_Reader_Byte.t p0 Q w) h

/-- (*flume/flumeref02.Reader).Text -/
def an_flumeref02_Reader_Text : Nat → LA
  | 1000001 => [(0, .nil)] | 1000009 => [(0, .nil)] | _ => []
def flumeref02_Reader_Text (p0 : Option Addr) (p1 : Int) (Q : (Sl × (Int × Unit)) → World → Prop) (w : World) : Prop :=
 dr w fun w1 => nz p0 fun a2 => ld .L w1 a2 fun (x3 : Sl) => nz p0 fun a4 => ld (.I .i64) w1 (a4.add 1) fun (x5 : Int) => sls x3 x5 x3.n 1 fun r6 => cl Tryd.prog n_flumeref02_Look #[.slice r6.a r6.n r6.c] (.tup (.pair (.I .i64) (.pair (.I .i64) (.pair (.I .i64) .nil)))) w1 fun (x7 : (Int × (Int × (Int × Unit)))) w8 => bif (x7.2.2.1 != 0) then
 (Q (⟨none, 0, 0⟩, (x7.2.2.1, ())) w8)
 else let j1 := (fun  (w30 : World) =>
   nz p0 fun a31 => ld .L w30 a31 fun (x32 : Sl) => nz p0 fun a33 => ld (.I .i64) w30 (a33.add 1) fun (x34 : Int) => dr w30 fun w35 => bif (decide (x7.1 > (IntKind.i64.wrap ((IntKind.i64.wrap ((x32.n : Int) - x34)) - x7.2.1)))) then
 (Q (⟨none, 0, 0⟩, (2, ())) w35)
 else nz p0 fun a36 => ld (.I .i64) w35 (a36.add 1) fun (x37 : Int) => nz p0 fun a38 => st1 w35 (a38.add 1) (.int .i64 (IntKind.i64.wrap (x37 + (IntKind.i64.wrap (x7.2.1 + x7.1))))) fun w39 => dr w39 fun w40 => nz p0 fun a41 => ld .L w40 a41 fun (x42 : Sl) => nz p0 fun a43 => ld (.I .i64) w40 (a43.add 1) fun (x44 : Int) => nz p0 fun a45 => ld (.I .i64) w40 (a45.add 1) fun (x46 : Int) => sls x42 (IntKind.i64.wrap (x44 - x7.1)) x46 1 fun r47 => nw w40 [] t_uint8 fun a48 w49 => Fr w40 w49 ∧ app Tryd.prog t_s_uint8 t_s_uint8 ⟨(some a48), 0, 0⟩ r47 w49 fun r50 w51 => Q (r50, (0, ())) w51);
 bif (decide (x7.1 > p1)) then
 (bif (decide (x7.1 > 0)) then
 (Q (⟨none, 0, 0⟩, (4, ())) w8)
 else j1 w8)
 else j1 w8
theorem flumeref02_Reader_Text.t (p0 : Option Addr) (p1 : Int) (Q : (Sl × (Int × Unit)) → World → Prop) (w : World) : flumeref02_Reader_Text p0 p1 Q w = fvc Tryd.prog an_flumeref02_Reader_Text Tryd.f53 (.tup (.pair .L (.pair (.I .i64) .nil))) [Kd.av .P p0, Kd.av (.I .i64) p1] w Q := by kernel_rfl
theorem flumeref02_Reader_Text.k : fnOk Tryd.prog Tryd.f53 = true := by kernel_rfl
theorem flumeref02_Reader_Text.cl {p0 : Option Addr} {p1 : Int} {Q : (Sl × (Int × Unit)) → World → Prop} {w : World} (h : flumeref02_Reader_Text p0 p1 Q w) : cl Tryd.prog n_flumeref02_Reader_Text #[.pointer p0, .int .i64 p1] (.tup (.pair .L (.pair (.I .i64) .nil))) w Q :=
  cl_tie Tryd.func53 flumeref02_Reader_Text.k (args := [Kd.av .P p0, Kd.av (.I .i64) p1]) (flumeref02_Reader_Text.t p0 p1 Q w) h

/-- flume/lz.step -/
def an_lz_step : Nat → LA
  | 15 => [(67, (.I .i64))] | _ => []
def lz_step (p0 : Sl) (p1 : Sl) (Q : (Sl × (Int × (Int × Unit))) → World → Prop) (w : World) : Prop :=
 ixa p1.a p1.n 0 1 fun a1 => ld (.I .u8) w a1 fun (x2 : Int) => bif (decide (x2 < 128)) then
 (ixa p1.a p1.n 0 1 fun a3 => ld (.I .u8) w a3 fun (x4 : Int) => bif (decide ((p1.n : Int) ≤ (IntKind.i64.wrap ((IntKind.i64.wrap x4) + 1)))) then
  (Q (⟨none, 0, 0⟩, (0, (2, ()))) w)
  else qn Tryd.prog (Instr.sliceAt t_s_uint8 (.slice p1.a p1.n p1.c) (some (.int .i64 1)) (some (.int .i64 (IntKind.i64.wrap ((IntKind.i64.wrap ((IntKind.i64.wrap x4) + 1)) + 1)))) (some (.int .i64 (IntKind.i64.wrap ((IntKind.i64.wrap ((IntKind.i64.wrap x4) + 1)) + 1))))) .L w fun (r5 : Sl) => Q (r5, ((IntKind.i64.wrap ((IntKind.i64.wrap ((IntKind.i64.wrap x4) + 1)) + 1)), (0, ()))) w)
 else ixa p1.a p1.n 0 1 fun a6 => ld (.I .u8) w a6 fun (x7 : Int) => sls p1 1 p1.n 1 fun r8 => cl Tryd.prog n_octet_Read #[.slice r8.a r8.n r8.c] .P w fun (x9 : Option Addr) w10 => cl Tryd.prog n_octet_Reader_Within #[.pointer x9, .int .i64 1, .int .i64 (min 512 (p0.n : Int))] (.tup (.pair (.I .i64) (.pair (.I .i64) .nil))) w10 fun (x11 : (Int × (Int × Unit))) w12 => bif (x11.2.1 == 2) then
 (Q (⟨none, 0, 0⟩, (0, (x11.2.1, ()))) w12)
 else bif (x11.2.1 != 0) then
 (Q (⟨none, 0, 0⟩, (0, (70, ()))) w12)
 else bif (decide ((IntKind.i64.wrap ((IntKind.i64.wrap ((IntKind.i64.wrap x7) - 128)) + 3)) > 66)) then
 (Q (⟨none, 0, 0⟩, (0, (70, ()))) w12)
 else mks Tryd.prog t_s_uint8 (IntKind.i64.wrap ((IntKind.i64.wrap ((IntKind.i64.wrap x7) - 128)) + 3)) (IntKind.i64.wrap ((IntKind.i64.wrap ((IntKind.i64.wrap x7) - 128)) + 3)) w12 fun r13 w14 => lp (α := (Int × Unit)) (fun K => K (0, ())) w14 fun D17 J18 s15 w16 =>
 bif (decide (s15.1 < (r13.n : Int))) then
  (bif (decide (s15.1 < x11.1)) then
  (ixa p0.a p0.n (IntKind.i64.wrap ((IntKind.i64.wrap ((p0.n : Int) - x11.1)) + s15.1)) 1 fun a19 => ld (.I .u8) w16 a19 fun (x20 : Int) => ixa r13.a r13.n s15.1 1 fun a21 => st1 w16 a21 (.int .u8 x20) fun w22 => J18 ((IntKind.i64.wrap (s15.1 + 1)), ()) w22)
  else ixa r13.a r13.n (IntKind.i64.wrap (s15.1 - x11.1)) 1 fun a23 => ld (.I .u8) w16 a23 fun (x24 : Int) => ixa r13.a r13.n s15.1 1 fun a25 => st1 w16 a25 (.int .u8 x24) fun w26 => J18 ((IntKind.i64.wrap (s15.1 + 1)), ()) w26)
  else cl Tryd.prog n_octet_Reader_Left #[.pointer x9] (.I .i64) w16 fun (x27 : Int) w28 => Q (r13, ((IntKind.i64.wrap ((p1.n : Int) - x27)), (0, ()))) w28
theorem lz_step.t (p0 : Sl) (p1 : Sl) (Q : (Sl × (Int × (Int × Unit))) → World → Prop) (w : World) : lz_step p0 p1 Q w = fvc Tryd.prog an_lz_step Tryd.f54 (.tup (.pair .L (.pair (.I .i64) (.pair (.I .i64) .nil)))) [Kd.av .L p0, Kd.av .L p1] w Q := by kernel_rfl
theorem lz_step.k : fnOk Tryd.prog Tryd.f54 = true := by kernel_rfl
theorem lz_step.cl {p0 : Sl} {p1 : Sl} {Q : (Sl × (Int × (Int × Unit))) → World → Prop} {w : World} (h : lz_step p0 p1 Q w) : cl Tryd.prog n_lz_step #[.slice p0.a p0.n p0.c, .slice p1.a p1.n p1.c] (.tup (.pair .L (.pair (.I .i64) (.pair (.I .i64) .nil)))) w Q :=
  cl_tie Tryd.func54 lz_step.k (args := [Kd.av .L p0, Kd.av .L p1]) (lz_step.t p0 p1 Q w) h
end Go.Proofs.YtkojpppnjloikaaDoor
