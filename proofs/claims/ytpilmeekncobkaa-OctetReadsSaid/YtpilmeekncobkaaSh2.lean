/- What the code of Go functions of this seat asks, in numbers, lists and worlds: printed by a program of mine (wip/tools). -/
import Derived.Test.YtpilmeekncobkaaId
set_option linter.unusedVariables false
namespace Go.Proofs.Ytpilmeekncobkaa
open Go.Fl
/-- flume/flumeref02.Flag -/
def flumeref02_Flag (p0 : Sl) (p1 : Bool) (Q : Sl → World → Prop) (w : World) : Prop :=
 bif p1 then
 (cl Try.prog n_flumeref02_Number #[.slice p0.a p0.n p0.c, .int .i64 1] .L w fun (x1 : Sl) w2 => Q x1 w2)
 else cl Try.prog n_flumeref02_Number #[.slice p0.a p0.n p0.c, .int .i64 0] .L w fun (x3 : Sl) w4 => Q x3 w4
theorem flumeref02_Flag.t (p0 : Sl) (p1 : Bool) (Q : Sl → World → Prop) (w : World) : flumeref02_Flag p0 p1 Q w = fvc Try.prog (fun _ => []) Try.f22 .L [Kd.av .L p0, Kd.av .B p1] w Q := by kernel_rfl
theorem flumeref02_Flag.k : fnOk Try.prog Try.f22 = true := by kernel_rfl
theorem flumeref02_Flag.cl {p0 : Sl} {p1 : Bool} {Q : Sl → World → Prop} {w : World} (h : flumeref02_Flag p0 p1 Q w) : cl Try.prog n_flumeref02_Flag #[.slice p0.a p0.n p0.c, .bool p1] .L w Q :=
  cl_of Try.func22 flumeref02_Flag.k (args := [Kd.av .L p0, Kd.av .B p1]) (Eq.mp (flumeref02_Flag.t p0 p1 Q w) h)

/-- slices.Clone[[]int,int] -/
def slices_Clone_int_int (p0 : Sl) (Q : Sl → World → Prop) (w : World) : Prop :=
 bif p0.a.isNone then
 (Q ⟨none, 0, 0⟩ w)
 else nw w [] t_int fun a1 w2 => app Try.prog t_s_int t_s_int ⟨(some a1), 0, 0⟩ p0 w2 fun r3 w4 => Q r3 w4
theorem slices_Clone_int_int.t (p0 : Sl) (Q : Sl → World → Prop) (w : World) : slices_Clone_int_int p0 Q w = fvc Try.prog (fun _ => []) Try.f23 .L [Kd.av .L p0] w Q := by kernel_rfl
theorem slices_Clone_int_int.k : fnOk Try.prog Try.f23 = true := by kernel_rfl
theorem slices_Clone_int_int.cl {p0 : Sl} {Q : Sl → World → Prop} {w : World} (h : slices_Clone_int_int p0 Q w) : cl Try.prog n_slices_Clone_int_int #[.slice p0.a p0.n p0.c] .L w Q :=
  cl_of Try.func23 slices_Clone_int_int.k (args := [Kd.av .L p0]) (Eq.mp (slices_Clone_int_int.t p0 Q w) h)

/-- flume/octet.Numbers -/
def an_octet_Numbers : Nat → LA
  | 2 => [(0, .L), (9, (.I .i64))] | _ => []
def octet_Numbers (p0 : Sl) (p1 : Sl) (Q : Sl → World → Prop) (w : World) : Prop :=
 lp (α := (Sl × (Int × Unit))) (fun K => K (p0, (0, ()))) w fun D3 J4 s1 w2 =>
 bif (decide (s1.2.1 < (p1.n : Int))) then
  (ixa p1.a p1.n s1.2.1 1 fun a5 => ld (.I .i64) w2 a5 fun (x6 : Int) => cl Try.prog n_octet_Number #[.slice s1.1.a s1.1.n s1.1.c, .int .i64 x6] .L w2 fun (x7 : Sl) w8 => J4 (x7, ((IntKind.i64.wrap (s1.2.1 + 1)), ())) w8)
  else Q s1.1 w2
theorem octet_Numbers.t (p0 : Sl) (p1 : Sl) (Q : Sl → World → Prop) (w : World) : octet_Numbers p0 p1 Q w = fvc Try.prog an_octet_Numbers Try.f24 .L [Kd.av .L p0, Kd.av .L p1] w Q := by kernel_rfl
theorem octet_Numbers.k : fnOk Try.prog Try.f24 = true := by kernel_rfl
theorem octet_Numbers.cl {p0 : Sl} {p1 : Sl} {Q : Sl → World → Prop} {w : World} (h : octet_Numbers p0 p1 Q w) : cl Try.prog n_octet_Numbers #[.slice p0.a p0.n p0.c, .slice p1.a p1.n p1.c] .L w Q :=
  cl_of Try.func24 octet_Numbers.k (args := [Kd.av .L p0, Kd.av .L p1]) (Eq.mp (octet_Numbers.t p0 p1 Q w) h)

/-- slices.Equal[[]int,int] -/
def an_slices_Equal_int_int : Nat → LA
  | 4 => [(13, (.I .i64))] | _ => []
def slices_Equal_int_int (p0 : Sl) (p1 : Sl) (Q : Bool → World → Prop) (w : World) : Prop :=
 bif ((p0.n : Int) != (p1.n : Int)) then
 (Q false w)
 else lp (α := (Int × Unit)) (fun K => K (0, ())) w fun D3 J4 s1 w2 =>
 bif (decide (s1.1 < (p0.n : Int))) then
  (ixa p0.a p0.n s1.1 1 fun a5 => ld (.I .i64) w2 a5 fun (x6 : Int) => ixa p1.a p1.n s1.1 1 fun a7 => ld (.I .i64) w2 a7 fun (x8 : Int) => dr w2 fun w9 => bif (x6 != x8) then
  (Q false w9)
  else J4 ((IntKind.i64.wrap (s1.1 + 1)), ()) w9)
  else Q true w2
theorem slices_Equal_int_int.t (p0 : Sl) (p1 : Sl) (Q : Bool → World → Prop) (w : World) : slices_Equal_int_int p0 p1 Q w = fvc Try.prog an_slices_Equal_int_int Try.f25 .B [Kd.av .L p0, Kd.av .L p1] w Q := by kernel_rfl
theorem slices_Equal_int_int.k : fnOk Try.prog Try.f25 = true := by kernel_rfl
theorem slices_Equal_int_int.cl {p0 : Sl} {p1 : Sl} {Q : Bool → World → Prop} {w : World} (h : slices_Equal_int_int p0 p1 Q w) : cl Try.prog n_slices_Equal_int_int #[.slice p0.a p0.n p0.c, .slice p1.a p1.n p1.c] .B w Q :=
  cl_of Try.func25 slices_Equal_int_int.k (args := [Kd.av .L p0, Kd.av .L p1]) (Eq.mp (slices_Equal_int_int.t p0 p1 Q w) h)

/-- flume/octet.Read -/
def octet_Read (p0 : Sl) (Q : Option Addr → World → Prop) (w : World) : Prop :=
 nw w [] t_uint8 fun a1 w2 => app Try.prog t_s_uint8 t_s_uint8 ⟨(some a1), 0, 0⟩ p0 w2 fun r3 w4 => nw w4 ([.slice r3.a r3.n r3.c, .bool true]) t_octet_Reader fun a5 w6 => Q (some a5) w6
theorem octet_Read.t (p0 : Sl) (Q : Option Addr → World → Prop) (w : World) : octet_Read p0 Q w = fvc Try.prog (fun _ => []) Try.f26 .P [Kd.av .L p0] w Q := by kernel_rfl
theorem octet_Read.k : fnOk Try.prog Try.f26 = true := by kernel_rfl
theorem octet_Read.cl {p0 : Sl} {Q : Option Addr → World → Prop} {w : World} (h : octet_Read p0 Q w) : cl Try.prog n_octet_Read #[.slice p0.a p0.n p0.c] .P w Q :=
  cl_of Try.func26 octet_Read.k (args := [Kd.av .L p0]) (Eq.mp (octet_Read.t p0 Q w) h)

/-- (*flume/octet.Reader).Number -/
def octet_Reader_Number (p0 : Option Addr) (Q : (Int × (Int × Unit)) → World → Prop) (w : World) : Prop :=
 bif p0.isNone then
 (Q (0, (6, ())) w)
 else nz p0 fun a1 => ld .B w (a1.add 1) fun (x2 : Bool) => bif (!x2) then
 (Q (0, (6, ())) w)
 else nz p0 fun a3 => ld .L w a3 fun (x4 : Sl) => cl Try.prog n_octet_look #[.slice x4.a x4.n x4.c] (.tup (.pair (.I .i64) (.pair (.I .i64) (.pair (.I .i64) .nil)))) w fun (x5 : (Int × (Int × (Int × Unit)))) w6 => nz p0 fun a7 => ld .L w6 a7 fun (x8 : Sl) => sls x8 x5.2.1 x8.n 1 fun r9 => nz p0 fun a10 => st1 w6 a10 (.slice r9.a r9.n r9.c) fun w11 => Q (x5.1, (x5.2.2.1, ())) w11
theorem octet_Reader_Number.t (p0 : Option Addr) (Q : (Int × (Int × Unit)) → World → Prop) (w : World) : octet_Reader_Number p0 Q w = fvc Try.prog (fun _ => []) Try.f27 (.tup (.pair (.I .i64) (.pair (.I .i64) .nil))) [Kd.av .P p0] w Q := by kernel_rfl
theorem octet_Reader_Number.k : fnOk Try.prog Try.f27 = true := by kernel_rfl
theorem octet_Reader_Number.cl {p0 : Option Addr} {Q : (Int × (Int × Unit)) → World → Prop} {w : World} (h : octet_Reader_Number p0 Q w) : cl Try.prog n_octet_Reader_Number #[.pointer p0] (.tup (.pair (.I .i64) (.pair (.I .i64) .nil))) w Q :=
  cl_of Try.func27 octet_Reader_Number.k (args := [Kd.av .P p0]) (Eq.mp (octet_Reader_Number.t p0 Q w) h)

/-- (*flume/octet.Reader).Text -/
def octet_Reader_Text (p0 : Option Addr) (p1 : Int) (Q : (Sl × (Int × Unit)) → World → Prop) (w : World) : Prop :=
 bif p0.isNone then
 (Q (⟨none, 0, 0⟩, (6, ())) w)
 else nz p0 fun a1 => ld .B w (a1.add 1) fun (x2 : Bool) => bif (!x2) then
 (Q (⟨none, 0, 0⟩, (6, ())) w)
 else nz p0 fun a3 => ld .L w a3 fun (x4 : Sl) => cl Try.prog n_octet_look #[.slice x4.a x4.n x4.c] (.tup (.pair (.I .i64) (.pair (.I .i64) (.pair (.I .i64) .nil)))) w fun (x5 : (Int × (Int × (Int × Unit)))) w6 => bif (x5.2.2.1 != 0) then
 (Q (⟨none, 0, 0⟩, (x5.2.2.1, ())) w6)
 else bif (decide (x5.1 > (max p1 0))) then
 (Q (⟨none, 0, 0⟩, (4, ())) w6)
 else nz p0 fun a7 => ld .L w6 a7 fun (x8 : Sl) => bif (decide (x5.1 > (IntKind.i64.wrap ((x8.n : Int) - x5.2.1)))) then
 (Q (⟨none, 0, 0⟩, (2, ())) w6)
 else nw w6 [] t_uint8 fun a9 w10 => nz p0 fun a11 => ld .L w10 a11 fun (x12 : Sl) => sls x12 x5.2.1 (IntKind.i64.wrap (x5.2.1 + x5.1)) 1 fun r13 => app Try.prog t_s_uint8 t_s_uint8 ⟨(some a9), 0, 0⟩ r13 w10 fun r14 w15 => nz p0 fun a16 => ld .L w15 a16 fun (x17 : Sl) => sls x17 (IntKind.i64.wrap (x5.2.1 + x5.1)) x17.n 1 fun r18 => nz p0 fun a19 => st1 w15 a19 (.slice r18.a r18.n r18.c) fun w20 => Q (r14, (0, ())) w20
theorem octet_Reader_Text.t (p0 : Option Addr) (p1 : Int) (Q : (Sl × (Int × Unit)) → World → Prop) (w : World) : octet_Reader_Text p0 p1 Q w = fvc Try.prog (fun _ => []) Try.f28 (.tup (.pair .L (.pair (.I .i64) .nil))) [Kd.av .P p0, Kd.av (.I .i64) p1] w Q := by kernel_rfl
theorem octet_Reader_Text.k : fnOk Try.prog Try.f28 = true := by kernel_rfl
theorem octet_Reader_Text.cl {p0 : Option Addr} {p1 : Int} {Q : (Sl × (Int × Unit)) → World → Prop} {w : World} (h : octet_Reader_Text p0 p1 Q w) : cl Try.prog n_octet_Reader_Text #[.pointer p0, .int .i64 p1] (.tup (.pair .L (.pair (.I .i64) .nil))) w Q :=
  cl_of Try.func28 octet_Reader_Text.k (args := [Kd.av .P p0, Kd.av (.I .i64) p1]) (Eq.mp (octet_Reader_Text.t p0 p1 Q w) h)

/-- (*flume/octet.Reader).Left -/
def octet_Reader_Left (p0 : Option Addr) (Q : Int → World → Prop) (w : World) : Prop :=
 bif p0.isNone then
 (Q 0 w)
 else nz p0 fun a1 => ld .L w a1 fun (x2 : Sl) => Q (x2.n : Int) w
theorem octet_Reader_Left.t (p0 : Option Addr) (Q : Int → World → Prop) (w : World) : octet_Reader_Left p0 Q w = fvc Try.prog (fun _ => []) Try.f29 (.I .i64) [Kd.av .P p0] w Q := by kernel_rfl
theorem octet_Reader_Left.k : fnOk Try.prog Try.f29 = true := by kernel_rfl
theorem octet_Reader_Left.cl {p0 : Option Addr} {Q : Int → World → Prop} {w : World} (h : octet_Reader_Left p0 Q w) : cl Try.prog n_octet_Reader_Left #[.pointer p0] (.I .i64) w Q :=
  cl_of Try.func29 octet_Reader_Left.k (args := [Kd.av .P p0]) (Eq.mp (octet_Reader_Left.t p0 Q w) h)

/-- (*flume/octet.Reader).Flag -/
def octet_Reader_Flag (p0 : Option Addr) (Q : (Bool × (Int × Unit)) → World → Prop) (w : World) : Prop :=
 bif p0.isNone then
 (Q (false, (6, ())) w)
 else nz p0 fun a1 => ld .B w (a1.add 1) fun (x2 : Bool) => bif (!x2) then
 (Q (false, (6, ())) w)
 else nz p0 fun a3 => ld .L w a3 fun (x4 : Sl) => cl Try.prog n_octet_look #[.slice x4.a x4.n x4.c] (.tup (.pair (.I .i64) (.pair (.I .i64) (.pair (.I .i64) .nil)))) w fun (x5 : (Int × (Int × (Int × Unit)))) w6 => bif (x5.2.2.1 != 0) then
 (Q (false, (x5.2.2.1, ())) w6)
 else bif (decide (x5.1 > 1)) then
 (Q (false, (20, ())) w6)
 else nz p0 fun a7 => ld .L w6 a7 fun (x8 : Sl) => sls x8 x5.2.1 x8.n 1 fun r9 => nz p0 fun a10 => st1 w6 a10 (.slice r9.a r9.n r9.c) fun w11 => Q ((x5.1 == 1), (0, ())) w11
theorem octet_Reader_Flag.t (p0 : Option Addr) (Q : (Bool × (Int × Unit)) → World → Prop) (w : World) : octet_Reader_Flag p0 Q w = fvc Try.prog (fun _ => []) Try.f30 (.tup (.pair .B (.pair (.I .i64) .nil))) [Kd.av .P p0] w Q := by kernel_rfl
theorem octet_Reader_Flag.k : fnOk Try.prog Try.f30 = true := by kernel_rfl
theorem octet_Reader_Flag.cl {p0 : Option Addr} {Q : (Bool × (Int × Unit)) → World → Prop} {w : World} (h : octet_Reader_Flag p0 Q w) : cl Try.prog n_octet_Reader_Flag #[.pointer p0] (.tup (.pair .B (.pair (.I .i64) .nil))) w Q :=
  cl_of Try.func30 octet_Reader_Flag.k (args := [Kd.av .P p0]) (Eq.mp (octet_Reader_Flag.t p0 Q w) h)

/-- (*flume/octet.Reader).End -/
def octet_Reader_End (p0 : Option Addr) (Q : Int → World → Prop) (w : World) : Prop :=
 bif p0.isNone then
 (Q 6 w)
 else nz p0 fun a1 => ld .B w (a1.add 1) fun (x2 : Bool) => bif (!x2) then
 (Q 6 w)
 else nz p0 fun a3 => ld .L w a3 fun (x4 : Sl) => bif (decide ((x4.n : Int) > 0)) then
 (Q 3 w)
 else Q 0 w
theorem octet_Reader_End.t (p0 : Option Addr) (Q : Int → World → Prop) (w : World) : octet_Reader_End p0 Q w = fvc Try.prog (fun _ => []) Try.f31 (.I .i64) [Kd.av .P p0] w Q := by kernel_rfl
theorem octet_Reader_End.k : fnOk Try.prog Try.f31 = true := by kernel_rfl
theorem octet_Reader_End.cl {p0 : Option Addr} {Q : Int → World → Prop} {w : World} (h : octet_Reader_End p0 Q w) : cl Try.prog n_octet_Reader_End #[.pointer p0] (.I .i64) w Q :=
  cl_of Try.func31 octet_Reader_End.k (args := [Kd.av .P p0]) (Eq.mp (octet_Reader_End.t p0 Q w) h)

/-- (*flume/octet.Reader).Within -/
def octet_Reader_Within (p0 : Option Addr) (p1 : Int) (p2 : Int) (Q : (Int × (Int × Unit)) → World → Prop) (w : World) : Prop :=
 bif p0.isNone then
 (Q (0, (6, ())) w)
 else nz p0 fun a1 => ld .B w (a1.add 1) fun (x2 : Bool) => bif (!x2) then
 (Q (0, (6, ())) w)
 else nz p0 fun a3 => ld .L w a3 fun (x4 : Sl) => cl Try.prog n_octet_look #[.slice x4.a x4.n x4.c] (.tup (.pair (.I .i64) (.pair (.I .i64) (.pair (.I .i64) .nil)))) w fun (x5 : (Int × (Int × (Int × Unit)))) w6 => bif (x5.2.2.1 != 0) then
 (Q (0, (x5.2.2.1, ())) w6)
 else bif (decide (x5.1 < p1)) then
 (Q (0, (5, ())) w6)
 else bif (decide (x5.1 > p2)) then
 (Q (0, (5, ())) w6)
 else nz p0 fun a7 => ld .L w6 a7 fun (x8 : Sl) => sls x8 x5.2.1 x8.n 1 fun r9 => nz p0 fun a10 => st1 w6 a10 (.slice r9.a r9.n r9.c) fun w11 => Q (x5.1, (0, ())) w11
theorem octet_Reader_Within.t (p0 : Option Addr) (p1 : Int) (p2 : Int) (Q : (Int × (Int × Unit)) → World → Prop) (w : World) : octet_Reader_Within p0 p1 p2 Q w = fvc Try.prog (fun _ => []) Try.f32 (.tup (.pair (.I .i64) (.pair (.I .i64) .nil))) [Kd.av .P p0, Kd.av (.I .i64) p1, Kd.av (.I .i64) p2] w Q := by kernel_rfl
theorem octet_Reader_Within.k : fnOk Try.prog Try.f32 = true := by kernel_rfl
theorem octet_Reader_Within.cl {p0 : Option Addr} {p1 : Int} {p2 : Int} {Q : (Int × (Int × Unit)) → World → Prop} {w : World} (h : octet_Reader_Within p0 p1 p2 Q w) : cl Try.prog n_octet_Reader_Within #[.pointer p0, .int .i64 p1, .int .i64 p2] (.tup (.pair (.I .i64) (.pair (.I .i64) .nil))) w Q :=
  cl_of Try.func32 octet_Reader_Within.k (args := [Kd.av .P p0, Kd.av (.I .i64) p1, Kd.av (.I .i64) p2]) (Eq.mp (octet_Reader_Within.t p0 p1 p2 Q w) h)

/-- (*flume/octet.Reader).Byte -/
def octet_Reader_Byte (p0 : Option Addr) (Q : (Int × (Int × Unit)) → World → Prop) (w : World) : Prop :=
 bif p0.isNone then
 (Q (0, (6, ())) w)
 else nz p0 fun a1 => ld .B w (a1.add 1) fun (x2 : Bool) => bif (!x2) then
 (Q (0, (6, ())) w)
 else nz p0 fun a3 => ld .L w a3 fun (x4 : Sl) => bif ((x4.n : Int) == 0) then
 (Q (0, (2, ())) w)
 else nz p0 fun a5 => ld .L w a5 fun (x6 : Sl) => ixa x6.a x6.n 0 1 fun a7 => ld (.I .u8) w a7 fun (x8 : Int) => nz p0 fun a9 => ld .L w a9 fun (x10 : Sl) => sls x10 1 x10.n 1 fun r11 => nz p0 fun a12 => st1 w a12 (.slice r11.a r11.n r11.c) fun w13 => Q (x8, (0, ())) w13
theorem octet_Reader_Byte.t (p0 : Option Addr) (Q : (Int × (Int × Unit)) → World → Prop) (w : World) : octet_Reader_Byte p0 Q w = fvc Try.prog (fun _ => []) Try.f33 (.tup (.pair (.I .u8) (.pair (.I .i64) .nil))) [Kd.av .P p0] w Q := by kernel_rfl
theorem octet_Reader_Byte.k : fnOk Try.prog Try.f33 = true := by kernel_rfl
theorem octet_Reader_Byte.cl {p0 : Option Addr} {Q : (Int × (Int × Unit)) → World → Prop} {w : World} (h : octet_Reader_Byte p0 Q w) : cl Try.prog n_octet_Reader_Byte #[.pointer p0] (.tup (.pair (.I .u8) (.pair (.I .i64) .nil))) w Q :=
  cl_of Try.func33 octet_Reader_Byte.k (args := [Kd.av .P p0]) (Eq.mp (octet_Reader_Byte.t p0 Q w) h)

/-- (*flume/flumeref02.Reader).Byte -/
def flumeref02_Reader_Byte (p0 : Option Addr) (Q : (Int × (Int × Unit)) → World → Prop) (w : World) : Prop :=
 nz p0 fun a1 => ld (.I .i64) w (a1.add 1) fun (x2 : Int) => nz p0 fun a3 => ld .L w a3 fun (x4 : Sl) => dr w fun w5 => bif (x2 == (x4.n : Int)) then
 (Q (0, (2, ())) w5)
 else nz p0 fun a6 => ld (.I .i64) w5 (a6.add 1) fun (x7 : Int) => nz p0 fun a8 => st1 w5 (a8.add 1) (.int .i64 (IntKind.i64.wrap (x7 + 1))) fun w9 => nz p0 fun a10 => ld .L w9 a10 fun (x11 : Sl) => nz p0 fun a12 => ld (.I .i64) w9 (a12.add 1) fun (x13 : Int) => ixa x11.a x11.n (IntKind.i64.wrap (x13 - 1)) 1 fun a14 => ld (.I .u8) w9 a14 fun (x15 : Int) => dr w9 fun w16 => Q (x15, (0, ())) w16
theorem flumeref02_Reader_Byte.t (p0 : Option Addr) (Q : (Int × (Int × Unit)) → World → Prop) (w : World) : flumeref02_Reader_Byte p0 Q w = fvc Try.prog (fun _ => []) Try.f34 (.tup (.pair (.I .u8) (.pair (.I .i64) .nil))) [Kd.av .P p0] w Q := by kernel_rfl
theorem flumeref02_Reader_Byte.k : fnOk Try.prog Try.f34 = true := by kernel_rfl
theorem flumeref02_Reader_Byte.cl {p0 : Option Addr} {Q : (Int × (Int × Unit)) → World → Prop} {w : World} (h : flumeref02_Reader_Byte p0 Q w) : cl Try.prog n_flumeref02_Reader_Byte #[.pointer p0] (.tup (.pair (.I .u8) (.pair (.I .i64) .nil))) w Q :=
  cl_of Try.func34 flumeref02_Reader_Byte.k (args := [Kd.av .P p0]) (Eq.mp (flumeref02_Reader_Byte.t p0 Q w) h)

/-- (*flume/flumeref02.Reader).Number -/
def an_flumeref02_Reader_Number : Nat → LA
  | 1000001 => [(0, .nil)] | _ => []
def flumeref02_Reader_Number (p0 : Option Addr) (Q : (Int × (Int × Unit)) → World → Prop) (w : World) : Prop :=
 dr w fun w1 => nz p0 fun a2 => ld .L w1 a2 fun (x3 : Sl) => nz p0 fun a4 => ld (.I .i64) w1 (a4.add 1) fun (x5 : Int) => sls x3 x5 x3.n 1 fun r6 => cl Try.prog n_flumeref02_Look #[.slice r6.a r6.n r6.c] (.tup (.pair (.I .i64) (.pair (.I .i64) (.pair (.I .i64) .nil)))) w1 fun (x7 : (Int × (Int × (Int × Unit)))) w8 => Fr w1 w8 ∧ nz p0 fun a9 => ld (.I .i64) w8 (a9.add 1) fun (x10 : Int) => nz p0 fun a11 => st1 w8 (a11.add 1) (.int .i64 (IntKind.i64.wrap (x10 + x7.2.1))) fun w12 => Q (x7.1, (x7.2.2.1, ())) w12
theorem flumeref02_Reader_Number.t (p0 : Option Addr) (Q : (Int × (Int × Unit)) → World → Prop) (w : World) : flumeref02_Reader_Number p0 Q w = fvc Try.prog an_flumeref02_Reader_Number Try.f35 (.tup (.pair (.I .i64) (.pair (.I .i64) .nil))) [Kd.av .P p0] w Q := by kernel_rfl
theorem flumeref02_Reader_Number.k : fnOk Try.prog Try.f35 = true := by kernel_rfl
theorem flumeref02_Reader_Number.cl {p0 : Option Addr} {Q : (Int × (Int × Unit)) → World → Prop} {w : World} (h : flumeref02_Reader_Number p0 Q w) : cl Try.prog n_flumeref02_Reader_Number #[.pointer p0] (.tup (.pair (.I .i64) (.pair (.I .i64) .nil))) w Q :=
  cl_of Try.func35 flumeref02_Reader_Number.k (args := [Kd.av .P p0]) (Eq.mp (flumeref02_Reader_Number.t p0 Q w) h)

/-- (*flume/flumeref02.Reader).Within -/
def an_flumeref02_Reader_Within : Nat → LA
  | 1000001 => [(0, .nil)] | _ => []
def flumeref02_Reader_Within (p0 : Option Addr) (p1 : Int) (p2 : Int) (Q : (Int × (Int × Unit)) → World → Prop) (w : World) : Prop :=
 dr w fun w1 => nz p0 fun a2 => ld .L w1 a2 fun (x3 : Sl) => nz p0 fun a4 => ld (.I .i64) w1 (a4.add 1) fun (x5 : Int) => sls x3 x5 x3.n 1 fun r6 => cl Try.prog n_flumeref02_Look #[.slice r6.a r6.n r6.c] (.tup (.pair (.I .i64) (.pair (.I .i64) (.pair (.I .i64) .nil)))) w1 fun (x7 : (Int × (Int × (Int × Unit)))) w8 => Fr w1 w8 ∧ bif (x7.2.2.1 == 0) then
 (bif (decide (x7.1 < p1)) then
 (Q (0, (5, ())) w8)
 else bif (decide (x7.1 > p2)) then
 (Q (0, (5, ())) w8)
 else bif (x7.2.2.1 != 0) then
 (Q (0, (x7.2.2.1, ())) w8)
 else nz p0 fun a9 => ld (.I .i64) w8 (a9.add 1) fun (x10 : Int) => nz p0 fun a11 => st1 w8 (a11.add 1) (.int .i64 (IntKind.i64.wrap (x10 + x7.2.1))) fun w12 => Q (x7.1, (0, ())) w12)
 else bif (x7.2.2.1 != 0) then
 (Q (0, (x7.2.2.1, ())) w8)
 else nz p0 fun a13 => ld (.I .i64) w8 (a13.add 1) fun (x14 : Int) => nz p0 fun a15 => st1 w8 (a15.add 1) (.int .i64 (IntKind.i64.wrap (x14 + x7.2.1))) fun w16 => Q (x7.1, (0, ())) w16
theorem flumeref02_Reader_Within.t (p0 : Option Addr) (p1 : Int) (p2 : Int) (Q : (Int × (Int × Unit)) → World → Prop) (w : World) : flumeref02_Reader_Within p0 p1 p2 Q w = fvc Try.prog an_flumeref02_Reader_Within Try.f36 (.tup (.pair (.I .i64) (.pair (.I .i64) .nil))) [Kd.av .P p0, Kd.av (.I .i64) p1, Kd.av (.I .i64) p2] w Q := by kernel_rfl
theorem flumeref02_Reader_Within.k : fnOk Try.prog Try.f36 = true := by kernel_rfl
theorem flumeref02_Reader_Within.cl {p0 : Option Addr} {p1 : Int} {p2 : Int} {Q : (Int × (Int × Unit)) → World → Prop} {w : World} (h : flumeref02_Reader_Within p0 p1 p2 Q w) : cl Try.prog n_flumeref02_Reader_Within #[.pointer p0, .int .i64 p1, .int .i64 p2] (.tup (.pair (.I .i64) (.pair (.I .i64) .nil))) w Q :=
  cl_of Try.func36 flumeref02_Reader_Within.k (args := [Kd.av .P p0, Kd.av (.I .i64) p1, Kd.av (.I .i64) p2]) (Eq.mp (flumeref02_Reader_Within.t p0 p1 p2 Q w) h)
end Go.Proofs.Ytpilmeekncobkaa
