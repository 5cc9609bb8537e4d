/- What the code of Go functions of this seat asks, in numbers, lists and worlds: printed by a program of mine (wip/tools). -/
import Derived.Test.YtpilmeekncobkaaId
set_option linter.unusedVariables false
namespace Go.Proofs.Ytpilmeekncobkaa
open Go.Fl
/-- flume/flumelaw02.OctetSizes -/
def flumelaw02_OctetSizes (p0 : Int) (Q : Bool → World → Prop) (w : World) : Prop :=
 cl Try.prog n_octet_Number #[.slice none 0 0, .int .i64 p0] .L w fun (x1 : Sl) w2 => bif (decide ((x1.n : Int) ≥ 1)) then
 (bif (decide ((x1.n : Int) ≤ 9)) then
 (bif ((x1.n : Int) == 9) then
 (bif ((x1.n : Int) == 1) then
 (cl Try.prog n_flumelaw02_awake #[] .B w2 fun (x3 : Bool) w4 => Q x3 w4)
 else bif decide (0 ≤ (IntKind.i64.wrap (7 * (IntKind.i64.wrap ((x1.n : Int) - 1))))) then (bif (decide ((max p0 0) ≥ (IntKind.i64.wrap (1 * 2 ^ (min (Int.toNat (IntKind.i64.wrap (7 * (IntKind.i64.wrap ((x1.n : Int) - 1))))) 64))))) then
 (cl Try.prog n_flumelaw02_awake #[] .B w2 fun (x5 : Bool) w6 => Q x5 w6)
 else Q false w2) else False)
 else bif decide (0 ≤ (IntKind.i64.wrap (7 * (x1.n : Int)))) then (bif (decide ((max p0 0) < (IntKind.i64.wrap (1 * 2 ^ (min (Int.toNat (IntKind.i64.wrap (7 * (x1.n : Int)))) 64))))) then
 (bif ((x1.n : Int) == 1) then
 (cl Try.prog n_flumelaw02_awake #[] .B w2 fun (x7 : Bool) w8 => Q x7 w8)
 else bif decide (0 ≤ (IntKind.i64.wrap (7 * (IntKind.i64.wrap ((x1.n : Int) - 1))))) then (bif (decide ((max p0 0) ≥ (IntKind.i64.wrap (1 * 2 ^ (min (Int.toNat (IntKind.i64.wrap (7 * (IntKind.i64.wrap ((x1.n : Int) - 1))))) 64))))) then
 (cl Try.prog n_flumelaw02_awake #[] .B w2 fun (x9 : Bool) w10 => Q x9 w10)
 else Q false w2) else False)
 else Q false w2) else False)
 else Q false w2)
 else Q false w2
theorem flumelaw02_OctetSizes.t (p0 : Int) (Q : Bool → World → Prop) (w : World) : flumelaw02_OctetSizes p0 Q w = fvc Try.prog (fun _ => []) Try.f3 .B [Kd.av (.I .i64) p0] w Q := by kernel_rfl
theorem flumelaw02_OctetSizes.k : fnOk Try.prog Try.f3 = true := by kernel_rfl
theorem flumelaw02_OctetSizes.cl {p0 : Int} {Q : Bool → World → Prop} {w : World} (h : flumelaw02_OctetSizes p0 Q w) : cl Try.prog n_flumelaw02_OctetSizes #[.int .i64 p0] .B w Q :=
  cl_of Try.func3 flumelaw02_OctetSizes.k (args := [Kd.av (.I .i64) p0]) (Eq.mp (flumelaw02_OctetSizes.t p0 Q w) h)

/-- flume/flumelaw02.OctetOrder -/
def flumelaw02_OctetOrder (p0 : Int) (p1 : Int) (Q : Bool → World → Prop) (w : World) : Prop :=
 cl Try.prog n_octet_Number #[.slice none 0 0, .int .i64 (max p0 0)] .L w fun (x1 : Sl) w2 => cl Try.prog n_octet_Number #[.slice none 0 0, .int .i64 (max p1 0)] .L w2 fun (x3 : Sl) w4 => cl Try.prog n_bytes_Compare #[.slice x1.a x1.n x1.c, .slice x3.a x3.n x3.c] (.I .i64) w4 fun (x5 : Int) w6 => bif ((decide (x5 < 0)) == (decide ((max p0 0) < (max p1 0)))) then
 (bif ((x5 == 0) == ((max p0 0) == (max p1 0))) then
 (cl Try.prog n_flumelaw02_awake #[] .B w6 fun (x7 : Bool) w8 => Q x7 w8)
 else Q false w6)
 else Q false w6
theorem flumelaw02_OctetOrder.t (p0 : Int) (p1 : Int) (Q : Bool → World → Prop) (w : World) : flumelaw02_OctetOrder p0 p1 Q w = fvc Try.prog (fun _ => []) Try.f4 .B [Kd.av (.I .i64) p0, Kd.av (.I .i64) p1] w Q := by kernel_rfl
theorem flumelaw02_OctetOrder.k : fnOk Try.prog Try.f4 = true := by kernel_rfl
theorem flumelaw02_OctetOrder.cl {p0 : Int} {p1 : Int} {Q : Bool → World → Prop} {w : World} (h : flumelaw02_OctetOrder p0 p1 Q w) : cl Try.prog n_flumelaw02_OctetOrder #[.int .i64 p0, .int .i64 p1] .B w Q :=
  cl_of Try.func4 flumelaw02_OctetOrder.k (args := [Kd.av (.I .i64) p0, Kd.av (.I .i64) p1]) (Eq.mp (flumelaw02_OctetOrder.t p0 p1 Q w) h)

/-- flume/flumelaw02.OctetNumbers -/
def flumelaw02_OctetNumbers (p0 : Sl) (p1 : Int) (Q : Bool → World → Prop) (w : World) : Prop :=
 bif (decide ((p0.n : Int) > 65536)) then
 (cl Try.prog n_flumelaw02_awake #[] .B w fun (x1 : Bool) w2 => Q x1 w2)
 else cl Try.prog n_slices_Clone_byte_byte #[.slice p0.a p0.n p0.c] .L w fun (x3 : Sl) w4 => cl Try.prog n_octet_Number #[.slice x3.a x3.n x3.c, .int .i64 p1] .L w4 fun (x5 : Sl) w6 => cl Try.prog n_flumeref02_Number #[.slice p0.a p0.n p0.c, .int .i64 p1] .L w6 fun (x7 : Sl) w8 => cl Try.prog n_bytes_Equal #[.slice x5.a x5.n x5.c, .slice x7.a x7.n x7.c] .B w8 fun (x9 : Bool) w10 => nw w10 [.int .u8 1] t_uint8 fun a11 w12 => app Try.prog t_s_uint8 t_s_uint8 x5 ⟨(some a11), 1, 1⟩ w12 fun r13 w14 => ixa r13.a r13.n 0 1 fun a15 => ld (.I .u8) w14 a15 fun (x16 : Int) => ixa r13.a r13.n 0 1 fun a17 => st1 w14 a17 (.int .u8 (bits .xor .u8 x16 255)) fun w18 => bif x9 then
 (cl Try.prog n_bytes_Equal #[.slice x3.a x3.n x3.c, .slice p0.a p0.n p0.c] .B w18 fun (x19 : Bool) w20 => bif x19 then
 (cl Try.prog n_flumelaw02_awake #[] .B w20 fun (x21 : Bool) w22 => Q x21 w22)
 else Q false w20)
 else Q false w18
theorem flumelaw02_OctetNumbers.t (p0 : Sl) (p1 : Int) (Q : Bool → World → Prop) (w : World) : flumelaw02_OctetNumbers p0 p1 Q w = fvc Try.prog (fun _ => []) Try.f5 .B [Kd.av .L p0, Kd.av (.I .i64) p1] w Q := by kernel_rfl
theorem flumelaw02_OctetNumbers.k : fnOk Try.prog Try.f5 = true := by kernel_rfl
theorem flumelaw02_OctetNumbers.cl {p0 : Sl} {p1 : Int} {Q : Bool → World → Prop} {w : World} (h : flumelaw02_OctetNumbers p0 p1 Q w) : cl Try.prog n_flumelaw02_OctetNumbers #[.slice p0.a p0.n p0.c, .int .i64 p1] .B w Q :=
  cl_of Try.func5 flumelaw02_OctetNumbers.k (args := [Kd.av .L p0, Kd.av (.I .i64) p1]) (Eq.mp (flumelaw02_OctetNumbers.t p0 p1 Q w) h)

/-- flume/flumelaw02.OctetTexts -/
def flumelaw02_OctetTexts (p0 : Sl) (p1 : Sl) (p2 : Bool) (Q : Bool → World → Prop) (w : World) : Prop :=
 bif (decide ((p0.n : Int) > 65536)) then
 (cl Try.prog n_flumelaw02_awake #[] .B w fun (x1 : Bool) w2 => Q x1 w2)
 else bif (decide ((p1.n : Int) > 65536)) then
 (cl Try.prog n_flumelaw02_awake #[] .B w fun (x3 : Bool) w4 => Q x3 w4)
 else cl Try.prog n_slices_Clone_byte_byte #[.slice p0.a p0.n p0.c] .L w fun (x5 : Sl) w6 => cl Try.prog n_slices_Clone_byte_byte #[.slice p1.a p1.n p1.c] .L w6 fun (x7 : Sl) w8 => cl Try.prog n_octet_Text #[.slice x5.a x5.n x5.c, .slice x7.a x7.n x7.c] .L w8 fun (x9 : Sl) w10 => cl Try.prog n_octet_Flag #[.slice x5.a x5.n x5.c, .bool p2] .L w10 fun (x11 : Sl) w12 => cl Try.prog n_flumeref02_Text #[.slice p0.a p0.n p0.c, .slice p1.a p1.n p1.c] .L w12 fun (x13 : Sl) w14 => cl Try.prog n_bytes_Equal #[.slice x9.a x9.n x9.c, .slice x13.a x13.n x13.c] .B w14 fun (x15 : Bool) w16 => bif x15 then
 (cl Try.prog n_flumeref02_Flag #[.slice p0.a p0.n p0.c, .bool p2] .L w16 fun (x17 : Sl) w18 => cl Try.prog n_bytes_Equal #[.slice x11.a x11.n x11.c, .slice x17.a x17.n x17.c] .B w18 fun (x19 : Bool) w20 => bif x19 then
 (cl Try.prog n_bytes_Equal #[.slice x5.a x5.n x5.c, .slice p0.a p0.n p0.c] .B w20 fun (x21 : Bool) w22 => bif x21 then
 (cl Try.prog n_bytes_Equal #[.slice x7.a x7.n x7.c, .slice p1.a p1.n p1.c] .B w22 fun (x23 : Bool) w24 => bif x23 then
 (cl Try.prog n_flumelaw02_awake #[] .B w24 fun (x25 : Bool) w26 => Q x25 w26)
 else Q false w24)
 else Q false w22)
 else Q false w20)
 else Q false w16
theorem flumelaw02_OctetTexts.t (p0 : Sl) (p1 : Sl) (p2 : Bool) (Q : Bool → World → Prop) (w : World) : flumelaw02_OctetTexts p0 p1 p2 Q w = fvc Try.prog (fun _ => []) Try.f6 .B [Kd.av .L p0, Kd.av .L p1, Kd.av .B p2] w Q := by kernel_rfl
theorem flumelaw02_OctetTexts.k : fnOk Try.prog Try.f6 = true := by kernel_rfl
theorem flumelaw02_OctetTexts.cl {p0 : Sl} {p1 : Sl} {p2 : Bool} {Q : Bool → World → Prop} {w : World} (h : flumelaw02_OctetTexts p0 p1 p2 Q w) : cl Try.prog n_flumelaw02_OctetTexts #[.slice p0.a p0.n p0.c, .slice p1.a p1.n p1.c, .bool p2] .B w Q :=
  cl_of Try.func6 flumelaw02_OctetTexts.k (args := [Kd.av .L p0, Kd.av .L p1, Kd.av .B p2]) (Eq.mp (flumelaw02_OctetTexts.t p0 p1 p2 Q w) h)

/-- flume/flumelaw02.OctetLists -/
def an_flumelaw02_OctetLists : Nat → LA
  | 5 => [(5, .L), (22, (.I .i64))] | _ => []
def flumelaw02_OctetLists (p0 : Sl) (p1 : Sl) (Q : Bool → World → Prop) (w : World) : Prop :=
 bif (decide ((p0.n : Int) > 65536)) then
 (cl Try.prog n_flumelaw02_awake #[] .B w fun (x1 : Bool) w2 => Q x1 w2)
 else bif (decide ((p1.n : Int) > 1000)) then
 (cl Try.prog n_flumelaw02_awake #[] .B w fun (x3 : Bool) w4 => Q x3 w4)
 else cl Try.prog n_slices_Clone_byte_byte #[.slice p0.a p0.n p0.c] .L w fun (x5 : Sl) w6 => lp (α := (Sl × (Int × Unit))) (fun K => K (x5, (0, ()))) w6 fun D9 J10 s7 w8 =>
 bif (decide (s7.2.1 < (p1.n : Int))) then
  (ixa p1.a p1.n s7.2.1 1 fun a11 => ld (.I .i64) w8 a11 fun (x12 : Int) => cl Try.prog n_flumeref02_Number #[.slice s7.1.a s7.1.n s7.1.c, .int .i64 x12] .L w8 fun (x13 : Sl) w14 => J10 (x13, ((IntKind.i64.wrap (s7.2.1 + 1)), ())) w14)
  else cl Try.prog n_slices_Clone_int_int #[.slice p1.a p1.n p1.c] .L w8 fun (x15 : Sl) w16 => cl Try.prog n_octet_Numbers #[.slice p0.a p0.n p0.c, .slice x15.a x15.n x15.c] .L w16 fun (x17 : Sl) w18 => cl Try.prog n_bytes_Equal #[.slice x17.a x17.n x17.c, .slice s7.1.a s7.1.n s7.1.c] .B w18 fun (x19 : Bool) w20 => bif x19 then
 (cl Try.prog n_slices_Equal_int_int #[.slice x15.a x15.n x15.c, .slice p1.a p1.n p1.c] .B w20 fun (x21 : Bool) w22 => bif x21 then
 (cl Try.prog n_flumelaw02_awake #[] .B w22 fun (x23 : Bool) w24 => Q x23 w24)
 else Q false w22)
 else Q false w20
theorem flumelaw02_OctetLists.t (p0 : Sl) (p1 : Sl) (Q : Bool → World → Prop) (w : World) : flumelaw02_OctetLists p0 p1 Q w = fvc Try.prog an_flumelaw02_OctetLists Try.f7 .B [Kd.av .L p0, Kd.av .L p1] w Q := by kernel_rfl
theorem flumelaw02_OctetLists.k : fnOk Try.prog Try.f7 = true := by kernel_rfl
theorem flumelaw02_OctetLists.cl {p0 : Sl} {p1 : Sl} {Q : Bool → World → Prop} {w : World} (h : flumelaw02_OctetLists p0 p1 Q w) : cl Try.prog n_flumelaw02_OctetLists #[.slice p0.a p0.n p0.c, .slice p1.a p1.n p1.c] .B w Q :=
  cl_of Try.func7 flumelaw02_OctetLists.k (args := [Kd.av .L p0, Kd.av .L p1]) (Eq.mp (flumelaw02_OctetLists.t p0 p1 Q w) h)

/-- flume/flumelaw02.OctetCut -/
def flumelaw02_OctetCut (p0 : Int) (p1 : Sl) (p2 : Int) (Q : Bool → World → Prop) (w : World) : Prop :=
 bif (decide ((p1.n : Int) > 65536)) then
 (cl Try.prog n_flumelaw02_awake #[] .B w fun (x1 : Bool) w2 => Q x1 w2)
 else cl Try.prog n_octet_Number #[.slice none 0 0, .int .i64 p0] .L w fun (x3 : Sl) w4 => cl Try.prog n_octet_Text #[.slice none 0 0, .slice p1.a p1.n p1.c] .L w4 fun (x5 : Sl) w6 => bif ((x3.n : Int) == 0) then
 (Q false w6)
 else bif (decide ((x5.n : Int) ≤ (p1.n : Int))) then
 (Q false w6)
 else bif true && !decide ((IntKind.u64.wrap (x3.n : Int)) = 0) then (sls x3 0 (IntKind.i64.wrap (Int.tmod (IntKind.u64.wrap p2) (IntKind.u64.wrap (x3.n : Int)))) 1 fun r7 => cl Try.prog n_octet_Read #[.slice r7.a r7.n r7.c] .P w6 fun (x8 : Option Addr) w9 => cl Try.prog n_octet_Reader_Number #[.pointer x8] (.tup (.pair (.I .i64) (.pair (.I .i64) .nil))) w9 fun (x10 : (Int × (Int × Unit))) w11 => bif true && !decide ((IntKind.u64.wrap (x5.n : Int)) = 0) then (sls x5 0 (IntKind.i64.wrap (Int.tmod (IntKind.u64.wrap p2) (IntKind.u64.wrap (x5.n : Int)))) 1 fun r12 => cl Try.prog n_octet_Read #[.slice r12.a r12.n r12.c] .P w11 fun (x13 : Option Addr) w14 => cl Try.prog n_octet_Reader_Text #[.pointer x13, .int .i64 (p1.n : Int)] (.tup (.pair .L (.pair (.I .i64) .nil))) w14 fun (x15 : (Sl × (Int × Unit))) w16 => bif (x10.2.1 == 2) then
 (bif (x15.2.1 == 2) then
 (cl Try.prog n_flumelaw02_awake #[] .B w16 fun (x17 : Bool) w18 => Q x17 w18)
 else Q false w16)
 else Q false w16) else False) else False
theorem flumelaw02_OctetCut.t (p0 : Int) (p1 : Sl) (p2 : Int) (Q : Bool → World → Prop) (w : World) : flumelaw02_OctetCut p0 p1 p2 Q w = fvc Try.prog (fun _ => []) Try.f8 .B [Kd.av (.I .i64) p0, Kd.av .L p1, Kd.av (.I .i64) p2] w Q := by kernel_rfl
theorem flumelaw02_OctetCut.k : fnOk Try.prog Try.f8 = true := by kernel_rfl
theorem flumelaw02_OctetCut.cl {p0 : Int} {p1 : Sl} {p2 : Int} {Q : Bool → World → Prop} {w : World} (h : flumelaw02_OctetCut p0 p1 p2 Q w) : cl Try.prog n_flumelaw02_OctetCut #[.int .i64 p0, .slice p1.a p1.n p1.c, .int .i64 p2] .B w Q :=
  cl_of Try.func8 flumelaw02_OctetCut.k (args := [Kd.av (.I .i64) p0, Kd.av .L p1, Kd.av (.I .i64) p2]) (Eq.mp (flumelaw02_OctetCut.t p0 p1 p2 Q w) h)

/-- flume/flumelaw02.OctetForm -/
def flumelaw02_OctetForm (p0 : Sl) (Q : Bool → World → Prop) (w : World) : Prop :=
 bif (decide ((p0.n : Int) > 65536)) then
 (cl Try.prog n_flumelaw02_awake #[] .B w fun (x1 : Bool) w2 => Q x1 w2)
 else cl Try.prog n_octet_Read #[.slice p0.a p0.n p0.c] .P w fun (x3 : Option Addr) w4 => cl Try.prog n_octet_Reader_Number #[.pointer x3] (.tup (.pair (.I .i64) (.pair (.I .i64) .nil))) w4 fun (x5 : (Int × (Int × Unit))) w6 => let j1 := (fun  (w39 : World) =>
   cl Try.prog n_octet_Read #[.slice p0.a p0.n p0.c] .P w39 fun (x40 : Option Addr) w41 => cl Try.prog n_octet_Reader_Text #[.pointer x40, .int .i64 (p0.n : Int)] (.tup (.pair .L (.pair (.I .i64) .nil))) w41 fun (x42 : (Sl × (Int × Unit))) w43 => bif (x42.2.1 == 0) then
 (cl Try.prog n_octet_Text #[.slice none 0 0, .slice x42.1.a x42.1.n x42.1.c] .L w43 fun (x44 : Sl) w45 => cl Try.prog n_octet_Reader_Left #[.pointer x40] (.I .i64) w45 fun (x46 : Int) w47 => sls p0 0 (IntKind.i64.wrap ((p0.n : Int) - x46)) 1 fun r48 => cl Try.prog n_bytes_Equal #[.slice x44.a x44.n x44.c, .slice r48.a r48.n r48.c] .B w47 fun (x49 : Bool) w50 => bif x49 then
 (cl Try.prog n_flumelaw02_awake #[] .B w50 fun (x51 : Bool) w52 => Q x51 w52)
 else bif (x42.2.1 != 0) then
 (cl Try.prog n_octet_Reader_Left #[.pointer x40] (.I .i64) w50 fun (x53 : Int) w54 => bif (x53 == (p0.n : Int)) then
 (cl Try.prog n_flumelaw02_awake #[] .B w54 fun (x55 : Bool) w56 => Q x55 w56)
 else Q false w54)
 else Q false w50)
 else bif (x42.2.1 != 0) then
 (cl Try.prog n_octet_Reader_Left #[.pointer x40] (.I .i64) w43 fun (x57 : Int) w58 => bif (x57 == (p0.n : Int)) then
 (cl Try.prog n_flumelaw02_awake #[] .B w58 fun (x59 : Bool) w60 => Q x59 w60)
 else Q false w58)
 else Q false w43);
 bif (x5.2.1 == 0) then
 (cl Try.prog n_octet_Number #[.slice none 0 0, .int .i64 x5.1] .L w6 fun (x7 : Sl) w8 => cl Try.prog n_octet_Reader_Left #[.pointer x3] (.I .i64) w8 fun (x9 : Int) w10 => sls p0 0 (IntKind.i64.wrap ((p0.n : Int) - x9)) 1 fun r11 => cl Try.prog n_bytes_Equal #[.slice x7.a x7.n x7.c, .slice r11.a r11.n r11.c] .B w10 fun (x12 : Bool) w13 => bif (!x12) then
 (Q false w13)
 else bif (x5.2.1 != 0) then
 (cl Try.prog n_octet_Reader_Left #[.pointer x3] (.I .i64) w13 fun (x14 : Int) w15 => bif (x14 != (p0.n : Int)) then
 (Q false w15)
 else j1 w15)
 else j1 w13)
 else bif (x5.2.1 != 0) then
 (cl Try.prog n_octet_Reader_Left #[.pointer x3] (.I .i64) w6 fun (x16 : Int) w17 => bif (x16 != (p0.n : Int)) then
 (Q false w17)
 else j1 w17)
 else j1 w6
theorem flumelaw02_OctetForm.t (p0 : Sl) (Q : Bool → World → Prop) (w : World) : flumelaw02_OctetForm p0 Q w = fvc Try.prog (fun _ => []) Try.f9 .B [Kd.av .L p0] w Q := by kernel_rfl
theorem flumelaw02_OctetForm.k : fnOk Try.prog Try.f9 = true := by kernel_rfl
theorem flumelaw02_OctetForm.cl {p0 : Sl} {Q : Bool → World → Prop} {w : World} (h : flumelaw02_OctetForm p0 Q w) : cl Try.prog n_flumelaw02_OctetForm #[.slice p0.a p0.n p0.c] .B w Q :=
  cl_of Try.func9 flumelaw02_OctetForm.k (args := [Kd.av .L p0]) (Eq.mp (flumelaw02_OctetForm.t p0 Q w) h)

/-- flume/flumelaw02.OctetBack -/
def flumelaw02_OctetBack (p0 : Int) (p1 : Sl) (p2 : Bool) (p3 : Sl) (Q : Bool → World → Prop) (w : World) : Prop :=
 bif (decide ((p1.n : Int) > 65536)) then
 (cl Try.prog n_flumelaw02_awake #[] .B w fun (x1 : Bool) w2 => Q x1 w2)
 else bif (decide ((p3.n : Int) > 65536)) then
 (cl Try.prog n_flumelaw02_awake #[] .B w fun (x3 : Bool) w4 => Q x3 w4)
 else cl Try.prog n_octet_Number #[.slice none 0 0, .int .i64 p0] .L w fun (x5 : Sl) w6 => cl Try.prog n_octet_Text #[.slice x5.a x5.n x5.c, .slice p1.a p1.n p1.c] .L w6 fun (x7 : Sl) w8 => cl Try.prog n_octet_Flag #[.slice x7.a x7.n x7.c, .bool p2] .L w8 fun (x9 : Sl) w10 => app Try.prog t_s_uint8 t_s_uint8 x9 p3 w10 fun r11 w12 => cl Try.prog n_octet_Read #[.slice r11.a r11.n r11.c] .P w12 fun (x13 : Option Addr) w14 => cl Try.prog n_octet_Reader_Number #[.pointer x13] (.tup (.pair (.I .i64) (.pair (.I .i64) .nil))) w14 fun (x15 : (Int × (Int × Unit))) w16 => cl Try.prog n_octet_Reader_Text #[.pointer x13, .int .i64 (p1.n : Int)] (.tup (.pair .L (.pair (.I .i64) .nil))) w16 fun (x17 : (Sl × (Int × Unit))) w18 => cl Try.prog n_octet_Reader_Flag #[.pointer x13] (.tup (.pair .B (.pair (.I .i64) .nil))) w18 fun (x19 : (Bool × (Int × Unit))) w20 => bif (x15.1 == (max p0 0)) then
 (cl Try.prog n_bytes_Equal #[.slice x17.1.a x17.1.n x17.1.c, .slice p1.a p1.n p1.c] .B w20 fun (x21 : Bool) w22 => bif x21 then
 (bif (x19.1 == p2) then
 (bif (x15.2.1 == 0) then
 (bif (x17.2.1 == 0) then
 (bif (x19.2.1 == 0) then
 (cl Try.prog n_octet_Reader_Left #[.pointer x13] (.I .i64) w22 fun (x23 : Int) w24 => bif (x23 == (p3.n : Int)) then
 (cl Try.prog n_octet_Reader_End #[.pointer x13] (.I .i64) w24 fun (x25 : Int) w26 => bif ((x25 == 0) == ((p3.n : Int) == 0)) then
 (cl Try.prog n_flumelaw02_awake #[] .B w26 fun (x27 : Bool) w28 => Q x27 w28)
 else Q false w26)
 else Q false w24)
 else Q false w22)
 else Q false w22)
 else Q false w22)
 else Q false w22)
 else Q false w22)
 else Q false w20
theorem flumelaw02_OctetBack.t (p0 : Int) (p1 : Sl) (p2 : Bool) (p3 : Sl) (Q : Bool → World → Prop) (w : World) : flumelaw02_OctetBack p0 p1 p2 p3 Q w = fvc Try.prog (fun _ => []) Try.f10 .B [Kd.av (.I .i64) p0, Kd.av .L p1, Kd.av .B p2, Kd.av .L p3] w Q := by kernel_rfl
theorem flumelaw02_OctetBack.k : fnOk Try.prog Try.f10 = true := by kernel_rfl
theorem flumelaw02_OctetBack.cl {p0 : Int} {p1 : Sl} {p2 : Bool} {p3 : Sl} {Q : Bool → World → Prop} {w : World} (h : flumelaw02_OctetBack p0 p1 p2 p3 Q w) : cl Try.prog n_flumelaw02_OctetBack #[.int .i64 p0, .slice p1.a p1.n p1.c, .bool p2, .slice p3.a p3.n p3.c] .B w Q :=
  cl_of Try.func10 flumelaw02_OctetBack.k (args := [Kd.av (.I .i64) p0, Kd.av .L p1, Kd.av .B p2, Kd.av .L p3]) (Eq.mp (flumelaw02_OctetBack.t p0 p1 p2 p3 Q w) h)
end Go.Proofs.Ytpilmeekncobkaa
