/- What the code of Go functions of this seat asks, in numbers, lists and worlds: printed by a program of mine (wip/tools). -/
import Derived.Test.YtpilmeekncobkaaId
set_option linter.unusedVariables false
namespace Go.Proofs.Ytpilmeekncobkaa
open Go.Fl
/-- flume/flumelaw02.OctetNobody -/
def an_flumelaw02_OctetNobody : Nat → LA
  | 2 => [(19, (.I .i64))] | _ => []
def flumelaw02_OctetNobody (p0 : (Int × (Int × (Int × Unit)))) (Q : Bool → World → Prop) (w : World) : Prop :=
 nw w ([.int .i64 p0.1, .int .i64 p0.2.1, .int .i64 p0.2.2.1]) t_flumelaw02_Ask fun a1 w2 => nw w2 ([.slice none 0 0, .bool false]) t_octet_Reader fun a3 w4 => nw w4 [.pointer none, .pointer (some a3)] t_p_octet_Reader fun a5 w6 => lp (α := (Int × Unit)) (fun K => K (0, ())) w6 fun D9 J10 s7 w8 =>
 bif (decide (s7.1 < 2)) then
  (ixa (some a5) 2 s7.1 1 fun a11 => ld .P w8 a11 fun (x12 : Option Addr) => cl Try.prog n_octet_Reader_Number #[.pointer x12] (.tup (.pair (.I .i64) (.pair (.I .i64) .nil))) w8 fun (x13 : (Int × (Int × Unit))) w14 => ld (.I .i64) w14 (a1.add 1) fun (x15 : Int) => ld (.I .i64) w14 (a1.add 2) fun (x16 : Int) => cl Try.prog n_octet_Reader_Within #[.pointer x12, .int .i64 x15, .int .i64 x16] (.tup (.pair (.I .i64) (.pair (.I .i64) .nil))) w14 fun (x17 : (Int × (Int × Unit))) w18 => ld (.I .i64) w18 (a1.add 2) fun (x19 : Int) => cl Try.prog n_octet_Reader_Text #[.pointer x12, .int .i64 x19] (.tup (.pair .L (.pair (.I .i64) .nil))) w18 fun (x20 : (Sl × (Int × Unit))) w21 => cl Try.prog n_octet_Reader_Flag #[.pointer x12] (.tup (.pair .B (.pair (.I .i64) .nil))) w21 fun (x22 : (Bool × (Int × Unit))) w23 => cl Try.prog n_octet_Reader_Byte #[.pointer x12] (.tup (.pair (.I .u8) (.pair (.I .i64) .nil))) w23 fun (x24 : (Int × (Int × Unit))) w25 => bif (x24.1 != 0) then
  (Q false w25)
  else bif (x24.2.1 != 6) then
  (Q false w25)
  else cl Try.prog n_octet_Reader_Left #[.pointer x12] (.I .i64) w25 fun (x26 : Int) w27 => bif ((IntKind.i64.wrap ((IntKind.i64.wrap ((IntKind.i64.wrap (x13.1 + x17.1)) + (x20.1.n : Int))) + x26)) != 0) then
  (Q false w27)
  else bif x22.1 then
  (Q false w27)
  else bif (x13.2.1 != 6) then
  (Q false w27)
  else bif (x17.2.1 != 6) then
  (Q false w27)
  else bif (x20.2.1 != 6) then
  (Q false w27)
  else bif (x22.2.1 != 6) then
  (Q false w27)
  else cl Try.prog n_octet_Reader_End #[.pointer x12] (.I .i64) w27 fun (x28 : Int) w29 => bif (x28 != 6) then
  (Q false w29)
  else J10 ((IntKind.i64.wrap (s7.1 + 1)), ()) w29)
  else cl Try.prog n_flumelaw02_awake #[] .B w8 fun (x30 : Bool) w31 => Q x30 w31
theorem flumelaw02_OctetNobody.t (p0 : (Int × (Int × (Int × Unit)))) (Q : Bool → World → Prop) (w : World) : flumelaw02_OctetNobody p0 Q w = fvc Try.prog an_flumelaw02_OctetNobody Try.f11 .B [Kd.av (.pair (.I .i64) (.pair (.I .i64) (.pair (.I .i64) .nil))) p0] w Q := by kernel_rfl
theorem flumelaw02_OctetNobody.k : fnOk Try.prog Try.f11 = true := by kernel_rfl
theorem flumelaw02_OctetNobody.cl {p0 : (Int × (Int × (Int × Unit)))} {Q : Bool → World → Prop} {w : World} (h : flumelaw02_OctetNobody p0 Q w) : cl Try.prog n_flumelaw02_OctetNobody #[.agg ([.int .i64 p0.1, .int .i64 p0.2.1, .int .i64 p0.2.2.1]).toArray] .B w Q :=
  cl_of Try.func11 flumelaw02_OctetNobody.k (args := [Kd.av (.pair (.I .i64) (.pair (.I .i64) (.pair (.I .i64) .nil))) p0]) (Eq.mp (flumelaw02_OctetNobody.t p0 Q w) h)

/-- flume/flumelaw02.OctetReads -/
def an_flumelaw02_OctetReads : Nat → LA
  | 6 => [(42, (.I .i64))] | 11 => [(54, (.I .i64))] | 38 => [(178, (.I .i64))] | 1000043 => [(0, .nil)] | _ => []
def flumelaw02_OctetReads (p0 : Sl) (p1 : Sl) (Q : Bool → World → Prop) (w : World) : Prop :=
 bif (decide ((p0.n : Int) > 65536)) then
 (cl Try.prog n_flumelaw02_awake #[] .B w fun (x1 : Bool) w2 => Q x1 w2)
 else bif (decide ((p1.n : Int) > 1000)) then
 (cl Try.prog n_flumelaw02_awake #[] .B w fun (x3 : Bool) w4 => Q x3 w4)
 else cl Try.prog n_slices_Clone_byte_byte #[.slice p0.a p0.n p0.c] .L w fun (x5 : Sl) w6 => cl Try.prog n_octet_Read #[.slice x5.a x5.n x5.c] .P w6 fun (x7 : Option Addr) w8 => nw w8 ([.slice p0.a p0.n p0.c, .int .i64 0]) t_flumeref02_Reader fun a9 w10 => lp (α := (Int × Unit)) (fun K => K (0, ())) w10 fun D13 J14 s11 w12 =>
 bif (decide (s11.1 < (x5.n : Int))) then
  (ixa x5.a x5.n s11.1 1 fun a15 => ld (.I .u8) w12 a15 fun (x16 : Int) => ixa x5.a x5.n s11.1 1 fun a17 => st1 w12 a17 (.int .u8 (bits .xor .u8 x16 255)) fun w18 => J14 ((IntKind.i64.wrap (s11.1 + 1)), ()) w18)
  else lp (α := (Int × Unit)) (fun K => K (0, ())) w12 fun D21 J22 s19 w20 =>
 bif (decide (s19.1 < (p1.n : Int))) then
  (ixa p1.a p1.n s19.1 3 fun a23 => ld (.pair (.I .i64) (.pair (.I .i64) (.pair (.I .i64) .nil))) w20 a23 fun (x24 : (Int × (Int × (Int × Unit)))) => nw w20 [.int .i64 0, .int .i64 0, .int .i64 0] t_flumelaw02_Ask fun a25 w26 => st1 w26 a25 (.int .i64 x24.1) fun w27 => st1 w27 (a25.add 1) (.int .i64 x24.2.1) fun w28 => st1 w28 ((a25.add 1).add 1) (.int .i64 x24.2.2.1) fun w29 => let j1 := (fun (y77 : Sl) (y78 : Sl) (y79 : Int) (y80 : Int) (y81 : Bool) (y82 : Bool) (y83 : Int) (y84 : Int) (w85 : World) =>
    bif (y79 != y80) then (dr w85 fun w86 => Q false w86) else bif (!(y81 == y82)) then (dr w85 fun w87 => Q false w87) else qcl Try.prog n_bytes_Equal #[.slice y77.a y77.n y77.c, .slice y78.a y78.n y78.c] .B w85 fun (x88 : Bool) => bif (!x88) then (dr w85 fun w89 => Q false w89) else bif (y83 != y84) then (dr w85 fun w90 => Q false w90) else qcl Try.prog n_octet_Reader_Left #[.pointer x7] (.I .i64) w85 fun (x91 : Int) => ld (.I .i64) w85 (a9.add 1) fun (x92 : Int) => dr w85 fun w93 => bif (x91 != (IntKind.i64.wrap ((p0.n : Int) - x92))) then
  (Q false w93)
  else lp (α := (Int × Unit)) (fun K => K (0, ())) w93 fun D96 J97 s94 w95 =>
  bif (decide (s94.1 < (y77.n : Int))) then
   (ixa y77.a y77.n s94.1 1 fun a98 => ld (.I .u8) w95 a98 fun (x99 : Int) => ixa y77.a y77.n s94.1 1 fun a100 => st1 w95 a100 (.int .u8 (bits .xor .u8 x99 255)) fun w101 => J97 ((IntKind.i64.wrap (s94.1 + 1)), ()) w101)
   else J22 ((IntKind.i64.wrap (s19.1 + 1)), ()) w95);
  ld (.I .i64) w29 a25 fun (x30 : Int) => bif ((IntKind.i64.wrap (Int.tmod (IntKind.u64.wrap x30) 6)) == 5) then
  (cl Try.prog n_octet_Reader_Byte #[.pointer x7] (.tup (.pair (.I .u8) (.pair (.I .i64) .nil))) w29 fun (x31 : (Int × (Int × Unit))) w32 => cl Try.prog n_flumeref02_Reader_Byte #[.pointer (some a9)] (.tup (.pair (.I .u8) (.pair (.I .i64) .nil))) w32 fun (x33 : (Int × (Int × Unit))) w34 => j1 ⟨none, 0, 0⟩ ⟨none, 0, 0⟩ (IntKind.i64.wrap x31.1) (IntKind.i64.wrap x33.1) false false x31.2.1 x33.2.1 w34)
  else bif ((IntKind.i64.wrap (Int.tmod (IntKind.u64.wrap x30) 6)) == 0) then
  (cl Try.prog n_octet_Reader_Number #[.pointer x7] (.tup (.pair (.I .i64) (.pair (.I .i64) .nil))) w29 fun (x35 : (Int × (Int × Unit))) w36 => cl Try.prog n_flumeref02_Reader_Number #[.pointer (some a9)] (.tup (.pair (.I .i64) (.pair (.I .i64) .nil))) w36 fun (x37 : (Int × (Int × Unit))) w38 => j1 ⟨none, 0, 0⟩ ⟨none, 0, 0⟩ x35.1 x37.1 false false x35.2.1 x37.2.1 w38)
  else bif ((IntKind.i64.wrap (Int.tmod (IntKind.u64.wrap x30) 6)) == 1) then
  (ld (.I .i64) w29 (a25.add 1) fun (x39 : Int) => ld (.I .i64) w29 (a25.add 2) fun (x40 : Int) => cl Try.prog n_octet_Reader_Within #[.pointer x7, .int .i64 x39, .int .i64 x40] (.tup (.pair (.I .i64) (.pair (.I .i64) .nil))) w29 fun (x41 : (Int × (Int × Unit))) w42 => ld (.I .i64) w42 (a25.add 1) fun (x43 : Int) => ld (.I .i64) w42 (a25.add 2) fun (x44 : Int) => cl Try.prog n_flumeref02_Reader_Within #[.pointer (some a9), .int .i64 x43, .int .i64 x44] (.tup (.pair (.I .i64) (.pair (.I .i64) .nil))) w42 fun (x45 : (Int × (Int × Unit))) w46 => j1 ⟨none, 0, 0⟩ ⟨none, 0, 0⟩ x41.1 x45.1 false false x41.2.1 x45.2.1 w46)
  else bif ((IntKind.i64.wrap (Int.tmod (IntKind.u64.wrap x30) 6)) == 2) then
  (ld (.I .i64) w29 (a25.add 2) fun (x47 : Int) => cl Try.prog n_octet_Reader_Text #[.pointer x7, .int .i64 x47] (.tup (.pair .L (.pair (.I .i64) .nil))) w29 fun (x48 : (Sl × (Int × Unit))) w49 => ld (.I .i64) w49 (a25.add 2) fun (x50 : Int) => cl Try.prog n_flumeref02_Reader_Text #[.pointer (some a9), .int .i64 x50] (.tup (.pair .L (.pair (.I .i64) .nil))) w49 fun (x51 : (Sl × (Int × Unit))) w52 => j1 x48.1 x51.1 0 0 false false x48.2.1 x51.2.1 w52)
  else bif ((IntKind.i64.wrap (Int.tmod (IntKind.u64.wrap x30) 6)) == 3) then
  (cl Try.prog n_octet_Reader_Flag #[.pointer x7] (.tup (.pair .B (.pair (.I .i64) .nil))) w29 fun (x53 : (Bool × (Int × Unit))) w54 => cl Try.prog n_flumeref02_Reader_Flag #[.pointer (some a9)] (.tup (.pair .B (.pair (.I .i64) .nil))) w54 fun (x55 : (Bool × (Int × Unit))) w56 => j1 ⟨none, 0, 0⟩ ⟨none, 0, 0⟩ 0 0 x53.1 x55.1 x53.2.1 x55.2.1 w56)
  else cl Try.prog n_octet_Reader_End #[.pointer x7] (.I .i64) w29 fun (x57 : Int) w58 => cl Try.prog n_flumeref02_Reader_End #[.pointer (some a9)] (.I .i64) w58 fun (x59 : Int) w60 => j1 ⟨none, 0, 0⟩ ⟨none, 0, 0⟩ 0 0 false false x57 x59 w60)
  else dr w20 fun w102 => ld (.I .i64) w102 (a9.add 1) fun (x103 : Int) => cl Try.prog n_octet_Reader_Left #[.pointer x7] (.I .i64) w102 fun (x104 : Int) w105 => Fr w102 w105 ∧ bif (x104 == (IntKind.i64.wrap ((p0.n : Int) - x103))) then (cl Try.prog n_flumelaw02_awake #[] .B w105 fun (x106 : Bool) w107 => Fr w105 w107 ∧ Q x106 w107) else (Q false w105)
theorem flumelaw02_OctetReads.t (p0 : Sl) (p1 : Sl) (Q : Bool → World → Prop) (w : World) : flumelaw02_OctetReads p0 p1 Q w = fvc Try.prog an_flumelaw02_OctetReads Try.f12 .B [Kd.av .L p0, Kd.av .L p1] w Q := by kernel_rfl
theorem flumelaw02_OctetReads.k : fnOk Try.prog Try.f12 = true := by kernel_rfl
theorem flumelaw02_OctetReads.cl {p0 : Sl} {p1 : Sl} {Q : Bool → World → Prop} {w : World} (h : flumelaw02_OctetReads p0 p1 Q w) : cl Try.prog n_flumelaw02_OctetReads #[.slice p0.a p0.n p0.c, .slice p1.a p1.n p1.c] .B w Q :=
  cl_of Try.func12 flumelaw02_OctetReads.k (args := [Kd.av .L p0, Kd.av .L p1]) (Eq.mp (flumelaw02_OctetReads.t p0 p1 Q w) h)

/-- flume/octet.Number -/
def an_octet_Number : Nat → LA
  | 8 => [(8, .L), (9, (.I .i64))] | _ => []
def octet_Number (p0 : Sl) (p1 : Int) (Q : Sl → World → Prop) (w : World) : Prop :=
 cl Try.prog n_octet_more #[.int .u64 (IntKind.u64.wrap (max p1 0))] (.I .i64) w fun (x1 : Int) w2 => bif decide (0 ≤ (IntKind.i64.wrap (8 - x1))) then (let j1 := (fun (y19 : Int) (w20 : World) =>
   mks Try.prog t_s_uint8 0 (IntKind.i64.wrap ((p0.n : Int) + 9)) w20 fun r21 w22 => app Try.prog t_s_uint8 t_s_uint8 r21 p0 w22 fun r23 w24 => nw w24 [.int .u8 y19] t_uint8 fun a25 w26 => app Try.prog t_s_uint8 t_s_uint8 r23 ⟨(some a25), 1, 1⟩ w26 fun r27 w28 => lp (α := (Sl × (Int × Unit))) (fun K => K (r27, ((IntKind.i64.wrap (x1 - 1)), ()))) w28 fun D31 J32 s29 w30 =>
 bif (decide (s29.2.1 ≥ 0)) then
  (bif decide (0 ≤ (IntKind.i64.wrap (8 * s29.2.1))) then (nw w30 [.int .u8 (IntKind.u8.wrap ((IntKind.u64.wrap (max p1 0)) / 2 ^ (min (Int.toNat (IntKind.i64.wrap (8 * s29.2.1))) 64)))] t_uint8 fun a33 w34 => app Try.prog t_s_uint8 t_s_uint8 s29.1 ⟨(some a33), 1, 1⟩ w34 fun r35 w36 => J32 (r35, ((IntKind.i64.wrap (s29.2.1 - 1)), ())) w36) else False)
  else Q s29.1 w30);
 bif (decide (x1 < 8)) then
 (bif decide (0 ≤ (IntKind.i64.wrap (8 * x1))) then (j1 (bits .or .u8 (IntKind.u8.wrap (255 * 2 ^ (min (Int.toNat (IntKind.i64.wrap (8 - x1))) 8))) (IntKind.u8.wrap ((IntKind.u64.wrap (max p1 0)) / 2 ^ (min (Int.toNat (IntKind.i64.wrap (8 * x1))) 64)))) w2) else False)
 else j1 (IntKind.u8.wrap (255 * 2 ^ (min (Int.toNat (IntKind.i64.wrap (8 - x1))) 8))) w2) else False
theorem octet_Number.t (p0 : Sl) (p1 : Int) (Q : Sl → World → Prop) (w : World) : octet_Number p0 p1 Q w = fvc Try.prog an_octet_Number Try.f13 .L [Kd.av .L p0, Kd.av (.I .i64) p1] w Q := by kernel_rfl
theorem octet_Number.k : fnOk Try.prog Try.f13 = true := by kernel_rfl
theorem octet_Number.cl {p0 : Sl} {p1 : Int} {Q : Sl → World → Prop} {w : World} (h : octet_Number p0 p1 Q w) : cl Try.prog n_octet_Number #[.slice p0.a p0.n p0.c, .int .i64 p1] .L w Q :=
  cl_of Try.func13 octet_Number.k (args := [Kd.av .L p0, Kd.av (.I .i64) p1]) (Eq.mp (octet_Number.t p0 p1 Q w) h)

/-- flume/flumelaw02.awake -/
def flumelaw02_awake  (Q : Bool → World → Prop) (w : World) : Prop :=
 cl Try.prog n_octet_Number #[.slice none 0 0, .int .i64 16384] .L w fun (x1 : Sl) w2 => bstr w2 x1 fun z3 => bif (beqB ⟨z3.toArray⟩ ⟨#[192, 64, 0]⟩) then
 (nw w2 [.int .i64 128, .int .i64 0] t_int fun a4 w5 => cl Try.prog n_octet_Numbers #[.slice none 0 0, .slice (some a4) 2 2] .L w5 fun (x6 : Sl) w7 => bstr w7 x6 fun z8 => Q (beqB ⟨z8.toArray⟩ ⟨#[128, 128, 0]⟩) w7)
 else Q false w2
theorem flumelaw02_awake.t  (Q : Bool → World → Prop) (w : World) : flumelaw02_awake  Q w = fvc Try.prog (fun _ => []) Try.f14 .B [] w Q := by kernel_rfl
theorem flumelaw02_awake.k : fnOk Try.prog Try.f14 = true := by kernel_rfl
theorem flumelaw02_awake.cl  {Q : Bool → World → Prop} {w : World} (h : flumelaw02_awake  Q w) : cl Try.prog n_flumelaw02_awake #[] .B w Q :=
  cl_of Try.func14 flumelaw02_awake.k (args := []) (Eq.mp (flumelaw02_awake.t  Q w) h)

/-- bytes.Compare -/
def bytes_Compare (p0 : Sl) (p1 : Sl) (Q : Int → World → Prop) (w : World) : Prop :=
 ex Try.prog n_internal_bytealg_Compare #[.slice p0.a p0.n p0.c, .slice p1.a p1.n p1.c] (.I .i64) w fun (x1 : Int) w2 => Q x1 w2
theorem bytes_Compare.t (p0 : Sl) (p1 : Sl) (Q : Int → World → Prop) (w : World) : bytes_Compare p0 p1 Q w = fvc Try.prog (fun _ => []) Try.f15 (.I .i64) [Kd.av .L p0, Kd.av .L p1] w Q := by kernel_rfl
theorem bytes_Compare.k : fnOk Try.prog Try.f15 = true := by kernel_rfl
theorem bytes_Compare.cl {p0 : Sl} {p1 : Sl} {Q : Int → World → Prop} {w : World} (h : bytes_Compare p0 p1 Q w) : cl Try.prog n_bytes_Compare #[.slice p0.a p0.n p0.c, .slice p1.a p1.n p1.c] (.I .i64) w Q :=
  cl_of Try.func15 bytes_Compare.k (args := [Kd.av .L p0, Kd.av .L p1]) (Eq.mp (bytes_Compare.t p0 p1 Q w) h)

/-- slices.Clone[[]byte,byte] -/
def slices_Clone_byte_byte (p0 : Sl) (Q : Sl → World → Prop) (w : World) : Prop :=
 bif p0.a.isNone then
 (Q ⟨none, 0, 0⟩ w)
 else nw w [] t_uint8 fun a1 w2 => app Try.prog t_s_uint8 t_s_uint8 ⟨(some a1), 0, 0⟩ p0 w2 fun r3 w4 => Q r3 w4
theorem slices_Clone_byte_byte.t (p0 : Sl) (Q : Sl → World → Prop) (w : World) : slices_Clone_byte_byte p0 Q w = fvc Try.prog (fun _ => []) Try.f16 .L [Kd.av .L p0] w Q := by kernel_rfl
theorem slices_Clone_byte_byte.k : fnOk Try.prog Try.f16 = true := by kernel_rfl
theorem slices_Clone_byte_byte.cl {p0 : Sl} {Q : Sl → World → Prop} {w : World} (h : slices_Clone_byte_byte p0 Q w) : cl Try.prog n_slices_Clone_byte_byte #[.slice p0.a p0.n p0.c] .L w Q :=
  cl_of Try.func16 slices_Clone_byte_byte.k (args := [Kd.av .L p0]) (Eq.mp (slices_Clone_byte_byte.t p0 Q w) h)

/-- flume/flumeref02.Number -/
def an_flumeref02_Number : Nat → LA
  | 5 => [(1, (.I .i64)), (6, .L), (13, (.I .i64))] | _ => []
def flumeref02_Number (p0 : Sl) (p1 : Int) (Q : Sl → World → Prop) (w : World) : Prop :=
 cl Try.prog n_flumeref02_Follow #[.int .i64 (max p1 0)] (.I .i64) w fun (x1 : Int) w2 => lp (α := (Int × (Sl × (Int × Unit)))) (fun K => K ((max p1 0), (⟨none, 0, 0⟩, (0, ())))) w2 fun D5 J6 s3 w4 =>
 bif (decide (s3.2.2.1 < x1)) then
  (nw w4 [.int .u8 (IntKind.u8.wrap (Int.tmod s3.1 256))] t_uint8 fun a7 w8 => app Try.prog t_s_uint8 t_s_uint8 ⟨(some a7), 1, 1⟩ s3.2.1 w8 fun r9 w10 => J6 ((IntKind.i64.wrap (Int.tdiv s3.1 256)), (r9, ((IntKind.i64.wrap (s3.2.2.1 + 1)), ()))) w10)
  else nw w4 [] t_uint8 fun a11 w12 => app Try.prog t_s_uint8 t_s_uint8 ⟨(some a11), 0, 0⟩ p0 w12 fun r13 w14 => cl Try.prog n_flumeref02_Lead #[.int .i64 x1] (.I .i64) w14 fun (x15 : Int) w16 => nw w16 [.int .u8 (IntKind.u8.wrap (IntKind.i64.wrap (x15 + s3.1)))] t_uint8 fun a17 w18 => app Try.prog t_s_uint8 t_s_uint8 r13 ⟨(some a17), 1, 1⟩ w18 fun r19 w20 => app Try.prog t_s_uint8 t_s_uint8 r19 s3.2.1 w20 fun r21 w22 => Q r21 w22
theorem flumeref02_Number.t (p0 : Sl) (p1 : Int) (Q : Sl → World → Prop) (w : World) : flumeref02_Number p0 p1 Q w = fvc Try.prog an_flumeref02_Number Try.f18 .L [Kd.av .L p0, Kd.av (.I .i64) p1] w Q := by kernel_rfl
theorem flumeref02_Number.k : fnOk Try.prog Try.f18 = true := by kernel_rfl
theorem flumeref02_Number.cl {p0 : Sl} {p1 : Int} {Q : Sl → World → Prop} {w : World} (h : flumeref02_Number p0 p1 Q w) : cl Try.prog n_flumeref02_Number #[.slice p0.a p0.n p0.c, .int .i64 p1] .L w Q :=
  cl_of Try.func18 flumeref02_Number.k (args := [Kd.av .L p0, Kd.av (.I .i64) p1]) (Eq.mp (flumeref02_Number.t p0 p1 Q w) h)

/-- bytes.Equal -/
def bytes_Equal (p0 : Sl) (p1 : Sl) (Q : Bool → World → Prop) (w : World) : Prop :=
 bstr w p0 fun z1 => bstr w p1 fun z2 => Q (beqB ⟨z1.toArray⟩ ⟨z2.toArray⟩) w
theorem bytes_Equal.t (p0 : Sl) (p1 : Sl) (Q : Bool → World → Prop) (w : World) : bytes_Equal p0 p1 Q w = fvc Try.prog (fun _ => []) Try.f17 .B [Kd.av .L p0, Kd.av .L p1] w Q := by kernel_rfl
theorem bytes_Equal.k : fnOk Try.prog Try.f17 = true := by kernel_rfl
theorem bytes_Equal.cl {p0 : Sl} {p1 : Sl} {Q : Bool → World → Prop} {w : World} (h : bytes_Equal p0 p1 Q w) : cl Try.prog n_bytes_Equal #[.slice p0.a p0.n p0.c, .slice p1.a p1.n p1.c] .B w Q :=
  cl_of Try.func17 bytes_Equal.k (args := [Kd.av .L p0, Kd.av .L p1]) (Eq.mp (bytes_Equal.t p0 p1 Q w) h)

/-- flume/octet.Text -/
def octet_Text (p0 : Sl) (p1 : Sl) (Q : Sl → World → Prop) (w : World) : Prop :=
 cl Try.prog n_octet_Number #[.slice p0.a p0.n p0.c, .int .i64 (p1.n : Int)] .L w fun (x1 : Sl) w2 => app Try.prog t_s_uint8 t_s_uint8 x1 p1 w2 fun r3 w4 => Q r3 w4
theorem octet_Text.t (p0 : Sl) (p1 : Sl) (Q : Sl → World → Prop) (w : World) : octet_Text p0 p1 Q w = fvc Try.prog (fun _ => []) Try.f19 .L [Kd.av .L p0, Kd.av .L p1] w Q := by kernel_rfl
theorem octet_Text.k : fnOk Try.prog Try.f19 = true := by kernel_rfl
theorem octet_Text.cl {p0 : Sl} {p1 : Sl} {Q : Sl → World → Prop} {w : World} (h : octet_Text p0 p1 Q w) : cl Try.prog n_octet_Text #[.slice p0.a p0.n p0.c, .slice p1.a p1.n p1.c] .L w Q :=
  cl_of Try.func19 octet_Text.k (args := [Kd.av .L p0, Kd.av .L p1]) (Eq.mp (octet_Text.t p0 p1 Q w) h)

/-- flume/octet.Flag -/
def octet_Flag (p0 : Sl) (p1 : Bool) (Q : Sl → World → Prop) (w : World) : Prop :=
 bif p1 then
 (cl Try.prog n_octet_Number #[.slice p0.a p0.n p0.c, .int .i64 1] .L w fun (x1 : Sl) w2 => Q x1 w2)
 else cl Try.prog n_octet_Number #[.slice p0.a p0.n p0.c, .int .i64 0] .L w fun (x3 : Sl) w4 => Q x3 w4
theorem octet_Flag.t (p0 : Sl) (p1 : Bool) (Q : Sl → World → Prop) (w : World) : octet_Flag p0 p1 Q w = fvc Try.prog (fun _ => []) Try.f20 .L [Kd.av .L p0, Kd.av .B p1] w Q := by kernel_rfl
theorem octet_Flag.k : fnOk Try.prog Try.f20 = true := by kernel_rfl
theorem octet_Flag.cl {p0 : Sl} {p1 : Bool} {Q : Sl → World → Prop} {w : World} (h : octet_Flag p0 p1 Q w) : cl Try.prog n_octet_Flag #[.slice p0.a p0.n p0.c, .bool p1] .L w Q :=
  cl_of Try.func20 octet_Flag.k (args := [Kd.av .L p0, Kd.av .B p1]) (Eq.mp (octet_Flag.t p0 p1 Q w) h)

/-- flume/flumeref02.Text -/
def flumeref02_Text (p0 : Sl) (p1 : Sl) (Q : Sl → World → Prop) (w : World) : Prop :=
 cl Try.prog n_flumeref02_Number #[.slice p0.a p0.n p0.c, .int .i64 (p1.n : Int)] .L w fun (x1 : Sl) w2 => app Try.prog t_s_uint8 t_s_uint8 x1 p1 w2 fun r3 w4 => Q r3 w4
theorem flumeref02_Text.t (p0 : Sl) (p1 : Sl) (Q : Sl → World → Prop) (w : World) : flumeref02_Text p0 p1 Q w = fvc Try.prog (fun _ => []) Try.f21 .L [Kd.av .L p0, Kd.av .L p1] w Q := by kernel_rfl
theorem flumeref02_Text.k : fnOk Try.prog Try.f21 = true := by kernel_rfl
theorem flumeref02_Text.cl {p0 : Sl} {p1 : Sl} {Q : Sl → World → Prop} {w : World} (h : flumeref02_Text p0 p1 Q w) : cl Try.prog n_flumeref02_Text #[.slice p0.a p0.n p0.c, .slice p1.a p1.n p1.c] .L w Q :=
  cl_of Try.func21 flumeref02_Text.k (args := [Kd.av .L p0, Kd.av .L p1]) (Eq.mp (flumeref02_Text.t p0 p1 Q w) h)
end Go.Proofs.Ytpilmeekncobkaa
