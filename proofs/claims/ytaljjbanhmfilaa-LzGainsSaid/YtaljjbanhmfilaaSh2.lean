/- What the code of Go functions of this seat asks, in numbers, lists and worlds: printed by a program of mine (wip/tools). -/
import Derived.Test.YtaljjbanhmfilaaId
set_option linter.unusedVariables false
set_option maxHeartbeats 4000000
namespace Go.Proofs.Ytaljjbanhmfilaa
open Go.Fl
/-- flume/octet.Number -/
def an_octet_Number : Nat → LA
  | 8 => [(8, .L), (9, (.I .i64))] | _ => []
def octet_Number (p0 : Sl) (p1 : Int) (Q : Sl → World → Prop) (w : World) : Prop :=
 cl Try.prog n_octet_more #[.int .u64 (IntKind.u64.wrap (max p1 0))] (.I .i64) w fun (x1 : Int) w2 => bif decide (0 ≤ (IntKind.i64.wrap (8 - x1))) then (let j1 := (fun (y19 : Int) (w20 : World) =>
   mks Try.prog t_s_uint8 0 (IntKind.i64.wrap ((p0.n : Int) + 9)) w20 fun r21 w22 => app Try.prog t_s_uint8 t_s_uint8 r21 p0 w22 fun r23 w24 => nw w24 [.int .u8 y19] t_uint8 fun a25 w26 => app Try.prog t_s_uint8 t_s_uint8 r23 ⟨(some a25), 1, 1⟩ w26 fun r27 w28 => lp (α := (Sl × (Int × Unit))) (fun K => K (r27, ((IntKind.i64.wrap (x1 - 1)), ()))) w28 fun D31 J32 s29 w30 =>
 bif (decide (s29.2.1 ≥ 0)) then
  (bif decide (0 ≤ (IntKind.i64.wrap (8 * s29.2.1))) then (nw w30 [.int .u8 (IntKind.u8.wrap ((IntKind.u64.wrap (max p1 0)) / 2 ^ (min (Int.toNat (IntKind.i64.wrap (8 * s29.2.1))) 64)))] t_uint8 fun a33 w34 => app Try.prog t_s_uint8 t_s_uint8 s29.1 ⟨(some a33), 1, 1⟩ w34 fun r35 w36 => J32 (r35, ((IntKind.i64.wrap (s29.2.1 - 1)), ())) w36) else False)
  else Q s29.1 w30);
 bif (decide (x1 < 8)) then
 (bif decide (0 ≤ (IntKind.i64.wrap (8 * x1))) then (j1 (bits .or .u8 (IntKind.u8.wrap (255 * 2 ^ (min (Int.toNat (IntKind.i64.wrap (8 - x1))) 8))) (IntKind.u8.wrap ((IntKind.u64.wrap (max p1 0)) / 2 ^ (min (Int.toNat (IntKind.i64.wrap (8 * x1))) 64)))) w2) else False)
 else j1 (IntKind.u8.wrap (255 * 2 ^ (min (Int.toNat (IntKind.i64.wrap (8 - x1))) 8))) w2) else False
theorem octet_Number.t (p0 : Sl) (p1 : Int) (Q : Sl → World → Prop) (w : World) : octet_Number p0 p1 Q w = fvc Try.prog an_octet_Number Try.f25 .L [Kd.av .L p0, Kd.av (.I .i64) p1] w Q := by kernel_rfl
theorem octet_Number.k : fnOk Try.prog Try.f25 = true := by kernel_rfl
theorem octet_Number.cl {p0 : Sl} {p1 : Int} {Q : Sl → World → Prop} {w : World} (h : octet_Number p0 p1 Q w) : cl Try.prog n_octet_Number #[.slice p0.a p0.n p0.c, .int .i64 p1] .L w Q :=
  cl_tie Try.func25 octet_Number.k (args := [Kd.av .L p0, Kd.av (.I .i64) p1]) (octet_Number.t p0 p1 Q w) h

/-- flume/flumeref07.Longest -/
def an_flumeref07_Longest : Nat → LA
  | 3 => [(6, (.I .i64)), (7, (.I .i64)), (8, (.I .i64))] | 6 => [(9, (.I .i64))] | _ => []
def flumeref07_Longest (p0 : Sl) (p1 : Int) (Q : (Int × (Int × Unit)) → World → Prop) (w : World) : Prop :=
 lp (α := (Int × (Int × (Int × Unit)))) (fun K => K (0, (0, (1, ())))) w fun D3 J4 s1 w2 =>
 bif (decide (s1.2.2.1 ≤ 512)) then
  (bif (decide (s1.2.2.1 ≤ p1)) then
  (let j1 := (fun (y16 : Int) (y17 : Int) (w18 : World) =>
    J4 (y16, (y17, ((IntKind.i64.wrap (s1.2.2.1 + 1)), ()))) w18);
  lp (α := (Int × Unit)) (fun K => K (0, ())) w2 fun D7 J8 s5 w6 =>
  bif (decide (s5.1 < 66)) then (bif (decide ((IntKind.i64.wrap (p1 + s5.1)) < (p0.n : Int))) then (ixa p0.a p0.n (IntKind.i64.wrap (p1 + s5.1)) 1 fun a9 => ld (.I .u8) w6 a9 fun (x10 : Int) => ixa p0.a p0.n (IntKind.i64.wrap ((IntKind.i64.wrap (p1 - s1.2.2.1)) + s5.1)) 1 fun a11 => ld (.I .u8) w6 a11 fun (x12 : Int) => dr w6 fun w13 => bif (x10 == x12) then
   (J8 ((IntKind.i64.wrap (s5.1 + 1)), ()) w13)
   else bif (decide (s5.1 > s1.2.1)) then
  (j1 s1.2.2.1 s5.1 w13)
  else j1 s1.1 s1.2.1 w13) else dr w6 fun w14 => bif (decide (s5.1 > s1.2.1)) then
  (j1 s1.2.2.1 s5.1 w14)
  else j1 s1.1 s1.2.1 w14) else dr w6 fun w15 => bif (decide (s5.1 > s1.2.1)) then
  (j1 s1.2.2.1 s5.1 w15)
  else j1 s1.1 s1.2.1 w15)
  else Q (s1.1, (s1.2.1, ())) w2)
  else Q (s1.1, (s1.2.1, ())) w2
theorem flumeref07_Longest.t (p0 : Sl) (p1 : Int) (Q : (Int × (Int × Unit)) → World → Prop) (w : World) : flumeref07_Longest p0 p1 Q w = fvc Try.prog an_flumeref07_Longest Try.f26 (.tup (.pair (.I .i64) (.pair (.I .i64) .nil))) [Kd.av .L p0, Kd.av (.I .i64) p1] w Q := by kernel_rfl
theorem flumeref07_Longest.k : fnOk Try.prog Try.f26 = true := by kernel_rfl
theorem flumeref07_Longest.cl {p0 : Sl} {p1 : Int} {Q : (Int × (Int × Unit)) → World → Prop} {w : World} (h : flumeref07_Longest p0 p1 Q w) : cl Try.prog n_flumeref07_Longest #[.slice p0.a p0.n p0.c, .int .i64 p1] (.tup (.pair (.I .i64) (.pair (.I .i64) .nil))) w Q :=
  cl_tie Try.func26 flumeref07_Longest.k (args := [Kd.av .L p0, Kd.av (.I .i64) p1]) (flumeref07_Longest.t p0 p1 Q w) h

/-- flume/flumeref07.plain -/
def an_flumeref07_plain : Nat → LA
  | 2 => [(0, .L), (3, .L)] | 1000004 => [(0, .nil)] | _ => []
def flumeref07_plain (p0 : Sl) (Q : Sl → World → Prop) (w : World) : Prop :=
 lp (α := (Sl × (Sl × Unit))) (fun K => K (p0, (⟨none, 0, 0⟩, ()))) w fun D3 J4 s1 w2 =>
 bif (decide ((s1.1.n : Int) > 0)) then
  (dr w2 fun w5 => sls s1.1 0 (min 128 (s1.1.n : Int)) 1 fun r6 => nw w5 [.int .u8 (IntKind.u8.wrap (IntKind.i64.wrap ((min 128 (s1.1.n : Int)) - 1)))] t_uint8 fun a7 w8 => app Try.prog t_s_uint8 t_s_uint8 s1.2.1 ⟨(some a7), 1, 1⟩ w8 fun r9 w10 => app Try.prog t_s_uint8 t_s_uint8 r9 r6 w10 fun r11 w12 => sls s1.1 (min 128 (s1.1.n : Int)) s1.1.n 1 fun r13 => J4 (r13, (r11, ())) w12)
  else Q s1.2.1 w2
theorem flumeref07_plain.t (p0 : Sl) (Q : Sl → World → Prop) (w : World) : flumeref07_plain p0 Q w = fvc Try.prog an_flumeref07_plain Try.f27 .L [Kd.av .L p0] w Q := by kernel_rfl
theorem flumeref07_plain.k : fnOk Try.prog Try.f27 = true := by kernel_rfl
theorem flumeref07_plain.cl {p0 : Sl} {Q : Sl → World → Prop} {w : World} (h : flumeref07_plain p0 Q w) : cl Try.prog n_flumeref07_plain #[.slice p0.a p0.n p0.c] .L w Q :=
  cl_tie Try.func27 flumeref07_plain.k (args := [Kd.av .L p0]) (flumeref07_plain.t p0 Q w) h

/-- flume/flumeref02.Number -/
def an_flumeref02_Number : Nat → LA
  | 5 => [(1, (.I .i64)), (6, .L), (13, (.I .i64))] | _ => []
def flumeref02_Number (p0 : Sl) (p1 : Int) (Q : Sl → World → Prop) (w : World) : Prop :=
 cl Try.prog n_flumeref02_Follow #[.int .i64 (max p1 0)] (.I .i64) w fun (x1 : Int) w2 => lp (α := (Int × (Sl × (Int × Unit)))) (fun K => K ((max p1 0), (⟨none, 0, 0⟩, (0, ())))) w2 fun D5 J6 s3 w4 =>
 bif (decide (s3.2.2.1 < x1)) then
  (nw w4 [.int .u8 (IntKind.u8.wrap (Int.tmod s3.1 256))] t_uint8 fun a7 w8 => app Try.prog t_s_uint8 t_s_uint8 ⟨(some a7), 1, 1⟩ s3.2.1 w8 fun r9 w10 => J6 ((IntKind.i64.wrap (Int.tdiv s3.1 256)), (r9, ((IntKind.i64.wrap (s3.2.2.1 + 1)), ()))) w10)
  else nw w4 [] t_uint8 fun a11 w12 => app Try.prog t_s_uint8 t_s_uint8 ⟨(some a11), 0, 0⟩ p0 w12 fun r13 w14 => cl Try.prog n_flumeref02_Lead #[.int .i64 x1] (.I .i64) w14 fun (x15 : Int) w16 => nw w16 [.int .u8 (IntKind.u8.wrap (IntKind.i64.wrap (x15 + s3.1)))] t_uint8 fun a17 w18 => app Try.prog t_s_uint8 t_s_uint8 r13 ⟨(some a17), 1, 1⟩ w18 fun r19 w20 => app Try.prog t_s_uint8 t_s_uint8 r19 s3.2.1 w20 fun r21 w22 => Q r21 w22
theorem flumeref02_Number.t (p0 : Sl) (p1 : Int) (Q : Sl → World → Prop) (w : World) : flumeref02_Number p0 p1 Q w = fvc Try.prog an_flumeref02_Number Try.f28 .L [Kd.av .L p0, Kd.av (.I .i64) p1] w Q := by kernel_rfl
theorem flumeref02_Number.k : fnOk Try.prog Try.f28 = true := by kernel_rfl
theorem flumeref02_Number.cl {p0 : Sl} {p1 : Int} {Q : Sl → World → Prop} {w : World} (h : flumeref02_Number p0 p1 Q w) : cl Try.prog n_flumeref02_Number #[.slice p0.a p0.n p0.c, .int .i64 p1] .L w Q :=
  cl_tie Try.func28 flumeref02_Number.k (args := [Kd.av .L p0, Kd.av (.I .i64) p1]) (flumeref02_Number.t p0 p1 Q w) h

/-- flume/flumeref02.Look -/
def an_flumeref02_Look : Nat → LA
  | 4 => [(5, (.I .i64))] | 10 => [(6, (.I .i64)), (7, (.I .i64))] | 1000015 => [(0, .nil)] | _ => []
def flumeref02_Look (p0 : Sl) (Q : (Int × (Int × (Int × Unit))) → World → Prop) (w : World) : Prop :=
 bif ((p0.n : Int) == 0) then
 (Q (0, (0, (2, ()))) w)
 else let j1 := (fun (y26 : Int) (w27 : World) =>
   bif (decide ((p0.n : Int) < (IntKind.i64.wrap (y26 + 1)))) then
 (Q (0, (0, (2, ()))) w27)
 else ixa p0.a p0.n 0 1 fun a28 => ld (.I .u8) w27 a28 fun (x29 : Int) => qcl Try.prog n_flumeref02_Lead #[.int .i64 y26] (.I .i64) w27 fun (x30 : Int) => dr w27 fun w31 => lp (α := (Int × (Int × Unit))) (fun K => K ((IntKind.i64.wrap ((IntKind.i64.wrap x29) - x30)), (1, ()))) w31 fun D34 J35 s32 w33 =>
 bif (decide (s32.2.1 ≤ y26)) then
  (bif (decide (s32.1 ≥ 36028797018963968)) then
  (Q (0, (0, (5, ()))) w33)
  else ixa p0.a p0.n s32.2.1 1 fun a36 => ld (.I .u8) w33 a36 fun (x37 : Int) => J35 ((IntKind.i64.wrap ((IntKind.i64.wrap (256 * s32.1)) + (IntKind.i64.wrap x37))), ((IntKind.i64.wrap (s32.2.1 + 1)), ())) w33)
  else dr w33 fun w38 => sls p0 0 (IntKind.i64.wrap (y26 + 1)) 1 fun r39 => bstr w38 r39 fun z40 => cl Try.prog n_flumeref02_Number #[.slice none 0 0, .int .i64 s32.1] .L w38 fun (x41 : Sl) w42 => Fr w38 w42 ∧ bstr w42 x41 fun z43 => bif (!(beqB ⟨z43.toArray⟩ ⟨z40.toArray⟩)) then
 (Q (0, (0, (20, ()))) w42)
 else Q (s32.1, ((IntKind.i64.wrap (y26 + 1)), (0, ()))) w42);
 lp (α := (Int × Unit)) (fun K => K (0, ())) w fun D3 J4 s1 w2 =>
 bif (decide (s1.1 < 8)) then (ixa p0.a p0.n 0 1 fun a5 => ld (.I .u8) w2 a5 fun (x6 : Int) => qcl Try.prog n_flumeref02_Lead #[.int .i64 (IntKind.i64.wrap (s1.1 + 1))] (.I .i64) w2 fun (x7 : Int) => dr w2 fun w8 => bif (decide ((IntKind.i64.wrap x6) ≥ x7)) then
  (J4 ((IntKind.i64.wrap (s1.1 + 1)), ()) w8)
  else j1 s1.1 w8) else dr w2 fun w9 => j1 s1.1 w9
theorem flumeref02_Look.t (p0 : Sl) (Q : (Int × (Int × (Int × Unit))) → World → Prop) (w : World) : flumeref02_Look p0 Q w = fvc Try.prog an_flumeref02_Look Try.f29 (.tup (.pair (.I .i64) (.pair (.I .i64) (.pair (.I .i64) .nil)))) [Kd.av .L p0] w Q := by kernel_rfl
theorem flumeref02_Look.k : fnOk Try.prog Try.f29 = true := by kernel_rfl
theorem flumeref02_Look.cl {p0 : Sl} {Q : (Int × (Int × (Int × Unit))) → World → Prop} {w : World} (h : flumeref02_Look p0 Q w) : cl Try.prog n_flumeref02_Look #[.slice p0.a p0.n p0.c] (.tup (.pair (.I .i64) (.pair (.I .i64) (.pair (.I .i64) .nil)))) w Q :=
  cl_tie Try.func29 flumeref02_Look.k (args := [Kd.av .L p0]) (flumeref02_Look.t p0 Q w) h

/-- slices.Grow[[]byte,byte] -/
def slices_Grow_byte_byte (p0 : Sl) (p1 : Int) (Q : Sl → World → Prop) (w : World) : Prop :=
 bif (decide (p1 < 0)) then
 (False)
 else rn Try.prog (Builtin.cap_ #[t_s_uint8] t_int #[.slice p0.a p0.n p0.c]) (.I .i64) w fun (x1 : Int) w2 => bif (decide ((IntKind.i64.wrap (p1 - (IntKind.i64.wrap (x1 - (p0.n : Int))))) > 0)) then
 (rn Try.prog (Builtin.cap_ #[t_s_uint8] t_int #[.slice p0.a p0.n p0.c]) (.I .i64) w2 fun (x3 : Int) w4 => sls p0 0 x3 1 fun r5 => rn Try.prog (Builtin.append_ #[t_s_uint8, t_int] t_s_uint8 #[.slice r5.a r5.n r5.c, .int .i64 (IntKind.i64.wrap (p1 - (IntKind.i64.wrap (x1 - (p0.n : Int)))))]) .L w4 fun (r6 : Sl) w7 => sls r6 0 (p0.n : Int) 1 fun r8 => Q r8 w7)
 else Q p0 w2
theorem slices_Grow_byte_byte.t (p0 : Sl) (p1 : Int) (Q : Sl → World → Prop) (w : World) : slices_Grow_byte_byte p0 p1 Q w = fvc Try.prog (fun _ => []) Try.f30 .L [Kd.av .L p0, Kd.av (.I .i64) p1] w Q := by kernel_rfl
theorem slices_Grow_byte_byte.k : fnOk Try.prog Try.f30 = true := by kernel_rfl
theorem slices_Grow_byte_byte.cl {p0 : Sl} {p1 : Int} {Q : Sl → World → Prop} {w : World} (h : slices_Grow_byte_byte p0 p1 Q w) : cl Try.prog n_slices_Grow_byte_byte #[.slice p0.a p0.n p0.c, .int .i64 p1] .L w Q :=
  cl_tie Try.func30 slices_Grow_byte_byte.k (args := [Kd.av .L p0, Kd.av (.I .i64) p1]) (slices_Grow_byte_byte.t p0 p1 Q w) h

/-- math/bits.Mul -/
def math_bits_Mul (p0 : Int) (p1 : Int) (Q : (Int × (Int × Unit)) → World → Prop) (w : World) : Prop :=
 cl Try.prog n_math_bits_Mul64 #[.int .u64 p0, .int .u64 p1] (.tup (.pair (.I .u64) (.pair (.I .u64) .nil))) w fun (x1 : (Int × (Int × Unit))) w2 => Q (x1.1, (x1.2.1, ())) w2
theorem math_bits_Mul.t (p0 : Int) (p1 : Int) (Q : (Int × (Int × Unit)) → World → Prop) (w : World) : math_bits_Mul p0 p1 Q w = fvc Try.prog (fun _ => []) Try.f31 (.tup (.pair (.I .u64) (.pair (.I .u64) .nil))) [Kd.av (.I .u64) p0, Kd.av (.I .u64) p1] w Q := by kernel_rfl
theorem math_bits_Mul.k : fnOk Try.prog Try.f31 = true := by kernel_rfl
theorem math_bits_Mul.cl {p0 : Int} {p1 : Int} {Q : (Int × (Int × Unit)) → World → Prop} {w : World} (h : math_bits_Mul p0 p1 Q w) : cl Try.prog n_math_bits_Mul #[.int .u64 p0, .int .u64 p1] (.tup (.pair (.I .u64) (.pair (.I .u64) .nil))) w Q :=
  cl_tie Try.func31 math_bits_Mul.k (args := [Kd.av (.I .u64) p0, Kd.av (.I .u64) p1]) (math_bits_Mul.t p0 p1 Q w) h

/-- flume/octet.Read -/
def octet_Read (p0 : Sl) (Q : Option Addr → World → Prop) (w : World) : Prop :=
 nw w [] t_uint8 fun a1 w2 => app Try.prog t_s_uint8 t_s_uint8 ⟨(some a1), 0, 0⟩ p0 w2 fun r3 w4 => nw w4 ([.slice r3.a r3.n r3.c, .bool true]) t_octet_Reader fun a5 w6 => Q (some a5) w6
theorem octet_Read.t (p0 : Sl) (Q : Option Addr → World → Prop) (w : World) : octet_Read p0 Q w = fvc Try.prog (fun _ => []) Try.f33 .P [Kd.av .L p0] w Q := by kernel_rfl
theorem octet_Read.k : fnOk Try.prog Try.f33 = true := by kernel_rfl
theorem octet_Read.cl {p0 : Sl} {Q : Option Addr → World → Prop} {w : World} (h : octet_Read p0 Q w) : cl Try.prog n_octet_Read #[.slice p0.a p0.n p0.c] .P w Q :=
  cl_tie Try.func33 octet_Read.k (args := [Kd.av .L p0]) (octet_Read.t p0 Q w) h

/-- (*flume/octet.Reader).Within -/
def octet_Reader_Within (p0 : Option Addr) (p1 : Int) (p2 : Int) (Q : (Int × (Int × Unit)) → World → Prop) (w : World) : Prop :=
 bif p0.isNone then
 (Q (0, (6, ())) w)
 else nz p0 fun a1 => ld .B w (a1.add 1) fun (x2 : Bool) => bif (!x2) then
 (Q (0, (6, ())) w)
 else nz p0 fun a3 => ld .L w a3 fun (x4 : Sl) => cl Try.prog n_octet_look #[.slice x4.a x4.n x4.c] (.tup (.pair (.I .i64) (.pair (.I .i64) (.pair (.I .i64) .nil)))) w fun (x5 : (Int × (Int × (Int × Unit)))) w6 => bif (x5.2.2.1 != 0) then
 (Q (0, (x5.2.2.1, ())) w6)
 else bif (decide (x5.1 < p1)) then
 (Q (0, (5, ())) w6)
 else bif (decide (x5.1 > p2)) then
 (Q (0, (5, ())) w6)
 else nz p0 fun a7 => ld .L w6 a7 fun (x8 : Sl) => sls x8 x5.2.1 x8.n 1 fun r9 => nz p0 fun a10 => st1 w6 a10 (.slice r9.a r9.n r9.c) fun w11 => Q (x5.1, (0, ())) w11
theorem octet_Reader_Within.t (p0 : Option Addr) (p1 : Int) (p2 : Int) (Q : (Int × (Int × Unit)) → World → Prop) (w : World) : octet_Reader_Within p0 p1 p2 Q w = fvc Try.prog (fun _ => []) Try.f34 (.tup (.pair (.I .i64) (.pair (.I .i64) .nil))) [Kd.av .P p0, Kd.av (.I .i64) p1, Kd.av (.I .i64) p2] w Q := by kernel_rfl
theorem octet_Reader_Within.k : fnOk Try.prog Try.f34 = true := by kernel_rfl
theorem octet_Reader_Within.cl {p0 : Option Addr} {p1 : Int} {p2 : Int} {Q : (Int × (Int × Unit)) → World → Prop} {w : World} (h : octet_Reader_Within p0 p1 p2 Q w) : cl Try.prog n_octet_Reader_Within #[.pointer p0, .int .i64 p1, .int .i64 p2] (.tup (.pair (.I .i64) (.pair (.I .i64) .nil))) w Q :=
  cl_tie Try.func34 octet_Reader_Within.k (args := [Kd.av .P p0, Kd.av (.I .i64) p1, Kd.av (.I .i64) p2]) (octet_Reader_Within.t p0 p1 p2 Q w) h

/-- (*flume/octet.Reader).Left -/
def octet_Reader_Left (p0 : Option Addr) (Q : Int → World → Prop) (w : World) : Prop :=
 bif p0.isNone then
 (Q 0 w)
 else nz p0 fun a1 => ld .L w a1 fun (x2 : Sl) => Q (x2.n : Int) w
theorem octet_Reader_Left.t (p0 : Option Addr) (Q : Int → World → Prop) (w : World) : octet_Reader_Left p0 Q w = fvc Try.prog (fun _ => []) Try.f35 (.I .i64) [Kd.av .P p0] w Q := by kernel_rfl
theorem octet_Reader_Left.k : fnOk Try.prog Try.f35 = true := by kernel_rfl
theorem octet_Reader_Left.cl {p0 : Option Addr} {Q : Int → World → Prop} {w : World} (h : octet_Reader_Left p0 Q w) : cl Try.prog n_octet_Reader_Left #[.pointer p0] (.I .i64) w Q :=
  cl_tie Try.func35 octet_Reader_Left.k (args := [Kd.av .P p0]) (octet_Reader_Left.t p0 Q w) h

/-- (*flume/lz.chains).at -/
def lz_chains_at (p0 : Option Addr) (p1 : Int) (Q : {l : List Value // l.length = 3} → World → Prop) (w : World) : Prop :=
 nw w (zrow 3 (.int .u8 0)).1 t_3_uint8 fun a1 w2 => nz p0 fun a3 => ld .L w2 a3 fun (x4 : Sl) => sls x4 p1 (IntKind.i64.wrap (p1 + 3)) 1 fun r5 => qn Try.prog (Instr.arrayAt t_3_uint8 (.slice r5.a r5.n r5.c)) .P w2 fun (x6 : Option Addr) => nz x6 fun a8 => ld (.row 3) w2 a8 fun (x7 : {l : List Value // l.length = 3}) => stL a1 w2 0 x7.1 fun w9 => ld (.row 3) w9 a1 fun (r10 : {l : List Value // l.length = 3}) => Q r10 w9
theorem lz_chains_at.t (p0 : Option Addr) (p1 : Int) (Q : {l : List Value // l.length = 3} → World → Prop) (w : World) : lz_chains_at p0 p1 Q w = fvc Try.prog (fun _ => []) Try.f36 (.row 3) [Kd.av .P p0, Kd.av (.I .i64) p1] w Q := by kernel_rfl
theorem lz_chains_at.k : fnOk Try.prog Try.f36 = true := by kernel_rfl
theorem lz_chains_at.cl {p0 : Option Addr} {p1 : Int} {Q : {l : List Value // l.length = 3} → World → Prop} {w : World} (h : lz_chains_at p0 p1 Q w) : cl Try.prog n_lz_chains_at #[.pointer p0, .int .i64 p1] (.row 3) w Q :=
  cl_tie Try.func36 lz_chains_at.k (args := [Kd.av .P p0, Kd.av (.I .i64) p1]) (lz_chains_at.t p0 p1 Q w) h

/-- (*flume/lz.chains).alike -/
def an_lz_chains_alike : Nat → LA
  | 2 => [(7, (.I .i64))] | _ => []
def lz_chains_alike (p0 : Option Addr) (p1 : Int) (p2 : Int) (Q : Int → World → Prop) (w : World) : Prop :=
 lp (α := (Int × Unit)) (fun K => K (0, ())) w fun D3 J4 s1 w2 =>
 bif (decide (s1.1 < 66)) then (nz p0 fun a5 => ld .L w2 a5 fun (x6 : Sl) => bif (decide ((IntKind.i64.wrap (p2 + s1.1)) < (x6.n : Int))) then (nz p0 fun a7 => ld .L w2 a7 fun (x8 : Sl) => ixa x8.a x8.n (IntKind.i64.wrap (p1 + s1.1)) 1 fun a9 => ld (.I .u8) w2 a9 fun (x10 : Int) => nz p0 fun a11 => ld .L w2 a11 fun (x12 : Sl) => ixa x12.a x12.n (IntKind.i64.wrap (p2 + s1.1)) 1 fun a13 => ld (.I .u8) w2 a13 fun (x14 : Int) => dr w2 fun w15 => bif (x10 == x14) then
  (J4 ((IntKind.i64.wrap (s1.1 + 1)), ()) w15)
  else Q s1.1 w15) else dr w2 fun w16 => Q s1.1 w16) else dr w2 fun w17 => Q s1.1 w17
theorem lz_chains_alike.t (p0 : Option Addr) (p1 : Int) (p2 : Int) (Q : Int → World → Prop) (w : World) : lz_chains_alike p0 p1 p2 Q w = fvc Try.prog an_lz_chains_alike Try.f37 (.I .i64) [Kd.av .P p0, Kd.av (.I .i64) p1, Kd.av (.I .i64) p2] w Q := by kernel_rfl
theorem lz_chains_alike.k : fnOk Try.prog Try.f37 = true := by kernel_rfl
theorem lz_chains_alike.cl {p0 : Option Addr} {p1 : Int} {p2 : Int} {Q : Int → World → Prop} {w : World} (h : lz_chains_alike p0 p1 p2 Q w) : cl Try.prog n_lz_chains_alike #[.pointer p0, .int .i64 p1, .int .i64 p2] (.I .i64) w Q :=
  cl_tie Try.func37 lz_chains_alike.k (args := [Kd.av .P p0, Kd.av (.I .i64) p1, Kd.av (.I .i64) p2]) (lz_chains_alike.t p0 p1 p2 Q w) h

/-- slices.Chunk[[]byte,byte] -/
def slices_Chunk_byte_byte (p0 : Sl) (p1 : Int) (Q : Value → World → Prop) (w : World) : Prop :=
 nw w ([.slice p0.a p0.n p0.c]) t_s_uint8 fun a1 w2 => nw w2 ([.int .i64 p1]) t_int fun a3 w4 => ld (.I .i64) w4 a3 fun (x5 : Int) => bif (decide (x5 < 1)) then
 (False)
 else Q (.func (.func n_slices_Chunk_byte_byte_1) #[] #[.pointer (some a1), .pointer (some a3)]) w4
theorem slices_Chunk_byte_byte.t (p0 : Sl) (p1 : Int) (Q : Value → World → Prop) (w : World) : slices_Chunk_byte_byte p0 p1 Q w = fvc Try.prog (fun _ => []) Try.f38 .U [Kd.av .L p0, Kd.av (.I .i64) p1] w Q := by kernel_rfl
theorem slices_Chunk_byte_byte.k : fnOk Try.prog Try.f38 = true := by kernel_rfl
theorem slices_Chunk_byte_byte.cl {p0 : Sl} {p1 : Int} {Q : Value → World → Prop} {w : World} (h : slices_Chunk_byte_byte p0 p1 Q w) : cl Try.prog n_slices_Chunk_byte_byte #[.slice p0.a p0.n p0.c, .int .i64 p1] .U w Q :=
  cl_tie Try.func38 slices_Chunk_byte_byte.k (args := [Kd.av .L p0, Kd.av (.I .i64) p1]) (slices_Chunk_byte_byte.t p0 p1 Q w) h
end Go.Proofs.Ytaljjbanhmfilaa
