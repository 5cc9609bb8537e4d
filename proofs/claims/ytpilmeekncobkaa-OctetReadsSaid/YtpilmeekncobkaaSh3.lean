/- What the code of Go functions of this seat asks, in numbers, lists and worlds: printed by a program of mine (wip/tools). -/
import Derived.Test.YtpilmeekncobkaaId
set_option linter.unusedVariables false
namespace Go.Proofs.Ytpilmeekncobkaa
open Go.Fl
/-- (*flume/flumeref02.Reader).Text -/
def an_flumeref02_Reader_Text : Nat → LA
  | 1000001 => [(0, .nil)] | 1000009 => [(0, .nil)] | _ => []
def flumeref02_Reader_Text (p0 : Option Addr) (p1 : Int) (Q : (Sl × (Int × Unit)) → World → Prop) (w : World) : Prop :=
 dr w fun w1 => nz p0 fun a2 => ld .L w1 a2 fun (x3 : Sl) => nz p0 fun a4 => ld (.I .i64) w1 (a4.add 1) fun (x5 : Int) => sls x3 x5 x3.n 1 fun r6 => cl Try.prog n_flumeref02_Look #[.slice r6.a r6.n r6.c] (.tup (.pair (.I .i64) (.pair (.I .i64) (.pair (.I .i64) .nil)))) w1 fun (x7 : (Int × (Int × (Int × Unit)))) w8 => Fr w1 w8 ∧ bif (x7.2.2.1 != 0) then
 (Q (⟨none, 0, 0⟩, (x7.2.2.1, ())) w8)
 else let j1 := (fun  (w30 : World) =>
   nz p0 fun a31 => ld .L w30 a31 fun (x32 : Sl) => nz p0 fun a33 => ld (.I .i64) w30 (a33.add 1) fun (x34 : Int) => dr w30 fun w35 => bif (decide (x7.1 > (IntKind.i64.wrap ((IntKind.i64.wrap ((x32.n : Int) - x34)) - x7.2.1)))) then
 (Q (⟨none, 0, 0⟩, (2, ())) w35)
 else nz p0 fun a36 => ld (.I .i64) w35 (a36.add 1) fun (x37 : Int) => nz p0 fun a38 => st1 w35 (a38.add 1) (.int .i64 (IntKind.i64.wrap (x37 + (IntKind.i64.wrap (x7.2.1 + x7.1))))) fun w39 => dr w39 fun w40 => nz p0 fun a41 => ld .L w40 a41 fun (x42 : Sl) => nz p0 fun a43 => ld (.I .i64) w40 (a43.add 1) fun (x44 : Int) => nz p0 fun a45 => ld (.I .i64) w40 (a45.add 1) fun (x46 : Int) => sls x42 (IntKind.i64.wrap (x44 - x7.1)) x46 1 fun r47 => nw w40 [] t_uint8 fun a48 w49 => Fr w40 w49 ∧ app Try.prog t_s_uint8 t_s_uint8 ⟨(some a48), 0, 0⟩ r47 w49 fun r50 w51 => Fr w49 w51 ∧ Q (r50, (0, ())) w51);
 bif (decide (x7.1 > p1)) then
 (bif (decide (x7.1 > 0)) then
 (Q (⟨none, 0, 0⟩, (4, ())) w8)
 else j1 w8)
 else j1 w8
theorem flumeref02_Reader_Text.t (p0 : Option Addr) (p1 : Int) (Q : (Sl × (Int × Unit)) → World → Prop) (w : World) : flumeref02_Reader_Text p0 p1 Q w = fvc Try.prog an_flumeref02_Reader_Text Try.f37 (.tup (.pair .L (.pair (.I .i64) .nil))) [Kd.av .P p0, Kd.av (.I .i64) p1] w Q := by kernel_rfl
theorem flumeref02_Reader_Text.k : fnOk Try.prog Try.f37 = true := by kernel_rfl
theorem flumeref02_Reader_Text.cl {p0 : Option Addr} {p1 : Int} {Q : (Sl × (Int × Unit)) → World → Prop} {w : World} (h : flumeref02_Reader_Text p0 p1 Q w) : cl Try.prog n_flumeref02_Reader_Text #[.pointer p0, .int .i64 p1] (.tup (.pair .L (.pair (.I .i64) .nil))) w Q :=
  cl_of Try.func37 flumeref02_Reader_Text.k (args := [Kd.av .P p0, Kd.av (.I .i64) p1]) (Eq.mp (flumeref02_Reader_Text.t p0 p1 Q w) h)

/-- (*flume/flumeref02.Reader).Flag -/
def an_flumeref02_Reader_Flag : Nat → LA
  | 1000001 => [(0, .nil)] | _ => []
def flumeref02_Reader_Flag (p0 : Option Addr) (Q : (Bool × (Int × Unit)) → World → Prop) (w : World) : Prop :=
 dr w fun w1 => nz p0 fun a2 => ld .L w1 a2 fun (x3 : Sl) => nz p0 fun a4 => ld (.I .i64) w1 (a4.add 1) fun (x5 : Int) => sls x3 x5 x3.n 1 fun r6 => cl Try.prog n_flumeref02_Look #[.slice r6.a r6.n r6.c] (.tup (.pair (.I .i64) (.pair (.I .i64) (.pair (.I .i64) .nil)))) w1 fun (x7 : (Int × (Int × (Int × Unit)))) w8 => Fr w1 w8 ∧ bif (x7.2.2.1 == 0) then
 (bif (decide (x7.1 > 1)) then
 (Q (false, (20, ())) w8)
 else bif (x7.2.2.1 != 0) then
 (Q (false, (x7.2.2.1, ())) w8)
 else nz p0 fun a9 => ld (.I .i64) w8 (a9.add 1) fun (x10 : Int) => nz p0 fun a11 => st1 w8 (a11.add 1) (.int .i64 (IntKind.i64.wrap (x10 + x7.2.1))) fun w12 => Q ((x7.1 == 1), (0, ())) w12)
 else bif (x7.2.2.1 != 0) then
 (Q (false, (x7.2.2.1, ())) w8)
 else nz p0 fun a13 => ld (.I .i64) w8 (a13.add 1) fun (x14 : Int) => nz p0 fun a15 => st1 w8 (a15.add 1) (.int .i64 (IntKind.i64.wrap (x14 + x7.2.1))) fun w16 => Q ((x7.1 == 1), (0, ())) w16
theorem flumeref02_Reader_Flag.t (p0 : Option Addr) (Q : (Bool × (Int × Unit)) → World → Prop) (w : World) : flumeref02_Reader_Flag p0 Q w = fvc Try.prog an_flumeref02_Reader_Flag Try.f38 (.tup (.pair .B (.pair (.I .i64) .nil))) [Kd.av .P p0] w Q := by kernel_rfl
theorem flumeref02_Reader_Flag.k : fnOk Try.prog Try.f38 = true := by kernel_rfl
theorem flumeref02_Reader_Flag.cl {p0 : Option Addr} {Q : (Bool × (Int × Unit)) → World → Prop} {w : World} (h : flumeref02_Reader_Flag p0 Q w) : cl Try.prog n_flumeref02_Reader_Flag #[.pointer p0] (.tup (.pair .B (.pair (.I .i64) .nil))) w Q :=
  cl_of Try.func38 flumeref02_Reader_Flag.k (args := [Kd.av .P p0]) (Eq.mp (flumeref02_Reader_Flag.t p0 Q w) h)

/-- (*flume/flumeref02.Reader).End -/
def flumeref02_Reader_End (p0 : Option Addr) (Q : Int → World → Prop) (w : World) : Prop :=
 nz p0 fun a1 => ld (.I .i64) w (a1.add 1) fun (x2 : Int) => nz p0 fun a3 => ld .L w a3 fun (x4 : Sl) => dr w fun w5 => bif (decide (x2 < (x4.n : Int))) then
 (Q 3 w5)
 else Q 0 w5
theorem flumeref02_Reader_End.t (p0 : Option Addr) (Q : Int → World → Prop) (w : World) : flumeref02_Reader_End p0 Q w = fvc Try.prog (fun _ => []) Try.f39 (.I .i64) [Kd.av .P p0] w Q := by kernel_rfl
theorem flumeref02_Reader_End.k : fnOk Try.prog Try.f39 = true := by kernel_rfl
theorem flumeref02_Reader_End.cl {p0 : Option Addr} {Q : Int → World → Prop} {w : World} (h : flumeref02_Reader_End p0 Q w) : cl Try.prog n_flumeref02_Reader_End #[.pointer p0] (.I .i64) w Q :=
  cl_of Try.func39 flumeref02_Reader_End.k (args := [Kd.av .P p0]) (Eq.mp (flumeref02_Reader_End.t p0 Q w) h)

/-- flume/octet.more -/
def an_octet_more : Nat → LA
  | 2 => [(4, (.I .i64))] | _ => []
def octet_more (p0 : Int) (Q : Int → World → Prop) (w : World) : Prop :=
 lp (α := (Int × Unit)) (fun K => K (0, ())) w fun D3 J4 s1 w2 =>
 bif (decide (s1.1 < 8)) then
  (bif decide (0 ≤ (IntKind.i64.wrap (7 * (IntKind.i64.wrap (s1.1 + 1))))) then (bif (decide (p0 < (IntKind.u64.wrap (1 * 2 ^ (min (Int.toNat (IntKind.i64.wrap (7 * (IntKind.i64.wrap (s1.1 + 1))))) 64))))) then
  (Q s1.1 w2)
  else J4 ((IntKind.i64.wrap (s1.1 + 1)), ()) w2) else False)
  else Q 8 w2
theorem octet_more.t (p0 : Int) (Q : Int → World → Prop) (w : World) : octet_more p0 Q w = fvc Try.prog an_octet_more Try.f40 (.I .i64) [Kd.av (.I .u64) p0] w Q := by kernel_rfl
theorem octet_more.k : fnOk Try.prog Try.f40 = true := by kernel_rfl
theorem octet_more.cl {p0 : Int} {Q : Int → World → Prop} {w : World} (h : octet_more p0 Q w) : cl Try.prog n_octet_more #[.int .u64 p0] (.I .i64) w Q :=
  cl_of Try.func40 octet_more.k (args := [Kd.av (.I .u64) p0]) (Eq.mp (octet_more.t p0 Q w) h)

/-- flume/flumeref02.Follow -/
def an_flumeref02_Follow : Nat → LA
  | 2 => [(0, (.I .i64)), (3, (.I .i64))] | _ => []
def flumeref02_Follow (p0 : Int) (Q : Int → World → Prop) (w : World) : Prop :=
 lp (α := (Int × (Int × Unit))) (fun K => K (p0, (0, ()))) w fun D3 J4 s1 w2 =>
 bif (decide (s1.2.1 < 8)) then
  (bif (decide ((IntKind.i64.wrap (Int.tdiv s1.1 128)) > 0)) then
  (J4 ((IntKind.i64.wrap (Int.tdiv s1.1 128)), ((IntKind.i64.wrap (s1.2.1 + 1)), ())) w2)
  else Q s1.2.1 w2)
  else Q s1.2.1 w2
theorem flumeref02_Follow.t (p0 : Int) (Q : Int → World → Prop) (w : World) : flumeref02_Follow p0 Q w = fvc Try.prog an_flumeref02_Follow Try.f42 (.I .i64) [Kd.av (.I .i64) p0] w Q := by kernel_rfl
theorem flumeref02_Follow.k : fnOk Try.prog Try.f42 = true := by kernel_rfl
theorem flumeref02_Follow.cl {p0 : Int} {Q : Int → World → Prop} {w : World} (h : flumeref02_Follow p0 Q w) : cl Try.prog n_flumeref02_Follow #[.int .i64 p0] (.I .i64) w Q :=
  cl_of Try.func42 flumeref02_Follow.k (args := [Kd.av (.I .i64) p0]) (Eq.mp (flumeref02_Follow.t p0 Q w) h)

/-- flume/flumeref02.Lead -/
def an_flumeref02_Lead : Nat → LA
  | 4 => [(3, (.I .i64)), (4, (.I .i64)), (6, (.I .i64))] | _ => []
def flumeref02_Lead (p0 : Int) (Q : Int → World → Prop) (w : World) : Prop :=
 lp (α := (Int × (Int × (Int × Unit)))) (fun K => K (0, (128, (0, ())))) w fun D3 J4 s1 w2 =>
 bif (decide (s1.2.2.1 < p0)) then
  (J4 ((IntKind.i64.wrap (s1.1 + s1.2.1)), ((IntKind.i64.wrap (Int.tdiv s1.2.1 2)), ((IntKind.i64.wrap (s1.2.2.1 + 1)), ()))) w2)
  else Q s1.1 w2
theorem flumeref02_Lead.t (p0 : Int) (Q : Int → World → Prop) (w : World) : flumeref02_Lead p0 Q w = fvc Try.prog an_flumeref02_Lead Try.f43 (.I .i64) [Kd.av (.I .i64) p0] w Q := by kernel_rfl
theorem flumeref02_Lead.k : fnOk Try.prog Try.f43 = true := by kernel_rfl
theorem flumeref02_Lead.cl {p0 : Int} {Q : Int → World → Prop} {w : World} (h : flumeref02_Lead p0 Q w) : cl Try.prog n_flumeref02_Lead #[.int .i64 p0] (.I .i64) w Q :=
  cl_of Try.func43 flumeref02_Lead.k (args := [Kd.av (.I .i64) p0]) (Eq.mp (flumeref02_Lead.t p0 Q w) h)

/-- flume/octet.look -/
def an_octet_look : Nat → LA
  | 11 => [(6, (.I .u64)), (36, (.I .i64))] | _ => []
def octet_look (p0 : Sl) (Q : (Int × (Int × (Int × Unit))) → World → Prop) (w : World) : Prop :=
 bif ((p0.n : Int) == 0) then
 (Q (0, (0, (2, ()))) w)
 else ixa p0.a p0.n 0 1 fun a1 => ld (.I .u8) w a1 fun (x2 : Int) => cl Try.prog n_math_bits_LeadingZeros8 #[.int .u8 (bits .xor .u8 255 x2)] (.I .i64) w fun (x3 : Int) w4 => bif (decide ((p0.n : Int) ≤ x3)) then
 (Q (0, (0, (2, ()))) w4)
 else ixa p0.a p0.n 0 1 fun a5 => ld (.I .u8) w4 a5 fun (x6 : Int) => let j1 := (fun (y16 : Int) (w17 : World) =>
   sls p0 1 (IntKind.i64.wrap (x3 + 1)) 1 fun r18 => lp (α := (Int × (Int × Unit))) (fun K => K (y16, (0, ()))) w17 fun D21 J22 s19 w20 =>
 bif (decide (s19.2.1 < (r18.n : Int))) then
  (ixa r18.a r18.n s19.2.1 1 fun a23 => ld (.I .u8) w20 a23 fun (x24 : Int) => J22 ((bits .or .u64 (IntKind.u64.wrap (s19.1 * 2 ^ (min 8 64))) (IntKind.u64.wrap x24)), ((IntKind.i64.wrap (s19.2.1 + 1)), ())) w20)
  else bif (decide (s19.1 > 9223372036854775807)) then
 (Q (0, (0, (5, ()))) w20)
 else cl Try.prog n_octet_more #[.int .u64 s19.1] (.I .i64) w20 fun (x25 : Int) w26 => bif (x25 != x3) then
 (Q (0, (0, (20, ()))) w26)
 else Q ((IntKind.i64.wrap s19.1), ((IntKind.i64.wrap (x3 + 1)), (0, ()))) w26);
 bif (decide (x3 < 8)) then
 (bif decide (0 ≤ x3) then (j1 (bits .and .u64 (IntKind.u64.wrap x6) (127 / 2 ^ (min (Int.toNat x3) 64))) w4) else False)
 else j1 0 w4
theorem octet_look.t (p0 : Sl) (Q : (Int × (Int × (Int × Unit))) → World → Prop) (w : World) : octet_look p0 Q w = fvc Try.prog an_octet_look Try.f44 (.tup (.pair (.I .i64) (.pair (.I .i64) (.pair (.I .i64) .nil)))) [Kd.av .L p0] w Q := by kernel_rfl
theorem octet_look.k : fnOk Try.prog Try.f44 = true := by kernel_rfl
theorem octet_look.cl {p0 : Sl} {Q : (Int × (Int × (Int × Unit))) → World → Prop} {w : World} (h : octet_look p0 Q w) : cl Try.prog n_octet_look #[.slice p0.a p0.n p0.c] (.tup (.pair (.I .i64) (.pair (.I .i64) (.pair (.I .i64) .nil)))) w Q :=
  cl_of Try.func44 octet_look.k (args := [Kd.av .L p0]) (Eq.mp (octet_look.t p0 Q w) h)

/-- flume/flumeref02.Look -/
def an_flumeref02_Look : Nat → LA
  | 4 => [(5, (.I .i64))] | 10 => [(6, (.I .i64)), (7, (.I .i64))] | 1000015 => [(0, .nil)] | _ => []
def flumeref02_Look (p0 : Sl) (Q : (Int × (Int × (Int × Unit))) → World → Prop) (w : World) : Prop :=
 bif ((p0.n : Int) == 0) then
 (Q (0, (0, (2, ()))) w)
 else let j1 := (fun (y26 : Int) (w27 : World) =>
   bif (decide ((p0.n : Int) < (IntKind.i64.wrap (y26 + 1)))) then
 (Q (0, (0, (2, ()))) w27)
 else ixa p0.a p0.n 0 1 fun a28 => ld (.I .u8) w27 a28 fun (x29 : Int) => qcl Try.prog n_flumeref02_Lead #[.int .i64 y26] (.I .i64) w27 fun (x30 : Int) => dr w27 fun w31 => lp (α := (Int × (Int × Unit))) (fun K => K ((IntKind.i64.wrap ((IntKind.i64.wrap x29) - x30)), (1, ()))) w31 fun D34 J35 s32 w33 =>
 bif (decide (s32.2.1 ≤ y26)) then
  (bif (decide (s32.1 ≥ 36028797018963968)) then
  (Q (0, (0, (5, ()))) w33)
  else ixa p0.a p0.n s32.2.1 1 fun a36 => ld (.I .u8) w33 a36 fun (x37 : Int) => J35 ((IntKind.i64.wrap ((IntKind.i64.wrap (256 * s32.1)) + (IntKind.i64.wrap x37))), ((IntKind.i64.wrap (s32.2.1 + 1)), ())) w33)
  else dr w33 fun w38 => sls p0 0 (IntKind.i64.wrap (y26 + 1)) 1 fun r39 => bstr w38 r39 fun z40 => cl Try.prog n_flumeref02_Number #[.slice none 0 0, .int .i64 s32.1] .L w38 fun (x41 : Sl) w42 => Fr w38 w42 ∧ bstr w42 x41 fun z43 => bif (!(beqB ⟨z43.toArray⟩ ⟨z40.toArray⟩)) then
 (Q (0, (0, (20, ()))) w42)
 else Q (s32.1, ((IntKind.i64.wrap (y26 + 1)), (0, ()))) w42);
 lp (α := (Int × Unit)) (fun K => K (0, ())) w fun D3 J4 s1 w2 =>
 bif (decide (s1.1 < 8)) then (ixa p0.a p0.n 0 1 fun a5 => ld (.I .u8) w2 a5 fun (x6 : Int) => qcl Try.prog n_flumeref02_Lead #[.int .i64 (IntKind.i64.wrap (s1.1 + 1))] (.I .i64) w2 fun (x7 : Int) => dr w2 fun w8 => bif (decide ((IntKind.i64.wrap x6) ≥ x7)) then
  (J4 ((IntKind.i64.wrap (s1.1 + 1)), ()) w8)
  else j1 s1.1 w8) else dr w2 fun w9 => j1 s1.1 w9
theorem flumeref02_Look.t (p0 : Sl) (Q : (Int × (Int × (Int × Unit))) → World → Prop) (w : World) : flumeref02_Look p0 Q w = fvc Try.prog an_flumeref02_Look Try.f45 (.tup (.pair (.I .i64) (.pair (.I .i64) (.pair (.I .i64) .nil)))) [Kd.av .L p0] w Q := by kernel_rfl
theorem flumeref02_Look.k : fnOk Try.prog Try.f45 = true := by kernel_rfl
theorem flumeref02_Look.cl {p0 : Sl} {Q : (Int × (Int × (Int × Unit))) → World → Prop} {w : World} (h : flumeref02_Look p0 Q w) : cl Try.prog n_flumeref02_Look #[.slice p0.a p0.n p0.c] (.tup (.pair (.I .i64) (.pair (.I .i64) (.pair (.I .i64) .nil)))) w Q :=
  cl_of Try.func45 flumeref02_Look.k (args := [Kd.av .L p0]) (Eq.mp (flumeref02_Look.t p0 Q w) h)

/-- math/bits.LeadingZeros8 -/
def math_bits_LeadingZeros8 (p0 : Int) (Q : Int → World → Prop) (w : World) : Prop :=
 cl Try.prog n_math_bits_Len8 #[.int .u8 p0] (.I .i64) w fun (x1 : Int) w2 => Q (IntKind.i64.wrap (8 - x1)) w2
theorem math_bits_LeadingZeros8.t (p0 : Int) (Q : Int → World → Prop) (w : World) : math_bits_LeadingZeros8 p0 Q w = fvc Try.prog (fun _ => []) Try.f46 (.I .i64) [Kd.av (.I .u8) p0] w Q := by kernel_rfl
theorem math_bits_LeadingZeros8.k : fnOk Try.prog Try.f46 = true := by kernel_rfl
theorem math_bits_LeadingZeros8.cl {p0 : Int} {Q : Int → World → Prop} {w : World} (h : math_bits_LeadingZeros8 p0 Q w) : cl Try.prog n_math_bits_LeadingZeros8 #[.int .u8 p0] (.I .i64) w Q :=
  cl_of Try.func46 math_bits_LeadingZeros8.k (args := [Kd.av (.I .u8) p0]) (Eq.mp (math_bits_LeadingZeros8.t p0 Q w) h)

/-- math/bits.Len8 -/
def math_bits_Len8 (p0 : Int) (Q : Int → World → Prop) (w : World) : Prop :=
 0 ≤ p0 ∧ p0 < ((⟨#[0, 1, 2, 2, 3, 3, 3, 3, 4, 4, 4, 4, 4, 4, 4, 4, 5, 5, 5, 5, 5, 5, 5, 5, 5, 5, 5, 5, 5, 5, 5, 5, 6, 6, 6, 6, 6, 6, 6, 6, 6, 6, 6, 6, 6, 6, 6, 6, 6, 6, 6, 6, 6, 6, 6, 6, 6, 6, 6, 6, 6, 6, 6, 6, 7, 7, 7, 7, 7, 7, 7, 7, 7, 7, 7, 7, 7, 7, 7, 7, 7, 7, 7, 7, 7, 7, 7, 7, 7, 7, 7, 7, 7, 7, 7, 7, 7, 7, 7, 7, 7, 7, 7, 7, 7, 7, 7, 7, 7, 7, 7, 7, 7, 7, 7, 7, 7, 7, 7, 7, 7, 7, 7, 7, 7, 7, 7, 7, 8, 8, 8, 8, 8, 8, 8, 8, 8, 8, 8, 8, 8, 8, 8, 8, 8, 8, 8, 8, 8, 8, 8, 8, 8, 8, 8, 8, 8, 8, 8, 8, 8, 8, 8, 8, 8, 8, 8, 8, 8, 8, 8, 8, 8, 8, 8, 8, 8, 8, 8, 8, 8, 8, 8, 8, 8, 8, 8, 8, 8, 8, 8, 8, 8, 8, 8, 8, 8, 8, 8, 8, 8, 8, 8, 8, 8, 8, 8, 8, 8, 8, 8, 8, 8, 8, 8, 8, 8, 8, 8, 8, 8, 8, 8, 8, 8, 8, 8, 8, 8, 8, 8, 8, 8, 8, 8, 8, 8, 8, 8, 8, 8, 8, 8, 8, 8, 8, 8, 8, 8, 8, 8, 8, 8, 8, 8, 8]⟩ : ByteArray).size : Int) ∧ (Q (IntKind.i64.wrap (((⟨#[0, 1, 2, 2, 3, 3, 3, 3, 4, 4, 4, 4, 4, 4, 4, 4, 5, 5, 5, 5, 5, 5, 5, 5, 5, 5, 5, 5, 5, 5, 5, 5, 6, 6, 6, 6, 6, 6, 6, 6, 6, 6, 6, 6, 6, 6, 6, 6, 6, 6, 6, 6, 6, 6, 6, 6, 6, 6, 6, 6, 6, 6, 6, 6, 7, 7, 7, 7, 7, 7, 7, 7, 7, 7, 7, 7, 7, 7, 7, 7, 7, 7, 7, 7, 7, 7, 7, 7, 7, 7, 7, 7, 7, 7, 7, 7, 7, 7, 7, 7, 7, 7, 7, 7, 7, 7, 7, 7, 7, 7, 7, 7, 7, 7, 7, 7, 7, 7, 7, 7, 7, 7, 7, 7, 7, 7, 7, 7, 8, 8, 8, 8, 8, 8, 8, 8, 8, 8, 8, 8, 8, 8, 8, 8, 8, 8, 8, 8, 8, 8, 8, 8, 8, 8, 8, 8, 8, 8, 8, 8, 8, 8, 8, 8, 8, 8, 8, 8, 8, 8, 8, 8, 8, 8, 8, 8, 8, 8, 8, 8, 8, 8, 8, 8, 8, 8, 8, 8, 8, 8, 8, 8, 8, 8, 8, 8, 8, 8, 8, 8, 8, 8, 8, 8, 8, 8, 8, 8, 8, 8, 8, 8, 8, 8, 8, 8, 8, 8, 8, 8, 8, 8, 8, 8, 8, 8, 8, 8, 8, 8, 8, 8, 8, 8, 8, 8, 8, 8, 8, 8, 8, 8, 8, 8, 8, 8, 8, 8, 8, 8, 8, 8, 8, 8, 8, 8]⟩ : ByteArray).data.toList.getD (Int.toNat p0) 0).toNat : Int)) w)
theorem math_bits_Len8.t (p0 : Int) (Q : Int → World → Prop) (w : World) : math_bits_Len8 p0 Q w = fvc Try.prog (fun _ => []) Try.f47 (.I .i64) [Kd.av (.I .u8) p0] w Q := by kernel_rfl
theorem math_bits_Len8.k : fnOk Try.prog Try.f47 = true := by kernel_rfl
theorem math_bits_Len8.cl {p0 : Int} {Q : Int → World → Prop} {w : World} (h : math_bits_Len8 p0 Q w) : cl Try.prog n_math_bits_Len8 #[.int .u8 p0] (.I .i64) w Q :=
  cl_of Try.func47 math_bits_Len8.k (args := [Kd.av (.I .u8) p0]) (Eq.mp (math_bits_Len8.t p0 Q w) h)
end Go.Proofs.Ytpilmeekncobkaa
