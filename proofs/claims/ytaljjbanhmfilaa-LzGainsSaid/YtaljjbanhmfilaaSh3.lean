/- What the code of Go functions of this seat asks, in numbers, lists and worlds: printed by a program of mine (wip/tools). -/
import Derived.Test.YtaljjbanhmfilaaId
set_option linter.unusedVariables false
set_option maxHeartbeats 4000000
namespace Go.Proofs.Ytaljjbanhmfilaa
open Go.Fl
/-- flume/octet.more -/
def an_octet_more : Nat → LA
  | 2 => [(4, (.I .i64))] | _ => []
def octet_more (p0 : Int) (Q : Int → World → Prop) (w : World) : Prop :=
 lp (α := (Int × Unit)) (fun K => K (0, ())) w fun D3 J4 s1 w2 =>
 bif (decide (s1.1 < 8)) then
  (bif decide (0 ≤ (IntKind.i64.wrap (7 * (IntKind.i64.wrap (s1.1 + 1))))) then (bif (decide (p0 < (IntKind.u64.wrap (1 * 2 ^ (min (Int.toNat (IntKind.i64.wrap (7 * (IntKind.i64.wrap (s1.1 + 1))))) 64))))) then
  (Q s1.1 w2)
  else J4 ((IntKind.i64.wrap (s1.1 + 1)), ()) w2) else False)
  else Q 8 w2
theorem octet_more.t (p0 : Int) (Q : Int → World → Prop) (w : World) : octet_more p0 Q w = fvc Try.prog an_octet_more Try.f39 (.I .i64) [Kd.av (.I .u64) p0] w Q := by kernel_rfl
theorem octet_more.k : fnOk Try.prog Try.f39 = true := by kernel_rfl
theorem octet_more.cl {p0 : Int} {Q : Int → World → Prop} {w : World} (h : octet_more p0 Q w) : cl Try.prog n_octet_more #[.int .u64 p0] (.I .i64) w Q :=
  cl_tie Try.func39 octet_more.k (args := [Kd.av (.I .u64) p0]) (octet_more.t p0 Q w) h

/-- flume/flumeref02.Follow -/
def an_flumeref02_Follow : Nat → LA
  | 2 => [(0, (.I .i64)), (3, (.I .i64))] | _ => []
def flumeref02_Follow (p0 : Int) (Q : Int → World → Prop) (w : World) : Prop :=
 lp (α := (Int × (Int × Unit))) (fun K => K (p0, (0, ()))) w fun D3 J4 s1 w2 =>
 bif (decide (s1.2.1 < 8)) then
  (bif (decide ((IntKind.i64.wrap (Int.tdiv s1.1 128)) > 0)) then
  (J4 ((IntKind.i64.wrap (Int.tdiv s1.1 128)), ((IntKind.i64.wrap (s1.2.1 + 1)), ())) w2)
  else Q s1.2.1 w2)
  else Q s1.2.1 w2
theorem flumeref02_Follow.t (p0 : Int) (Q : Int → World → Prop) (w : World) : flumeref02_Follow p0 Q w = fvc Try.prog an_flumeref02_Follow Try.f40 (.I .i64) [Kd.av (.I .i64) p0] w Q := by kernel_rfl
theorem flumeref02_Follow.k : fnOk Try.prog Try.f40 = true := by kernel_rfl
theorem flumeref02_Follow.cl {p0 : Int} {Q : Int → World → Prop} {w : World} (h : flumeref02_Follow p0 Q w) : cl Try.prog n_flumeref02_Follow #[.int .i64 p0] (.I .i64) w Q :=
  cl_tie Try.func40 flumeref02_Follow.k (args := [Kd.av (.I .i64) p0]) (flumeref02_Follow.t p0 Q w) h

/-- flume/flumeref02.Lead -/
def an_flumeref02_Lead : Nat → LA
  | 4 => [(3, (.I .i64)), (4, (.I .i64)), (6, (.I .i64))] | _ => []
def flumeref02_Lead (p0 : Int) (Q : Int → World → Prop) (w : World) : Prop :=
 lp (α := (Int × (Int × (Int × Unit)))) (fun K => K (0, (128, (0, ())))) w fun D3 J4 s1 w2 =>
 bif (decide (s1.2.2.1 < p0)) then
  (J4 ((IntKind.i64.wrap (s1.1 + s1.2.1)), ((IntKind.i64.wrap (Int.tdiv s1.2.1 2)), ((IntKind.i64.wrap (s1.2.2.1 + 1)), ()))) w2)
  else Q s1.1 w2
theorem flumeref02_Lead.t (p0 : Int) (Q : Int → World → Prop) (w : World) : flumeref02_Lead p0 Q w = fvc Try.prog an_flumeref02_Lead Try.f41 (.I .i64) [Kd.av (.I .i64) p0] w Q := by kernel_rfl
theorem flumeref02_Lead.k : fnOk Try.prog Try.f41 = true := by kernel_rfl
theorem flumeref02_Lead.cl {p0 : Int} {Q : Int → World → Prop} {w : World} (h : flumeref02_Lead p0 Q w) : cl Try.prog n_flumeref02_Lead #[.int .i64 p0] (.I .i64) w Q :=
  cl_tie Try.func41 flumeref02_Lead.k (args := [Kd.av (.I .i64) p0]) (flumeref02_Lead.t p0 Q w) h

/-- math/bits.Mul32 -/
def math_bits_Mul32 (p0 : Int) (p1 : Int) (Q : (Int × (Int × Unit)) → World → Prop) (w : World) : Prop :=
 Q ((IntKind.u32.wrap ((IntKind.u64.wrap ((IntKind.u64.wrap p0) * (IntKind.u64.wrap p1))) / 2 ^ (min 32 64))), ((IntKind.u32.wrap (IntKind.u64.wrap ((IntKind.u64.wrap p0) * (IntKind.u64.wrap p1)))), ())) w
theorem math_bits_Mul32.t (p0 : Int) (p1 : Int) (Q : (Int × (Int × Unit)) → World → Prop) (w : World) : math_bits_Mul32 p0 p1 Q w = fvc Try.prog (fun _ => []) Try.f42 (.tup (.pair (.I .u32) (.pair (.I .u32) .nil))) [Kd.av (.I .u32) p0, Kd.av (.I .u32) p1] w Q := by kernel_rfl
theorem math_bits_Mul32.k : fnOk Try.prog Try.f42 = true := by kernel_rfl
theorem math_bits_Mul32.cl {p0 : Int} {p1 : Int} {Q : (Int × (Int × Unit)) → World → Prop} {w : World} (h : math_bits_Mul32 p0 p1 Q w) : cl Try.prog n_math_bits_Mul32 #[.int .u32 p0, .int .u32 p1] (.tup (.pair (.I .u32) (.pair (.I .u32) .nil))) w Q :=
  cl_tie Try.func42 math_bits_Mul32.k (args := [Kd.av (.I .u32) p0, Kd.av (.I .u32) p1]) (math_bits_Mul32.t p0 p1 Q w) h

/-- math/bits.Mul64 -/
def math_bits_Mul64 (p0 : Int) (p1 : Int) (Q : (Int × (Int × Unit)) → World → Prop) (w : World) : Prop :=
 Q ((IntKind.u64.wrap ((IntKind.u64.wrap ((IntKind.u64.wrap ((p0 / 2 ^ (min 32 64)) * (p1 / 2 ^ (min 32 64)))) + ((IntKind.u64.wrap ((IntKind.u64.wrap ((p0 / 2 ^ (min 32 64)) * (bits .and .u64 p1 4294967295))) + ((IntKind.u64.wrap ((bits .and .u64 p0 4294967295) * (bits .and .u64 p1 4294967295))) / 2 ^ (min 32 64)))) / 2 ^ (min 32 64)))) + ((IntKind.u64.wrap ((bits .and .u64 (IntKind.u64.wrap ((IntKind.u64.wrap ((p0 / 2 ^ (min 32 64)) * (bits .and .u64 p1 4294967295))) + ((IntKind.u64.wrap ((bits .and .u64 p0 4294967295) * (bits .and .u64 p1 4294967295))) / 2 ^ (min 32 64)))) 4294967295) + (IntKind.u64.wrap ((bits .and .u64 p0 4294967295) * (p1 / 2 ^ (min 32 64)))))) / 2 ^ (min 32 64)))), ((IntKind.u64.wrap (p0 * p1)), ())) w
theorem math_bits_Mul64.t (p0 : Int) (p1 : Int) (Q : (Int × (Int × Unit)) → World → Prop) (w : World) : math_bits_Mul64 p0 p1 Q w = fvc Try.prog (fun _ => []) Try.f43 (.tup (.pair (.I .u64) (.pair (.I .u64) .nil))) [Kd.av (.I .u64) p0, Kd.av (.I .u64) p1] w Q := by kernel_rfl
theorem math_bits_Mul64.k : fnOk Try.prog Try.f43 = true := by kernel_rfl
theorem math_bits_Mul64.cl {p0 : Int} {p1 : Int} {Q : (Int × (Int × Unit)) → World → Prop} {w : World} (h : math_bits_Mul64 p0 p1 Q w) : cl Try.prog n_math_bits_Mul64 #[.int .u64 p0, .int .u64 p1] (.tup (.pair (.I .u64) (.pair (.I .u64) .nil))) w Q :=
  cl_tie Try.func43 math_bits_Mul64.k (args := [Kd.av (.I .u64) p0, Kd.av (.I .u64) p1]) (math_bits_Mul64.t p0 p1 Q w) h

/-- flume/octet.look -/
def an_octet_look : Nat → LA
  | 11 => [(6, (.I .u64)), (36, (.I .i64))] | _ => []
def octet_look (p0 : Sl) (Q : (Int × (Int × (Int × Unit))) → World → Prop) (w : World) : Prop :=
 bif ((p0.n : Int) == 0) then
 (Q (0, (0, (2, ()))) w)
 else ixa p0.a p0.n 0 1 fun a1 => ld (.I .u8) w a1 fun (x2 : Int) => cl Try.prog n_math_bits_LeadingZeros8 #[.int .u8 (bits .xor .u8 255 x2)] (.I .i64) w fun (x3 : Int) w4 => bif (decide ((p0.n : Int) ≤ x3)) then
 (Q (0, (0, (2, ()))) w4)
 else ixa p0.a p0.n 0 1 fun a5 => ld (.I .u8) w4 a5 fun (x6 : Int) => let j1 := (fun (y16 : Int) (w17 : World) =>
   sls p0 1 (IntKind.i64.wrap (x3 + 1)) 1 fun r18 => lp (α := (Int × (Int × Unit))) (fun K => K (y16, (0, ()))) w17 fun D21 J22 s19 w20 =>
 bif (decide (s19.2.1 < (r18.n : Int))) then
  (ixa r18.a r18.n s19.2.1 1 fun a23 => ld (.I .u8) w20 a23 fun (x24 : Int) => J22 ((bits .or .u64 (IntKind.u64.wrap (s19.1 * 2 ^ (min 8 64))) (IntKind.u64.wrap x24)), ((IntKind.i64.wrap (s19.2.1 + 1)), ())) w20)
  else bif (decide (s19.1 > 9223372036854775807)) then
 (Q (0, (0, (5, ()))) w20)
 else cl Try.prog n_octet_more #[.int .u64 s19.1] (.I .i64) w20 fun (x25 : Int) w26 => bif (x25 != x3) then
 (Q (0, (0, (20, ()))) w26)
 else Q ((IntKind.i64.wrap s19.1), ((IntKind.i64.wrap (x3 + 1)), (0, ()))) w26);
 bif (decide (x3 < 8)) then
 (bif decide (0 ≤ x3) then (j1 (bits .and .u64 (IntKind.u64.wrap x6) (127 / 2 ^ (min (Int.toNat x3) 64))) w4) else False)
 else j1 0 w4
theorem octet_look.t (p0 : Sl) (Q : (Int × (Int × (Int × Unit))) → World → Prop) (w : World) : octet_look p0 Q w = fvc Try.prog an_octet_look Try.f44 (.tup (.pair (.I .i64) (.pair (.I .i64) (.pair (.I .i64) .nil)))) [Kd.av .L p0] w Q := by kernel_rfl
theorem octet_look.k : fnOk Try.prog Try.f44 = true := by kernel_rfl
theorem octet_look.cl {p0 : Sl} {Q : (Int × (Int × (Int × Unit))) → World → Prop} {w : World} (h : octet_look p0 Q w) : cl Try.prog n_octet_look #[.slice p0.a p0.n p0.c] (.tup (.pair (.I .i64) (.pair (.I .i64) (.pair (.I .i64) .nil)))) w Q :=
  cl_tie Try.func44 octet_look.k (args := [Kd.av .L p0]) (octet_look.t p0 Q w) h

/-- math/bits.LeadingZeros8 -/
def math_bits_LeadingZeros8 (p0 : Int) (Q : Int → World → Prop) (w : World) : Prop :=
 cl Try.prog n_math_bits_Len8 #[.int .u8 p0] (.I .i64) w fun (x1 : Int) w2 => Q (IntKind.i64.wrap (8 - x1)) w2
theorem math_bits_LeadingZeros8.t (p0 : Int) (Q : Int → World → Prop) (w : World) : math_bits_LeadingZeros8 p0 Q w = fvc Try.prog (fun _ => []) Try.f46 (.I .i64) [Kd.av (.I .u8) p0] w Q := by kernel_rfl
theorem math_bits_LeadingZeros8.k : fnOk Try.prog Try.f46 = true := by kernel_rfl
theorem math_bits_LeadingZeros8.cl {p0 : Int} {Q : Int → World → Prop} {w : World} (h : math_bits_LeadingZeros8 p0 Q w) : cl Try.prog n_math_bits_LeadingZeros8 #[.int .u8 p0] (.I .i64) w Q :=
  cl_tie Try.func46 math_bits_LeadingZeros8.k (args := [Kd.av (.I .u8) p0]) (math_bits_LeadingZeros8.t p0 Q w) h

/-- math/bits.Len8 -/
def math_bits_Len8 (p0 : Int) (Q : Int → World → Prop) (w : World) : Prop :=
 0 ≤ p0 ∧ p0 < ((⟨#[0, 1, 2, 2, 3, 3, 3, 3, 4, 4, 4, 4, 4, 4, 4, 4, 5, 5, 5, 5, 5, 5, 5, 5, 5, 5, 5, 5, 5, 5, 5, 5, 6, 6, 6, 6, 6, 6, 6, 6, 6, 6, 6, 6, 6, 6, 6, 6, 6, 6, 6, 6, 6, 6, 6, 6, 6, 6, 6, 6, 6, 6, 6, 6, 7, 7, 7, 7, 7, 7, 7, 7, 7, 7, 7, 7, 7, 7, 7, 7, 7, 7, 7, 7, 7, 7, 7, 7, 7, 7, 7, 7, 7, 7, 7, 7, 7, 7, 7, 7, 7, 7, 7, 7, 7, 7, 7, 7, 7, 7, 7, 7, 7, 7, 7, 7, 7, 7, 7, 7, 7, 7, 7, 7, 7, 7, 7, 7, 8, 8, 8, 8, 8, 8, 8, 8, 8, 8, 8, 8, 8, 8, 8, 8, 8, 8, 8, 8, 8, 8, 8, 8, 8, 8, 8, 8, 8, 8, 8, 8, 8, 8, 8, 8, 8, 8, 8, 8, 8, 8, 8, 8, 8, 8, 8, 8, 8, 8, 8, 8, 8, 8, 8, 8, 8, 8, 8, 8, 8, 8, 8, 8, 8, 8, 8, 8, 8, 8, 8, 8, 8, 8, 8, 8, 8, 8, 8, 8, 8, 8, 8, 8, 8, 8, 8, 8, 8, 8, 8, 8, 8, 8, 8, 8, 8, 8, 8, 8, 8, 8, 8, 8, 8, 8, 8, 8, 8, 8, 8, 8, 8, 8, 8, 8, 8, 8, 8, 8, 8, 8, 8, 8, 8, 8, 8, 8]⟩ : ByteArray).size : Int) ∧ (Q (IntKind.i64.wrap (((⟨#[0, 1, 2, 2, 3, 3, 3, 3, 4, 4, 4, 4, 4, 4, 4, 4, 5, 5, 5, 5, 5, 5, 5, 5, 5, 5, 5, 5, 5, 5, 5, 5, 6, 6, 6, 6, 6, 6, 6, 6, 6, 6, 6, 6, 6, 6, 6, 6, 6, 6, 6, 6, 6, 6, 6, 6, 6, 6, 6, 6, 6, 6, 6, 6, 7, 7, 7, 7, 7, 7, 7, 7, 7, 7, 7, 7, 7, 7, 7, 7, 7, 7, 7, 7, 7, 7, 7, 7, 7, 7, 7, 7, 7, 7, 7, 7, 7, 7, 7, 7, 7, 7, 7, 7, 7, 7, 7, 7, 7, 7, 7, 7, 7, 7, 7, 7, 7, 7, 7, 7, 7, 7, 7, 7, 7, 7, 7, 7, 8, 8, 8, 8, 8, 8, 8, 8, 8, 8, 8, 8, 8, 8, 8, 8, 8, 8, 8, 8, 8, 8, 8, 8, 8, 8, 8, 8, 8, 8, 8, 8, 8, 8, 8, 8, 8, 8, 8, 8, 8, 8, 8, 8, 8, 8, 8, 8, 8, 8, 8, 8, 8, 8, 8, 8, 8, 8, 8, 8, 8, 8, 8, 8, 8, 8, 8, 8, 8, 8, 8, 8, 8, 8, 8, 8, 8, 8, 8, 8, 8, 8, 8, 8, 8, 8, 8, 8, 8, 8, 8, 8, 8, 8, 8, 8, 8, 8, 8, 8, 8, 8, 8, 8, 8, 8, 8, 8, 8, 8, 8, 8, 8, 8, 8, 8, 8, 8, 8, 8, 8, 8, 8, 8, 8, 8, 8, 8]⟩ : ByteArray).data.toList.getD (Int.toNat p0) 0).toNat : Int)) w)
theorem math_bits_Len8.t (p0 : Int) (Q : Int → World → Prop) (w : World) : math_bits_Len8 p0 Q w = fvc Try.prog (fun _ => []) Try.f47 (.I .i64) [Kd.av (.I .u8) p0] w Q := by kernel_rfl
theorem math_bits_Len8.k : fnOk Try.prog Try.f47 = true := by kernel_rfl
theorem math_bits_Len8.cl {p0 : Int} {Q : Int → World → Prop} {w : World} (h : math_bits_Len8 p0 Q w) : cl Try.prog n_math_bits_Len8 #[.int .u8 p0] (.I .i64) w Q :=
  cl_tie Try.func47 math_bits_Len8.k (args := [Kd.av (.I .u8) p0]) (math_bits_Len8.t p0 Q w) h
end Go.Proofs.Ytaljjbanhmfilaa
