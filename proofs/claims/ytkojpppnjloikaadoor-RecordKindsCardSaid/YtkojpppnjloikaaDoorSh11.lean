/- What the code of Go functions of this seat asks, in numbers, lists and worlds: printed by a program of mine (wip/tools). -/
import Derived.Test.YtkojpppnjloikaaDoorId
set_option linter.unusedVariables false
set_option maxHeartbeats 4000000
namespace Go.Proofs.YtkojpppnjloikaaDoor
open Go.Fl
/-- math/bits.LeadingZeros8 -/
def math_bits_LeadingZeros8 (p0 : Int) (Q : Int → World → Prop) (w : World) : Prop :=
 cl Tryd.prog n_math_bits_Len8 #[.int .u8 p0] (.I .i64) w fun (x1 : Int) w2 => Q (IntKind.i64.wrap (8 - x1)) w2
theorem math_bits_LeadingZeros8.t (p0 : Int) (Q : Int → World → Prop) (w : World) : math_bits_LeadingZeros8 p0 Q w = fvc Tryd.prog (fun _ => []) Tryd.f77 (.I .i64) [Kd.av (.I .u8) p0] w Q := by kernel_rfl
theorem math_bits_LeadingZeros8.k : fnOk Tryd.prog Tryd.f77 = true := by kernel_rfl
theorem math_bits_LeadingZeros8.cl {p0 : Int} {Q : Int → World → Prop} {w : World} (h : math_bits_LeadingZeros8 p0 Q w) : cl Tryd.prog n_math_bits_LeadingZeros8 #[.int .u8 p0] (.I .i64) w Q :=
  cl_tie Tryd.func77 math_bits_LeadingZeros8.k (args := [Kd.av (.I .u8) p0]) (math_bits_LeadingZeros8.t p0 Q w) h

/-- flume/flumeref08.rotr -/
def flumeref08_rotr (p0 : Int) (p1 : Int) (Q : Int → World → Prop) (w : World) : Prop :=
 bif decide (0 ≤ p1) then (bif decide (0 ≤ (IntKind.u64.wrap (32 - p1))) then (Q (bits .or .u32 (p0 / 2 ^ (min (Int.toNat p1) 32)) (IntKind.u32.wrap (p0 * 2 ^ (min (Int.toNat (IntKind.u64.wrap (32 - p1))) 32)))) w) else False) else False
theorem flumeref08_rotr.t (p0 : Int) (p1 : Int) (Q : Int → World → Prop) (w : World) : flumeref08_rotr p0 p1 Q w = fvc Tryd.prog (fun _ => []) Tryd.f78 (.I .u32) [Kd.av (.I .u32) p0, Kd.av (.I .u64) p1] w Q := by kernel_rfl
theorem flumeref08_rotr.k : fnOk Tryd.prog Tryd.f78 = true := by kernel_rfl
theorem flumeref08_rotr.cl {p0 : Int} {p1 : Int} {Q : Int → World → Prop} {w : World} (h : flumeref08_rotr p0 p1 Q w) : cl Tryd.prog n_flumeref08_rotr #[.int .u32 p0, .int .u64 p1] (.I .u32) w Q :=
  cl_tie Tryd.func78 flumeref08_rotr.k (args := [Kd.av (.I .u32) p0, Kd.av (.I .u64) p1]) (flumeref08_rotr.t p0 p1 Q w) h

/-- math/bits.Len8 -/
def math_bits_Len8 (p0 : Int) (Q : Int → World → Prop) (w : World) : Prop :=
 0 ≤ p0 ∧ p0 < ((⟨#[0, 1, 2, 2, 3, 3, 3, 3, 4, 4, 4, 4, 4, 4, 4, 4, 5, 5, 5, 5, 5, 5, 5, 5, 5, 5, 5, 5, 5, 5, 5, 5, 6, 6, 6, 6, 6, 6, 6, 6, 6, 6, 6, 6, 6, 6, 6, 6, 6, 6, 6, 6, 6, 6, 6, 6, 6, 6, 6, 6, 6, 6, 6, 6, 7, 7, 7, 7, 7, 7, 7, 7, 7, 7, 7, 7, 7, 7, 7, 7, 7, 7, 7, 7, 7, 7, 7, 7, 7, 7, 7, 7, 7, 7, 7, 7, 7, 7, 7, 7, 7, 7, 7, 7, 7, 7, 7, 7, 7, 7, 7, 7, 7, 7, 7, 7, 7, 7, 7, 7, 7, 7, 7, 7, 7, 7, 7, 7, 8, 8, 8, 8, 8, 8, 8, 8, 8, 8, 8, 8, 8, 8, 8, 8, 8, 8, 8, 8, 8, 8, 8, 8, 8, 8, 8, 8, 8, 8, 8, 8, 8, 8, 8, 8, 8, 8, 8, 8, 8, 8, 8, 8, 8, 8, 8, 8, 8, 8, 8, 8, 8, 8, 8, 8, 8, 8, 8, 8, 8, 8, 8, 8, 8, 8, 8, 8, 8, 8, 8, 8, 8, 8, 8, 8, 8, 8, 8, 8, 8, 8, 8, 8, 8, 8, 8, 8, 8, 8, 8, 8, 8, 8, 8, 8, 8, 8, 8, 8, 8, 8, 8, 8, 8, 8, 8, 8, 8, 8, 8, 8, 8, 8, 8, 8, 8, 8, 8, 8, 8, 8, 8, 8, 8, 8, 8, 8]⟩ : ByteArray).size : Int) ∧ (Q (IntKind.i64.wrap (((⟨#[0, 1, 2, 2, 3, 3, 3, 3, 4, 4, 4, 4, 4, 4, 4, 4, 5, 5, 5, 5, 5, 5, 5, 5, 5, 5, 5, 5, 5, 5, 5, 5, 6, 6, 6, 6, 6, 6, 6, 6, 6, 6, 6, 6, 6, 6, 6, 6, 6, 6, 6, 6, 6, 6, 6, 6, 6, 6, 6, 6, 6, 6, 6, 6, 7, 7, 7, 7, 7, 7, 7, 7, 7, 7, 7, 7, 7, 7, 7, 7, 7, 7, 7, 7, 7, 7, 7, 7, 7, 7, 7, 7, 7, 7, 7, 7, 7, 7, 7, 7, 7, 7, 7, 7, 7, 7, 7, 7, 7, 7, 7, 7, 7, 7, 7, 7, 7, 7, 7, 7, 7, 7, 7, 7, 7, 7, 7, 7, 8, 8, 8, 8, 8, 8, 8, 8, 8, 8, 8, 8, 8, 8, 8, 8, 8, 8, 8, 8, 8, 8, 8, 8, 8, 8, 8, 8, 8, 8, 8, 8, 8, 8, 8, 8, 8, 8, 8, 8, 8, 8, 8, 8, 8, 8, 8, 8, 8, 8, 8, 8, 8, 8, 8, 8, 8, 8, 8, 8, 8, 8, 8, 8, 8, 8, 8, 8, 8, 8, 8, 8, 8, 8, 8, 8, 8, 8, 8, 8, 8, 8, 8, 8, 8, 8, 8, 8, 8, 8, 8, 8, 8, 8, 8, 8, 8, 8, 8, 8, 8, 8, 8, 8, 8, 8, 8, 8, 8, 8, 8, 8, 8, 8, 8, 8, 8, 8, 8, 8, 8, 8, 8, 8, 8, 8, 8, 8]⟩ : ByteArray).data.toList.getD (Int.toNat p0) 0).toNat : Int)) w)
theorem math_bits_Len8.t (p0 : Int) (Q : Int → World → Prop) (w : World) : math_bits_Len8 p0 Q w = fvc Tryd.prog (fun _ => []) Tryd.f79 (.I .i64) [Kd.av (.I .u8) p0] w Q := by kernel_rfl
theorem math_bits_Len8.k : fnOk Tryd.prog Tryd.f79 = true := by kernel_rfl
theorem math_bits_Len8.cl {p0 : Int} {Q : Int → World → Prop} {w : World} (h : math_bits_Len8 p0 Q w) : cl Tryd.prog n_math_bits_Len8 #[.int .u8 p0] (.I .i64) w Q :=
  cl_tie Tryd.func79 math_bits_Len8.k (args := [Kd.av (.I .u8) p0]) (math_bits_Len8.t p0 Q w) h
end Go.Proofs.YtkojpppnjloikaaDoor
