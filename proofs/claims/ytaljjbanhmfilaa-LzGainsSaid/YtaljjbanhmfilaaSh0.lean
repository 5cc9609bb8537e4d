/- What the code of Go functions of this seat asks, in numbers, lists and worlds: printed by a program of mine (wip/tools). -/
import Derived.Test.YtaljjbanhmfilaaId
set_option linter.unusedVariables false
set_option maxHeartbeats 4000000
namespace Go.Proofs.Ytaljjbanhmfilaa
open Go.Fl
/-- flume/flumelaw07.LzBounds -/
def flumelaw07_LzBounds (p0 : Sl) (p1 : Sl) (p2 : Int) (Q : Bool → World → Prop) (w : World) : Prop :=
 bif (decide ((p0.n : Int) > 16384)) then
 (cl Try.prog n_flumelaw07_awake #[] .B w fun (x1 : Bool) w2 => Q x1 w2)
 else bif (decide ((p1.n : Int) > 2048)) then
 (cl Try.prog n_flumelaw07_awake #[] .B w fun (x3 : Bool) w4 => Q x3 w4)
 else cl Try.prog n_lz_Restore #[.slice p1.a p1.n p1.c, .int .i64 p2] (.tup (.pair .L (.pair (.I .i64) .nil))) w fun (x5 : (Sl × (Int × Unit))) w6 => let j1 := (fun  (w11 : World) =>
   cl Try.prog n_lz_Shorten #[.slice p0.a p0.n p0.c] .L w11 fun (x12 : Sl) w13 => bif (decide ((x12.n : Int) ≤ (IntKind.i64.wrap ((IntKind.i64.wrap ((p0.n : Int) + (IntKind.i64.wrap (Int.tdiv (p0.n : Int) 3)))) + 1)))) then
 (cl Try.prog n_flumelaw07_awake #[] .B w13 fun (x14 : Bool) w15 => Q x14 w15)
 else Q false w13);
 bif (x5.2.1 != 0) then
 (bif (decide ((x5.1.n : Int) > 0)) then
 (Q false w6)
 else bif (decide ((x5.1.n : Int) > (max p2 0))) then
 (Q false w6)
 else j1 w6)
 else bif (decide ((x5.1.n : Int) > (max p2 0))) then
 (Q false w6)
 else j1 w6
theorem flumelaw07_LzBounds.t (p0 : Sl) (p1 : Sl) (p2 : Int) (Q : Bool → World → Prop) (w : World) : flumelaw07_LzBounds p0 p1 p2 Q w = fvc Try.prog (fun _ => []) Try.f3 .B [Kd.av .L p0, Kd.av .L p1, Kd.av (.I .i64) p2] w Q := by kernel_rfl
theorem flumelaw07_LzBounds.k : fnOk Try.prog Try.f3 = true := by kernel_rfl
theorem flumelaw07_LzBounds.cl {p0 : Sl} {p1 : Sl} {p2 : Int} {Q : Bool → World → Prop} {w : World} (h : flumelaw07_LzBounds p0 p1 p2 Q w) : cl Try.prog n_flumelaw07_LzBounds #[.slice p0.a p0.n p0.c, .slice p1.a p1.n p1.c, .int .i64 p2] .B w Q :=
  cl_tie Try.func3 flumelaw07_LzBounds.k (args := [Kd.av .L p0, Kd.av .L p1, Kd.av (.I .i64) p2]) (flumelaw07_LzBounds.t p0 p1 p2 Q w) h

/-- flume/flumelaw07.LzBack -/
def flumelaw07_LzBack (p0 : Sl) (Q : Bool → World → Prop) (w : World) : Prop :=
 bif (decide ((p0.n : Int) > 16384)) then
 (cl Try.prog n_flumelaw07_awake #[] .B w fun (x1 : Bool) w2 => Q x1 w2)
 else cl Try.prog n_lz_Shorten #[.slice p0.a p0.n p0.c] .L w fun (x3 : Sl) w4 => cl Try.prog n_lz_Restore #[.slice x3.a x3.n x3.c, .int .i64 (p0.n : Int)] (.tup (.pair .L (.pair (.I .i64) .nil))) w4 fun (x5 : (Sl × (Int × Unit))) w6 => bif (x5.2.1 == 0) then
 (cl Try.prog n_bytes_Equal #[.slice x5.1.a x5.1.n x5.1.c, .slice p0.a p0.n p0.c] .B w6 fun (x7 : Bool) w8 => bif x7 then
 (cl Try.prog n_flumelaw07_awake #[] .B w8 fun (x9 : Bool) w10 => Q x9 w10)
 else Q false w8)
 else Q false w6
theorem flumelaw07_LzBack.t (p0 : Sl) (Q : Bool → World → Prop) (w : World) : flumelaw07_LzBack p0 Q w = fvc Try.prog (fun _ => []) Try.f4 .B [Kd.av .L p0] w Q := by kernel_rfl
theorem flumelaw07_LzBack.k : fnOk Try.prog Try.f4 = true := by kernel_rfl
theorem flumelaw07_LzBack.cl {p0 : Sl} {Q : Bool → World → Prop} {w : World} (h : flumelaw07_LzBack p0 Q w) : cl Try.prog n_flumelaw07_LzBack #[.slice p0.a p0.n p0.c] .B w Q :=
  cl_tie Try.func4 flumelaw07_LzBack.k (args := [Kd.av .L p0]) (flumelaw07_LzBack.t p0 Q w) h

/-- flume/flumelaw07.LzRoom -/
def flumelaw07_LzRoom (p0 : Sl) (p1 : Int) (Q : Bool → World → Prop) (w : World) : Prop :=
 bif (decide ((p0.n : Int) > 2048)) then
 (cl Try.prog n_flumelaw07_awake #[] .B w fun (x1 : Bool) w2 => Q x1 w2)
 else cl Try.prog n_lz_Restore #[.slice p0.a p0.n p0.c, .int .i64 1048576] (.tup (.pair .L (.pair (.I .i64) .nil))) w fun (x3 : (Sl × (Int × Unit))) w4 => bif (x3.2.1 != 0) then
 (bif ((x3.1.n : Int) == 0) then
  (cl Try.prog n_flumelaw07_awake #[] .B w4 fun (x5 : Bool) w6 => Q x5 w6)
  else Q false w4)
 else cl Try.prog n_lz_Restore #[.slice p0.a p0.n p0.c, .int .i64 (x3.1.n : Int)] (.tup (.pair .L (.pair (.I .i64) .nil))) w4 fun (x7 : (Sl × (Int × Unit))) w8 => bif (x7.2.1 != 0) then
 (Q false w8)
 else cl Try.prog n_bytes_Equal #[.slice x3.1.a x3.1.n x3.1.c, .slice x7.1.a x7.1.n x7.1.c] .B w8 fun (x9 : Bool) w10 => bif (!x9) then
 (Q false w10)
 else cl Try.prog n_lz_Restore #[.slice p0.a p0.n p0.c, .int .i64 p1] (.tup (.pair .L (.pair (.I .i64) .nil))) w10 fun (x11 : (Sl × (Int × Unit))) w12 => let j1 := (fun (y17 : Bool) (w18 : World) =>
   bif y17 then
 (bif (x11.2.1 == 0) then
  (cl Try.prog n_bytes_Equal #[.slice x3.1.a x3.1.n x3.1.c, .slice x11.1.a x11.1.n x11.1.c] .B w18 fun (x19 : Bool) w20 => bif x19 then
  (cl Try.prog n_flumelaw07_awake #[] .B w20 fun (x21 : Bool) w22 => Q x21 w22)
  else Q false w20)
  else Q false w18)
 else bif (x11.2.1 == 71) then
 (bif ((x11.1.n : Int) == 0) then
 (cl Try.prog n_flumelaw07_awake #[] .B w18 fun (x23 : Bool) w24 => Q x23 w24)
 else Q false w18)
 else Q false w18);
 bif (decide (p1 ≥ (x3.1.n : Int))) then
 (j1 true w12)
 else j1 ((x3.1.n : Int) == 0) w12
theorem flumelaw07_LzRoom.t (p0 : Sl) (p1 : Int) (Q : Bool → World → Prop) (w : World) : flumelaw07_LzRoom p0 p1 Q w = fvc Try.prog (fun _ => []) Try.f5 .B [Kd.av .L p0, Kd.av (.I .i64) p1] w Q := by kernel_rfl
theorem flumelaw07_LzRoom.k : fnOk Try.prog Try.f5 = true := by kernel_rfl
theorem flumelaw07_LzRoom.cl {p0 : Sl} {p1 : Int} {Q : Bool → World → Prop} {w : World} (h : flumelaw07_LzRoom p0 p1 Q w) : cl Try.prog n_flumelaw07_LzRoom #[.slice p0.a p0.n p0.c, .int .i64 p1] .B w Q :=
  cl_tie Try.func5 flumelaw07_LzRoom.k (args := [Kd.av .L p0, Kd.av (.I .i64) p1]) (flumelaw07_LzRoom.t p0 p1 Q w) h

/-- flume/flumelaw07.LzShortens -/
def flumelaw07_LzShortens (p0 : Sl) (Q : Bool → World → Prop) (w : World) : Prop :=
 bif (decide ((p0.n : Int) > 2048)) then
 (cl Try.prog n_flumelaw07_awake #[] .B w fun (x1 : Bool) w2 => Q x1 w2)
 else cl Try.prog n_slices_Clone_byte_byte #[.slice p0.a p0.n p0.c] .L w fun (x3 : Sl) w4 => cl Try.prog n_lz_Shorten #[.slice x3.a x3.n x3.c] .L w4 fun (x5 : Sl) w6 => cl Try.prog n_flumeref07_Shorten #[.slice p0.a p0.n p0.c] .L w6 fun (x7 : Sl) w8 => cl Try.prog n_bytes_Equal #[.slice x5.a x5.n x5.c, .slice x7.a x7.n x7.c] .B w8 fun (x9 : Bool) w10 => bif x9 then
 (cl Try.prog n_bytes_Equal #[.slice x3.a x3.n x3.c, .slice p0.a p0.n p0.c] .B w10 fun (x11 : Bool) w12 => bif x11 then
 (cl Try.prog n_flumelaw07_awake #[] .B w12 fun (x13 : Bool) w14 => Q x13 w14)
 else Q false w12)
 else Q false w10
theorem flumelaw07_LzShortens.t (p0 : Sl) (Q : Bool → World → Prop) (w : World) : flumelaw07_LzShortens p0 Q w = fvc Try.prog (fun _ => []) Try.f6 .B [Kd.av .L p0] w Q := by kernel_rfl
theorem flumelaw07_LzShortens.k : fnOk Try.prog Try.f6 = true := by kernel_rfl
theorem flumelaw07_LzShortens.cl {p0 : Sl} {Q : Bool → World → Prop} {w : World} (h : flumelaw07_LzShortens p0 Q w) : cl Try.prog n_flumelaw07_LzShortens #[.slice p0.a p0.n p0.c] .B w Q :=
  cl_tie Try.func6 flumelaw07_LzShortens.k (args := [Kd.av .L p0]) (flumelaw07_LzShortens.t p0 Q w) h

/-- flume/flumelaw07.LzRestores -/
def an_flumelaw07_LzRestores : Nat → LA
  | 8 => [(40, (.I .i64))] | _ => []
def flumelaw07_LzRestores (p0 : Sl) (p1 : Int) (Q : Bool → World → Prop) (w : World) : Prop :=
 bif (decide ((p0.n : Int) > 2048)) then
 (cl Try.prog n_flumelaw07_awake #[] .B w fun (x1 : Bool) w2 => Q x1 w2)
 else cl Try.prog n_slices_Clone_byte_byte #[.slice p0.a p0.n p0.c] .L w fun (x3 : Sl) w4 => cl Try.prog n_lz_Restore #[.slice x3.a x3.n x3.c, .int .i64 p1] (.tup (.pair .L (.pair (.I .i64) .nil))) w4 fun (x5 : (Sl × (Int × Unit))) w6 => cl Try.prog n_flumeref07_Restore #[.slice p0.a p0.n p0.c, .int .i64 p1] (.tup (.pair .L (.pair (.I .i64) .nil))) w6 fun (x7 : (Sl × (Int × Unit))) w8 => let j1 := (fun (y23 : Bool) (w24 : World) =>
   lp (α := (Int × Unit)) (fun K => K (0, ())) w24 fun D27 J28 s25 w26 =>
 bif (decide (s25.1 < (x5.1.n : Int))) then
  (ixa x5.1.a x5.1.n s25.1 1 fun a29 => ld (.I .u8) w26 a29 fun (x30 : Int) => ixa x5.1.a x5.1.n s25.1 1 fun a31 => st1 w26 a31 (.int .u8 (bits .xor .u8 x30 255)) fun w32 => J28 ((IntKind.i64.wrap (s25.1 + 1)), ()) w32)
  else bif y23 then
 (cl Try.prog n_bytes_Equal #[.slice x3.a x3.n x3.c, .slice p0.a p0.n p0.c] .B w26 fun (x33 : Bool) w34 => bif x33 then
 (cl Try.prog n_flumelaw07_awake #[] .B w34 fun (x35 : Bool) w36 => Q x35 w36)
 else Q false w34)
 else Q false w26);
 cl Try.prog n_bytes_Equal #[.slice x5.1.a x5.1.n x5.1.c, .slice x7.1.a x7.1.n x7.1.c] .B w8 fun (x9 : Bool) w10 => bif x9 then
 (j1 (x5.2.1 == x7.2.1) w10)
 else j1 false w10
theorem flumelaw07_LzRestores.t (p0 : Sl) (p1 : Int) (Q : Bool → World → Prop) (w : World) : flumelaw07_LzRestores p0 p1 Q w = fvc Try.prog an_flumelaw07_LzRestores Try.f7 .B [Kd.av .L p0, Kd.av (.I .i64) p1] w Q := by kernel_rfl
theorem flumelaw07_LzRestores.k : fnOk Try.prog Try.f7 = true := by kernel_rfl
theorem flumelaw07_LzRestores.cl {p0 : Sl} {p1 : Int} {Q : Bool → World → Prop} {w : World} (h : flumelaw07_LzRestores p0 p1 Q w) : cl Try.prog n_flumelaw07_LzRestores #[.slice p0.a p0.n p0.c, .int .i64 p1] .B w Q :=
  cl_tie Try.func7 flumelaw07_LzRestores.k (args := [Kd.av .L p0, Kd.av (.I .i64) p1]) (flumelaw07_LzRestores.t p0 p1 Q w) h

/-- flume/flumelaw07.LzTwice -/
def flumelaw07_LzTwice (p0 : Sl) (p1 : Sl) (Q : Bool → World → Prop) (w : World) : Prop :=
 bif (decide ((p0.n : Int) > 16384)) then
 (cl Try.prog n_flumelaw07_awake #[] .B w fun (x1 : Bool) w2 => Q x1 w2)
 else bif (decide ((p1.n : Int) > 16384)) then
 (cl Try.prog n_flumelaw07_awake #[] .B w fun (x3 : Bool) w4 => Q x3 w4)
 else cl Try.prog n_lz_Shorten #[.slice p0.a p0.n p0.c] .L w fun (x5 : Sl) w6 => cl Try.prog n_lz_Shorten #[.slice p1.a p1.n p1.c] .L w6 fun (x7 : Sl) w8 => nw w8 [.slice x5.a x5.n x5.c, .slice x7.a x7.n x7.c] t_s_uint8 fun a9 w10 => cl Try.prog n_slices_Concat_byte_byte #[.slice (some a9) 2 2] .L w10 fun (x11 : Sl) w12 => cl Try.prog n_lz_Restore #[.slice x11.a x11.n x11.c, .int .i64 (IntKind.i64.wrap ((p0.n : Int) + (p1.n : Int)))] (.tup (.pair .L (.pair (.I .i64) .nil))) w12 fun (x13 : (Sl × (Int × Unit))) w14 => bif (x13.2.1 == 0) then
 (nw w14 [.slice p0.a p0.n p0.c, .slice p1.a p1.n p1.c] t_s_uint8 fun a15 w16 => cl Try.prog n_slices_Concat_byte_byte #[.slice (some a15) 2 2] .L w16 fun (x17 : Sl) w18 => cl Try.prog n_bytes_Equal #[.slice x13.1.a x13.1.n x13.1.c, .slice x17.a x17.n x17.c] .B w18 fun (x19 : Bool) w20 => bif x19 then
 (cl Try.prog n_flumelaw07_awake #[] .B w20 fun (x21 : Bool) w22 => Q x21 w22)
 else Q false w20)
 else Q false w14
theorem flumelaw07_LzTwice.t (p0 : Sl) (p1 : Sl) (Q : Bool → World → Prop) (w : World) : flumelaw07_LzTwice p0 p1 Q w = fvc Try.prog (fun _ => []) Try.f8 .B [Kd.av .L p0, Kd.av .L p1] w Q := by kernel_rfl
theorem flumelaw07_LzTwice.k : fnOk Try.prog Try.f8 = true := by kernel_rfl
theorem flumelaw07_LzTwice.cl {p0 : Sl} {p1 : Sl} {Q : Bool → World → Prop} {w : World} (h : flumelaw07_LzTwice p0 p1 Q w) : cl Try.prog n_flumelaw07_LzTwice #[.slice p0.a p0.n p0.c, .slice p1.a p1.n p1.c] .B w Q :=
  cl_tie Try.func8 flumelaw07_LzTwice.k (args := [Kd.av .L p0, Kd.av .L p1]) (flumelaw07_LzTwice.t p0 p1 Q w) h

/-- flume/flumelaw07.LzBehind -/
def flumelaw07_LzBehind (p0 : Sl) (p1 : Sl) (Q : Bool → World → Prop) (w : World) : Prop :=
 bif (decide ((p0.n : Int) > 2048)) then
 (cl Try.prog n_flumelaw07_awake #[] .B w fun (x1 : Bool) w2 => Q x1 w2)
 else bif (decide ((p1.n : Int) > 2048)) then
 (cl Try.prog n_flumelaw07_awake #[] .B w fun (x3 : Bool) w4 => Q x3 w4)
 else cl Try.prog n_lz_Restore #[.slice p0.a p0.n p0.c, .int .i64 1048576] (.tup (.pair .L (.pair (.I .i64) .nil))) w fun (x5 : (Sl × (Int × Unit))) w6 => nw w6 [.slice p0.a p0.n p0.c, .slice p1.a p1.n p1.c] t_s_uint8 fun a7 w8 => cl Try.prog n_slices_Concat_byte_byte #[.slice (some a7) 2 2] .L w8 fun (x9 : Sl) w10 => cl Try.prog n_lz_Restore #[.slice x9.a x9.n x9.c, .int .i64 1048576] (.tup (.pair .L (.pair (.I .i64) .nil))) w10 fun (x11 : (Sl × (Int × Unit))) w12 => bif (x5.2.1 != 0) then
 (cl Try.prog n_flumelaw07_awake #[] .B w12 fun (x13 : Bool) w14 => Q x13 w14)
 else bif (x11.2.1 != 0) then
 (cl Try.prog n_flumelaw07_awake #[] .B w12 fun (x15 : Bool) w16 => Q x15 w16)
 else cl Try.prog n_bytes_HasPrefix #[.slice x11.1.a x11.1.n x11.1.c, .slice x5.1.a x5.1.n x5.1.c] .B w12 fun (x17 : Bool) w18 => bif x17 then
 (cl Try.prog n_flumelaw07_awake #[] .B w18 fun (x19 : Bool) w20 => Q x19 w20)
 else Q false w18
theorem flumelaw07_LzBehind.t (p0 : Sl) (p1 : Sl) (Q : Bool → World → Prop) (w : World) : flumelaw07_LzBehind p0 p1 Q w = fvc Try.prog (fun _ => []) Try.f9 .B [Kd.av .L p0, Kd.av .L p1] w Q := by kernel_rfl
theorem flumelaw07_LzBehind.k : fnOk Try.prog Try.f9 = true := by kernel_rfl
theorem flumelaw07_LzBehind.cl {p0 : Sl} {p1 : Sl} {Q : Bool → World → Prop} {w : World} (h : flumelaw07_LzBehind p0 p1 Q w) : cl Try.prog n_flumelaw07_LzBehind #[.slice p0.a p0.n p0.c, .slice p1.a p1.n p1.c] .B w Q :=
  cl_tie Try.func9 flumelaw07_LzBehind.k (args := [Kd.av .L p0, Kd.av .L p1]) (flumelaw07_LzBehind.t p0 p1 Q w) h

/-- flume/flumelaw07.LzGains -/
def flumelaw07_LzGains (p0 : Sl) (p1 : Int) (Q : Bool → World → Prop) (w : World) : Prop :=
 bif (decide ((p0.n : Int) < 3)) then
 (cl Try.prog n_flumelaw07_awake #[] .B w fun (x1 : Bool) w2 => Q x1 w2)
 else bif (decide ((p0.n : Int) > 60)) then
 (cl Try.prog n_flumelaw07_awake #[] .B w fun (x3 : Bool) w4 => Q x3 w4)
 else cl Try.prog n_bytes_Repeat #[.slice p0.a p0.n p0.c, .int .i64 (IntKind.i64.wrap (Int.tmod (IntKind.u64.wrap p1) 20))] .L w fun (x5 : Sl) w6 => cl Try.prog n_lz_Shorten #[.slice x5.a x5.n x5.c] .L w6 fun (x7 : Sl) w8 => bif (decide ((x7.n : Int) ≤ (IntKind.i64.wrap ((IntKind.i64.wrap ((p0.n : Int) + 1)) + (IntKind.i64.wrap (3 * (IntKind.i64.wrap ((IntKind.i64.wrap (Int.tdiv (x5.n : Int) 66)) + 2)))))))) then
 (cl Try.prog n_flumelaw07_awake #[] .B w8 fun (x9 : Bool) w10 => Q x9 w10)
 else Q false w8
theorem flumelaw07_LzGains.t (p0 : Sl) (p1 : Int) (Q : Bool → World → Prop) (w : World) : flumelaw07_LzGains p0 p1 Q w = fvc Try.prog (fun _ => []) Try.f10 .B [Kd.av .L p0, Kd.av (.I .i64) p1] w Q := by kernel_rfl
theorem flumelaw07_LzGains.k : fnOk Try.prog Try.f10 = true := by kernel_rfl
theorem flumelaw07_LzGains.cl {p0 : Sl} {p1 : Int} {Q : Bool → World → Prop} {w : World} (h : flumelaw07_LzGains p0 p1 Q w) : cl Try.prog n_flumelaw07_LzGains #[.slice p0.a p0.n p0.c, .int .i64 p1] .B w Q :=
  cl_tie Try.func10 flumelaw07_LzGains.k (args := [Kd.av .L p0, Kd.av (.I .i64) p1]) (flumelaw07_LzGains.t p0 p1 Q w) h

/-- flume/flumelaw07.awake -/
def flumelaw07_awake  (Q : Bool → World → Prop) (w : World) : Prop :=
 nw w [.int .u8 0, .int .u8 97, .int .u8 131, .int .u8 1] t_uint8 fun a1 w2 => rn Try.prog (convert t_s_uint8 t_s_uint8 (.slice (some a1) 4 4)) .L w2 fun (r3 : Sl) w4 => cl Try.prog n_lz_Restore #[.slice r3.a r3.n r3.c, .int .i64 7] (.tup (.pair .L (.pair (.I .i64) .nil))) w4 fun (x5 : (Sl × (Int × Unit))) w6 => nw w6 [.int .u8 0, .int .u8 97, .int .u8 131, .int .u8 1] t_uint8 fun a7 w8 => rn Try.prog (convert t_s_uint8 t_s_uint8 (.slice (some a7) 4 4)) .L w8 fun (r9 : Sl) w10 => cl Try.prog n_lz_Restore #[.slice r9.a r9.n r9.c, .int .i64 6] (.tup (.pair .L (.pair (.I .i64) .nil))) w10 fun (x11 : (Sl × (Int × Unit))) w12 => nw w12 [.int .u8 97, .int .u8 97, .int .u8 97, .int .u8 97, .int .u8 97, .int .u8 97, .int .u8 97] t_uint8 fun a13 w14 => rn Try.prog (convert t_s_uint8 t_s_uint8 (.slice (some a13) 7 7)) .L w14 fun (r15 : Sl) w16 => cl Try.prog n_lz_Shorten #[.slice r15.a r15.n r15.c] .L w16 fun (x17 : Sl) w18 => bstr w18 x17 fun z19 => bif (beqB ⟨z19.toArray⟩ ⟨#[0, 97, 131, 1]⟩) then
 (bstr w18 x5.1 fun z20 => bif (beqB ⟨z20.toArray⟩ ⟨#[97, 97, 97, 97, 97, 97, 97]⟩) then
 (bif (x5.2.1 == 0) then
 (Q (x11.2.1 == 71) w18)
 else Q false w18)
 else Q false w18)
 else Q false w18
theorem flumelaw07_awake.t  (Q : Bool → World → Prop) (w : World) : flumelaw07_awake  Q w = fvc Try.prog (fun _ => []) Try.f11 .B [] w Q := by kernel_rfl
theorem flumelaw07_awake.k : fnOk Try.prog Try.f11 = true := by kernel_rfl
theorem flumelaw07_awake.cl  {Q : Bool → World → Prop} {w : World} (h : flumelaw07_awake  Q w) : cl Try.prog n_flumelaw07_awake #[] .B w Q :=
  cl_tie Try.func11 flumelaw07_awake.k (args := []) (flumelaw07_awake.t  Q w) h

/-- flume/lz.Restore -/
def an_lz_Restore : Nat → LA
  | 2 => [(0, .L), (6, .L)] | _ => []
def lz_Restore (p0 : Sl) (p1 : Int) (Q : (Sl × (Int × Unit)) → World → Prop) (w : World) : Prop :=
 lp (α := (Sl × (Sl × Unit))) (fun K => K (p0, (⟨none, 0, 0⟩, ()))) w fun D3 J4 s1 w2 =>
 bif (decide ((s1.1.n : Int) > 0)) then
  (cl Try.prog n_lz_step #[.slice s1.2.1.a s1.2.1.n s1.2.1.c, .slice s1.1.a s1.1.n s1.1.c] (.tup (.pair .L (.pair (.I .i64) (.pair (.I .i64) .nil)))) w2 fun (x5 : (Sl × (Int × (Int × Unit)))) w6 => bif (x5.2.2.1 != 0) then
  (Q (⟨none, 0, 0⟩, (x5.2.2.1, ())) w6)
  else bif (decide ((x5.1.n : Int) > (IntKind.i64.wrap (p1 - (s1.2.1.n : Int))))) then
  (Q (⟨none, 0, 0⟩, (71, ())) w6)
  else app Try.prog t_s_uint8 t_s_uint8 s1.2.1 x5.1 w6 fun r7 w8 => sls s1.1 x5.2.1 s1.1.n 1 fun r9 => J4 (r9, (r7, ())) w8)
  else Q (s1.2.1, (0, ())) w2
theorem lz_Restore.t (p0 : Sl) (p1 : Int) (Q : (Sl × (Int × Unit)) → World → Prop) (w : World) : lz_Restore p0 p1 Q w = fvc Try.prog an_lz_Restore Try.f12 (.tup (.pair .L (.pair (.I .i64) .nil))) [Kd.av .L p0, Kd.av (.I .i64) p1] w Q := by kernel_rfl
theorem lz_Restore.k : fnOk Try.prog Try.f12 = true := by kernel_rfl
theorem lz_Restore.cl {p0 : Sl} {p1 : Int} {Q : (Sl × (Int × Unit)) → World → Prop} {w : World} (h : lz_Restore p0 p1 Q w) : cl Try.prog n_lz_Restore #[.slice p0.a p0.n p0.c, .int .i64 p1] (.tup (.pair .L (.pair (.I .i64) .nil))) w Q :=
  cl_tie Try.func12 lz_Restore.k (args := [Kd.av .L p0, Kd.av (.I .i64) p1]) (lz_Restore.t p0 p1 Q w) h

/-- flume/lz.Shorten -/
def an_lz_Shorten : Nat → LA
  | 5 => [(4, .L), (5, (.I .i64)), (6, (.I .i64))] | 13 => [(6, (.I .i64)), (49, (.I .i64))] | _ => []
def lz_Shorten (p0 : Sl) (Q : Sl → World → Prop) (w : World) : Prop :=
 rn Try.prog (Instr.makeMap t_map_3_uint8_int none) .M w fun (m1 : Option Nat) w2 => mks Try.prog t_s_int (p0.n : Int) (p0.n : Int) w2 fun r3 w4 => nw w4 ([.slice p0.a p0.n p0.c, .map m1, .slice r3.a r3.n r3.c]) t_lz_chains fun a5 w6 => lp (α := (Sl × (Int × (Int × Unit)))) (fun K => K (⟨none, 0, 0⟩, (0, (0, ())))) w6 fun D9 J10 s7 w8 =>
 bif (decide (s7.2.2.1 < (p0.n : Int))) then
  (cl Try.prog n_lz_chains_best #[.pointer (some a5), .int .i64 s7.2.2.1] (.tup (.pair (.I .i64) (.pair (.I .i64) .nil))) w8 fun (x11 : (Int × (Int × Unit))) w12 => bif (decide (x11.2.1 < 3)) then
  (cl Try.prog n_lz_chains_put #[.pointer (some a5), .int .i64 s7.2.2.1] (.tup .nil) w12 fun (x13 : Unit) w14 => J10 (s7.1, (s7.2.1, ((IntKind.i64.wrap (s7.2.2.1 + 1)), ()))) w14)
  else sls p0 s7.2.1 s7.2.2.1 1 fun r15 => cl Try.prog n_lz_literals #[.slice s7.1.a s7.1.n s7.1.c, .slice r15.a r15.n r15.c] .L w12 fun (x16 : Sl) w17 => nw w17 [.int .u8 (IntKind.u8.wrap (IntKind.i64.wrap ((IntKind.i64.wrap (128 + x11.2.1)) - 3)))] t_uint8 fun a18 w19 => app Try.prog t_s_uint8 t_s_uint8 x16 ⟨(some a18), 1, 1⟩ w19 fun r20 w21 => cl Try.prog n_octet_Number #[.slice r20.a r20.n r20.c, .int .i64 x11.1] .L w21 fun (x22 : Sl) w23 => lp (α := (Int × (Int × Unit))) (fun K => K (s7.2.2.1, (0, ()))) w23 fun D26 J27 s24 w25 =>
  bif (decide (s24.2.1 < x11.2.1)) then
   (cl Try.prog n_lz_chains_put #[.pointer (some a5), .int .i64 s24.1] (.tup .nil) w25 fun (x28 : Unit) w29 => J27 ((IntKind.i64.wrap (s24.1 + 1)), ((IntKind.i64.wrap (s24.2.1 + 1)), ())) w29)
   else J10 (x22, (s24.1, (s24.1, ()))) w25)
  else sls p0 s7.2.1 p0.n 1 fun r30 => cl Try.prog n_lz_literals #[.slice s7.1.a s7.1.n s7.1.c, .slice r30.a r30.n r30.c] .L w8 fun (x31 : Sl) w32 => Q x31 w32
theorem lz_Shorten.t (p0 : Sl) (Q : Sl → World → Prop) (w : World) : lz_Shorten p0 Q w = fvc Try.prog an_lz_Shorten Try.f13 .L [Kd.av .L p0] w Q := by kernel_rfl
theorem lz_Shorten.k : fnOk Try.prog Try.f13 = true := by kernel_rfl
theorem lz_Shorten.cl {p0 : Sl} {Q : Sl → World → Prop} {w : World} (h : lz_Shorten p0 Q w) : cl Try.prog n_lz_Shorten #[.slice p0.a p0.n p0.c] .L w Q :=
  cl_tie Try.func13 lz_Shorten.k (args := [Kd.av .L p0]) (lz_Shorten.t p0 Q w) h
end Go.Proofs.Ytaljjbanhmfilaa
