/- What the code of Go functions of this seat asks, in numbers, lists and worlds: printed by a program of mine (wip/tools). -/
import Derived.Test.YtaljjbanhmfilaaId
set_option linter.unusedVariables false
set_option maxHeartbeats 4000000
namespace Go.Proofs.Ytaljjbanhmfilaa
open Go.Fl
/-- bytes.Equal -/
def bytes_Equal (p0 : Sl) (p1 : Sl) (Q : Bool → World → Prop) (w : World) : Prop :=
 bstr w p0 fun z1 => bstr w p1 fun z2 => Q (beqB ⟨z1.toArray⟩ ⟨z2.toArray⟩) w
theorem bytes_Equal.t (p0 : Sl) (p1 : Sl) (Q : Bool → World → Prop) (w : World) : bytes_Equal p0 p1 Q w = fvc Try.prog (fun _ => []) Try.f14 .B [Kd.av .L p0, Kd.av .L p1] w Q := by kernel_rfl
theorem bytes_Equal.k : fnOk Try.prog Try.f14 = true := by kernel_rfl
theorem bytes_Equal.cl {p0 : Sl} {p1 : Sl} {Q : Bool → World → Prop} {w : World} (h : bytes_Equal p0 p1 Q w) : cl Try.prog n_bytes_Equal #[.slice p0.a p0.n p0.c, .slice p1.a p1.n p1.c] .B w Q :=
  cl_tie Try.func14 bytes_Equal.k (args := [Kd.av .L p0, Kd.av .L p1]) (bytes_Equal.t p0 p1 Q w) h

/-- slices.Clone[[]byte,byte] -/
def slices_Clone_byte_byte (p0 : Sl) (Q : Sl → World → Prop) (w : World) : Prop :=
 bif p0.a.isNone then
 (Q ⟨none, 0, 0⟩ w)
 else nw w [] t_uint8 fun a1 w2 => app Try.prog t_s_uint8 t_s_uint8 ⟨(some a1), 0, 0⟩ p0 w2 fun r3 w4 => Q r3 w4
theorem slices_Clone_byte_byte.t (p0 : Sl) (Q : Sl → World → Prop) (w : World) : slices_Clone_byte_byte p0 Q w = fvc Try.prog (fun _ => []) Try.f15 .L [Kd.av .L p0] w Q := by kernel_rfl
theorem slices_Clone_byte_byte.k : fnOk Try.prog Try.f15 = true := by kernel_rfl
theorem slices_Clone_byte_byte.cl {p0 : Sl} {Q : Sl → World → Prop} {w : World} (h : slices_Clone_byte_byte p0 Q w) : cl Try.prog n_slices_Clone_byte_byte #[.slice p0.a p0.n p0.c] .L w Q :=
  cl_tie Try.func15 slices_Clone_byte_byte.k (args := [Kd.av .L p0]) (slices_Clone_byte_byte.t p0 Q w) h

/-- flume/flumeref07.Shorten -/
def an_flumeref07_Shorten : Nat → LA
  | 3 => [(3, .L), (4, .L), (5, (.I .i64))] | _ => []
def flumeref07_Shorten (p0 : Sl) (Q : Sl → World → Prop) (w : World) : Prop :=
 lp (α := (Sl × (Sl × (Int × Unit)))) (fun K => K (⟨none, 0, 0⟩, (⟨none, 0, 0⟩, (0, ())))) w fun D3 J4 s1 w2 =>
 bif (decide (s1.2.2.1 < (p0.n : Int))) then
  (cl Try.prog n_flumeref07_Longest #[.slice p0.a p0.n p0.c, .int .i64 s1.2.2.1] (.tup (.pair (.I .i64) (.pair (.I .i64) .nil))) w2 fun (x5 : (Int × (Int × Unit))) w6 => bif (decide (x5.2.1 < 3)) then
  (ixa p0.a p0.n s1.2.2.1 1 fun a7 => ld (.I .u8) w6 a7 fun (x8 : Int) => nw w6 [.int .u8 x8] t_uint8 fun a9 w10 => app Try.prog t_s_uint8 t_s_uint8 s1.2.1 ⟨(some a9), 1, 1⟩ w10 fun r11 w12 => J4 (s1.1, (r11, ((IntKind.i64.wrap (s1.2.2.1 + 1)), ()))) w12)
  else cl Try.prog n_flumeref07_plain #[.slice s1.2.1.a s1.2.1.n s1.2.1.c] .L w6 fun (x13 : Sl) w14 => app Try.prog t_s_uint8 t_s_uint8 s1.1 x13 w14 fun r15 w16 => nw w16 [.int .u8 (IntKind.u8.wrap (IntKind.i64.wrap (x5.2.1 + 125)))] t_uint8 fun a17 w18 => app Try.prog t_s_uint8 t_s_uint8 r15 ⟨(some a17), 1, 1⟩ w18 fun r19 w20 => cl Try.prog n_flumeref02_Number #[.slice r19.a r19.n r19.c, .int .i64 x5.1] .L w20 fun (x21 : Sl) w22 => J4 (x21, (⟨none, 0, 0⟩, ((IntKind.i64.wrap (s1.2.2.1 + x5.2.1)), ()))) w22)
  else cl Try.prog n_flumeref07_plain #[.slice s1.2.1.a s1.2.1.n s1.2.1.c] .L w2 fun (x23 : Sl) w24 => app Try.prog t_s_uint8 t_s_uint8 s1.1 x23 w24 fun r25 w26 => Q r25 w26
theorem flumeref07_Shorten.t (p0 : Sl) (Q : Sl → World → Prop) (w : World) : flumeref07_Shorten p0 Q w = fvc Try.prog an_flumeref07_Shorten Try.f16 .L [Kd.av .L p0] w Q := by kernel_rfl
theorem flumeref07_Shorten.k : fnOk Try.prog Try.f16 = true := by kernel_rfl
theorem flumeref07_Shorten.cl {p0 : Sl} {Q : Sl → World → Prop} {w : World} (h : flumeref07_Shorten p0 Q w) : cl Try.prog n_flumeref07_Shorten #[.slice p0.a p0.n p0.c] .L w Q :=
  cl_tie Try.func16 flumeref07_Shorten.k (args := [Kd.av .L p0]) (flumeref07_Shorten.t p0 Q w) h

/-- flume/flumeref07.Restore -/
def an_flumeref07_Restore : Nat → LA
  | 3 => [(6, .L), (7, (.I .i64))] | 22 => [(6, .L), (106, (.I .i64))] | _ => []
def flumeref07_Restore (p0 : Sl) (p1 : Int) (Q : (Sl × (Int × Unit)) → World → Prop) (w : World) : Prop :=
 lp (α := (Sl × (Int × Unit))) (fun K => K (⟨none, 0, 0⟩, (0, ()))) w fun D3 J4 s1 w2 =>
 bif (decide (s1.2.1 < (p0.n : Int))) then
  (ixa p0.a p0.n s1.2.1 1 fun a5 => ld (.I .u8) w2 a5 fun (x6 : Int) => bif (decide ((IntKind.i64.wrap x6) < 128)) then
  (bif (decide ((IntKind.i64.wrap ((p0.n : Int) - (IntKind.i64.wrap (s1.2.1 + 1)))) < (IntKind.i64.wrap ((IntKind.i64.wrap x6) + 1)))) then
   (Q (⟨none, 0, 0⟩, (2, ())) w2)
   else bif (decide ((IntKind.i64.wrap ((IntKind.i64.wrap x6) + 1)) > p1)) then
   (Q (⟨none, 0, 0⟩, (71, ())) w2)
   else bif (decide ((s1.1.n : Int) > (IntKind.i64.wrap ((IntKind.i64.wrap (p1 - (IntKind.i64.wrap x6))) - 1)))) then
   (Q (⟨none, 0, 0⟩, (71, ())) w2)
   else sls p0 (IntKind.i64.wrap (s1.2.1 + 1)) (IntKind.i64.wrap ((IntKind.i64.wrap ((IntKind.i64.wrap (s1.2.1 + 1)) + (IntKind.i64.wrap x6))) + 1)) 1 fun r7 => app Try.prog t_s_uint8 t_s_uint8 s1.1 r7 w2 fun r8 w9 => J4 (r8, ((IntKind.i64.wrap ((IntKind.i64.wrap (s1.2.1 + 1)) + (IntKind.i64.wrap ((IntKind.i64.wrap x6) + 1)))), ())) w9)
  else sls p0 (IntKind.i64.wrap (s1.2.1 + 1)) p0.n 1 fun r10 => cl Try.prog n_flumeref02_Look #[.slice r10.a r10.n r10.c] (.tup (.pair (.I .i64) (.pair (.I .i64) (.pair (.I .i64) .nil)))) w2 fun (x11 : (Int × (Int × (Int × Unit)))) w12 => bif (x11.2.2.1 == 2) then
  (Q (⟨none, 0, 0⟩, (2, ())) w12)
  else bif (x11.2.2.1 != 0) then
  (Q (⟨none, 0, 0⟩, (70, ())) w12)
  else bif (decide ((IntKind.i64.wrap x6) > 191)) then
  (Q (⟨none, 0, 0⟩, (70, ())) w12)
  else bif (decide (x11.1 < 1)) then
  (Q (⟨none, 0, 0⟩, (70, ())) w12)
  else bif (decide (x11.1 > 512)) then
  (Q (⟨none, 0, 0⟩, (70, ())) w12)
  else bif (decide (x11.1 > (s1.1.n : Int))) then
  (Q (⟨none, 0, 0⟩, (70, ())) w12)
  else bif (decide ((IntKind.i64.wrap ((IntKind.i64.wrap x6) - 125)) > p1)) then
  (Q (⟨none, 0, 0⟩, (71, ())) w12)
  else bif (decide ((s1.1.n : Int) > (IntKind.i64.wrap (p1 - (IntKind.i64.wrap ((IntKind.i64.wrap x6) - 125)))))) then
  (Q (⟨none, 0, 0⟩, (71, ())) w12)
  else lp (α := (Sl × (Int × Unit))) (fun K => K (s1.1, (0, ()))) w12 fun D15 J16 s13 w14 =>
  bif (decide (s13.2.1 < (IntKind.i64.wrap ((IntKind.i64.wrap x6) - 125)))) then
   (ixa s13.1.a s13.1.n (IntKind.i64.wrap ((s13.1.n : Int) - x11.1)) 1 fun a17 => ld (.I .u8) w14 a17 fun (x18 : Int) => nw w14 [.int .u8 x18] t_uint8 fun a19 w20 => app Try.prog t_s_uint8 t_s_uint8 s13.1 ⟨(some a19), 1, 1⟩ w20 fun r21 w22 => J16 (r21, ((IntKind.i64.wrap (s13.2.1 + 1)), ())) w22)
   else J4 (s13.1, ((IntKind.i64.wrap ((IntKind.i64.wrap (s1.2.1 + 1)) + x11.2.1)), ())) w14)
  else Q (s1.1, (0, ())) w2
theorem flumeref07_Restore.t (p0 : Sl) (p1 : Int) (Q : (Sl × (Int × Unit)) → World → Prop) (w : World) : flumeref07_Restore p0 p1 Q w = fvc Try.prog an_flumeref07_Restore Try.f17 (.tup (.pair .L (.pair (.I .i64) .nil))) [Kd.av .L p0, Kd.av (.I .i64) p1] w Q := by kernel_rfl
theorem flumeref07_Restore.k : fnOk Try.prog Try.f17 = true := by kernel_rfl
theorem flumeref07_Restore.cl {p0 : Sl} {p1 : Int} {Q : (Sl × (Int × Unit)) → World → Prop} {w : World} (h : flumeref07_Restore p0 p1 Q w) : cl Try.prog n_flumeref07_Restore #[.slice p0.a p0.n p0.c, .int .i64 p1] (.tup (.pair .L (.pair (.I .i64) .nil))) w Q :=
  cl_tie Try.func17 flumeref07_Restore.k (args := [Kd.av .L p0, Kd.av (.I .i64) p1]) (flumeref07_Restore.t p0 p1 Q w) h

/-- slices.Concat[[]byte,byte] -/
def an_slices_Concat_byte_byte : Nat → LA
  | 3 => [(3, (.I .i64)), (11, (.I .i64))] | 11 => [(6, .L), (27, (.I .i64))] | _ => []
def slices_Concat_byte_byte (p0 : Sl) (Q : Sl → World → Prop) (w : World) : Prop :=
 lp (α := (Int × (Int × Unit))) (fun K => K (0, (0, ()))) w fun D3 J4 s1 w2 =>
 bif (decide (s1.2.1 < (p0.n : Int))) then
  (ixa p0.a p0.n s1.2.1 1 fun a5 => ld .L w2 a5 fun (x6 : Sl) => bif (decide ((IntKind.i64.wrap (s1.1 + (x6.n : Int))) < 0)) then
  (False)
  else J4 ((IntKind.i64.wrap (s1.1 + (x6.n : Int))), ((IntKind.i64.wrap (s1.2.1 + 1)), ())) w2)
  else cl Try.prog n_slices_Grow_byte_byte #[.slice none 0 0, .int .i64 s1.1] .L w2 fun (x7 : Sl) w8 => lp (α := (Sl × (Int × Unit))) (fun K => K (x7, (0, ()))) w8 fun D11 J12 s9 w10 =>
 bif (decide (s9.2.1 < (p0.n : Int))) then
  (ixa p0.a p0.n s9.2.1 1 fun a13 => ld .L w10 a13 fun (x14 : Sl) => app Try.prog t_s_uint8 t_s_uint8 s9.1 x14 w10 fun r15 w16 => J12 (r15, ((IntKind.i64.wrap (s9.2.1 + 1)), ())) w16)
  else Q s9.1 w10
theorem slices_Concat_byte_byte.t (p0 : Sl) (Q : Sl → World → Prop) (w : World) : slices_Concat_byte_byte p0 Q w = fvc Try.prog an_slices_Concat_byte_byte Try.f18 .L [Kd.av .L p0] w Q := by kernel_rfl
theorem slices_Concat_byte_byte.k : fnOk Try.prog Try.f18 = true := by kernel_rfl
theorem slices_Concat_byte_byte.cl {p0 : Sl} {Q : Sl → World → Prop} {w : World} (h : slices_Concat_byte_byte p0 Q w) : cl Try.prog n_slices_Concat_byte_byte #[.slice p0.a p0.n p0.c] .L w Q :=
  cl_tie Try.func18 slices_Concat_byte_byte.k (args := [Kd.av .L p0]) (slices_Concat_byte_byte.t p0 Q w) h

/-- bytes.HasPrefix -/
def bytes_HasPrefix (p0 : Sl) (p1 : Sl) (Q : Bool → World → Prop) (w : World) : Prop :=
 bif (decide ((p0.n : Int) ≥ (p1.n : Int))) then
 (sls p0 0 (p1.n : Int) 1 fun r1 => cl Try.prog n_bytes_Equal #[.slice r1.a r1.n r1.c, .slice p1.a p1.n p1.c] .B w fun (x2 : Bool) w3 => Q x2 w3)
 else Q false w
theorem bytes_HasPrefix.t (p0 : Sl) (p1 : Sl) (Q : Bool → World → Prop) (w : World) : bytes_HasPrefix p0 p1 Q w = fvc Try.prog (fun _ => []) Try.f19 .B [Kd.av .L p0, Kd.av .L p1] w Q := by kernel_rfl
theorem bytes_HasPrefix.k : fnOk Try.prog Try.f19 = true := by kernel_rfl
theorem bytes_HasPrefix.cl {p0 : Sl} {p1 : Sl} {Q : Bool → World → Prop} {w : World} (h : bytes_HasPrefix p0 p1 Q w) : cl Try.prog n_bytes_HasPrefix #[.slice p0.a p0.n p0.c, .slice p1.a p1.n p1.c] .B w Q :=
  cl_tie Try.func19 bytes_HasPrefix.k (args := [Kd.av .L p0, Kd.av .L p1]) (bytes_HasPrefix.t p0 p1 Q w) h

/-- bytes.Repeat -/
def an_bytes_Repeat : Nat → LA
  | 18 => [(10, (.I .i64))] | 1000020 => [(0, .nil)] | _ => []
def bytes_Repeat (p0 : Sl) (p1 : Int) (Q : Sl → World → Prop) (w : World) : Prop :=
 bif (p1 == 0) then
 (nw w [] t_uint8 fun a1 w2 => Q ⟨(some a1), 0, 0⟩ w2)
 else bif (decide (p1 < 0)) then
 (False)
 else cl Try.prog n_math_bits_Mul #[.int .u64 (IntKind.u64.wrap (p0.n : Int)), .int .u64 (IntKind.u64.wrap p1)] (.tup (.pair (.I .u64) (.pair (.I .u64) .nil))) w fun (x3 : (Int × (Int × Unit))) w4 => bif (decide (x3.1 > 0)) then
 (False)
 else bif (decide (x3.2.1 > 9223372036854775807)) then
 (False)
 else bif ((p0.n : Int) == 0) then
 (nw w4 [] t_uint8 fun a5 w6 => Q ⟨(some a5), 0, 0⟩ w6)
 else let j1 := (fun (y21 : Int) (w22 : World) =>
   ex Try.prog n_internal_bytealg_MakeNoZero #[.int .i64 (IntKind.i64.wrap x3.2.1)] .L w22 fun (x23 : Sl) w24 => qn Try.prog (Instr.sliceAt t_s_uint8 (.slice x23.a x23.n x23.c) none (some (.int .i64 (IntKind.i64.wrap x3.2.1))) (some (.int .i64 (IntKind.i64.wrap x3.2.1)))) .L w24 fun (r25 : Sl) => rn Try.prog (Builtin.copy_ #[t_s_uint8, t_s_uint8] t_int #[.slice r25.a r25.n r25.c, .slice p0.a p0.n p0.c]) (.I .i64) w24 fun (x26 : Int) w27 => lp (α := (Int × Unit)) (fun K => K (x26, ())) w27 fun D30 J31 s28 w29 =>
 bif (decide (s28.1 < (IntKind.i64.wrap x3.2.1))) then
  (dr w29 fun w32 => sls r25 s28.1 r25.n 1 fun r33 => sls r25 0 (min s28.1 y21) 1 fun r34 => rn Try.prog (Builtin.copy_ #[t_s_uint8, t_s_uint8] t_int #[.slice r33.a r33.n r33.c, .slice r34.a r34.n r34.c]) (.I .i64) w32 fun (x35 : Int) w36 => J31 ((IntKind.i64.wrap (s28.1 + x35)), ()) w36)
  else Q r25 w29);
 bif (decide ((IntKind.i64.wrap x3.2.1) > 8192)) then
 (bif true && !decide ((p0.n : Int) = 0) then (bif ((IntKind.i64.wrap ((IntKind.i64.wrap (Int.tdiv 8192 (p0.n : Int))) * (p0.n : Int))) == 0) then
  (j1 (p0.n : Int) w4)
  else j1 (IntKind.i64.wrap ((IntKind.i64.wrap (Int.tdiv 8192 (p0.n : Int))) * (p0.n : Int))) w4) else False)
 else j1 (IntKind.i64.wrap x3.2.1) w4
theorem bytes_Repeat.t (p0 : Sl) (p1 : Int) (Q : Sl → World → Prop) (w : World) : bytes_Repeat p0 p1 Q w = fvc Try.prog an_bytes_Repeat Try.f20 .L [Kd.av .L p0, Kd.av (.I .i64) p1] w Q := by kernel_rfl
theorem bytes_Repeat.k : fnOk Try.prog Try.f20 = true := by kernel_rfl
theorem bytes_Repeat.cl {p0 : Sl} {p1 : Int} {Q : Sl → World → Prop} {w : World} (h : bytes_Repeat p0 p1 Q w) : cl Try.prog n_bytes_Repeat #[.slice p0.a p0.n p0.c, .int .i64 p1] .L w Q :=
  cl_tie Try.func20 bytes_Repeat.k (args := [Kd.av .L p0, Kd.av (.I .i64) p1]) (bytes_Repeat.t p0 p1 Q w) h

/-- flume/lz.step -/
def an_lz_step : Nat → LA
  | 15 => [(67, (.I .i64))] | _ => []
def lz_step (p0 : Sl) (p1 : Sl) (Q : (Sl × (Int × (Int × Unit))) → World → Prop) (w : World) : Prop :=
 ixa p1.a p1.n 0 1 fun a1 => ld (.I .u8) w a1 fun (x2 : Int) => bif (decide (x2 < 128)) then
 (ixa p1.a p1.n 0 1 fun a3 => ld (.I .u8) w a3 fun (x4 : Int) => bif (decide ((p1.n : Int) ≤ (IntKind.i64.wrap ((IntKind.i64.wrap x4) + 1)))) then
  (Q (⟨none, 0, 0⟩, (0, (2, ()))) w)
  else qn Try.prog (Instr.sliceAt t_s_uint8 (.slice p1.a p1.n p1.c) (some (.int .i64 1)) (some (.int .i64 (IntKind.i64.wrap ((IntKind.i64.wrap ((IntKind.i64.wrap x4) + 1)) + 1)))) (some (.int .i64 (IntKind.i64.wrap ((IntKind.i64.wrap ((IntKind.i64.wrap x4) + 1)) + 1))))) .L w fun (r5 : Sl) => Q (r5, ((IntKind.i64.wrap ((IntKind.i64.wrap ((IntKind.i64.wrap x4) + 1)) + 1)), (0, ()))) w)
 else ixa p1.a p1.n 0 1 fun a6 => ld (.I .u8) w a6 fun (x7 : Int) => sls p1 1 p1.n 1 fun r8 => cl Try.prog n_octet_Read #[.slice r8.a r8.n r8.c] .P w fun (x9 : Option Addr) w10 => cl Try.prog n_octet_Reader_Within #[.pointer x9, .int .i64 1, .int .i64 (min 512 (p0.n : Int))] (.tup (.pair (.I .i64) (.pair (.I .i64) .nil))) w10 fun (x11 : (Int × (Int × Unit))) w12 => bif (x11.2.1 == 2) then
 (Q (⟨none, 0, 0⟩, (0, (x11.2.1, ()))) w12)
 else bif (x11.2.1 != 0) then
 (Q (⟨none, 0, 0⟩, (0, (70, ()))) w12)
 else bif (decide ((IntKind.i64.wrap ((IntKind.i64.wrap ((IntKind.i64.wrap x7) - 128)) + 3)) > 66)) then
 (Q (⟨none, 0, 0⟩, (0, (70, ()))) w12)
 else mks Try.prog t_s_uint8 (IntKind.i64.wrap ((IntKind.i64.wrap ((IntKind.i64.wrap x7) - 128)) + 3)) (IntKind.i64.wrap ((IntKind.i64.wrap ((IntKind.i64.wrap x7) - 128)) + 3)) w12 fun r13 w14 => lp (α := (Int × Unit)) (fun K => K (0, ())) w14 fun D17 J18 s15 w16 =>
 bif (decide (s15.1 < (r13.n : Int))) then
  (bif (decide (s15.1 < x11.1)) then
  (ixa p0.a p0.n (IntKind.i64.wrap ((IntKind.i64.wrap ((p0.n : Int) - x11.1)) + s15.1)) 1 fun a19 => ld (.I .u8) w16 a19 fun (x20 : Int) => ixa r13.a r13.n s15.1 1 fun a21 => st1 w16 a21 (.int .u8 x20) fun w22 => J18 ((IntKind.i64.wrap (s15.1 + 1)), ()) w22)
  else ixa r13.a r13.n (IntKind.i64.wrap (s15.1 - x11.1)) 1 fun a23 => ld (.I .u8) w16 a23 fun (x24 : Int) => ixa r13.a r13.n s15.1 1 fun a25 => st1 w16 a25 (.int .u8 x24) fun w26 => J18 ((IntKind.i64.wrap (s15.1 + 1)), ()) w26)
  else cl Try.prog n_octet_Reader_Left #[.pointer x9] (.I .i64) w16 fun (x27 : Int) w28 => Q (r13, ((IntKind.i64.wrap ((p1.n : Int) - x27)), (0, ()))) w28
theorem lz_step.t (p0 : Sl) (p1 : Sl) (Q : (Sl × (Int × (Int × Unit))) → World → Prop) (w : World) : lz_step p0 p1 Q w = fvc Try.prog an_lz_step Try.f21 (.tup (.pair .L (.pair (.I .i64) (.pair (.I .i64) .nil)))) [Kd.av .L p0, Kd.av .L p1] w Q := by kernel_rfl
theorem lz_step.k : fnOk Try.prog Try.f21 = true := by kernel_rfl
theorem lz_step.cl {p0 : Sl} {p1 : Sl} {Q : (Sl × (Int × (Int × Unit))) → World → Prop} {w : World} (h : lz_step p0 p1 Q w) : cl Try.prog n_lz_step #[.slice p0.a p0.n p0.c, .slice p1.a p1.n p1.c] (.tup (.pair .L (.pair (.I .i64) (.pair (.I .i64) .nil)))) w Q :=
  cl_tie Try.func21 lz_step.k (args := [Kd.av .L p0, Kd.av .L p1]) (lz_step.t p0 p1 Q w) h

/-- (*flume/lz.chains).best -/
def an_lz_chains_best : Nat → LA
  | 4 => [(4, (.I .i64)), (5, (.I .i64)), (6, (.I .i64))] | 1000003 => [(0, .nil)] | _ => []
def lz_chains_best (p0 : Option Addr) (p1 : Int) (Q : (Int × (Int × Unit)) → World → Prop) (w : World) : Prop :=
 nz p0 fun a1 => ld .L w a1 fun (x2 : Sl) => bif (decide ((IntKind.i64.wrap (p1 + 3)) > (x2.n : Int))) then
 (Q (0, (0, ())) w)
 else dr w fun w3 => nz p0 fun a4 => ld .M w3 (a4.add 1) fun (x5 : Option Nat) => cl Try.prog n_lz_chains_at #[.pointer p0, .int .i64 p1] (.row 3) w3 fun (x6 : {l : List Value // l.length = 3}) w7 => Fr w3 w7 ∧ qn Try.prog (Instr.lookup t_map_3_uint8_int (.map x5) (.agg (x6.1).toArray) false) (.I .i64) w7 fun (x8 : Int) => lp (α := (Int × (Int × (Int × Unit)))) (fun K => K (0, (0, (x8, ())))) w7 fun D11 J12 s9 w10 =>
 bif (decide (s9.2.2.1 > 0)) then
  (bif (decide ((IntKind.i64.wrap (p1 - (IntKind.i64.wrap (s9.2.2.1 - 1)))) ≤ 512)) then
  (cl Try.prog n_lz_chains_alike #[.pointer p0, .int .i64 (IntKind.i64.wrap (s9.2.2.1 - 1)), .int .i64 p1] (.I .i64) w10 fun (x13 : Int) w14 => bif (decide (x13 > s9.2.1)) then
  (nz p0 fun a15 => ld .L w14 (a15.add 2) fun (x16 : Sl) => ixa x16.a x16.n (IntKind.i64.wrap (s9.2.2.1 - 1)) 1 fun a17 => ld (.I .i64) w14 a17 fun (x18 : Int) => J12 ((IntKind.i64.wrap (p1 - (IntKind.i64.wrap (s9.2.2.1 - 1)))), (x13, (x18, ()))) w14)
  else nz p0 fun a19 => ld .L w14 (a19.add 2) fun (x20 : Sl) => ixa x20.a x20.n (IntKind.i64.wrap (s9.2.2.1 - 1)) 1 fun a21 => ld (.I .i64) w14 a21 fun (x22 : Int) => J12 (s9.1, (s9.2.1, (x22, ()))) w14)
  else Q (s9.1, (s9.2.1, ())) w10)
  else Q (s9.1, (s9.2.1, ())) w10
theorem lz_chains_best.t (p0 : Option Addr) (p1 : Int) (Q : (Int × (Int × Unit)) → World → Prop) (w : World) : lz_chains_best p0 p1 Q w = fvc Try.prog an_lz_chains_best Try.f22 (.tup (.pair (.I .i64) (.pair (.I .i64) .nil))) [Kd.av .P p0, Kd.av (.I .i64) p1] w Q := by kernel_rfl
theorem lz_chains_best.k : fnOk Try.prog Try.f22 = true := by kernel_rfl
theorem lz_chains_best.cl {p0 : Option Addr} {p1 : Int} {Q : (Int × (Int × Unit)) → World → Prop} {w : World} (h : lz_chains_best p0 p1 Q w) : cl Try.prog n_lz_chains_best #[.pointer p0, .int .i64 p1] (.tup (.pair (.I .i64) (.pair (.I .i64) .nil))) w Q :=
  cl_tie Try.func22 lz_chains_best.k (args := [Kd.av .P p0, Kd.av (.I .i64) p1]) (lz_chains_best.t p0 p1 Q w) h

/-- (*flume/lz.chains).put -/
def an_lz_chains_put : Nat → LA
  | 1000002 => [(0, .nil)] | 1000003 => [(0, .nil)] | _ => []
def lz_chains_put (p0 : Option Addr) (p1 : Int) (Q : Unit → World → Prop) (w : World) : Prop :=
 nz p0 fun a1 => ld .L w a1 fun (x2 : Sl) => bif (decide ((IntKind.i64.wrap (p1 + 3)) ≤ (x2.n : Int))) then
 (cl Try.prog n_lz_chains_at #[.pointer p0, .int .i64 p1] (.row 3) w fun (x3 : {l : List Value // l.length = 3}) w4 => nw w4 (zrow 3 (.int .u8 0)).1 t_3_uint8 fun a5 w6 => stL a5 w6 0 x3.1 fun w7 => dr w7 fun w8 => nz p0 fun a9 => ld .L w8 (a9.add 2) fun (x10 : Sl) => nz p0 fun a11 => ld .M w8 (a11.add 1) fun (x12 : Option Nat) => ld (.row 3) w8 a5 fun (x13 : {l : List Value // l.length = 3}) => qn Try.prog (Instr.lookup t_map_3_uint8_int (.map x12) (.agg (x13.1).toArray) false) (.I .i64) w8 fun (x14 : Int) => ixa x10.a x10.n p1 1 fun a15 => st1 w8 a15 (.int .i64 x14) fun w16 => dr w16 fun w17 => nz p0 fun a18 => ld .M w17 (a18.add 1) fun (x19 : Option Nat) => ld (.row 3) w17 a5 fun (x20 : {l : List Value // l.length = 3}) => ru Try.prog (Instr.mapUpdate t_map_3_uint8_int (.map x19) (.agg (x20.1).toArray) (.int .i64 (IntKind.i64.wrap (p1 + 1)))) w17 fun w21 => Q () w21)
 else Q () w
theorem lz_chains_put.t (p0 : Option Addr) (p1 : Int) (Q : Unit → World → Prop) (w : World) : lz_chains_put p0 p1 Q w = fvc Try.prog an_lz_chains_put Try.f23 (.tup .nil) [Kd.av .P p0, Kd.av (.I .i64) p1] w Q := by kernel_rfl
theorem lz_chains_put.k : fnOk Try.prog Try.f23 = true := by kernel_rfl
theorem lz_chains_put.cl {p0 : Option Addr} {p1 : Int} {Q : Unit → World → Prop} {w : World} (h : lz_chains_put p0 p1 Q w) : cl Try.prog n_lz_chains_put #[.pointer p0, .int .i64 p1] (.tup .nil) w Q :=
  cl_tie Try.func23 lz_chains_put.k (args := [Kd.av .P p0, Kd.av (.I .i64) p1]) (lz_chains_put.t p0 p1 Q w) h
end Go.Proofs.Ytaljjbanhmfilaa
