/- What the code of Go functions of this seat asks, in numbers, lists and worlds: printed by a program of mine (wip/tools). -/
import Derived.Test.YtkojpppnjloikaaDoorId
set_option linter.unusedVariables false
set_option maxHeartbeats 4000000
namespace Go.Proofs.YtkojpppnjloikaaDoor
open Go.Fl
/-- (*flume/lz.chains).alike -/
def an_lz_chains_alike : Nat → LA
  | 2 => [(7, (.I .i64))] | _ => []
def lz_chains_alike (p0 : Option Addr) (p1 : Int) (p2 : Int) (Q : Int → World → Prop) (w : World) : Prop :=
 lp (α := (Int × Unit)) (fun K => K (0, ())) w fun D3 J4 s1 w2 =>
 bif (decide (s1.1 < 66)) then (nz p0 fun a5 => ld .L w2 a5 fun (x6 : Sl) => bif (decide ((IntKind.i64.wrap (p2 + s1.1)) < (x6.n : Int))) then (nz p0 fun a7 => ld .L w2 a7 fun (x8 : Sl) => ixa x8.a x8.n (IntKind.i64.wrap (p1 + s1.1)) 1 fun a9 => ld (.I .u8) w2 a9 fun (x10 : Int) => nz p0 fun a11 => ld .L w2 a11 fun (x12 : Sl) => ixa x12.a x12.n (IntKind.i64.wrap (p2 + s1.1)) 1 fun a13 => ld (.I .u8) w2 a13 fun (x14 : Int) => dr w2 fun w15 => bif (x10 == x14) then
  (J4 ((IntKind.i64.wrap (s1.1 + 1)), ()) w15)
  else Q s1.1 w15) else dr w2 fun w16 => Q s1.1 w16) else dr w2 fun w17 => Q s1.1 w17
theorem lz_chains_alike.t (p0 : Option Addr) (p1 : Int) (p2 : Int) (Q : Int → World → Prop) (w : World) : lz_chains_alike p0 p1 p2 Q w = fvc Tryd.prog an_lz_chains_alike Tryd.f66 (.I .i64) [Kd.av .P p0, Kd.av (.I .i64) p1, Kd.av (.I .i64) p2] w Q := by kernel_rfl
theorem lz_chains_alike.k : fnOk Tryd.prog Tryd.f66 = true := by kernel_rfl
theorem lz_chains_alike.cl {p0 : Option Addr} {p1 : Int} {p2 : Int} {Q : Int → World → Prop} {w : World} (h : lz_chains_alike p0 p1 p2 Q w) : cl Tryd.prog n_lz_chains_alike #[.pointer p0, .int .i64 p1, .int .i64 p2] (.I .i64) w Q :=
  cl_tie Tryd.func66 lz_chains_alike.k (args := [Kd.av .P p0, Kd.av (.I .i64) p1, Kd.av (.I .i64) p2]) (lz_chains_alike.t p0 p1 p2 Q w) h

/-- slices.Chunk[[]byte,byte] -/
def slices_Chunk_byte_byte (p0 : Sl) (p1 : Int) (Q : Value → World → Prop) (w : World) : Prop :=
 nw w ([.slice p0.a p0.n p0.c]) t_s_uint8 fun a1 w2 => nw w2 ([.int .i64 p1]) t_int fun a3 w4 => ld (.I .i64) w4 a3 fun (x5 : Int) => bif (decide (x5 < 1)) then
 (False)
 else Q (.func (.func n_slices_Chunk_byte_byte_1) #[] #[.pointer (some a1), .pointer (some a3)]) w4
theorem slices_Chunk_byte_byte.t (p0 : Sl) (p1 : Int) (Q : Value → World → Prop) (w : World) : slices_Chunk_byte_byte p0 p1 Q w = fvc Tryd.prog (fun _ => []) Tryd.f67 .U [Kd.av .L p0, Kd.av (.I .i64) p1] w Q := by kernel_rfl
theorem slices_Chunk_byte_byte.k : fnOk Tryd.prog Tryd.f67 = true := by kernel_rfl
theorem slices_Chunk_byte_byte.cl {p0 : Sl} {p1 : Int} {Q : Value → World → Prop} {w : World} (h : slices_Chunk_byte_byte p0 p1 Q w) : cl Tryd.prog n_slices_Chunk_byte_byte #[.slice p0.a p0.n p0.c, .int .i64 p1] .U w Q :=
  cl_tie Tryd.func67 slices_Chunk_byte_byte.k (args := [Kd.av .L p0, Kd.av (.I .i64) p1]) (slices_Chunk_byte_byte.t p0 p1 Q w) h

/-- flume/octet.look -/
def an_octet_look : Nat → LA
  | 11 => [(6, (.I .u64)), (36, (.I .i64))] | _ => []
def octet_look (p0 : Sl) (Q : (Int × (Int × (Int × Unit))) → World → Prop) (w : World) : Prop :=
 bif ((p0.n : Int) == 0) then
 (Q (0, (0, (2, ()))) w)
 else ixa p0.a p0.n 0 1 fun a1 => ld (.I .u8) w a1 fun (x2 : Int) => cl Tryd.prog n_math_bits_LeadingZeros8 #[.int .u8 (bits .xor .u8 255 x2)] (.I .i64) w fun (x3 : Int) w4 => bif (decide ((p0.n : Int) ≤ x3)) then
 (Q (0, (0, (2, ()))) w4)
 else ixa p0.a p0.n 0 1 fun a5 => ld (.I .u8) w4 a5 fun (x6 : Int) => let j1 := (fun (y16 : Int) (w17 : World) =>
   sls p0 1 (IntKind.i64.wrap (x3 + 1)) 1 fun r18 => lp (α := (Int × (Int × Unit))) (fun K => K (y16, (0, ()))) w17 fun D21 J22 s19 w20 =>
 bif (decide (s19.2.1 < (r18.n : Int))) then
  (ixa r18.a r18.n s19.2.1 1 fun a23 => ld (.I .u8) w20 a23 fun (x24 : Int) => J22 ((bits .or .u64 (IntKind.u64.wrap (s19.1 * 2 ^ (min 8 64))) (IntKind.u64.wrap x24)), ((IntKind.i64.wrap (s19.2.1 + 1)), ())) w20)
  else bif (decide (s19.1 > 9223372036854775807)) then
 (Q (0, (0, (5, ()))) w20)
 else cl Tryd.prog n_octet_more #[.int .u64 s19.1] (.I .i64) w20 fun (x25 : Int) w26 => bif (x25 != x3) then
 (Q (0, (0, (20, ()))) w26)
 else Q ((IntKind.i64.wrap s19.1), ((IntKind.i64.wrap (x3 + 1)), (0, ()))) w26);
 bif (decide (x3 < 8)) then
 (bif decide (0 ≤ x3) then (j1 (bits .and .u64 (IntKind.u64.wrap x6) (127 / 2 ^ (min (Int.toNat x3) 64))) w4) else False)
 else j1 0 w4
theorem octet_look.t (p0 : Sl) (Q : (Int × (Int × (Int × Unit))) → World → Prop) (w : World) : octet_look p0 Q w = fvc Tryd.prog an_octet_look Tryd.f68 (.tup (.pair (.I .i64) (.pair (.I .i64) (.pair (.I .i64) .nil)))) [Kd.av .L p0] w Q := by kernel_rfl
theorem octet_look.k : fnOk Tryd.prog Tryd.f68 = true := by kernel_rfl
theorem octet_look.cl {p0 : Sl} {Q : (Int × (Int × (Int × Unit))) → World → Prop} {w : World} (h : octet_look p0 Q w) : cl Tryd.prog n_octet_look #[.slice p0.a p0.n p0.c] (.tup (.pair (.I .i64) (.pair (.I .i64) (.pair (.I .i64) .nil)))) w Q :=
  cl_tie Tryd.func68 octet_look.k (args := [Kd.av .L p0]) (octet_look.t p0 Q w) h

/-- (*flume/octet.Reader).Byte -/
def octet_Reader_Byte (p0 : Option Addr) (Q : (Int × (Int × Unit)) → World → Prop) (w : World) : Prop :=
 bif p0.isNone then
 (Q (0, (6, ())) w)
 else nz p0 fun a1 => ld .B w (a1.add 1) fun (x2 : Bool) => bif (!x2) then
 (Q (0, (6, ())) w)
 else nz p0 fun a3 => ld .L w a3 fun (x4 : Sl) => bif ((x4.n : Int) == 0) then
 (Q (0, (2, ())) w)
 else nz p0 fun a5 => ld .L w a5 fun (x6 : Sl) => ixa x6.a x6.n 0 1 fun a7 => ld (.I .u8) w a7 fun (x8 : Int) => nz p0 fun a9 => ld .L w a9 fun (x10 : Sl) => sls x10 1 x10.n 1 fun r11 => nz p0 fun a12 => st1 w a12 (.slice r11.a r11.n r11.c) fun w13 => Q (x8, (0, ())) w13
theorem octet_Reader_Byte.t (p0 : Option Addr) (Q : (Int × (Int × Unit)) → World → Prop) (w : World) : octet_Reader_Byte p0 Q w = fvc Tryd.prog (fun _ => []) Tryd.f69 (.tup (.pair (.I .u8) (.pair (.I .i64) .nil))) [Kd.av .P p0] w Q := by kernel_rfl
theorem octet_Reader_Byte.k : fnOk Tryd.prog Tryd.f69 = true := by kernel_rfl
theorem octet_Reader_Byte.cl {p0 : Option Addr} {Q : (Int × (Int × Unit)) → World → Prop} {w : World} (h : octet_Reader_Byte p0 Q w) : cl Tryd.prog n_octet_Reader_Byte #[.pointer p0] (.tup (.pair (.I .u8) (.pair (.I .i64) .nil))) w Q :=
  cl_tie Tryd.func69 octet_Reader_Byte.k (args := [Kd.av .P p0]) (octet_Reader_Byte.t p0 Q w) h

/-- (*flume/octet.Reader).Text -/
def octet_Reader_Text (p0 : Option Addr) (p1 : Int) (Q : (Sl × (Int × Unit)) → World → Prop) (w : World) : Prop :=
 bif p0.isNone then
 (Q (⟨none, 0, 0⟩, (6, ())) w)
 else nz p0 fun a1 => ld .B w (a1.add 1) fun (x2 : Bool) => bif (!x2) then
 (Q (⟨none, 0, 0⟩, (6, ())) w)
 else nz p0 fun a3 => ld .L w a3 fun (x4 : Sl) => cl Tryd.prog n_octet_look #[.slice x4.a x4.n x4.c] (.tup (.pair (.I .i64) (.pair (.I .i64) (.pair (.I .i64) .nil)))) w fun (x5 : (Int × (Int × (Int × Unit)))) w6 => bif (x5.2.2.1 != 0) then
 (Q (⟨none, 0, 0⟩, (x5.2.2.1, ())) w6)
 else bif (decide (x5.1 > (max p1 0))) then
 (Q (⟨none, 0, 0⟩, (4, ())) w6)
 else nz p0 fun a7 => ld .L w6 a7 fun (x8 : Sl) => bif (decide (x5.1 > (IntKind.i64.wrap ((x8.n : Int) - x5.2.1)))) then
 (Q (⟨none, 0, 0⟩, (2, ())) w6)
 else nw w6 [] t_uint8 fun a9 w10 => nz p0 fun a11 => ld .L w10 a11 fun (x12 : Sl) => sls x12 x5.2.1 (IntKind.i64.wrap (x5.2.1 + x5.1)) 1 fun r13 => app Tryd.prog t_s_uint8 t_s_uint8 ⟨(some a9), 0, 0⟩ r13 w10 fun r14 w15 => nz p0 fun a16 => ld .L w15 a16 fun (x17 : Sl) => sls x17 (IntKind.i64.wrap (x5.2.1 + x5.1)) x17.n 1 fun r18 => nz p0 fun a19 => st1 w15 a19 (.slice r18.a r18.n r18.c) fun w20 => Q (r14, (0, ())) w20
theorem octet_Reader_Text.t (p0 : Option Addr) (p1 : Int) (Q : (Sl × (Int × Unit)) → World → Prop) (w : World) : octet_Reader_Text p0 p1 Q w = fvc Tryd.prog (fun _ => []) Tryd.f70 (.tup (.pair .L (.pair (.I .i64) .nil))) [Kd.av .P p0, Kd.av (.I .i64) p1] w Q := by kernel_rfl
theorem octet_Reader_Text.k : fnOk Tryd.prog Tryd.f70 = true := by kernel_rfl
theorem octet_Reader_Text.cl {p0 : Option Addr} {p1 : Int} {Q : (Sl × (Int × Unit)) → World → Prop} {w : World} (h : octet_Reader_Text p0 p1 Q w) : cl Tryd.prog n_octet_Reader_Text #[.pointer p0, .int .i64 p1] (.tup (.pair .L (.pair (.I .i64) .nil))) w Q :=
  cl_tie Tryd.func70 octet_Reader_Text.k (args := [Kd.av .P p0, Kd.av (.I .i64) p1]) (octet_Reader_Text.t p0 p1 Q w) h

/-- (*flume/octet.Reader).Within -/
def octet_Reader_Within (p0 : Option Addr) (p1 : Int) (p2 : Int) (Q : (Int × (Int × Unit)) → World → Prop) (w : World) : Prop :=
 bif p0.isNone then
 (Q (0, (6, ())) w)
 else nz p0 fun a1 => ld .B w (a1.add 1) fun (x2 : Bool) => bif (!x2) then
 (Q (0, (6, ())) w)
 else nz p0 fun a3 => ld .L w a3 fun (x4 : Sl) => cl Tryd.prog n_octet_look #[.slice x4.a x4.n x4.c] (.tup (.pair (.I .i64) (.pair (.I .i64) (.pair (.I .i64) .nil)))) w fun (x5 : (Int × (Int × (Int × Unit)))) w6 => bif (x5.2.2.1 != 0) then
 (Q (0, (x5.2.2.1, ())) w6)
 else bif (decide (x5.1 < p1)) then
 (Q (0, (5, ())) w6)
 else bif (decide (x5.1 > p2)) then
 (Q (0, (5, ())) w6)
 else nz p0 fun a7 => ld .L w6 a7 fun (x8 : Sl) => sls x8 x5.2.1 x8.n 1 fun r9 => nz p0 fun a10 => st1 w6 a10 (.slice r9.a r9.n r9.c) fun w11 => Q (x5.1, (0, ())) w11
theorem octet_Reader_Within.t (p0 : Option Addr) (p1 : Int) (p2 : Int) (Q : (Int × (Int × Unit)) → World → Prop) (w : World) : octet_Reader_Within p0 p1 p2 Q w = fvc Tryd.prog (fun _ => []) Tryd.f71 (.tup (.pair (.I .i64) (.pair (.I .i64) .nil))) [Kd.av .P p0, Kd.av (.I .i64) p1, Kd.av (.I .i64) p2] w Q := by kernel_rfl
theorem octet_Reader_Within.k : fnOk Tryd.prog Tryd.f71 = true := by kernel_rfl
theorem octet_Reader_Within.cl {p0 : Option Addr} {p1 : Int} {p2 : Int} {Q : (Int × (Int × Unit)) → World → Prop} {w : World} (h : octet_Reader_Within p0 p1 p2 Q w) : cl Tryd.prog n_octet_Reader_Within #[.pointer p0, .int .i64 p1, .int .i64 p2] (.tup (.pair (.I .i64) (.pair (.I .i64) .nil))) w Q :=
  cl_tie Tryd.func71 octet_Reader_Within.k (args := [Kd.av .P p0, Kd.av (.I .i64) p1, Kd.av (.I .i64) p2]) (octet_Reader_Within.t p0 p1 p2 Q w) h

/-- (*flume/octet.Reader).Left -/
def octet_Reader_Left (p0 : Option Addr) (Q : Int → World → Prop) (w : World) : Prop :=
 bif p0.isNone then
 (Q 0 w)
 else nz p0 fun a1 => ld .L w a1 fun (x2 : Sl) => Q (x2.n : Int) w
theorem octet_Reader_Left.t (p0 : Option Addr) (Q : Int → World → Prop) (w : World) : octet_Reader_Left p0 Q w = fvc Tryd.prog (fun _ => []) Tryd.f72 (.I .i64) [Kd.av .P p0] w Q := by kernel_rfl
theorem octet_Reader_Left.k : fnOk Tryd.prog Tryd.f72 = true := by kernel_rfl
theorem octet_Reader_Left.cl {p0 : Option Addr} {Q : Int → World → Prop} {w : World} (h : octet_Reader_Left p0 Q w) : cl Tryd.prog n_octet_Reader_Left #[.pointer p0] (.I .i64) w Q :=
  cl_tie Tryd.func72 octet_Reader_Left.k (args := [Kd.av .P p0]) (octet_Reader_Left.t p0 Q w) h

/-- flume/digest.spread -/
def an_digest_spread : Nat → LA
  | 3 => [(10, (.I .i64))] | 8 => [(5, (.I .i64))] | 1000005 => [(0, .nil)] | 1000013 => [(0, .nil)] | _ => []
def digest_spread (p0 : Sl) (Q : {l : List Value // l.length = 64} → World → Prop) (w : World) : Prop :=
 nw w ((zrow 64 (.int .u32 0)).1) t_64_uint32 fun a1 w2 => nw w2 ((zrow 64 (.int .u32 0)).1) t_64_uint32 fun a3 w4 => lp (α := (Int × Unit)) (fun K => K (0, ())) w4 fun D7 J8 s5 w6 =>
 bif (decide (s5.1 < 16)) then
  (dr w6 fun w9 => ixa p0.a p0.n (IntKind.i64.wrap (4 * s5.1)) 1 fun a10 => ld (.I .u8) w9 a10 fun (x11 : Int) => ixa p0.a p0.n (IntKind.i64.wrap ((IntKind.i64.wrap (4 * s5.1)) + 1)) 1 fun a12 => ld (.I .u8) w9 a12 fun (x13 : Int) => ixa p0.a p0.n (IntKind.i64.wrap ((IntKind.i64.wrap (4 * s5.1)) + 2)) 1 fun a14 => ld (.I .u8) w9 a14 fun (x15 : Int) => ixa p0.a p0.n (IntKind.i64.wrap ((IntKind.i64.wrap (4 * s5.1)) + 3)) 1 fun a16 => ld (.I .u8) w9 a16 fun (x17 : Int) => ixa (some a3) 64 s5.1 1 fun a18 => st1 w9 a18 (.int .u32 (bits .or .u32 (bits .or .u32 (bits .or .u32 (IntKind.u32.wrap ((IntKind.u32.wrap x11) * 2 ^ (min 24 32))) (IntKind.u32.wrap ((IntKind.u32.wrap x13) * 2 ^ (min 16 32)))) (IntKind.u32.wrap ((IntKind.u32.wrap x15) * 2 ^ (min 8 32)))) (IntKind.u32.wrap x17))) fun w19 => J8 ((IntKind.i64.wrap (s5.1 + 1)), ()) w19)
  else lp (α := (Int × Unit)) (fun K => K (16, ())) w6 fun D22 J23 s20 w21 =>
 bif (decide (s20.1 < 64)) then
  (ixa (some a3) 64 (IntKind.i64.wrap (s20.1 - 15)) 1 fun a24 => ld (.I .u32) w21 a24 fun (x25 : Int) => ixa (some a3) 64 (IntKind.i64.wrap (s20.1 - 2)) 1 fun a26 => ld (.I .u32) w21 a26 fun (x27 : Int) => dr w21 fun w28 => cl Tryd.prog n_math_bits_RotateLeft32 #[.int .u32 x25, .int .i64 (-7)] (.I .u32) w28 fun (x29 : Int) w30 => cl Tryd.prog n_math_bits_RotateLeft32 #[.int .u32 x25, .int .i64 (-18)] (.I .u32) w30 fun (x31 : Int) w32 => cl Tryd.prog n_math_bits_RotateLeft32 #[.int .u32 x27, .int .i64 (-17)] (.I .u32) w32 fun (x33 : Int) w34 => cl Tryd.prog n_math_bits_RotateLeft32 #[.int .u32 x27, .int .i64 (-19)] (.I .u32) w34 fun (x35 : Int) w36 => dr w36 fun w37 => ixa (some a3) 64 (IntKind.i64.wrap (s20.1 - 16)) 1 fun a38 => ld (.I .u32) w37 a38 fun (x39 : Int) => ixa (some a3) 64 (IntKind.i64.wrap (s20.1 - 7)) 1 fun a40 => ld (.I .u32) w37 a40 fun (x41 : Int) => ixa (some a3) 64 s20.1 1 fun a42 => st1 w37 a42 (.int .u32 (IntKind.u32.wrap ((IntKind.u32.wrap ((IntKind.u32.wrap (x39 + (bits .xor .u32 (bits .xor .u32 x29 x31) (x25 / 2 ^ (min 3 32))))) + x41)) + (bits .xor .u32 (bits .xor .u32 x33 x35) (x27 / 2 ^ (min 10 32)))))) fun w43 => J23 ((IntKind.i64.wrap (s20.1 + 1)), ()) w43)
  else ld (.row 64) w21 a3 fun (x44 : {l : List Value // l.length = 64}) => stL a1 w21 0 x44.1 fun w45 => ld (.row 64) w45 a1 fun (r46 : {l : List Value // l.length = 64}) => Q r46 w45
theorem digest_spread.t (p0 : Sl) (Q : {l : List Value // l.length = 64} → World → Prop) (w : World) : digest_spread p0 Q w = fvc Tryd.prog an_digest_spread Tryd.f73 (.row 64) [Kd.av .L p0] w Q := by kernel_rfl
theorem digest_spread.k : fnOk Tryd.prog Tryd.f73 = true := by kernel_rfl
theorem digest_spread.cl {p0 : Sl} {Q : {l : List Value // l.length = 64} → World → Prop} {w : World} (h : digest_spread p0 Q w) : cl Tryd.prog n_digest_spread #[.slice p0.a p0.n p0.c] (.row 64) w Q :=
  cl_tie Tryd.func73 digest_spread.k (args := [Kd.av .L p0]) (digest_spread.t p0 Q w) h

/-- math/bits.RotateLeft32 -/
def math_bits_RotateLeft32 (p0 : Int) (p1 : Int) (Q : Int → World → Prop) (w : World) : Prop :=
 bif decide (0 ≤ (bits .and .u64 (IntKind.u64.wrap p1) 31)) then (bif decide (0 ≤ (IntKind.u64.wrap (32 - (bits .and .u64 (IntKind.u64.wrap p1) 31)))) then (Q (bits .or .u32 (IntKind.u32.wrap (p0 * 2 ^ (min (Int.toNat (bits .and .u64 (IntKind.u64.wrap p1) 31)) 32))) (p0 / 2 ^ (min (Int.toNat (IntKind.u64.wrap (32 - (bits .and .u64 (IntKind.u64.wrap p1) 31)))) 32))) w) else False) else False
theorem math_bits_RotateLeft32.t (p0 : Int) (p1 : Int) (Q : Int → World → Prop) (w : World) : math_bits_RotateLeft32 p0 p1 Q w = fvc Tryd.prog (fun _ => []) Tryd.f74 (.I .u32) [Kd.av (.I .u32) p0, Kd.av (.I .i64) p1] w Q := by kernel_rfl
theorem math_bits_RotateLeft32.k : fnOk Tryd.prog Tryd.f74 = true := by kernel_rfl
theorem math_bits_RotateLeft32.cl {p0 : Int} {p1 : Int} {Q : Int → World → Prop} {w : World} (h : math_bits_RotateLeft32 p0 p1 Q w) : cl Tryd.prog n_math_bits_RotateLeft32 #[.int .u32 p0, .int .i64 p1] (.I .u32) w Q :=
  cl_tie Tryd.func74 math_bits_RotateLeft32.k (args := [Kd.av (.I .u32) p0, Kd.av (.I .i64) p1]) (math_bits_RotateLeft32.t p0 p1 Q w) h

/-- flume/flumeref08.block -/
def an_flumeref08_block : Nat → LA
  | 3 => [(7, .L), (19, (.I .i64))] | 12 => [(11, .L), (106, (.I .i64))] | 22 => [(17, .L), (193, (.I .i64))] | 1000006 => [(0, .nil)] | 1000008 => [(0, .nil)] | 1000024 => [(0, .nil)] | _ => []
def flumeref08_block (p0 : Sl) (p1 : Sl) (p2 : Sl) (Q : Sl → World → Prop) (w : World) : Prop :=
 lp (α := (Sl × (Int × Unit))) (fun K => K (⟨none, 0, 0⟩, (0, ()))) w fun D3 J4 s1 w2 =>
 bif (decide (s1.2.1 < 64)) then
  (bif (decide (s1.2.1 < 16)) then
  (dr w2 fun w5 => ixa p2.a p2.n (IntKind.i64.wrap (4 * s1.2.1)) 1 fun a6 => ld (.I .u8) w5 a6 fun (x7 : Int) => ixa p2.a p2.n (IntKind.i64.wrap ((IntKind.i64.wrap (4 * s1.2.1)) + 1)) 1 fun a8 => ld (.I .u8) w5 a8 fun (x9 : Int) => ixa p2.a p2.n (IntKind.i64.wrap ((IntKind.i64.wrap (4 * s1.2.1)) + 2)) 1 fun a10 => ld (.I .u8) w5 a10 fun (x11 : Int) => ixa p2.a p2.n (IntKind.i64.wrap ((IntKind.i64.wrap (4 * s1.2.1)) + 3)) 1 fun a12 => ld (.I .u8) w5 a12 fun (x13 : Int) => nw w5 [.int .u32 (IntKind.u32.wrap ((IntKind.u32.wrap ((IntKind.u32.wrap ((IntKind.u32.wrap ((IntKind.u32.wrap x7) * 16777216)) + (IntKind.u32.wrap ((IntKind.u32.wrap x9) * 65536)))) + (IntKind.u32.wrap ((IntKind.u32.wrap x11) * 256)))) + (IntKind.u32.wrap x13)))] t_uint32 fun a14 w15 => app Tryd.prog t_s_uint32 t_s_uint32 s1.1 ⟨(some a14), 1, 1⟩ w15 fun r16 w17 => J4 (r16, ((IntKind.i64.wrap (s1.2.1 + 1)), ())) w17)
  else ixa s1.1.a s1.1.n (IntKind.i64.wrap (s1.2.1 - 15)) 1 fun a18 => ld (.I .u32) w2 a18 fun (x19 : Int) => ixa s1.1.a s1.1.n (IntKind.i64.wrap (s1.2.1 - 2)) 1 fun a20 => ld (.I .u32) w2 a20 fun (x21 : Int) => dr w2 fun w22 => dr w22 fun w23 => ixa s1.1.a s1.1.n (IntKind.i64.wrap (s1.2.1 - 16)) 1 fun a24 => ld (.I .u32) w23 a24 fun (x25 : Int) => ixa s1.1.a s1.1.n (IntKind.i64.wrap (s1.2.1 - 7)) 1 fun a26 => ld (.I .u32) w23 a26 fun (x27 : Int) => cl Tryd.prog n_flumeref08_rotr #[.int .u32 x19, .int .u64 7] (.I .u32) w23 fun (x28 : Int) w29 => Fr w23 w29 ∧ cl Tryd.prog n_flumeref08_rotr #[.int .u32 x19, .int .u64 18] (.I .u32) w29 fun (x30 : Int) w31 => Fr w29 w31 ∧ cl Tryd.prog n_flumeref08_rotr #[.int .u32 x21, .int .u64 17] (.I .u32) w31 fun (x32 : Int) w33 => Fr w31 w33 ∧ cl Tryd.prog n_flumeref08_rotr #[.int .u32 x21, .int .u64 19] (.I .u32) w33 fun (x34 : Int) w35 => Fr w33 w35 ∧ nw w35 [.int .u32 (IntKind.u32.wrap ((IntKind.u32.wrap ((IntKind.u32.wrap (x25 + (bits .xor .u32 (bits .xor .u32 x28 x30) (x19 / 2 ^ (min 3 32))))) + x27)) + (bits .xor .u32 (bits .xor .u32 x32 x34) (x21 / 2 ^ (min 10 32)))))] t_uint32 fun a36 w37 => app Tryd.prog t_s_uint32 t_s_uint32 s1.1 ⟨(some a36), 1, 1⟩ w37 fun r38 w39 => J4 (r38, ((IntKind.i64.wrap (s1.2.1 + 1)), ())) w39)
  else nw w2 [] t_uint32 fun a40 w41 => app Tryd.prog t_s_uint32 t_s_uint32 ⟨(some a40), 0, 0⟩ p0 w41 fun r42 w43 => lp (α := (Sl × (Int × Unit))) (fun K => K (r42, (0, ()))) w43 fun D46 J47 s44 w45 =>
 bif (decide (s44.2.1 < 64)) then
  (ixa s44.1.a s44.1.n 0 1 fun a48 => ld (.I .u32) w45 a48 fun (x49 : Int) => ixa s44.1.a s44.1.n 4 1 fun a50 => ld (.I .u32) w45 a50 fun (x51 : Int) => dr w45 fun w52 => ixa s44.1.a s44.1.n 7 1 fun a53 => ld (.I .u32) w52 a53 fun (x54 : Int) => qcl Tryd.prog n_flumeref08_rotr #[.int .u32 x51, .int .u64 6] (.I .u32) w52 fun (x55 : Int) => qcl Tryd.prog n_flumeref08_rotr #[.int .u32 x51, .int .u64 11] (.I .u32) w52 fun (x56 : Int) => qcl Tryd.prog n_flumeref08_rotr #[.int .u32 x51, .int .u64 25] (.I .u32) w52 fun (x57 : Int) => ixa s44.1.a s44.1.n 5 1 fun a58 => ld (.I .u32) w52 a58 fun (x59 : Int) => ixa s44.1.a s44.1.n 6 1 fun a60 => ld (.I .u32) w52 a60 fun (x61 : Int) => ixa p1.a p1.n s44.2.1 1 fun a62 => ld (.I .u32) w52 a62 fun (x63 : Int) => ixa s1.1.a s1.1.n s44.2.1 1 fun a64 => ld (.I .u32) w52 a64 fun (x65 : Int) => dr w52 fun w66 => qcl Tryd.prog n_flumeref08_rotr #[.int .u32 x49, .int .u64 2] (.I .u32) w66 fun (x67 : Int) => qcl Tryd.prog n_flumeref08_rotr #[.int .u32 x49, .int .u64 13] (.I .u32) w66 fun (x68 : Int) => qcl Tryd.prog n_flumeref08_rotr #[.int .u32 x49, .int .u64 22] (.I .u32) w66 fun (x69 : Int) => ixa s44.1.a s44.1.n 1 1 fun a70 => ld (.I .u32) w66 a70 fun (x71 : Int) => ixa s44.1.a s44.1.n 2 1 fun a72 => ld (.I .u32) w66 a72 fun (x73 : Int) => ixa s44.1.a s44.1.n 1 1 fun a74 => ld (.I .u32) w66 a74 fun (x75 : Int) => ixa s44.1.a s44.1.n 2 1 fun a76 => ld (.I .u32) w66 a76 fun (x77 : Int) => dr w66 fun w78 => nw w78 [.int .u32 (IntKind.u32.wrap ((IntKind.u32.wrap ((IntKind.u32.wrap ((IntKind.u32.wrap ((IntKind.u32.wrap (x54 + (bits .xor .u32 (bits .xor .u32 x55 x56) x57))) + (bits .xor .u32 (bits .and .u32 x51 x59) (bits .and .u32 (IntKind.u32.wrap (4294967295 - x51)) x61)))) + x63)) + x65)) + (IntKind.u32.wrap ((bits .xor .u32 (bits .xor .u32 x67 x68) x69) + (bits .xor .u32 (bits .xor .u32 (bits .and .u32 x49 x71) (bits .and .u32 x49 x73)) (bits .and .u32 x75 x77))))))] t_uint32 fun a79 w80 => sls s44.1 0 7 1 fun r81 => app Tryd.prog t_s_uint32 t_s_uint32 ⟨(some a79), 1, 1⟩ r81 w80 fun r82 w83 => ixa r82.a r82.n 4 1 fun a84 => ld (.I .u32) w83 a84 fun (x85 : Int) => ixa r82.a r82.n 4 1 fun a86 => st1 w83 a86 (.int .u32 (IntKind.u32.wrap (x85 + (IntKind.u32.wrap ((IntKind.u32.wrap ((IntKind.u32.wrap ((IntKind.u32.wrap (x54 + (bits .xor .u32 (bits .xor .u32 x55 x56) x57))) + (bits .xor .u32 (bits .and .u32 x51 x59) (bits .and .u32 (IntKind.u32.wrap (4294967295 - x51)) x61)))) + x63)) + x65))))) fun w87 => J47 (r82, ((IntKind.i64.wrap (s44.2.1 + 1)), ())) w87)
  else lp (α := (Sl × (Int × Unit))) (fun K => K (⟨none, 0, 0⟩, (0, ()))) w45 fun D90 J91 s88 w89 =>
 bif (decide (s88.2.1 < 8)) then
  (dr w89 fun w92 => ixa p0.a p0.n s88.2.1 1 fun a93 => ld (.I .u32) w92 a93 fun (x94 : Int) => ixa s44.1.a s44.1.n s88.2.1 1 fun a95 => ld (.I .u32) w92 a95 fun (x96 : Int) => nw w92 [.int .u32 (IntKind.u32.wrap (x94 + x96))] t_uint32 fun a97 w98 => app Tryd.prog t_s_uint32 t_s_uint32 s88.1 ⟨(some a97), 1, 1⟩ w98 fun r99 w100 => J91 (r99, ((IntKind.i64.wrap (s88.2.1 + 1)), ())) w100)
  else Q s88.1 w89
theorem flumeref08_block.t (p0 : Sl) (p1 : Sl) (p2 : Sl) (Q : Sl → World → Prop) (w : World) : flumeref08_block p0 p1 p2 Q w = fvc Tryd.prog an_flumeref08_block Tryd.f75 .L [Kd.av .L p0, Kd.av .L p1, Kd.av .L p2] w Q := by kernel_rfl
theorem flumeref08_block.k : fnOk Tryd.prog Tryd.f75 = true := by kernel_rfl
theorem flumeref08_block.cl {p0 : Sl} {p1 : Sl} {p2 : Sl} {Q : Sl → World → Prop} {w : World} (h : flumeref08_block p0 p1 p2 Q w) : cl Tryd.prog n_flumeref08_block #[.slice p0.a p0.n p0.c, .slice p1.a p1.n p1.c, .slice p2.a p2.n p2.c] .L w Q :=
  cl_tie Tryd.func75 flumeref08_block.k (args := [Kd.av .L p0, Kd.av .L p1, Kd.av .L p2]) (flumeref08_block.t p0 p1 p2 Q w) h
end Go.Proofs.YtkojpppnjloikaaDoor
