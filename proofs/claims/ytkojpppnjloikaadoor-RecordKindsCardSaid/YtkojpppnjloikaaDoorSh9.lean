/- What the code of Go functions of this seat asks, in numbers, lists and worlds: printed by a program of mine (wip/tools). -/
import Derived.Test.YtkojpppnjloikaaDoorId
set_option linter.unusedVariables false
set_option maxHeartbeats 4000000
namespace Go.Proofs.YtkojpppnjloikaaDoor
open Go.Fl
/-- (*flume/digest.state).stir -/
def an_digest_state_stir : Nat → LA
  | 3 => [(18, (.I .i64))] | 13 => [(100, (.I .i64))] | 1000015 => [(0, .nil)] | _ => []
def digest_state_stir (p0 : Option Addr) (p1 : Sl) (Q : Unit → World → Prop) (w : World) : Prop :=
 cl Tryd.prog n_digest_spread #[.slice p1.a p1.n p1.c] (.row 64) w fun (x1 : {l : List Value // l.length = 64}) w2 => nw w2 ((zrow 64 (.int .u32 0)).1) t_64_uint32 fun a3 w4 => stL a3 w4 0 x1.1 fun w5 => nz p0 fun a6 => ld (.row 8) w5 a6 fun (x7 : {l : List Value // l.length = 8}) => nw w5 ((zrow 8 (.int .u32 0)).1) t_digest_state fun a8 w9 => stL a8 w9 0 x7.1 fun w10 => lp (α := (Int × Unit)) (fun K => K (0, ())) w10 fun D13 J14 s11 w12 =>
 bif (decide (s11.1 < 64)) then
  (ixa (some a8) 8 0 1 fun a15 => ld (.I .u32) w12 a15 fun (x16 : Int) => ixa (some a8) 8 4 1 fun a17 => ld (.I .u32) w12 a17 fun (x18 : Int) => dr w12 fun w19 => cl Tryd.prog n_math_bits_RotateLeft32 #[.int .u32 x18, .int .i64 (-6)] (.I .u32) w19 fun (x20 : Int) w21 => cl Tryd.prog n_math_bits_RotateLeft32 #[.int .u32 x18, .int .i64 (-11)] (.I .u32) w21 fun (x22 : Int) w23 => cl Tryd.prog n_math_bits_RotateLeft32 #[.int .u32 x18, .int .i64 (-25)] (.I .u32) w23 fun (x24 : Int) w25 => ixa (some a8) 8 7 1 fun a26 => ld (.I .u32) w25 a26 fun (x27 : Int) => ixa (some a8) 8 5 1 fun a28 => ld (.I .u32) w25 a28 fun (x29 : Int) => ixa (some a8) 8 6 1 fun a30 => ld (.I .u32) w25 a30 fun (x31 : Int) => ixa (some ⟨g_digest_rounds, 0, none⟩) 64 s11.1 1 fun a32 => ld (.I .u32) w25 a32 fun (x33 : Int) => ixa (some a3) 64 s11.1 1 fun a34 => ld (.I .u32) w25 a34 fun (x35 : Int) => dr w25 fun w36 => cl Tryd.prog n_math_bits_RotateLeft32 #[.int .u32 x16, .int .i64 (-2)] (.I .u32) w36 fun (x37 : Int) w38 => cl Tryd.prog n_math_bits_RotateLeft32 #[.int .u32 x16, .int .i64 (-13)] (.I .u32) w38 fun (x39 : Int) w40 => cl Tryd.prog n_math_bits_RotateLeft32 #[.int .u32 x16, .int .i64 (-22)] (.I .u32) w40 fun (x41 : Int) w42 => ixa (some a8) 8 1 1 fun a43 => ld (.I .u32) w42 a43 fun (x44 : Int) => ixa (some a8) 8 2 1 fun a45 => ld (.I .u32) w42 a45 fun (x46 : Int) => ixa (some a8) 8 1 1 fun a47 => ld (.I .u32) w42 a47 fun (x48 : Int) => ixa (some a8) 8 2 1 fun a49 => ld (.I .u32) w42 a49 fun (x50 : Int) => ixa (some a8) 8 1 1 fun a51 => ld (.I .u32) w42 a51 fun (x52 : Int) => ixa (some a8) 8 2 1 fun a53 => ld (.I .u32) w42 a53 fun (x54 : Int) => ixa (some a8) 8 3 1 fun a55 => ld (.I .u32) w42 a55 fun (x56 : Int) => ixa (some a8) 8 5 1 fun a57 => ld (.I .u32) w42 a57 fun (x58 : Int) => ixa (some a8) 8 6 1 fun a59 => ld (.I .u32) w42 a59 fun (x60 : Int) => qn Tryd.prog (Instr.build t_digest_state #[(0, .int .u32 (IntKind.u32.wrap ((IntKind.u32.wrap ((IntKind.u32.wrap ((IntKind.u32.wrap ((IntKind.u32.wrap (x27 + (bits .xor .u32 (bits .xor .u32 x20 x22) x24))) + (bits .xor .u32 (bits .and .u32 x18 x29) (bits .and .u32 (bits .xor .u32 4294967295 x18) x31)))) + x33)) + x35)) + (IntKind.u32.wrap ((bits .xor .u32 (bits .xor .u32 x37 x39) x41) + (bits .xor .u32 (bits .xor .u32 (bits .and .u32 x16 x44) (bits .and .u32 x16 x46)) (bits .and .u32 x48 x50))))))), (1, .int .u32 x16), (2, .int .u32 x52), (3, .int .u32 x54), (4, .int .u32 (IntKind.u32.wrap (x56 + (IntKind.u32.wrap ((IntKind.u32.wrap ((IntKind.u32.wrap ((IntKind.u32.wrap (x27 + (bits .xor .u32 (bits .xor .u32 x20 x22) x24))) + (bits .xor .u32 (bits .and .u32 x18 x29) (bits .and .u32 (bits .xor .u32 4294967295 x18) x31)))) + x33)) + x35))))), (5, .int .u32 x18), (6, .int .u32 x58), (7, .int .u32 x60)]) (.row 8) w42 fun (x61 : {l : List Value // l.length = 8}) => stL a8 w42 0 x61.1 fun w62 => J14 ((IntKind.i64.wrap (s11.1 + 1)), ()) w62)
  else lp (α := (Int × Unit)) (fun K => K (0, ())) w12 fun D65 J66 s63 w64 =>
 bif (decide (s63.1 < 8)) then
  (dr w64 fun w67 => nz p0 fun a68 => ixa (some a68) 8 s63.1 1 fun a69 => ld (.I .u32) w67 a69 fun (x70 : Int) => ixa (some a8) 8 s63.1 1 fun a71 => ld (.I .u32) w67 a71 fun (x72 : Int) => nz p0 fun a73 => ixa (some a73) 8 s63.1 1 fun a74 => st1 w67 a74 (.int .u32 (IntKind.u32.wrap (x70 + x72))) fun w75 => J66 ((IntKind.i64.wrap (s63.1 + 1)), ()) w75)
  else Q () w64
theorem digest_state_stir.t (p0 : Option Addr) (p1 : Sl) (Q : Unit → World → Prop) (w : World) : digest_state_stir p0 p1 Q w = fvc Tryd.prog an_digest_state_stir Tryd.f55 (.tup .nil) [Kd.av .P p0, Kd.av .L p1] w Q := by kernel_rfl
theorem digest_state_stir.k : fnOk Tryd.prog Tryd.f55 = true := by kernel_rfl
theorem digest_state_stir.cl {p0 : Option Addr} {p1 : Sl} {Q : Unit → World → Prop} {w : World} (h : digest_state_stir p0 p1 Q w) : cl Tryd.prog n_digest_state_stir #[.pointer p0, .slice p1.a p1.n p1.c] (.tup .nil) w Q :=
  cl_tie Tryd.func55 digest_state_stir.k (args := [Kd.av .P p0, Kd.av .L p1]) (digest_state_stir.t p0 p1 Q w) h

/-- flume/flumeref08.Sum -/
def an_flumeref08_Sum : Nat → LA
  | 4 => [(2, .L)] | 7 => [(2, .L), (8, (.I .i64))] | 12 => [(9, .L), (10, (.I .i64))] | 17 => [(61, (.I .i64))] | 20 => [(64, (.I .i64))] | _ => []
def flumeref08_Sum (p0 : Sl) (p1 : Sl) (p2 : Sl) (Q : {l : List Value // l.length = 32} → World → Prop) (w : World) : Prop :=
 nw w ((zrow 32 (.int .u8 0)).1) t_api_Sum fun a1 w2 => nw w2 [] t_uint8 fun a3 w4 => app Tryd.prog t_s_uint8 t_s_uint8 ⟨(some a3), 0, 0⟩ p2 w4 fun r5 w6 => nw w6 [.int .u8 128] t_uint8 fun a7 w8 => app Tryd.prog t_s_uint8 t_s_uint8 r5 ⟨(some a7), 1, 1⟩ w8 fun r9 w10 => lp (α := (Sl × Unit)) (fun K => K (r9, ())) w10 fun D13 J14 s11 w12 =>
 bif ((Int.tmod (s11.1.n : Int) 64) != 56) then
  (nw w12 [.int .u8 0] t_uint8 fun a15 w16 => app Tryd.prog t_s_uint8 t_s_uint8 s11.1 ⟨(some a15), 1, 1⟩ w16 fun r17 w18 => J14 (r17, ()) w18)
  else lp (α := (Sl × (Int × Unit))) (fun K => K (s11.1, (7, ()))) w12 fun D21 J22 s19 w20 =>
 bif (decide (s19.2.1 ≥ 0)) then
  (bif decide (0 ≤ (IntKind.u64.wrap (IntKind.i64.wrap (8 * s19.2.1)))) then (nw w20 [.int .u8 (IntKind.u8.wrap ((IntKind.i64.wrap (8 * (r5.n : Int))) / 2 ^ (min (Int.toNat (IntKind.u64.wrap (IntKind.i64.wrap (8 * s19.2.1)))) 64)))] t_uint8 fun a23 w24 => app Tryd.prog t_s_uint8 t_s_uint8 s19.1 ⟨(some a23), 1, 1⟩ w24 fun r25 w26 => J22 (r25, ((IntKind.i64.wrap (s19.2.1 - 1)), ())) w26) else False)
  else nw w20 [] t_uint32 fun a27 w28 => app Tryd.prog t_s_uint32 t_s_uint32 ⟨(some a27), 0, 0⟩ p0 w28 fun r29 w30 => lp (α := (Sl × (Int × Unit))) (fun K => K (r29, (0, ()))) w30 fun D33 J34 s31 w32 =>
 bif (decide (s31.2.1 < (s19.1.n : Int))) then
  (sls s19.1 s31.2.1 (IntKind.i64.wrap (s31.2.1 + 64)) 1 fun r35 => cl Tryd.prog n_flumeref08_block #[.slice s31.1.a s31.1.n s31.1.c, .slice p1.a p1.n p1.c, .slice r35.a r35.n r35.c] .L w32 fun (x36 : Sl) w37 => J34 (x36, ((IntKind.i64.wrap (s31.2.1 + 64)), ())) w37)
  else qn Tryd.prog (Instr.build t_api_Sum #[]) (.row 32) w32 fun (x38 : {l : List Value // l.length = 32}) => nw w32 ((zrow 32 (.int .u8 0)).1) t_api_Sum fun a39 w40 => stL a39 w40 0 x38.1 fun w41 => lp (α := (Int × Unit)) (fun K => K (0, ())) w41 fun D44 J45 s42 w43 =>
 bif (decide (s42.1 < 8)) then
  (lp (α := (Int × Unit)) (fun K => K (0, ())) w43 fun D48 J49 s46 w47 =>
  bif (decide (s46.1 < 4)) then
   (ixa s31.1.a s31.1.n s42.1 1 fun a50 => ld (.I .u32) w47 a50 fun (x51 : Int) => bif decide (0 ≤ (IntKind.u64.wrap (IntKind.i64.wrap (24 - (IntKind.i64.wrap (8 * s46.1)))))) then (ixa (some a39) 32 (IntKind.i64.wrap ((IntKind.i64.wrap (4 * s42.1)) + s46.1)) 1 fun a52 => st1 w47 a52 (.int .u8 (IntKind.u8.wrap (x51 / 2 ^ (min (Int.toNat (IntKind.u64.wrap (IntKind.i64.wrap (24 - (IntKind.i64.wrap (8 * s46.1)))))) 32)))) fun w53 => J49 ((IntKind.i64.wrap (s46.1 + 1)), ()) w53) else False)
   else J45 ((IntKind.i64.wrap (s42.1 + 1)), ()) w47)
  else ld (.row 32) w43 a39 fun (x54 : {l : List Value // l.length = 32}) => stL a1 w43 0 x54.1 fun w55 => ld (.row 32) w55 a1 fun (r56 : {l : List Value // l.length = 32}) => Q r56 w55
theorem flumeref08_Sum.t (p0 : Sl) (p1 : Sl) (p2 : Sl) (Q : {l : List Value // l.length = 32} → World → Prop) (w : World) : flumeref08_Sum p0 p1 p2 Q w = fvc Tryd.prog an_flumeref08_Sum Tryd.f56 (.row 32) [Kd.av .L p0, Kd.av .L p1, Kd.av .L p2] w Q := by kernel_rfl
theorem flumeref08_Sum.k : fnOk Tryd.prog Tryd.f56 = true := by kernel_rfl
theorem flumeref08_Sum.cl {p0 : Sl} {p1 : Sl} {p2 : Sl} {Q : {l : List Value // l.length = 32} → World → Prop} {w : World} (h : flumeref08_Sum p0 p1 p2 Q w) : cl Tryd.prog n_flumeref08_Sum #[.slice p0.a p0.n p0.c, .slice p1.a p1.n p1.c, .slice p2.a p2.n p2.c] (.row 32) w Q :=
  cl_tie Tryd.func56 flumeref08_Sum.k (args := [Kd.av .L p0, Kd.av .L p1, Kd.av .L p2]) (flumeref08_Sum.t p0 p1 p2 Q w) h

/-- flume/flumeref07.Longest -/
def an_flumeref07_Longest : Nat → LA
  | 3 => [(6, (.I .i64)), (7, (.I .i64)), (8, (.I .i64))] | 6 => [(9, (.I .i64))] | _ => []
def flumeref07_Longest (p0 : Sl) (p1 : Int) (Q : (Int × (Int × Unit)) → World → Prop) (w : World) : Prop :=
 lp (α := (Int × (Int × (Int × Unit)))) (fun K => K (0, (0, (1, ())))) w fun D3 J4 s1 w2 =>
 bif (decide (s1.2.2.1 ≤ 512)) then
  (bif (decide (s1.2.2.1 ≤ p1)) then
  (let j1 := (fun (y16 : Int) (y17 : Int) (w18 : World) =>
    J4 (y16, (y17, ((IntKind.i64.wrap (s1.2.2.1 + 1)), ()))) w18);
  lp (α := (Int × Unit)) (fun K => K (0, ())) w2 fun D7 J8 s5 w6 =>
  bif (decide (s5.1 < 66)) then (bif (decide ((IntKind.i64.wrap (p1 + s5.1)) < (p0.n : Int))) then (ixa p0.a p0.n (IntKind.i64.wrap (p1 + s5.1)) 1 fun a9 => ld (.I .u8) w6 a9 fun (x10 : Int) => ixa p0.a p0.n (IntKind.i64.wrap ((IntKind.i64.wrap (p1 - s1.2.2.1)) + s5.1)) 1 fun a11 => ld (.I .u8) w6 a11 fun (x12 : Int) => dr w6 fun w13 => bif (x10 == x12) then
   (J8 ((IntKind.i64.wrap (s5.1 + 1)), ()) w13)
   else bif (decide (s5.1 > s1.2.1)) then
  (j1 s1.2.2.1 s5.1 w13)
  else j1 s1.1 s1.2.1 w13) else dr w6 fun w14 => bif (decide (s5.1 > s1.2.1)) then
  (j1 s1.2.2.1 s5.1 w14)
  else j1 s1.1 s1.2.1 w14) else dr w6 fun w15 => bif (decide (s5.1 > s1.2.1)) then
  (j1 s1.2.2.1 s5.1 w15)
  else j1 s1.1 s1.2.1 w15)
  else Q (s1.1, (s1.2.1, ())) w2)
  else Q (s1.1, (s1.2.1, ())) w2
theorem flumeref07_Longest.t (p0 : Sl) (p1 : Int) (Q : (Int × (Int × Unit)) → World → Prop) (w : World) : flumeref07_Longest p0 p1 Q w = fvc Tryd.prog an_flumeref07_Longest Tryd.f57 (.tup (.pair (.I .i64) (.pair (.I .i64) .nil))) [Kd.av .L p0, Kd.av (.I .i64) p1] w Q := by kernel_rfl
theorem flumeref07_Longest.k : fnOk Tryd.prog Tryd.f57 = true := by kernel_rfl
theorem flumeref07_Longest.cl {p0 : Sl} {p1 : Int} {Q : (Int × (Int × Unit)) → World → Prop} {w : World} (h : flumeref07_Longest p0 p1 Q w) : cl Tryd.prog n_flumeref07_Longest #[.slice p0.a p0.n p0.c, .int .i64 p1] (.tup (.pair (.I .i64) (.pair (.I .i64) .nil))) w Q :=
  cl_tie Tryd.func57 flumeref07_Longest.k (args := [Kd.av .L p0, Kd.av (.I .i64) p1]) (flumeref07_Longest.t p0 p1 Q w) h

/-- flume/flumeref07.plain -/
def an_flumeref07_plain : Nat → LA
  | 2 => [(0, .L), (3, .L)] | 1000004 => [(0, .nil)] | _ => []
def flumeref07_plain (p0 : Sl) (Q : Sl → World → Prop) (w : World) : Prop :=
 lp (α := (Sl × (Sl × Unit))) (fun K => K (p0, (⟨none, 0, 0⟩, ()))) w fun D3 J4 s1 w2 =>
 bif (decide ((s1.1.n : Int) > 0)) then
  (dr w2 fun w5 => sls s1.1 0 (min 128 (s1.1.n : Int)) 1 fun r6 => nw w5 [.int .u8 (IntKind.u8.wrap (IntKind.i64.wrap ((min 128 (s1.1.n : Int)) - 1)))] t_uint8 fun a7 w8 => app Tryd.prog t_s_uint8 t_s_uint8 s1.2.1 ⟨(some a7), 1, 1⟩ w8 fun r9 w10 => app Tryd.prog t_s_uint8 t_s_uint8 r9 r6 w10 fun r11 w12 => sls s1.1 (min 128 (s1.1.n : Int)) s1.1.n 1 fun r13 => J4 (r13, (r11, ())) w12)
  else Q s1.2.1 w2
theorem flumeref07_plain.t (p0 : Sl) (Q : Sl → World → Prop) (w : World) : flumeref07_plain p0 Q w = fvc Tryd.prog an_flumeref07_plain Tryd.f58 .L [Kd.av .L p0] w Q := by kernel_rfl
theorem flumeref07_plain.k : fnOk Tryd.prog Tryd.f58 = true := by kernel_rfl
theorem flumeref07_plain.cl {p0 : Sl} {Q : Sl → World → Prop} {w : World} (h : flumeref07_plain p0 Q w) : cl Tryd.prog n_flumeref07_plain #[.slice p0.a p0.n p0.c] .L w Q :=
  cl_tie Tryd.func58 flumeref07_plain.k (args := [Kd.av .L p0]) (flumeref07_plain.t p0 Q w) h

/-- flume/flumeref02.Look -/
def an_flumeref02_Look : Nat → LA
  | 4 => [(5, (.I .i64))] | 10 => [(6, (.I .i64)), (7, (.I .i64))] | 1000015 => [(0, .nil)] | _ => []
def flumeref02_Look (p0 : Sl) (Q : (Int × (Int × (Int × Unit))) → World → Prop) (w : World) : Prop :=
 bif ((p0.n : Int) == 0) then
 (Q (0, (0, (2, ()))) w)
 else let j1 := (fun (y26 : Int) (w27 : World) =>
   bif (decide ((p0.n : Int) < (IntKind.i64.wrap (y26 + 1)))) then
 (Q (0, (0, (2, ()))) w27)
 else ixa p0.a p0.n 0 1 fun a28 => ld (.I .u8) w27 a28 fun (x29 : Int) => qcl Tryd.prog n_flumeref02_Lead #[.int .i64 y26] (.I .i64) w27 fun (x30 : Int) => dr w27 fun w31 => lp (α := (Int × (Int × Unit))) (fun K => K ((IntKind.i64.wrap ((IntKind.i64.wrap x29) - x30)), (1, ()))) w31 fun D34 J35 s32 w33 =>
 bif (decide (s32.2.1 ≤ y26)) then
  (bif (decide (s32.1 ≥ 36028797018963968)) then
  (Q (0, (0, (5, ()))) w33)
  else ixa p0.a p0.n s32.2.1 1 fun a36 => ld (.I .u8) w33 a36 fun (x37 : Int) => J35 ((IntKind.i64.wrap ((IntKind.i64.wrap (256 * s32.1)) + (IntKind.i64.wrap x37))), ((IntKind.i64.wrap (s32.2.1 + 1)), ())) w33)
  else dr w33 fun w38 => sls p0 0 (IntKind.i64.wrap (y26 + 1)) 1 fun r39 => bstr w38 r39 fun z40 => cl Tryd.prog n_flumeref02_Number #[.slice none 0 0, .int .i64 s32.1] .L w38 fun (x41 : Sl) w42 => Fr w38 w42 ∧ bstr w42 x41 fun z43 => bif (!(beqB ⟨z43.toArray⟩ ⟨z40.toArray⟩)) then
 (Q (0, (0, (20, ()))) w42)
 else Q (s32.1, ((IntKind.i64.wrap (y26 + 1)), (0, ()))) w42);
 lp (α := (Int × Unit)) (fun K => K (0, ())) w fun D3 J4 s1 w2 =>
 bif (decide (s1.1 < 8)) then (ixa p0.a p0.n 0 1 fun a5 => ld (.I .u8) w2 a5 fun (x6 : Int) => qcl Tryd.prog n_flumeref02_Lead #[.int .i64 (IntKind.i64.wrap (s1.1 + 1))] (.I .i64) w2 fun (x7 : Int) => dr w2 fun w8 => bif (decide ((IntKind.i64.wrap x6) ≥ x7)) then
  (J4 ((IntKind.i64.wrap (s1.1 + 1)), ()) w8)
  else j1 s1.1 w8) else dr w2 fun w9 => j1 s1.1 w9
theorem flumeref02_Look.t (p0 : Sl) (Q : (Int × (Int × (Int × Unit))) → World → Prop) (w : World) : flumeref02_Look p0 Q w = fvc Tryd.prog an_flumeref02_Look Tryd.f59 (.tup (.pair (.I .i64) (.pair (.I .i64) (.pair (.I .i64) .nil)))) [Kd.av .L p0] w Q := by kernel_rfl
theorem flumeref02_Look.k : fnOk Tryd.prog Tryd.f59 = true := by kernel_rfl
theorem flumeref02_Look.cl {p0 : Sl} {Q : (Int × (Int × (Int × Unit))) → World → Prop} {w : World} (h : flumeref02_Look p0 Q w) : cl Tryd.prog n_flumeref02_Look #[.slice p0.a p0.n p0.c] (.tup (.pair (.I .i64) (.pair (.I .i64) (.pair (.I .i64) .nil)))) w Q :=
  cl_tie Tryd.func59 flumeref02_Look.k (args := [Kd.av .L p0]) (flumeref02_Look.t p0 Q w) h

/-- flume/octet.more -/
def an_octet_more : Nat → LA
  | 2 => [(4, (.I .i64))] | _ => []
def octet_more (p0 : Int) (Q : Int → World → Prop) (w : World) : Prop :=
 lp (α := (Int × Unit)) (fun K => K (0, ())) w fun D3 J4 s1 w2 =>
 bif (decide (s1.1 < 8)) then
  (bif decide (0 ≤ (IntKind.i64.wrap (7 * (IntKind.i64.wrap (s1.1 + 1))))) then (bif (decide (p0 < (IntKind.u64.wrap (1 * 2 ^ (min (Int.toNat (IntKind.i64.wrap (7 * (IntKind.i64.wrap (s1.1 + 1))))) 64))))) then
  (Q s1.1 w2)
  else J4 ((IntKind.i64.wrap (s1.1 + 1)), ()) w2) else False)
  else Q 8 w2
theorem octet_more.t (p0 : Int) (Q : Int → World → Prop) (w : World) : octet_more p0 Q w = fvc Tryd.prog an_octet_more Tryd.f60 (.I .i64) [Kd.av (.I .u64) p0] w Q := by kernel_rfl
theorem octet_more.k : fnOk Tryd.prog Tryd.f60 = true := by kernel_rfl
theorem octet_more.cl {p0 : Int} {Q : Int → World → Prop} {w : World} (h : octet_more p0 Q w) : cl Tryd.prog n_octet_more #[.int .u64 p0] (.I .i64) w Q :=
  cl_tie Tryd.func60 octet_more.k (args := [Kd.av (.I .u64) p0]) (octet_more.t p0 Q w) h

/-- flume/octet.Numbers -/
def an_octet_Numbers : Nat → LA
  | 2 => [(0, .L), (9, (.I .i64))] | _ => []
def octet_Numbers (p0 : Sl) (p1 : Sl) (Q : Sl → World → Prop) (w : World) : Prop :=
 lp (α := (Sl × (Int × Unit))) (fun K => K (p0, (0, ()))) w fun D3 J4 s1 w2 =>
 bif (decide (s1.2.1 < (p1.n : Int))) then
  (ixa p1.a p1.n s1.2.1 1 fun a5 => ld (.I .i64) w2 a5 fun (x6 : Int) => cl Tryd.prog n_octet_Number #[.slice s1.1.a s1.1.n s1.1.c, .int .i64 x6] .L w2 fun (x7 : Sl) w8 => J4 (x7, ((IntKind.i64.wrap (s1.2.1 + 1)), ())) w8)
  else Q s1.1 w2
theorem octet_Numbers.t (p0 : Sl) (p1 : Sl) (Q : Sl → World → Prop) (w : World) : octet_Numbers p0 p1 Q w = fvc Tryd.prog an_octet_Numbers Tryd.f61 .L [Kd.av .L p0, Kd.av .L p1] w Q := by kernel_rfl
theorem octet_Numbers.k : fnOk Tryd.prog Tryd.f61 = true := by kernel_rfl
theorem octet_Numbers.cl {p0 : Sl} {p1 : Sl} {Q : Sl → World → Prop} {w : World} (h : octet_Numbers p0 p1 Q w) : cl Tryd.prog n_octet_Numbers #[.slice p0.a p0.n p0.c, .slice p1.a p1.n p1.c] .L w Q :=
  cl_tie Tryd.func61 octet_Numbers.k (args := [Kd.av .L p0, Kd.av .L p1]) (octet_Numbers.t p0 p1 Q w) h

/-- flume/octet.Text -/
def octet_Text (p0 : Sl) (p1 : Sl) (Q : Sl → World → Prop) (w : World) : Prop :=
 cl Tryd.prog n_octet_Number #[.slice p0.a p0.n p0.c, .int .i64 (p1.n : Int)] .L w fun (x1 : Sl) w2 => app Tryd.prog t_s_uint8 t_s_uint8 x1 p1 w2 fun r3 w4 => Q r3 w4
theorem octet_Text.t (p0 : Sl) (p1 : Sl) (Q : Sl → World → Prop) (w : World) : octet_Text p0 p1 Q w = fvc Tryd.prog (fun _ => []) Tryd.f62 .L [Kd.av .L p0, Kd.av .L p1] w Q := by kernel_rfl
theorem octet_Text.k : fnOk Tryd.prog Tryd.f62 = true := by kernel_rfl
theorem octet_Text.cl {p0 : Sl} {p1 : Sl} {Q : Sl → World → Prop} {w : World} (h : octet_Text p0 p1 Q w) : cl Tryd.prog n_octet_Text #[.slice p0.a p0.n p0.c, .slice p1.a p1.n p1.c] .L w Q :=
  cl_tie Tryd.func62 octet_Text.k (args := [Kd.av .L p0, Kd.av .L p1]) (octet_Text.t p0 p1 Q w) h

/-- flume/flumeref02.Follow -/
def an_flumeref02_Follow : Nat → LA
  | 2 => [(0, (.I .i64)), (3, (.I .i64))] | _ => []
def flumeref02_Follow (p0 : Int) (Q : Int → World → Prop) (w : World) : Prop :=
 lp (α := (Int × (Int × Unit))) (fun K => K (p0, (0, ()))) w fun D3 J4 s1 w2 =>
 bif (decide (s1.2.1 < 8)) then
  (bif (decide ((IntKind.i64.wrap (Int.tdiv s1.1 128)) > 0)) then
  (J4 ((IntKind.i64.wrap (Int.tdiv s1.1 128)), ((IntKind.i64.wrap (s1.2.1 + 1)), ())) w2)
  else Q s1.2.1 w2)
  else Q s1.2.1 w2
theorem flumeref02_Follow.t (p0 : Int) (Q : Int → World → Prop) (w : World) : flumeref02_Follow p0 Q w = fvc Tryd.prog an_flumeref02_Follow Tryd.f63 (.I .i64) [Kd.av (.I .i64) p0] w Q := by kernel_rfl
theorem flumeref02_Follow.k : fnOk Tryd.prog Tryd.f63 = true := by kernel_rfl
theorem flumeref02_Follow.cl {p0 : Int} {Q : Int → World → Prop} {w : World} (h : flumeref02_Follow p0 Q w) : cl Tryd.prog n_flumeref02_Follow #[.int .i64 p0] (.I .i64) w Q :=
  cl_tie Tryd.func63 flumeref02_Follow.k (args := [Kd.av (.I .i64) p0]) (flumeref02_Follow.t p0 Q w) h

/-- flume/flumeref02.Lead -/
def an_flumeref02_Lead : Nat → LA
  | 4 => [(3, (.I .i64)), (4, (.I .i64)), (6, (.I .i64))] | _ => []
def flumeref02_Lead (p0 : Int) (Q : Int → World → Prop) (w : World) : Prop :=
 lp (α := (Int × (Int × (Int × Unit)))) (fun K => K (0, (128, (0, ())))) w fun D3 J4 s1 w2 =>
 bif (decide (s1.2.2.1 < p0)) then
  (J4 ((IntKind.i64.wrap (s1.1 + s1.2.1)), ((IntKind.i64.wrap (Int.tdiv s1.2.1 2)), ((IntKind.i64.wrap (s1.2.2.1 + 1)), ()))) w2)
  else Q s1.1 w2
theorem flumeref02_Lead.t (p0 : Int) (Q : Int → World → Prop) (w : World) : flumeref02_Lead p0 Q w = fvc Tryd.prog an_flumeref02_Lead Tryd.f64 (.I .i64) [Kd.av (.I .i64) p0] w Q := by kernel_rfl
theorem flumeref02_Lead.k : fnOk Tryd.prog Tryd.f64 = true := by kernel_rfl
theorem flumeref02_Lead.cl {p0 : Int} {Q : Int → World → Prop} {w : World} (h : flumeref02_Lead p0 Q w) : cl Tryd.prog n_flumeref02_Lead #[.int .i64 p0] (.I .i64) w Q :=
  cl_tie Tryd.func64 flumeref02_Lead.k (args := [Kd.av (.I .i64) p0]) (flumeref02_Lead.t p0 Q w) h

/-- (*flume/lz.chains).at -/
def lz_chains_at (p0 : Option Addr) (p1 : Int) (Q : {l : List Value // l.length = 3} → World → Prop) (w : World) : Prop :=
 nw w ((zrow 3 (.int .u8 0)).1) t_3_uint8 fun a1 w2 => nz p0 fun a3 => ld .L w2 a3 fun (x4 : Sl) => sls x4 p1 (IntKind.i64.wrap (p1 + 3)) 1 fun r5 => qn Tryd.prog (Instr.arrayAt t_3_uint8 (.slice r5.a r5.n r5.c)) .P w2 fun (x6 : Option Addr) => nz x6 fun a8 => ld (.row 3) w2 a8 fun (x7 : {l : List Value // l.length = 3}) => stL a1 w2 0 x7.1 fun w9 => ld (.row 3) w9 a1 fun (r10 : {l : List Value // l.length = 3}) => Q r10 w9
theorem lz_chains_at.t (p0 : Option Addr) (p1 : Int) (Q : {l : List Value // l.length = 3} → World → Prop) (w : World) : lz_chains_at p0 p1 Q w = fvc Tryd.prog (fun _ => []) Tryd.f65 (.row 3) [Kd.av .P p0, Kd.av (.I .i64) p1] w Q := by kernel_rfl
theorem lz_chains_at.k : fnOk Tryd.prog Tryd.f65 = true := by kernel_rfl
theorem lz_chains_at.cl {p0 : Option Addr} {p1 : Int} {Q : {l : List Value // l.length = 3} → World → Prop} {w : World} (h : lz_chains_at p0 p1 Q w) : cl Tryd.prog n_lz_chains_at #[.pointer p0, .int .i64 p1] (.row 3) w Q :=
  cl_tie Tryd.func65 lz_chains_at.k (args := [Kd.av .P p0, Kd.av (.I .i64) p1]) (lz_chains_at.t p0 p1 Q w) h
end Go.Proofs.YtkojpppnjloikaaDoor
