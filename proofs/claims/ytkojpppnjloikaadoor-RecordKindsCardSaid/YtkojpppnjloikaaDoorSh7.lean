/- What the code of Go functions of this seat asks, in numbers, lists and worlds: printed by a program of mine (wip/tools). -/
import Derived.Test.YtkojpppnjloikaaDoorId
set_option linter.unusedVariables false
set_option maxHeartbeats 4000000
namespace Go.Proofs.YtkojpppnjloikaaDoor
open Go.Fl
/-- (*flume/digest.Hash).Write -/
def an_digest_Hash_Write : Nat → LA
  | 3 => [(4, .L)] | 1000002 => [(0, .nil)] | 1000004 => [(0, .nil)] | _ => []
def digest_Hash_Write (p0 : Option Addr) (p1 : Sl) (Q : Unit → World → Prop) (w : World) : Prop :=
 bif p0.isNone then
 (Q () w)
 else nz p0 fun a1 => ld .B w (a1.add 10) fun (x2 : Bool) => bif (!x2) then
 (Q () w)
 else nz p0 fun a3 => ld (.I .i64) w (a3.add 9) fun (x4 : Int) => nz p0 fun a5 => st1 w (a5.add 9) (.int .i64 (IntKind.i64.wrap (x4 + (p1.n : Int)))) fun w6 => dr w6 fun w7 => nz p0 fun a8 => ld .L w7 (a8.add 8) fun (x9 : Sl) => nz p0 fun a10 => ld .L w7 (a10.add 8) fun (x11 : Sl) => mks Tryd.prog t_s_uint8 0 (IntKind.i64.wrap ((x9.n : Int) + (p1.n : Int))) w7 fun r12 w13 => Fr w7 w13 ∧ app Tryd.prog t_s_uint8 t_s_uint8 r12 x11 w13 fun r14 w15 => app Tryd.prog t_s_uint8 t_s_uint8 r14 p1 w15 fun r16 w17 => lp (α := (Sl × Unit)) (fun K => K (r16, ())) w17 fun D20 J21 s18 w19 =>
 bif (decide ((s18.1.n : Int) ≥ 64)) then
  (dr w19 fun w22 => nz p0 fun a23 => sls s18.1 0 64 1 fun r24 => cl Tryd.prog n_digest_state_stir #[.pointer (some a23), .slice r24.a r24.n r24.c] (.tup .nil) w22 fun (x25 : Unit) w26 => sls s18.1 64 s18.1.n 1 fun r27 => J21 (r27, ()) w26)
  else nz p0 fun a28 => st1 w19 (a28.add 8) (.slice s18.1.a s18.1.n s18.1.c) fun w29 => Q () w29
theorem digest_Hash_Write.t (p0 : Option Addr) (p1 : Sl) (Q : Unit → World → Prop) (w : World) : digest_Hash_Write p0 p1 Q w = fvc Tryd.prog an_digest_Hash_Write Tryd.f35 (.tup .nil) [Kd.av .P p0, Kd.av .L p1] w Q := by kernel_rfl
theorem digest_Hash_Write.k : fnOk Tryd.prog Tryd.f35 = true := by kernel_rfl
theorem digest_Hash_Write.cl {p0 : Option Addr} {p1 : Sl} {Q : Unit → World → Prop} {w : World} (h : digest_Hash_Write p0 p1 Q w) : cl Tryd.prog n_digest_Hash_Write #[.pointer p0, .slice p1.a p1.n p1.c] (.tup .nil) w Q :=
  cl_tie Tryd.func35 digest_Hash_Write.k (args := [Kd.av .P p0, Kd.av .L p1]) (digest_Hash_Write.t p0 p1 Q w) h

/-- (*flume/digest.Hash).Sum -/
def an_digest_Hash_Sum : Nat → LA
  | 6 => [(4, .L)] | 9 => [(4, .L), (34, (.I .i64))] | 14 => [(4, .L)] | 18 => [(64, (.I .i64))] | _ => []
def digest_Hash_Sum (p0 : Option Addr) (Q : {l : List Value // l.length = 32} → World → Prop) (w : World) : Prop :=
 nw w ((zrow 32 (.int .u8 0)).1) t_api_Sum fun a1 w2 => nw w2 ((zrow 32 (.int .u8 0)).1) t_api_Sum fun a3 w4 => bif p0.isNone then
 (ld (.row 32) w4 a3 fun (x7 : {l : List Value // l.length = 32}) => stL a1 w4 0 x7.1 fun w8 => ld (.row 32) w8 a1 fun (r9 : {l : List Value // l.length = 32}) => Q r9 w8)
 else nz p0 fun a5 => ld .B w4 (a5.add 10) fun (x6 : Bool) => bif (!x6) then
 (ld (.row 32) w4 a3 fun (x10 : {l : List Value // l.length = 32}) => stL a1 w4 0 x10.1 fun w11 => ld (.row 32) w11 a1 fun (r12 : {l : List Value // l.length = 32}) => Q r12 w11)
 else nw w4 [] t_uint8 fun a13 w14 => nz p0 fun a15 => ld .L w14 (a15.add 8) fun (x16 : Sl) => app Tryd.prog t_s_uint8 t_s_uint8 ⟨(some a13), 0, 0⟩ x16 w14 fun r17 w18 => nw w18 [.int .u8 128] t_uint8 fun a19 w20 => app Tryd.prog t_s_uint8 t_s_uint8 r17 ⟨(some a19), 1, 1⟩ w20 fun r21 w22 => lp (α := (Sl × Unit)) (fun K => K (r21, ())) w22 fun D25 J26 s23 w24 =>
 bif ((Int.tmod (s23.1.n : Int) 64) != 56) then
  (nw w24 [.int .u8 0] t_uint8 fun a27 w28 => app Tryd.prog t_s_uint8 t_s_uint8 s23.1 ⟨(some a27), 1, 1⟩ w28 fun r29 w30 => J26 (r29, ()) w30)
  else lp (α := (Sl × (Int × Unit))) (fun K => K (s23.1, (0, ()))) w24 fun D33 J34 s31 w32 =>
 bif (decide (s31.2.1 < 8)) then
  (nz p0 fun a35 => ld (.I .i64) w32 (a35.add 9) fun (x36 : Int) => bif decide (0 ≤ (IntKind.i64.wrap (56 - (IntKind.i64.wrap (8 * s31.2.1))))) then (nw w32 [.int .u8 (IntKind.u8.wrap ((IntKind.u64.wrap ((IntKind.u64.wrap x36) * 8)) / 2 ^ (min (Int.toNat (IntKind.i64.wrap (56 - (IntKind.i64.wrap (8 * s31.2.1))))) 64)))] t_uint8 fun a37 w38 => app Tryd.prog t_s_uint8 t_s_uint8 s31.1 ⟨(some a37), 1, 1⟩ w38 fun r39 w40 => J34 (r39, ((IntKind.i64.wrap (s31.2.1 + 1)), ())) w40) else False)
  else nz p0 fun a41 => ld (.row 8) w32 a41 fun (x42 : {l : List Value // l.length = 8}) => nw w32 ((zrow 8 (.int .u32 0)).1) t_digest_state fun a43 w44 => stL a43 w44 0 x42.1 fun w45 => lp (α := (Sl × Unit)) (fun K => K (s31.1, ())) w45 fun D48 J49 s46 w47 =>
 bif (decide ((s46.1.n : Int) > 0)) then
  (sls s46.1 0 64 1 fun r50 => cl Tryd.prog n_digest_state_stir #[.pointer (some a43), .slice r50.a r50.n r50.c] (.tup .nil) w47 fun (x51 : Unit) w52 => sls s46.1 64 s46.1.n 1 fun r53 => J49 (r53, ()) w52)
  else lp (α := (Int × Unit)) (fun K => K (0, ())) w47 fun D56 J57 s54 w55 =>
 bif (decide (s54.1 < 32)) then
  (ixa (some a43) 8 (IntKind.i64.wrap (Int.tdiv s54.1 4)) 1 fun a58 => ld (.I .u32) w55 a58 fun (x59 : Int) => bif decide (0 ≤ (IntKind.i64.wrap (24 - (IntKind.i64.wrap (8 * (Int.tmod s54.1 4)))))) then (ixa (some a3) 32 s54.1 1 fun a60 => st1 w55 a60 (.int .u8 (IntKind.u8.wrap (x59 / 2 ^ (min (Int.toNat (IntKind.i64.wrap (24 - (IntKind.i64.wrap (8 * (Int.tmod s54.1 4)))))) 32)))) fun w61 => J57 ((IntKind.i64.wrap (s54.1 + 1)), ()) w61) else False)
  else ld (.row 32) w55 a3 fun (x62 : {l : List Value // l.length = 32}) => stL a1 w55 0 x62.1 fun w63 => ld (.row 32) w63 a1 fun (r64 : {l : List Value // l.length = 32}) => Q r64 w63
theorem digest_Hash_Sum.t (p0 : Option Addr) (Q : {l : List Value // l.length = 32} → World → Prop) (w : World) : digest_Hash_Sum p0 Q w = fvc Tryd.prog an_digest_Hash_Sum Tryd.f36 (.row 32) [Kd.av .P p0] w Q := by kernel_rfl
theorem digest_Hash_Sum.k : fnOk Tryd.prog Tryd.f36 = true := by kernel_rfl
theorem digest_Hash_Sum.cl {p0 : Option Addr} {Q : {l : List Value // l.length = 32} → World → Prop} {w : World} (h : digest_Hash_Sum p0 Q w) : cl Tryd.prog n_digest_Hash_Sum #[.pointer p0] (.row 32) w Q :=
  cl_tie Tryd.func36 digest_Hash_Sum.k (args := [Kd.av .P p0]) (digest_Hash_Sum.t p0 Q w) h

/-- flume/flumeref08.Quick -/
def flumeref08_Quick (p0 : Sl) (Q : {l : List Value // l.length = 32} → World → Prop) (w : World) : Prop :=
 nw w ((zrow 32 (.int .u8 0)).1) t_api_Sum fun a1 w2 => nw w2 [.int .u32 1116352408, .int .u32 1899447441, .int .u32 3049323471, .int .u32 3921009573, .int .u32 961987163, .int .u32 1508970993, .int .u32 2453635748, .int .u32 2870763221, .int .u32 3624381080, .int .u32 310598401, .int .u32 607225278, .int .u32 1426881987, .int .u32 1925078388, .int .u32 2162078206, .int .u32 2614888103, .int .u32 3248222580, .int .u32 3835390401, .int .u32 4022224774, .int .u32 264347078, .int .u32 604807628, .int .u32 770255983, .int .u32 1249150122, .int .u32 1555081692, .int .u32 1996064986, .int .u32 2554220882, .int .u32 2821834349, .int .u32 2952996808, .int .u32 3210313671, .int .u32 3336571891, .int .u32 3584528711, .int .u32 113926993, .int .u32 338241895, .int .u32 666307205, .int .u32 773529912, .int .u32 1294757372, .int .u32 1396182291, .int .u32 1695183700, .int .u32 1986661051, .int .u32 2177026350, .int .u32 2456956037, .int .u32 2730485921, .int .u32 2820302411, .int .u32 3259730800, .int .u32 3345764771, .int .u32 3516065817, .int .u32 3600352804, .int .u32 4094571909, .int .u32 275423344, .int .u32 430227734, .int .u32 506948616, .int .u32 659060556, .int .u32 883997877, .int .u32 958139571, .int .u32 1322822218, .int .u32 1537002063, .int .u32 1747873779, .int .u32 1955562222, .int .u32 2024104815, .int .u32 2227730452, .int .u32 2361852424, .int .u32 2428436474, .int .u32 2756734187, .int .u32 3204031479, .int .u32 3329325298] t_uint32 fun a3 w4 => nw w4 [.int .u32 1779033703, .int .u32 3144134277, .int .u32 1013904242, .int .u32 2773480762, .int .u32 1359893119, .int .u32 2600822924, .int .u32 528734635, .int .u32 1541459225] t_uint32 fun a5 w6 => cl Tryd.prog n_flumeref08_Sum #[.slice (some a5) 8 8, .slice (some a3) 64 64, .slice p0.a p0.n p0.c] (.row 32) w6 fun (x7 : {l : List Value // l.length = 32}) w8 => stL a1 w8 0 x7.1 fun w9 => ld (.row 32) w9 a1 fun (r10 : {l : List Value // l.length = 32}) => Q r10 w9
theorem flumeref08_Quick.t (p0 : Sl) (Q : {l : List Value // l.length = 32} → World → Prop) (w : World) : flumeref08_Quick p0 Q w = fvc Tryd.prog (fun _ => []) Tryd.f37 (.row 32) [Kd.av .L p0] w Q := by kernel_rfl
theorem flumeref08_Quick.k : fnOk Tryd.prog Tryd.f37 = true := by kernel_rfl
theorem flumeref08_Quick.cl {p0 : Sl} {Q : {l : List Value // l.length = 32} → World → Prop} {w : World} (h : flumeref08_Quick p0 Q w) : cl Tryd.prog n_flumeref08_Quick #[.slice p0.a p0.n p0.c] (.row 32) w Q :=
  cl_tie Tryd.func37 flumeref08_Quick.k (args := [Kd.av .L p0]) (flumeref08_Quick.t p0 Q w) h

/-- flume/flumeref07.Shorten -/
def an_flumeref07_Shorten : Nat → LA
  | 3 => [(3, .L), (4, .L), (5, (.I .i64))] | _ => []
def flumeref07_Shorten (p0 : Sl) (Q : Sl → World → Prop) (w : World) : Prop :=
 lp (α := (Sl × (Sl × (Int × Unit)))) (fun K => K (⟨none, 0, 0⟩, (⟨none, 0, 0⟩, (0, ())))) w fun D3 J4 s1 w2 =>
 bif (decide (s1.2.2.1 < (p0.n : Int))) then
  (cl Tryd.prog n_flumeref07_Longest #[.slice p0.a p0.n p0.c, .int .i64 s1.2.2.1] (.tup (.pair (.I .i64) (.pair (.I .i64) .nil))) w2 fun (x5 : (Int × (Int × Unit))) w6 => bif (decide (x5.2.1 < 3)) then
  (ixa p0.a p0.n s1.2.2.1 1 fun a7 => ld (.I .u8) w6 a7 fun (x8 : Int) => nw w6 [.int .u8 x8] t_uint8 fun a9 w10 => app Tryd.prog t_s_uint8 t_s_uint8 s1.2.1 ⟨(some a9), 1, 1⟩ w10 fun r11 w12 => J4 (s1.1, (r11, ((IntKind.i64.wrap (s1.2.2.1 + 1)), ()))) w12)
  else cl Tryd.prog n_flumeref07_plain #[.slice s1.2.1.a s1.2.1.n s1.2.1.c] .L w6 fun (x13 : Sl) w14 => app Tryd.prog t_s_uint8 t_s_uint8 s1.1 x13 w14 fun r15 w16 => nw w16 [.int .u8 (IntKind.u8.wrap (IntKind.i64.wrap (x5.2.1 + 125)))] t_uint8 fun a17 w18 => app Tryd.prog t_s_uint8 t_s_uint8 r15 ⟨(some a17), 1, 1⟩ w18 fun r19 w20 => cl Tryd.prog n_flumeref02_Number #[.slice r19.a r19.n r19.c, .int .i64 x5.1] .L w20 fun (x21 : Sl) w22 => J4 (x21, (⟨none, 0, 0⟩, ((IntKind.i64.wrap (s1.2.2.1 + x5.2.1)), ()))) w22)
  else cl Tryd.prog n_flumeref07_plain #[.slice s1.2.1.a s1.2.1.n s1.2.1.c] .L w2 fun (x23 : Sl) w24 => app Tryd.prog t_s_uint8 t_s_uint8 s1.1 x23 w24 fun r25 w26 => Q r25 w26
theorem flumeref07_Shorten.t (p0 : Sl) (Q : Sl → World → Prop) (w : World) : flumeref07_Shorten p0 Q w = fvc Tryd.prog an_flumeref07_Shorten Tryd.f38 .L [Kd.av .L p0] w Q := by kernel_rfl
theorem flumeref07_Shorten.k : fnOk Tryd.prog Tryd.f38 = true := by kernel_rfl
theorem flumeref07_Shorten.cl {p0 : Sl} {Q : Sl → World → Prop} {w : World} (h : flumeref07_Shorten p0 Q w) : cl Tryd.prog n_flumeref07_Shorten #[.slice p0.a p0.n p0.c] .L w Q :=
  cl_tie Tryd.func38 flumeref07_Shorten.k (args := [Kd.av .L p0]) (flumeref07_Shorten.t p0 Q w) h

/-- flume/flumeref07.Restore -/
def an_flumeref07_Restore : Nat → LA
  | 3 => [(6, .L), (7, (.I .i64))] | 22 => [(6, .L), (106, (.I .i64))] | _ => []
def flumeref07_Restore (p0 : Sl) (p1 : Int) (Q : (Sl × (Int × Unit)) → World → Prop) (w : World) : Prop :=
 lp (α := (Sl × (Int × Unit))) (fun K => K (⟨none, 0, 0⟩, (0, ()))) w fun D3 J4 s1 w2 =>
 bif (decide (s1.2.1 < (p0.n : Int))) then
  (ixa p0.a p0.n s1.2.1 1 fun a5 => ld (.I .u8) w2 a5 fun (x6 : Int) => bif (decide ((IntKind.i64.wrap x6) < 128)) then
  (bif (decide ((IntKind.i64.wrap ((p0.n : Int) - (IntKind.i64.wrap (s1.2.1 + 1)))) < (IntKind.i64.wrap ((IntKind.i64.wrap x6) + 1)))) then
   (Q (⟨none, 0, 0⟩, (2, ())) w2)
   else bif (decide ((IntKind.i64.wrap ((IntKind.i64.wrap x6) + 1)) > p1)) then
   (Q (⟨none, 0, 0⟩, (71, ())) w2)
   else bif (decide ((s1.1.n : Int) > (IntKind.i64.wrap ((IntKind.i64.wrap (p1 - (IntKind.i64.wrap x6))) - 1)))) then
   (Q (⟨none, 0, 0⟩, (71, ())) w2)
   else sls p0 (IntKind.i64.wrap (s1.2.1 + 1)) (IntKind.i64.wrap ((IntKind.i64.wrap ((IntKind.i64.wrap (s1.2.1 + 1)) + (IntKind.i64.wrap x6))) + 1)) 1 fun r7 => app Tryd.prog t_s_uint8 t_s_uint8 s1.1 r7 w2 fun r8 w9 => J4 (r8, ((IntKind.i64.wrap ((IntKind.i64.wrap (s1.2.1 + 1)) + (IntKind.i64.wrap ((IntKind.i64.wrap x6) + 1)))), ())) w9)
  else sls p0 (IntKind.i64.wrap (s1.2.1 + 1)) p0.n 1 fun r10 => cl Tryd.prog n_flumeref02_Look #[.slice r10.a r10.n r10.c] (.tup (.pair (.I .i64) (.pair (.I .i64) (.pair (.I .i64) .nil)))) w2 fun (x11 : (Int × (Int × (Int × Unit)))) w12 => bif (x11.2.2.1 == 2) then
  (Q (⟨none, 0, 0⟩, (2, ())) w12)
  else bif (x11.2.2.1 != 0) then
  (Q (⟨none, 0, 0⟩, (70, ())) w12)
  else bif (decide ((IntKind.i64.wrap x6) > 191)) then
  (Q (⟨none, 0, 0⟩, (70, ())) w12)
  else bif (decide (x11.1 < 1)) then
  (Q (⟨none, 0, 0⟩, (70, ())) w12)
  else bif (decide (x11.1 > 512)) then
  (Q (⟨none, 0, 0⟩, (70, ())) w12)
  else bif (decide (x11.1 > (s1.1.n : Int))) then
  (Q (⟨none, 0, 0⟩, (70, ())) w12)
  else bif (decide ((IntKind.i64.wrap ((IntKind.i64.wrap x6) - 125)) > p1)) then
  (Q (⟨none, 0, 0⟩, (71, ())) w12)
  else bif (decide ((s1.1.n : Int) > (IntKind.i64.wrap (p1 - (IntKind.i64.wrap ((IntKind.i64.wrap x6) - 125)))))) then
  (Q (⟨none, 0, 0⟩, (71, ())) w12)
  else lp (α := (Sl × (Int × Unit))) (fun K => K (s1.1, (0, ()))) w12 fun D15 J16 s13 w14 =>
  bif (decide (s13.2.1 < (IntKind.i64.wrap ((IntKind.i64.wrap x6) - 125)))) then
   (ixa s13.1.a s13.1.n (IntKind.i64.wrap ((s13.1.n : Int) - x11.1)) 1 fun a17 => ld (.I .u8) w14 a17 fun (x18 : Int) => nw w14 [.int .u8 x18] t_uint8 fun a19 w20 => app Tryd.prog t_s_uint8 t_s_uint8 s13.1 ⟨(some a19), 1, 1⟩ w20 fun r21 w22 => J16 (r21, ((IntKind.i64.wrap (s13.2.1 + 1)), ())) w22)
   else J4 (s13.1, ((IntKind.i64.wrap ((IntKind.i64.wrap (s1.2.1 + 1)) + x11.2.1)), ())) w14)
  else Q (s1.1, (0, ())) w2
theorem flumeref07_Restore.t (p0 : Sl) (p1 : Int) (Q : (Sl × (Int × Unit)) → World → Prop) (w : World) : flumeref07_Restore p0 p1 Q w = fvc Tryd.prog an_flumeref07_Restore Tryd.f39 (.tup (.pair .L (.pair (.I .i64) .nil))) [Kd.av .L p0, Kd.av (.I .i64) p1] w Q := by kernel_rfl
theorem flumeref07_Restore.k : fnOk Tryd.prog Tryd.f39 = true := by kernel_rfl
theorem flumeref07_Restore.cl {p0 : Sl} {p1 : Int} {Q : (Sl × (Int × Unit)) → World → Prop} {w : World} (h : flumeref07_Restore p0 p1 Q w) : cl Tryd.prog n_flumeref07_Restore #[.slice p0.a p0.n p0.c, .int .i64 p1] (.tup (.pair .L (.pair (.I .i64) .nil))) w Q :=
  cl_tie Tryd.func39 flumeref07_Restore.k (args := [Kd.av .L p0, Kd.av (.I .i64) p1]) (flumeref07_Restore.t p0 p1 Q w) h

/-- flume/octet.Number -/
def an_octet_Number : Nat → LA
  | 8 => [(8, .L), (9, (.I .i64))] | _ => []
def octet_Number (p0 : Sl) (p1 : Int) (Q : Sl → World → Prop) (w : World) : Prop :=
 cl Tryd.prog n_octet_more #[.int .u64 (IntKind.u64.wrap (max p1 0))] (.I .i64) w fun (x1 : Int) w2 => bif decide (0 ≤ (IntKind.i64.wrap (8 - x1))) then (let j1 := (fun (y19 : Int) (w20 : World) =>
   mks Tryd.prog t_s_uint8 0 (IntKind.i64.wrap ((p0.n : Int) + 9)) w20 fun r21 w22 => app Tryd.prog t_s_uint8 t_s_uint8 r21 p0 w22 fun r23 w24 => nw w24 [.int .u8 y19] t_uint8 fun a25 w26 => app Tryd.prog t_s_uint8 t_s_uint8 r23 ⟨(some a25), 1, 1⟩ w26 fun r27 w28 => lp (α := (Sl × (Int × Unit))) (fun K => K (r27, ((IntKind.i64.wrap (x1 - 1)), ()))) w28 fun D31 J32 s29 w30 =>
 bif (decide (s29.2.1 ≥ 0)) then
  (bif decide (0 ≤ (IntKind.i64.wrap (8 * s29.2.1))) then (nw w30 [.int .u8 (IntKind.u8.wrap ((IntKind.u64.wrap (max p1 0)) / 2 ^ (min (Int.toNat (IntKind.i64.wrap (8 * s29.2.1))) 64)))] t_uint8 fun a33 w34 => app Tryd.prog t_s_uint8 t_s_uint8 s29.1 ⟨(some a33), 1, 1⟩ w34 fun r35 w36 => J32 (r35, ((IntKind.i64.wrap (s29.2.1 - 1)), ())) w36) else False)
  else Q s29.1 w30);
 bif (decide (x1 < 8)) then
 (bif decide (0 ≤ (IntKind.i64.wrap (8 * x1))) then (j1 (bits .or .u8 (IntKind.u8.wrap (255 * 2 ^ (min (Int.toNat (IntKind.i64.wrap (8 - x1))) 8))) (IntKind.u8.wrap ((IntKind.u64.wrap (max p1 0)) / 2 ^ (min (Int.toNat (IntKind.i64.wrap (8 * x1))) 64)))) w2) else False)
 else j1 (IntKind.u8.wrap (255 * 2 ^ (min (Int.toNat (IntKind.i64.wrap (8 - x1))) 8))) w2) else False
theorem octet_Number.t (p0 : Sl) (p1 : Int) (Q : Sl → World → Prop) (w : World) : octet_Number p0 p1 Q w = fvc Tryd.prog an_octet_Number Tryd.f40 .L [Kd.av .L p0, Kd.av (.I .i64) p1] w Q := by kernel_rfl
theorem octet_Number.k : fnOk Tryd.prog Tryd.f40 = true := by kernel_rfl
theorem octet_Number.cl {p0 : Sl} {p1 : Int} {Q : Sl → World → Prop} {w : World} (h : octet_Number p0 p1 Q w) : cl Tryd.prog n_octet_Number #[.slice p0.a p0.n p0.c, .int .i64 p1] .L w Q :=
  cl_tie Tryd.func40 octet_Number.k (args := [Kd.av .L p0, Kd.av (.I .i64) p1]) (octet_Number.t p0 p1 Q w) h

/-- flume/record.put -/
def an_record_put : Nat → LA
  | 1000002 => [(0, .nil)] | 4000002 => [(0, .nil)] | _ => []
def record_put (p0 : Sl) (p1 : (Int × (Int × ({l : List Value // l.length = 32} × (Sl × Unit))))) (Q : Sl → World → Prop) (w : World) : Prop :=
 nw w ((([.int .i64 p1.1, .int .i64 p1.2.1] : List Value) ++ (p1.2.2.1.1 ++ ([.slice p1.2.2.2.1.a p1.2.2.2.1.n p1.2.2.2.1.c] : List Value)))) t_api_Record fun a1 w2 => ld (.I .i64) w2 a1 fun (x3 : Int) => ld (.I .i64) w2 (a1.add 1) fun (x4 : Int) => nw w2 [.int .i64 x3, .int .i64 x4] t_int fun a5 w6 => cl Tryd.prog n_octet_Numbers #[.slice p0.a p0.n p0.c, .slice (some a5) 2 2] .L w6 fun (x7 : Sl) w8 => dr w8 fun w9 => (qn Tryd.prog (Instr.sliceAt t_api_Sum (.pointer (some (a1.add 2))) none none none) .L w9 fun (r10 : Sl) => (app Tryd.prog t_s_uint8 t_s_uint8 x7 r10 w9 fun r11 w12 => ld .L w12 (a1.add 34) fun (x13 : Sl) => cl Tryd.prog n_octet_Text #[.slice r11.a r11.n r11.c, .slice x13.a x13.n x13.c] .L w12 fun (x14 : Sl) w15 => Q x14 w15) ∧ (ld .L w9 (a1.add 34) fun (x16 : Sl) => app Tryd.prog t_s_uint8 t_s_uint8 x7 r10 w9 fun r17 w18 => cl Tryd.prog n_octet_Text #[.slice r17.a r17.n r17.c, .slice x16.a x16.n x16.c] .L w18 fun (x19 : Sl) w20 => Q x19 w20)) ∧ (ld .L w9 (a1.add 34) fun (x21 : Sl) => qn Tryd.prog (Instr.sliceAt t_api_Sum (.pointer (some (a1.add 2))) none none none) .L w9 fun (r22 : Sl) => app Tryd.prog t_s_uint8 t_s_uint8 x7 r22 w9 fun r23 w24 => cl Tryd.prog n_octet_Text #[.slice r23.a r23.n r23.c, .slice x21.a x21.n x21.c] .L w24 fun (x25 : Sl) w26 => Q x25 w26)
theorem record_put.t (p0 : Sl) (p1 : (Int × (Int × ({l : List Value // l.length = 32} × (Sl × Unit))))) (Q : Sl → World → Prop) (w : World) : record_put p0 p1 Q w = fvc Tryd.prog an_record_put Tryd.f41 .L [Kd.av .L p0, Kd.av (.pair (.I .i64) (.pair (.I .i64) (.pair (.row 32) (.pair .L .nil)))) p1] w Q := by kernel_rfl
theorem record_put.k : fnOk Tryd.prog Tryd.f41 = true := by kernel_rfl
theorem record_put.cl {p0 : Sl} {p1 : (Int × (Int × ({l : List Value // l.length = 32} × (Sl × Unit))))} {Q : Sl → World → Prop} {w : World} (h : record_put p0 p1 Q w) : cl Tryd.prog n_record_put #[.slice p0.a p0.n p0.c, .agg ((([.int .i64 p1.1, .int .i64 p1.2.1] : List Value) ++ (p1.2.2.1.1 ++ ([.slice p1.2.2.2.1.a p1.2.2.2.1.n p1.2.2.2.1.c] : List Value)))).toArray] .L w Q :=
  cl_tie Tryd.func41 record_put.k (args := [Kd.av .L p0, Kd.av (.pair (.I .i64) (.pair (.I .i64) (.pair (.row 32) (.pair .L .nil)))) p1]) (record_put.t p0 p1 Q w) h

/-- flume/flumeref02.Number -/
def an_flumeref02_Number : Nat → LA
  | 5 => [(1, (.I .i64)), (6, .L), (13, (.I .i64))] | _ => []
def flumeref02_Number (p0 : Sl) (p1 : Int) (Q : Sl → World → Prop) (w : World) : Prop :=
 cl Tryd.prog n_flumeref02_Follow #[.int .i64 (max p1 0)] (.I .i64) w fun (x1 : Int) w2 => lp (α := (Int × (Sl × (Int × Unit)))) (fun K => K ((max p1 0), (⟨none, 0, 0⟩, (0, ())))) w2 fun D5 J6 s3 w4 =>
 bif (decide (s3.2.2.1 < x1)) then
  (nw w4 [.int .u8 (IntKind.u8.wrap (Int.tmod s3.1 256))] t_uint8 fun a7 w8 => app Tryd.prog t_s_uint8 t_s_uint8 ⟨(some a7), 1, 1⟩ s3.2.1 w8 fun r9 w10 => J6 ((IntKind.i64.wrap (Int.tdiv s3.1 256)), (r9, ((IntKind.i64.wrap (s3.2.2.1 + 1)), ()))) w10)
  else nw w4 [] t_uint8 fun a11 w12 => app Tryd.prog t_s_uint8 t_s_uint8 ⟨(some a11), 0, 0⟩ p0 w12 fun r13 w14 => cl Tryd.prog n_flumeref02_Lead #[.int .i64 x1] (.I .i64) w14 fun (x15 : Int) w16 => nw w16 [.int .u8 (IntKind.u8.wrap (IntKind.i64.wrap (x15 + s3.1)))] t_uint8 fun a17 w18 => app Tryd.prog t_s_uint8 t_s_uint8 r13 ⟨(some a17), 1, 1⟩ w18 fun r19 w20 => app Tryd.prog t_s_uint8 t_s_uint8 r19 s3.2.1 w20 fun r21 w22 => Q r21 w22
theorem flumeref02_Number.t (p0 : Sl) (p1 : Int) (Q : Sl → World → Prop) (w : World) : flumeref02_Number p0 p1 Q w = fvc Tryd.prog an_flumeref02_Number Tryd.f42 .L [Kd.av .L p0, Kd.av (.I .i64) p1] w Q := by kernel_rfl
theorem flumeref02_Number.k : fnOk Tryd.prog Tryd.f42 = true := by kernel_rfl
theorem flumeref02_Number.cl {p0 : Sl} {p1 : Int} {Q : Sl → World → Prop} {w : World} (h : flumeref02_Number p0 p1 Q w) : cl Tryd.prog n_flumeref02_Number #[.slice p0.a p0.n p0.c, .int .i64 p1] .L w Q :=
  cl_tie Tryd.func42 flumeref02_Number.k (args := [Kd.av .L p0, Kd.av (.I .i64) p1]) (flumeref02_Number.t p0 p1 Q w) h

/-- flume/flumeref02.Text -/
def flumeref02_Text (p0 : Sl) (p1 : Sl) (Q : Sl → World → Prop) (w : World) : Prop :=
 cl Tryd.prog n_flumeref02_Number #[.slice p0.a p0.n p0.c, .int .i64 (p1.n : Int)] .L w fun (x1 : Sl) w2 => app Tryd.prog t_s_uint8 t_s_uint8 x1 p1 w2 fun r3 w4 => Q r3 w4
theorem flumeref02_Text.t (p0 : Sl) (p1 : Sl) (Q : Sl → World → Prop) (w : World) : flumeref02_Text p0 p1 Q w = fvc Tryd.prog (fun _ => []) Tryd.f43 .L [Kd.av .L p0, Kd.av .L p1] w Q := by kernel_rfl
theorem flumeref02_Text.k : fnOk Tryd.prog Tryd.f43 = true := by kernel_rfl
theorem flumeref02_Text.cl {p0 : Sl} {p1 : Sl} {Q : Sl → World → Prop} {w : World} (h : flumeref02_Text p0 p1 Q w) : cl Tryd.prog n_flumeref02_Text #[.slice p0.a p0.n p0.c, .slice p1.a p1.n p1.c] .L w Q :=
  cl_tie Tryd.func43 flumeref02_Text.k (args := [Kd.av .L p0, Kd.av .L p1]) (flumeref02_Text.t p0 p1 Q w) h
end Go.Proofs.YtkojpppnjloikaaDoor
