/- Contracts and plain laws that the claims of this seat lean on, put together. -/
import Derived.Test.YtoglafmpllimgaaGreatDoorM0
import Derived.ArgAppend
import Derived.Laws.OwnMore
set_option linter.unusedVariables false
set_option maxHeartbeats 4000000
namespace Go.Proofs.YtoglafmpllimgaaGreatDoor
open Go.Fl
/-- (*flume/box.Box).Lan -/
def box_Box_Lan (p0 : Option Addr) (p1 : Sl) (Q : Unit → World → Prop) (w : World) : Prop :=
 cl Tryz.prog n_packet_Get #[.slice p1.a p1.n p1.c] (.tup (.pair k_api_Packet (.pair (.I .i64) .nil))) w fun (x1 : (y_api_Packet × (Int × Unit))) w2 => nw w2 ((Kd.av k_api_Packet z_api_Packet).cells) t_api_Packet fun a3 w4 => st w4 a3 (Kd.av k_api_Packet x1.1) fun w5 => let j8 := (fun  (w94 : World) =>
   cl Tryz.prog n_box_Box_pump #[.pointer p0] (.tup .nil) w94 fun (x95 : Unit) w96 => Q () w96);
 cl Tryz.prog n_box_Box_made #[.pointer p0] .B w5 fun (x6 : Bool) w7 => bif (!x6) then
 (Q () w7)
 else bif (x1.2.1 != 0) then
 (Q () w7)
 else let j4 := (fun (y51 : Bool) (w52 : World) =>
   bif y51 then
 (ld k_api_Packet w52 a3 fun (x53 : y_api_Packet) => cl Tryz.prog n_box_Box_asked #[.pointer p0, (Kd.av k_api_Packet x53).val, .slice p1.a p1.n p1.c] (.tup .nil) w52 fun (x54 : Unit) w55 => j8 w55)
 else let j6 := (fun (y75 : Bool) (w76 : World) =>
   bif y75 then
 (ld k_api_Packet w76 a3 fun (x77 : y_api_Packet) => cl Tryz.prog n_box_Box_told #[.pointer p0, (Kd.av k_api_Packet x77).val] (.tup .nil) w76 fun (x78 : Unit) w79 => j8 w79)
 else let j7 := (fun (y87 : Bool) (w88 : World) =>
   bif y87 then
 (nz p0 fun a89 => cl Tryz.prog n_box_Box_pass #[.pointer p0, .pointer (some (a89.add 15)), .slice p1.a p1.n p1.c] (.tup .nil) w88 fun (x90 : Unit) w91 => j8 w91)
 else j8 w88);
 nz p0 fun a80 => ld (.I .i64) w76 (a80.add 5) fun (x81 : Int) => bif (x81 == 4) then
 (ld (.I .i64) w76 a3 fun (x82 : Int) => bif (x82 == 2) then
 (ld (.I .i64) w76 (a3.add 1) fun (x83 : Int) => j7 (x83 == 1) w76)
 else j7 false w76)
 else j7 false w76);
 nz p0 fun a56 => ld (.I .i64) w52 (a56.add 5) fun (x57 : Int) => bif (x57 == 4) then
 (ld (.I .i64) w52 a3 fun (x58 : Int) => bif (x58 == 2) then
 (ld (.I .i64) w52 (a3.add 1) fun (x59 : Int) => j6 (x59 == 4) w52)
 else j6 false w52)
 else j6 false w52);
 nz p0 fun a8 => ld (.I .i64) w7 (a8.add 5) fun (x9 : Int) => bif (x9 == 3) then
 (ld (.I .i64) w7 a3 fun (x10 : Int) => bif (x10 == 1) then
 (ld (.I .i64) w7 (a3.add 1) fun (x11 : Int) => j4 (x11 == 2) w7)
 else j4 false w7)
 else j4 false w7
theorem box_Box_Lan.t (p0 : Option Addr) (p1 : Sl) (Q : Unit → World → Prop) (w : World) : box_Box_Lan p0 p1 Q w = fvc Tryz.prog (fun _ => []) Tryz.f11 (.tup .nil) [Kd.av .P p0, Kd.av .L p1] w Q := by kernel_rfl
theorem box_Box_Lan.k : fnOk Tryz.prog Tryz.f11 = true := by kernel_rfl
theorem box_Box_Lan.cl {p0 : Option Addr} {p1 : Sl} {Q : Unit → World → Prop} {w : World} (h : box_Box_Lan p0 p1 Q w) : cl Tryz.prog n_box_Box_Lan #[.pointer p0, .slice p1.a p1.n p1.c] (.tup .nil) w Q :=
  cl_tie Tryz.func11 box_Box_Lan.k (args := [Kd.av .P p0, Kd.av .L p1]) (box_Box_Lan.t p0 p1 Q w) h

/-- (*flume/box.Box).Out -/
def an_box_Box_Out : Nat → LA
  | 1000003 => [(0, .nil)] | 4000003 => [(0, .nil)] | _ => []
def box_Box_Out (p0 : Option Addr) (Q : (Sl × (Sl × Unit)) → World → Prop) (w : World) : Prop :=
 cl Tryz.prog n_box_Box_made #[.pointer p0] .B w fun (x1 : Bool) w2 => bif (!x1) then
 (Q (⟨none, 0, 0⟩, (⟨none, 0, 0⟩, ())) w2)
 else let j1 := (fun (y29 : Sl) (w30 : World) =>
   nz p0 fun a31 => ld .L w30 (a31.add 14) fun (x32 : Sl) => nz p0 fun a33 => st1 w30 (a33.add 14) (.slice none 0 0) fun w34 => nz p0 fun a35 => st1 w34 (a35.add 15) (.slice none 0 0) fun w36 => Q (x32, (y29, ())) w36);
 dr w2 fun w3 => nz p0 fun a4 => nz p0 fun a5 => (ld .L w3 (a4.add 15) fun (x6 : Sl) => ld .P w3 (a5.add 9) fun (x7 : Option Addr) => cl Tryz.prog n_tunnel_Tunnel_Out #[.pointer x7] .L w3 fun (x8 : Sl) w9 => app Tryz.prog t_s_s_uint8 t_s_s_uint8 x6 x8 w9 fun r10 w11 => j1 r10 w11) ∧ (ld .P w3 (a5.add 9) fun (x12 : Option Addr) => (ld .L w3 (a4.add 15) fun (x13 : Sl) => cl Tryz.prog n_tunnel_Tunnel_Out #[.pointer x12] .L w3 fun (x14 : Sl) w15 => app Tryz.prog t_s_s_uint8 t_s_s_uint8 x13 x14 w15 fun r16 w17 => j1 r16 w17) ∧ (cl Tryz.prog n_tunnel_Tunnel_Out #[.pointer x12] .L w3 fun (x18 : Sl) w19 => ld .L w19 (a4.add 15) fun (x20 : Sl) => app Tryz.prog t_s_s_uint8 t_s_s_uint8 x20 x18 w19 fun r21 w22 => j1 r21 w22))
theorem box_Box_Out.t (p0 : Option Addr) (Q : (Sl × (Sl × Unit)) → World → Prop) (w : World) : box_Box_Out p0 Q w = fvc Tryz.prog an_box_Box_Out Tryz.f12 (.tup (.pair .L (.pair .L .nil))) [Kd.av .P p0] w Q := by kernel_rfl
theorem box_Box_Out.k : fnOk Tryz.prog Tryz.f12 = true := by kernel_rfl
theorem box_Box_Out.cl {p0 : Option Addr} {Q : (Sl × (Sl × Unit)) → World → Prop} {w : World} (h : box_Box_Out p0 Q w) : cl Tryz.prog n_box_Box_Out #[.pointer p0] (.tup (.pair .L (.pair .L .nil))) w Q :=
  cl_tie Tryz.func12 box_Box_Out.k (args := [Kd.av .P p0]) (box_Box_Out.t p0 Q w) h

/-- flume/flumeref04.Get -/
def an_flumeref04_Get : Nat → LA
  | 1000009 => [(0, .nil)] | 5000009 => [(0, .nil), (45, .L), (46, .P), (47, (.I .u8)), (48, (.I .i64)), (49, .L), (50, .P), (51, (.I .u8)), (52, (.I .i64)), (53, .L), (54, .P), (55, (.I .u8)), (56, (.I .i64)), (57, .L), (58, .L), (59, (.I .i64)), (60, .L), (61, .L), (62, (.I .i64)), (63, .L), (64, .L), (65, (.I .i64)), (66, (.I .u32)), (67, .L), (68, .L), (69, (.I .i64)), (70, (.I .u32)), (71, .L), (72, .L), (73, (.I .i64)), (74, k_api_Packet), (6, .P)] | _ => []
def flumeref04_Get (p0 : Sl) (Q : (y_api_Packet × (Int × Unit)) → World → Prop) (w : World) : Prop :=
 nw w ((Kd.av k_api_Packet z_api_Packet).cells) t_api_Packet fun a1 w2 => bif (decide ((p0.n : Int) < 22)) then
 (st w2 a1 (Kd.av k_api_Packet (0, (0, (0, (0, (0, (0, (0, (0, (0, (0, (⟨none, 0, 0⟩, ())))))))))))) fun w5 => ld k_api_Packet w5 a1 fun (r6 : y_api_Packet) => Q (r6, (2, ())) w5)
 else ixa p0.a p0.n 20 1 fun a3 => ld (.I .u8) w2 a3 fun (x4 : Int) => bif (decide ((p0.n : Int) < (IntKind.i64.wrap (22 + (IntKind.i64.wrap x4))))) then
 (st w2 a1 (Kd.av k_api_Packet (0, (0, (0, (0, (0, (0, (0, (0, (0, (0, (⟨none, 0, 0⟩, ())))))))))))) fun w7 => ld k_api_Packet w7 a1 fun (r8 : y_api_Packet) => Q (r8, (2, ())) w7)
 else let j7 := (fun  (w228 : World) =>
   ixa p0.a p0.n 20 1 fun a229 => ld (.I .u8) w228 a229 fun (x230 : Int) => bif (decide ((IntKind.i64.wrap ((p0.n : Int) - (IntKind.i64.wrap (22 + (IntKind.i64.wrap x230))))) > 128)) then
 (st w228 a1 (Kd.av k_api_Packet (0, (0, (0, (0, (0, (0, (0, (0, (0, (0, (⟨none, 0, 0⟩, ())))))))))))) fun w231 => ld k_api_Packet w231 a1 fun (r232 : y_api_Packet) => Q (r232, (4, ())) w231)
 else dr w228 fun w233 => ∃ (s234 : (Sl × (Option Addr × (Int × (Int × (Sl × (Option Addr × (Int × (Int × (Sl × (Option Addr × (Int × (Int × (Sl × (Sl × (Int × (Sl × (Sl × (Int × (Sl × (Sl × (Int × (Int × (Sl × (Sl × (Int × (Int × (Sl × (Sl × (Int × (y_api_Packet × (Option Addr × Unit)))))))))))))))))))))))))))))))) (I235 : List Bool → World → Prop), I235 [false, false, false, false, false, false, false, false, false, false, false, false, false, false, false, false, false, false, false, false, false, false, false, false, false, false, false, false, false, false, false, false] w233 ∧ (∀ l236 w237, l236.getD 0 true = false → I235 l236 w237 → s234.1 = p0 ∧ I235 (l236.set 0 true) w237) ∧ (∀ l238 w239, l238.getD 1 true = false → I235 l238 w239 → ixa s234.1.a s234.1.n 1 1 fun a240 => s234.2.1 = (some a240) ∧ I235 (l238.set 1 true) w239) ∧ (∀ l241 w242, l241.getD 2 true = false → I235 l241 w242 → nz s234.2.1 fun a244 => ld (.I .u8) w242 a244 fun (x243 : Int) => s234.2.2.1 = x243 ∧ I235 (l241.set 2 true) w242) ∧ (∀ l245 w246, l245.getD 3 true = false → I235 l245 w246 → s234.2.2.2.1 = (IntKind.i64.wrap s234.2.2.1) ∧ I235 (l245.set 3 true) w246) ∧ (∀ l247 w248, l247.getD 4 true = false → I235 l247 w248 → s234.2.2.2.2.1 = p0 ∧ I235 (l247.set 4 true) w248) ∧ (∀ l249 w250, l249.getD 5 true = false → I235 l249 w250 → ixa s234.2.2.2.2.1.a s234.2.2.2.2.1.n 2 1 fun a251 => s234.2.2.2.2.2.1 = (some a251) ∧ I235 (l249.set 5 true) w250) ∧ (∀ l252 w253, l252.getD 6 true = false → I235 l252 w253 → nz s234.2.2.2.2.2.1 fun a255 => ld (.I .u8) w253 a255 fun (x254 : Int) => s234.2.2.2.2.2.2.1 = x254 ∧ I235 (l252.set 6 true) w253) ∧ (∀ l256 w257, l256.getD 7 true = false → I235 l256 w257 → s234.2.2.2.2.2.2.2.1 = (IntKind.i64.wrap s234.2.2.2.2.2.2.1) ∧ I235 (l256.set 7 true) w257) ∧ (∀ l258 w259, l258.getD 8 true = false → I235 l258 w259 → s234.2.2.2.2.2.2.2.2.1 = p0 ∧ I235 (l258.set 8 true) w259) ∧ (∀ l260 w261, l260.getD 9 true = false → I235 l260 w261 → ixa s234.2.2.2.2.2.2.2.2.1.a s234.2.2.2.2.2.2.2.2.1.n 3 1 fun a262 => s234.2.2.2.2.2.2.2.2.2.1 = (some a262) ∧ I235 (l260.set 9 true) w261) ∧ (∀ l263 w264, l263.getD 10 true = false → I235 l263 w264 → nz s234.2.2.2.2.2.2.2.2.2.1 fun a266 => ld (.I .u8) w264 a266 fun (x265 : Int) => s234.2.2.2.2.2.2.2.2.2.2.1 = x265 ∧ I235 (l263.set 10 true) w264) ∧ (∀ l267 w268, l267.getD 11 true = false → I235 l267 w268 → s234.2.2.2.2.2.2.2.2.2.2.2.1 = (IntKind.i64.wrap s234.2.2.2.2.2.2.2.2.2.2.1) ∧ I235 (l267.set 11 true) w268) ∧ (∀ l269 w270, l269.getD 12 true = false → I235 l269 w270 → s234.2.2.2.2.2.2.2.2.2.2.2.2.1 = p0 ∧ I235 (l269.set 12 true) w270) ∧ (∀ l271 w272, l271.getD 13 true = false → I235 l271 w272 → sls s234.2.2.2.2.2.2.2.2.2.2.2.2.1 4 6 1 fun r273 => s234.2.2.2.2.2.2.2.2.2.2.2.2.2.1 = r273 ∧ I235 (l271.set 13 true) w272) ∧ (∀ l274 w275, l274.getD 14 true = false → I235 l274 w275 → cl Tryz.prog n_flumeref04_num #[.slice s234.2.2.2.2.2.2.2.2.2.2.2.2.2.1.a s234.2.2.2.2.2.2.2.2.2.2.2.2.2.1.n s234.2.2.2.2.2.2.2.2.2.2.2.2.2.1.c] (.I .i64) w275 fun (x276 : Int) w277 => s234.2.2.2.2.2.2.2.2.2.2.2.2.2.2.1 = x276 ∧ I235 (l274.set 14 true) w277) ∧ (∀ l278 w279, l278.getD 15 true = false → I235 l278 w279 → s234.2.2.2.2.2.2.2.2.2.2.2.2.2.2.2.1 = p0 ∧ I235 (l278.set 15 true) w279) ∧ (∀ l280 w281, l280.getD 16 true = false → I235 l280 w281 → sls s234.2.2.2.2.2.2.2.2.2.2.2.2.2.2.2.1 6 8 1 fun r282 => s234.2.2.2.2.2.2.2.2.2.2.2.2.2.2.2.2.1 = r282 ∧ I235 (l280.set 16 true) w281) ∧ (∀ l283 w284, l283.getD 17 true = false → l283.getD 14 false = true → I235 l283 w284 → cl Tryz.prog n_flumeref04_num #[.slice s234.2.2.2.2.2.2.2.2.2.2.2.2.2.2.2.2.1.a s234.2.2.2.2.2.2.2.2.2.2.2.2.2.2.2.2.1.n s234.2.2.2.2.2.2.2.2.2.2.2.2.2.2.2.2.1.c] (.I .i64) w284 fun (x285 : Int) w286 => s234.2.2.2.2.2.2.2.2.2.2.2.2.2.2.2.2.2.1 = x285 ∧ I235 (l283.set 17 true) w286) ∧ (∀ l287 w288, l287.getD 18 true = false → I235 l287 w288 → s234.2.2.2.2.2.2.2.2.2.2.2.2.2.2.2.2.2.2.1 = p0 ∧ I235 (l287.set 18 true) w288) ∧ (∀ l289 w290, l289.getD 19 true = false → I235 l289 w290 → sls s234.2.2.2.2.2.2.2.2.2.2.2.2.2.2.2.2.2.2.1 8 12 1 fun r291 => s234.2.2.2.2.2.2.2.2.2.2.2.2.2.2.2.2.2.2.2.1 = r291 ∧ I235 (l289.set 19 true) w290) ∧ (∀ l292 w293, l292.getD 20 true = false → l292.getD 17 false = true → I235 l292 w293 → cl Tryz.prog n_flumeref04_num #[.slice s234.2.2.2.2.2.2.2.2.2.2.2.2.2.2.2.2.2.2.2.1.a s234.2.2.2.2.2.2.2.2.2.2.2.2.2.2.2.2.2.2.2.1.n s234.2.2.2.2.2.2.2.2.2.2.2.2.2.2.2.2.2.2.2.1.c] (.I .i64) w293 fun (x294 : Int) w295 => s234.2.2.2.2.2.2.2.2.2.2.2.2.2.2.2.2.2.2.2.2.1 = x294 ∧ I235 (l292.set 20 true) w295) ∧ (∀ l296 w297, l296.getD 21 true = false → l296.getD 20 false = true → I235 l296 w297 → s234.2.2.2.2.2.2.2.2.2.2.2.2.2.2.2.2.2.2.2.2.2.1 = (IntKind.u32.wrap s234.2.2.2.2.2.2.2.2.2.2.2.2.2.2.2.2.2.2.2.2.1) ∧ I235 (l296.set 21 true) w297) ∧ (∀ l298 w299, l298.getD 22 true = false → I235 l298 w299 → s234.2.2.2.2.2.2.2.2.2.2.2.2.2.2.2.2.2.2.2.2.2.2.1 = p0 ∧ I235 (l298.set 22 true) w299) ∧ (∀ l300 w301, l300.getD 23 true = false → I235 l300 w301 → sls s234.2.2.2.2.2.2.2.2.2.2.2.2.2.2.2.2.2.2.2.2.2.2.1 12 16 1 fun r302 => s234.2.2.2.2.2.2.2.2.2.2.2.2.2.2.2.2.2.2.2.2.2.2.2.1 = r302 ∧ I235 (l300.set 23 true) w301) ∧ (∀ l303 w304, l303.getD 24 true = false → l303.getD 20 false = true → I235 l303 w304 → cl Tryz.prog n_flumeref04_num #[.slice s234.2.2.2.2.2.2.2.2.2.2.2.2.2.2.2.2.2.2.2.2.2.2.2.1.a s234.2.2.2.2.2.2.2.2.2.2.2.2.2.2.2.2.2.2.2.2.2.2.2.1.n s234.2.2.2.2.2.2.2.2.2.2.2.2.2.2.2.2.2.2.2.2.2.2.2.1.c] (.I .i64) w304 fun (x305 : Int) w306 => s234.2.2.2.2.2.2.2.2.2.2.2.2.2.2.2.2.2.2.2.2.2.2.2.2.1 = x305 ∧ I235 (l303.set 24 true) w306) ∧ (∀ l307 w308, l307.getD 25 true = false → l307.getD 24 false = true → I235 l307 w308 → s234.2.2.2.2.2.2.2.2.2.2.2.2.2.2.2.2.2.2.2.2.2.2.2.2.2.1 = (IntKind.u32.wrap s234.2.2.2.2.2.2.2.2.2.2.2.2.2.2.2.2.2.2.2.2.2.2.2.2.1) ∧ I235 (l307.set 25 true) w308) ∧ (∀ l309 w310, l309.getD 26 true = false → I235 l309 w310 → s234.2.2.2.2.2.2.2.2.2.2.2.2.2.2.2.2.2.2.2.2.2.2.2.2.2.2.1 = p0 ∧ I235 (l309.set 26 true) w310) ∧ (∀ l311 w312, l311.getD 27 true = false → I235 l311 w312 → sls s234.2.2.2.2.2.2.2.2.2.2.2.2.2.2.2.2.2.2.2.2.2.2.2.2.2.2.1 16 18 1 fun r313 => s234.2.2.2.2.2.2.2.2.2.2.2.2.2.2.2.2.2.2.2.2.2.2.2.2.2.2.2.1 = r313 ∧ I235 (l311.set 27 true) w312) ∧ (∀ l314 w315, l314.getD 28 true = false → l314.getD 24 false = true → I235 l314 w315 → cl Tryz.prog n_flumeref04_num #[.slice s234.2.2.2.2.2.2.2.2.2.2.2.2.2.2.2.2.2.2.2.2.2.2.2.2.2.2.2.1.a s234.2.2.2.2.2.2.2.2.2.2.2.2.2.2.2.2.2.2.2.2.2.2.2.2.2.2.2.1.n s234.2.2.2.2.2.2.2.2.2.2.2.2.2.2.2.2.2.2.2.2.2.2.2.2.2.2.2.1.c] (.I .i64) w315 fun (x316 : Int) w317 => s234.2.2.2.2.2.2.2.2.2.2.2.2.2.2.2.2.2.2.2.2.2.2.2.2.2.2.2.2.1 = x316 ∧ I235 (l314.set 28 true) w317) ∧ (∀ l318 w319, l318.getD 29 true = false → l318.getD 3 false = true → l318.getD 7 false = true → l318.getD 11 false = true → l318.getD 14 false = true → l318.getD 17 false = true → l318.getD 21 false = true → l318.getD 25 false = true → l318.getD 28 false = true → I235 l318 w319 → s234.2.2.2.2.2.2.2.2.2.2.2.2.2.2.2.2.2.2.2.2.2.2.2.2.2.2.2.2.2.1 = (s234.2.2.2.1, (s234.2.2.2.2.2.2.2.1, (s234.2.2.2.2.2.2.2.2.2.2.2.2.2.2.1, (s234.2.2.2.2.2.2.2.2.2.2.2.2.2.2.2.2.2.1, (s234.2.2.2.2.2.2.2.2.2.2.2.2.2.2.2.2.2.2.2.2.2.1, (s234.2.2.2.2.2.2.2.2.2.2.2.2.2.2.2.2.2.2.2.2.2.2.2.2.2.1, (s234.2.2.2.2.2.2.2.2.2.2.2.1, (s234.2.2.2.2.2.2.2.2.2.2.2.2.2.2.2.2.2.2.2.2.2.2.2.2.2.2.2.2.1, (0, (0, (⟨none, 0, 0⟩, ()))))))))))) ∧ I235 (l318.set 29 true) w319) ∧ (∀ l320 w321, l320.getD 30 true = false → I235 l320 w321 → nw w321 ((Kd.av k_api_Packet z_api_Packet).cells) t_api_Packet fun a322 w323 => s234.2.2.2.2.2.2.2.2.2.2.2.2.2.2.2.2.2.2.2.2.2.2.2.2.2.2.2.2.2.2.1 = (some a322) ∧ I235 (l320.set 30 true) w323) ∧ (∀ l324 w325, l324.getD 31 true = false → l324.getD 30 false = true → l324.getD 28 false = true → l324.getD 3 false = true → l324.getD 7 false = true → l324.getD 11 false = true → l324.getD 14 false = true → l324.getD 17 false = true → l324.getD 20 false = true → l324.getD 21 false = true → l324.getD 24 false = true → l324.getD 25 false = true → l324.getD 28 false = true → l324.getD 30 false = true → I235 l324 w325 → nz s234.2.2.2.2.2.2.2.2.2.2.2.2.2.2.2.2.2.2.2.2.2.2.2.2.2.2.2.2.2.2.1 fun a326 => st w325 a326 (Kd.av k_api_Packet s234.2.2.2.2.2.2.2.2.2.2.2.2.2.2.2.2.2.2.2.2.2.2.2.2.2.2.2.2.2.1) fun w327 => I235 (l324.set 31 true) w327) ∧ ∀ w328, I235 [true, true, true, true, true, true, true, true, true, true, true, true, true, true, true, true, true, true, true, true, true, true, true, true, true, true, true, true, true, true, true, true] w328 → nw w328 [] t_uint8 fun a329 w330 => sls p0 (IntKind.i64.wrap (22 + (IntKind.i64.wrap x230))) p0.n 1 fun r331 => app Tryz.prog t_s_uint8 t_s_uint8 ⟨(some a329), 0, 0⟩ r331 w330 fun r332 w333 => nz s234.2.2.2.2.2.2.2.2.2.2.2.2.2.2.2.2.2.2.2.2.2.2.2.2.2.2.2.2.2.2.1 fun a334 => st1 w333 (a334.add 10) (.slice r332.a r332.n r332.c) fun w335 => sls p0 22 (IntKind.i64.wrap (22 + (IntKind.i64.wrap x230))) 1 fun r336 => let j11 := (fun  (w400 : World) =>
   let j13 := (fun  (w427 : World) =>
   nz s234.2.2.2.2.2.2.2.2.2.2.2.2.2.2.2.2.2.2.2.2.2.2.2.2.2.2.2.2.2.2.1 fun a429 => ld k_api_Packet w427 a429 fun (x428 : y_api_Packet) => cl Tryz.prog n_flumeref04_Put #[(Kd.av k_api_Packet x428).val] (.tup (.pair .L (.pair (.I .i64) .nil))) w427 fun (x430 : (Sl × (Int × Unit))) w431 => bif (x430.2.1 != 0) then
 (st w431 a1 (Kd.av k_api_Packet (0, (0, (0, (0, (0, (0, (0, (0, (0, (0, (⟨none, 0, 0⟩, ())))))))))))) fun w434 => ld k_api_Packet w434 a1 fun (r435 : y_api_Packet) => Q (r435, (20, ())) w434)
 else bstr w431 x430.1 fun z432 => bstr w431 p0 fun z433 => bif (!(beqB ⟨z432.toArray⟩ ⟨z433.toArray⟩)) then
 (st w431 a1 (Kd.av k_api_Packet (0, (0, (0, (0, (0, (0, (0, (0, (0, (0, (⟨none, 0, 0⟩, ())))))))))))) fun w436 => ld k_api_Packet w436 a1 fun (r437 : y_api_Packet) => Q (r437, (20, ())) w436)
 else nz s234.2.2.2.2.2.2.2.2.2.2.2.2.2.2.2.2.2.2.2.2.2.2.2.2.2.2.2.2.2.2.1 fun a439 => ld k_api_Packet w431 a439 fun (x438 : y_api_Packet) => st w431 a1 (Kd.av k_api_Packet x438) fun w440 => ld k_api_Packet w440 a1 fun (r441 : y_api_Packet) => Q (r441, (0, ())) w440);
 let j12 := (fun (y406 : Bool) (w407 : World) =>
   bif y406 then
 (sls r336 (IntKind.i64.wrap ((r336.n : Int) - 2)) r336.n 1 fun r408 => cl Tryz.prog n_flumeref04_num #[.slice r408.a r408.n r408.c] (.I .i64) w407 fun (x409 : Int) w410 => nz s234.2.2.2.2.2.2.2.2.2.2.2.2.2.2.2.2.2.2.2.2.2.2.2.2.2.2.2.2.2.2.1 fun a411 => st1 w410 (a411.add 9) (.int .i64 x409) fun w412 => j13 w412)
 else j13 w407);
 bif ((r336.n : Int) == 4) then
 (j12 true w400)
 else j12 ((r336.n : Int) == 14) w400);
 let j8 := (fun (y347 : Bool) (w348 : World) =>
   bif y347 then
 (sls r336 2 10 1 fun r349 => cl Tryz.prog n_flumeref04_num #[.slice r349.a r349.n r349.c] (.I .i64) w348 fun (x350 : Int) w351 => bif (decide (x350 < 0)) then
  (st w351 a1 (Kd.av k_api_Packet (0, (0, (0, (0, (0, (0, (0, (0, (0, (0, (⟨none, 0, 0⟩, ())))))))))))) fun w352 => ld k_api_Packet w352 a1 fun (r353 : y_api_Packet) => Q (r353, (20, ())) w352)
  else sls r336 2 10 1 fun r354 => cl Tryz.prog n_flumeref04_num #[.slice r354.a r354.n r354.c] (.I .i64) w351 fun (x355 : Int) w356 => nz s234.2.2.2.2.2.2.2.2.2.2.2.2.2.2.2.2.2.2.2.2.2.2.2.2.2.2.2.2.2.2.1 fun a357 => st1 w356 (a357.add 8) (.int .i64 x355) fun w358 => j11 w358)
 else j11 w348);
 bif ((r336.n : Int) == 10) then
 (j8 true w335)
 else j8 ((r336.n : Int) == 14) w335);
 nw w2 [.slice p0.a p0.n p0.c] t_s_uint8 fun a9 w10 => cl Tryz.prog n_flumeref01_Inet #[.slice (some a9) 1 1] (.I .u16) w10 fun (x11 : Int) w12 => bif (x11 != 0) then
 (bif (x11 != 65535) then
 (st w12 a1 (Kd.av k_api_Packet (0, (0, (0, (0, (0, (0, (0, (0, (0, (0, (⟨none, 0, 0⟩, ())))))))))))) fun w13 => ld k_api_Packet w13 a1 fun (r14 : y_api_Packet) => Q (r14, (10, ())) w13)
 else j7 w12)
 else j7 w12
theorem flumeref04_Get.t (p0 : Sl) (Q : (y_api_Packet × (Int × Unit)) → World → Prop) (w : World) : flumeref04_Get p0 Q w = fvc Tryz.prog an_flumeref04_Get Tryz.f13 (.tup (.pair k_api_Packet (.pair (.I .i64) .nil))) [Kd.av .L p0] w Q := by kernel_rfl
theorem flumeref04_Get.k : fnOk Tryz.prog Tryz.f13 = true := by kernel_rfl
theorem flumeref04_Get.cl {p0 : Sl} {Q : (y_api_Packet × (Int × Unit)) → World → Prop} {w : World} (h : flumeref04_Get p0 Q w) : cl Tryz.prog n_flumeref04_Get #[.slice p0.a p0.n p0.c] (.tup (.pair k_api_Packet (.pair (.I .i64) .nil))) w Q :=
  cl_tie Tryz.func13 flumeref04_Get.k (args := [Kd.av .L p0]) (flumeref04_Get.t p0 Q w) h
end Go.Proofs.YtoglafmpllimgaaGreatDoor
set_option linter.unusedVariables false
set_option maxHeartbeats 4000000
namespace Go.Proofs.YtoglafmpllimgaaGreatDoor
open Go.Fl
/-- (*flume/box.Box).Wan -/
def an_box_Box_Wan : Nat → LA
  | 10 => [(53, (.I .i64))] | _ => []
def box_Box_Wan (p0 : Option Addr) (p1 : Sl) (Q : Unit → World → Prop) (w : World) : Prop :=
 cl Tryz.prog n_box_Box_made #[.pointer p0] .B w fun (x1 : Bool) w2 => bif (!x1) then
 (Q () w2)
 else cl Tryz.prog n_packet_Get #[.slice p1.a p1.n p1.c] (.tup (.pair k_api_Packet (.pair (.I .i64) .nil))) w2 fun (x3 : (y_api_Packet × (Int × Unit))) w4 => nw w4 ((Kd.av k_api_Packet z_api_Packet).cells) t_api_Packet fun a5 w6 => st w6 a5 (Kd.av k_api_Packet x3.1) fun w7 => bif (x3.2.1 == 0) then
 (ld k_api_Packet w7 a5 fun (x8 : y_api_Packet) => cl Tryz.prog n_box_Box_over #[.pointer p0, (Kd.av k_api_Packet x8).val, .slice p1.a p1.n p1.c] (.tup .nil) w7 fun (x9 : Unit) w10 => dcl Tryz.prog n_box_Box_pump #[.pointer p0] w10 fun w11 => Q () w11)
 else nz p0 fun a12 => ld .P w7 (a12.add 9) fun (x13 : Option Addr) => cl Tryz.prog n_tunnel_Tunnel_Epoch #[.pointer x13] (.I .i64) w7 fun (x14 : Int) w15 => nz p0 fun a16 => ld .P w15 (a16.add 9) fun (x17 : Option Addr) => cl Tryz.prog n_tunnel_Tunnel_Take #[.pointer x17, .slice p1.a p1.n p1.c] (.tup (.pair .L (.pair (.I .i64) .nil))) w15 fun (x18 : (Sl × (Int × Unit))) w19 => let j1 := (fun  (w41 : World) =>
   lp (α := (Int × Unit)) (fun K => K (0, ())) w41 fun D44 J45 s42 w43 =>
 bif (decide (s42.1 < (x18.1.n : Int))) then
  (ixa x18.1.a x18.1.n s42.1 1 fun a46 => ld .L w43 a46 fun (x47 : Sl) => cl Tryz.prog n_record_Get #[.slice x47.a x47.n x47.c] (.tup (.pair k_api_Note (.pair (.I .i64) .nil))) w43 fun (x48 : (y_api_Note × (Int × Unit))) w49 => nw w49 ((Kd.av k_api_Note z_api_Note).cells) t_api_Note fun a50 w51 => st w51 a50 (Kd.av k_api_Note x48.1) fun w52 => bif (x48.2.1 == 0) then
  (ld k_api_Note w52 a50 fun (x53 : y_api_Note) => cl Tryz.prog n_box_Box_note #[.pointer p0, (Kd.av k_api_Note x53).val] (.tup .nil) w52 fun (x54 : Unit) w55 => J45 ((IntKind.i64.wrap (s42.1 + 1)), ()) w55)
  else J45 ((IntKind.i64.wrap (s42.1 + 1)), ()) w52)
  else dcl Tryz.prog n_box_Box_pump #[.pointer p0] w43 fun w56 => Q () w56);
 nz p0 fun a20 => ld .P w19 (a20.add 9) fun (x21 : Option Addr) => cl Tryz.prog n_tunnel_Tunnel_Epoch #[.pointer x21] (.I .i64) w19 fun (x22 : Int) w23 => bif (x22 != x14) then
 (cl Tryz.prog n_box_Box_anew #[.pointer p0] (.tup .nil) w23 fun (x24 : Unit) w25 => j1 w25)
 else j1 w23
theorem box_Box_Wan.t (p0 : Option Addr) (p1 : Sl) (Q : Unit → World → Prop) (w : World) : box_Box_Wan p0 p1 Q w = fvcD Tryz.prog an_box_Box_Wan Tryz.f14 (.tup .nil) [Kd.av .P p0, Kd.av .L p1] w Q := by kernel_rfl
theorem box_Box_Wan.k : fnOk Tryz.prog Tryz.f14 = true := by kernel_rfl
theorem box_Box_Wan.cl {p0 : Option Addr} {p1 : Sl} {Q : Unit → World → Prop} {w : World} (h : box_Box_Wan p0 p1 Q w) : cl Tryz.prog n_box_Box_Wan #[.pointer p0, .slice p1.a p1.n p1.c] (.tup .nil) w Q :=
  cl_tieD Tryz.func14 box_Box_Wan.k (args := [Kd.av .P p0, Kd.av .L p1]) (box_Box_Wan.t p0 p1 Q w) h

/-- bytes.Equal -/
def bytes_Equal (p0 : Sl) (p1 : Sl) (Q : Bool → World → Prop) (w : World) : Prop :=
 bstr w p0 fun z1 => bstr w p1 fun z2 => Q (beqB ⟨z1.toArray⟩ ⟨z2.toArray⟩) w
theorem bytes_Equal.t (p0 : Sl) (p1 : Sl) (Q : Bool → World → Prop) (w : World) : bytes_Equal p0 p1 Q w = fvc Tryz.prog (fun _ => []) Tryz.f15 .B [Kd.av .L p0, Kd.av .L p1] w Q := by kernel_rfl
theorem bytes_Equal.k : fnOk Tryz.prog Tryz.f15 = true := by kernel_rfl
theorem bytes_Equal.cl {p0 : Sl} {p1 : Sl} {Q : Bool → World → Prop} {w : World} (h : bytes_Equal p0 p1 Q w) : cl Tryz.prog n_bytes_Equal #[.slice p0.a p0.n p0.c, .slice p1.a p1.n p1.c] .B w Q :=
  cl_tie Tryz.func15 bytes_Equal.k (args := [Kd.av .L p0, Kd.av .L p1]) (bytes_Equal.t p0 p1 Q w) h

/-- (*flume/box.Box).Flows -/
def an_box_Box_Flows : Nat → LA
  | 5 => [(3, .L), (14, (.I .i64))] | 1000007 => [(0, .nil)] | _ => []
def box_Box_Flows (p0 : Option Addr) (Q : Sl → World → Prop) (w : World) : Prop :=
 cl Tryz.prog n_box_Box_made #[.pointer p0] .B w fun (x1 : Bool) w2 => bif (!x1) then
 (Q ⟨none, 0, 0⟩ w2)
 else nz p0 fun a3 => ld .L w2 (a3.add 11) fun (x4 : Sl) => lp (α := (Sl × (Int × Unit))) (fun K => K (⟨none, 0, 0⟩, (0, ()))) w2 fun D7 J8 s5 w6 =>
 bif (decide (s5.2.1 < (x4.n : Int))) then
  (ixa x4.a x4.n s5.2.1 1 fun a9 => ld .P w6 a9 fun (x10 : Option Addr) => dr w6 fun w11 => nz x10 fun a12 => ld (.I .i64) w11 a12 fun (x13 : Int) => nz x10 fun a14 => ld (.I .i64) w11 (a14.add 1) fun (x15 : Int) => nz x10 fun a16 => ld .P w11 (a16.add 3) fun (x17 : Option Addr) => nz x10 fun a18 => ld .P w11 (a18.add 5) fun (x19 : Option Addr) => nz x10 fun a20 => ld .P w11 (a20.add 6) fun (x21 : Option Addr) => nz x10 fun a22 => ld .B w11 (a22.add 12) fun (x23 : Bool) => cl Tryz.prog n_tcp_Conn_End #[.pointer x17] k_api_End w11 fun (x24 : y_api_End) w25 => Fr w11 w25 ∧ cl Tryz.prog n_dedup_Encoder_Waiting #[.pointer x19] (.I .i64) w25 fun (x26 : Int) w27 => Fr w25 w27 ∧ cl Tryz.prog n_dedup_Decoder_Held #[.pointer x21] (.I .i64) w27 fun (x28 : Int) w29 => Fr w27 w29 ∧ nw w29 [.int .i64 x13, .int .i64 x15, .int .i64 x24.1, .int .i64 x26, .int .i64 x28, .bool x23] t_api_Flow fun a30 w31 => app Tryz.prog t_s_api_Flow t_s_api_Flow s5.1 ⟨(some a30), 1, 1⟩ w31 fun r32 w33 => J8 (r32, ((IntKind.i64.wrap (s5.2.1 + 1)), ())) w33)
  else Q s5.1 w6
theorem box_Box_Flows.t (p0 : Option Addr) (Q : Sl → World → Prop) (w : World) : box_Box_Flows p0 Q w = fvc Tryz.prog an_box_Box_Flows Tryz.f16 .L [Kd.av .P p0] w Q := by kernel_rfl
theorem box_Box_Flows.k : fnOk Tryz.prog Tryz.f16 = true := by kernel_rfl
theorem box_Box_Flows.cl {p0 : Option Addr} {Q : Sl → World → Prop} {w : World} (h : box_Box_Flows p0 Q w) : cl Tryz.prog n_box_Box_Flows #[.pointer p0] .L w Q :=
  cl_tie Tryz.func16 box_Box_Flows.k (args := [Kd.av .P p0]) (box_Box_Flows.t p0 Q w) h

/-- flume/flumelaw14.syn -/
def flumelaw14_syn  (Q : Sl → World → Prop) (w : World) : Prop :=
 cl Tryz.prog n_flumeref04_Put #[(Kd.av k_api_Packet (1, (2, (1000, (80, (9, (0, (1, (1024, (0, (0, (⟨none, 0, 0⟩, ())))))))))))).val] (.tup (.pair .L (.pair (.I .i64) .nil))) w fun (x1 : (Sl × (Int × Unit))) w2 => Q x1.1 w2
theorem flumelaw14_syn.t  (Q : Sl → World → Prop) (w : World) : flumelaw14_syn  Q w = fvc Tryz.prog (fun _ => []) Tryz.f17 .L [] w Q := by kernel_rfl
theorem flumelaw14_syn.k : fnOk Tryz.prog Tryz.f17 = true := by kernel_rfl
theorem flumelaw14_syn.cl  {Q : Sl → World → Prop} {w : World} (h : flumelaw14_syn  Q w) : cl Tryz.prog n_flumelaw14_syn #[] .L w Q :=
  cl_tie Tryz.func17 flumelaw14_syn.k (args := []) (flumelaw14_syn.t  Q w) h

/-- (*flume/box.Box).Ends -/
def box_Box_Ends (p0 : Option Addr) (Q : (Int × (Int × (Int × (Bool × Unit)))) → World → Prop) (w : World) : Prop :=
 cl Tryz.prog n_box_Box_made #[.pointer p0] .B w fun (x1 : Bool) w2 => bif (!x1) then
 (Q (0, (0, (0, (false, ())))) w2)
 else nz p0 fun a3 => ld .P w2 (a3.add 9) fun (x4 : Option Addr) => qcl Tryz.prog n_tunnel_Tunnel_Me #[.pointer x4] (.I .i64) w2 fun (x5 : Int) => nz p0 fun a6 => ld .P w2 (a6.add 9) fun (x7 : Option Addr) => qcl Tryz.prog n_tunnel_Tunnel_You #[.pointer x7] (.I .i64) w2 fun (x8 : Int) => nz p0 fun a9 => ld .P w2 (a9.add 9) fun (x10 : Option Addr) => qcl Tryz.prog n_tunnel_Tunnel_Epoch #[.pointer x10] (.I .i64) w2 fun (x11 : Int) => nz p0 fun a12 => ld .P w2 (a12.add 9) fun (x13 : Option Addr) => qcl Tryz.prog n_tunnel_Tunnel_Up #[.pointer x13] .B w2 fun (x14 : Bool) => dr w2 fun w15 => Q (x5, (x8, (x11, (x14, ())))) w15
theorem box_Box_Ends.t (p0 : Option Addr) (Q : (Int × (Int × (Int × (Bool × Unit)))) → World → Prop) (w : World) : box_Box_Ends p0 Q w = fvc Tryz.prog (fun _ => []) Tryz.f19 (.tup (.pair (.I .i64) (.pair (.I .i64) (.pair (.I .i64) (.pair .B .nil))))) [Kd.av .P p0] w Q := by kernel_rfl
theorem box_Box_Ends.k : fnOk Tryz.prog Tryz.f19 = true := by kernel_rfl
theorem box_Box_Ends.cl {p0 : Option Addr} {Q : (Int × (Int × (Int × (Bool × Unit)))) → World → Prop} {w : World} (h : box_Box_Ends p0 Q w) : cl Tryz.prog n_box_Box_Ends #[.pointer p0] (.tup (.pair (.I .i64) (.pair (.I .i64) (.pair (.I .i64) (.pair .B .nil))))) w Q :=
  cl_tie Tryz.func19 box_Box_Ends.k (args := [Kd.av .P p0]) (box_Box_Ends.t p0 Q w) h

end Go.Proofs.YtoglafmpllimgaaGreatDoor
set_option linter.unusedVariables false
set_option maxHeartbeats 4000000
namespace Go.Proofs.YtoglafmpllimgaaGreatDoor
open Go.Fl
/-- (*flume/box.Box).Count -/
def an_box_Box_Count : Nat → LA
  | 1000003 => [(0, .nil)] | _ => []
def box_Box_Count (p0 : Option Addr) (Q : y_api_Count → World → Prop) (w : World) : Prop :=
 nw w ((Kd.av k_api_Count z_api_Count).cells) t_api_Count fun a1 w2 => cl Tryz.prog n_box_Box_made #[.pointer p0] .B w2 fun (x3 : Bool) w4 => bif (!x3) then
 (st w4 a1 (Kd.av k_api_Count (0, (0, (0, (0, (0, (0, ()))))))) fun w5 => ld k_api_Count w5 a1 fun (r6 : y_api_Count) => Q r6 w5)
 else dr w4 fun w7 => nz p0 fun a8 => nz p0 fun a9 => nz p0 fun a10 => nz p0 fun a11 => nz p0 fun a12 => nz p0 fun a13 => ld .P w7 (a13.add 9) fun (x14 : Option Addr) => cl Tryz.prog n_sync_atomic_Int64_Load #[.pointer (some a8)] (.I .i64) w7 fun (x15 : Int) w16 => Fr w7 w16 ∧ cl Tryz.prog n_sync_atomic_Int64_Load #[.pointer (some (a9.add 1))] (.I .i64) w16 fun (x17 : Int) w18 => Fr w16 w18 ∧ cl Tryz.prog n_sync_atomic_Int64_Load #[.pointer (some (a10.add 2))] (.I .i64) w18 fun (x19 : Int) w20 => Fr w18 w20 ∧ cl Tryz.prog n_sync_atomic_Int64_Load #[.pointer (some (a11.add 3))] (.I .i64) w20 fun (x21 : Int) w22 => Fr w20 w22 ∧ cl Tryz.prog n_sync_atomic_Int64_Load #[.pointer (some (a12.add 4))] (.I .i64) w22 fun (x23 : Int) w24 => Fr w22 w24 ∧ cl Tryz.prog n_tunnel_Tunnel_Epoch #[.pointer x14] (.I .i64) w24 fun (x25 : Int) w26 => st w26 a1 (Kd.av k_api_Count (x15, (x17, (x19, (x21, (x23, (x25, ()))))))) fun w27 => ld k_api_Count w27 a1 fun (r28 : y_api_Count) => Q r28 w27
theorem box_Box_Count.t (p0 : Option Addr) (Q : y_api_Count → World → Prop) (w : World) : box_Box_Count p0 Q w = fvc Tryz.prog an_box_Box_Count Tryz.f26 k_api_Count [Kd.av .P p0] w Q := by kernel_rfl
theorem box_Box_Count.k : fnOk Tryz.prog Tryz.f26 = true := by kernel_rfl
theorem box_Box_Count.cl {p0 : Option Addr} {Q : y_api_Count → World → Prop} {w : World} (h : box_Box_Count p0 Q w) : cl Tryz.prog n_box_Box_Count #[.pointer p0] k_api_Count w Q :=
  cl_tie Tryz.func26 box_Box_Count.k (args := [Kd.av .P p0]) (box_Box_Count.t p0 Q w) h

end Go.Proofs.YtoglafmpllimgaaGreatDoor
set_option linter.unusedVariables false
set_option maxHeartbeats 4000000
namespace Go.Proofs.YtoglafmpllimgaaGreatDoor
open Go.Fl
/-- flume/store.New -/
def an_store_New : Nat → LA
  | 5 => [(29, (.I .i64))] | _ => []
def store_New (p0 : Int) (p1 : Int) (Q : (Option Addr × (Int × Unit)) → World → Prop) (w : World) : Prop :=
 bif (decide (p0 < 1)) then
 (Q (none, (1, ())) w)
 else bif (decide (p0 > 64)) then
 (Q (none, (1, ())) w)
 else bif (decide (p1 < 1)) then
 (Q (none, (1, ())) w)
 else bif (decide (p1 > 8192)) then
 (Q (none, (1, ())) w)
 else rn Tryz.prog (Instr.makeMap t_map_api_Sum_int none) .M w fun (m1 : Option Nat) w2 => nw w2 ((Kd.av k_store_Store ((⟨none, 0, 0⟩, (⟨none, 0, 0⟩, ((-1), ((-1), ())))), (m1, (p0, (p1, (0, ())))))).cells) t_store_Store fun a3 w4 => lp (α := (Int × Unit)) (fun K => K (0, ())) w4 fun D7 J8 s5 w6 =>
 bif (decide (s5.1 < p0)) then
  (ld .L w6 a3 fun (x9 : Sl) => nw w6 (((Kd.av k_store_slot ((zrow 32 (.int .u8 0)), (⟨none, 0, 0⟩, (0, (0, (0, ())))))).cells) ++ ([])) t_store_slot fun a10 w11 => app Tryz.prog t_s_store_slot t_s_store_slot x9 ⟨(some a10), 1, 1⟩ w11 fun r12 w13 => st1 w13 a3 (.slice r12.a r12.n r12.c) fun w14 => ld .L w14 (a3.add 1) fun (x15 : Sl) => nw w14 [.int .i64 (IntKind.i64.wrap ((IntKind.i64.wrap (p0 - 1)) - s5.1))] t_int fun a16 w17 => app Tryz.prog t_s_int t_s_int x15 ⟨(some a16), 1, 1⟩ w17 fun r18 w19 => st1 w19 (a3.add 1) (.slice r18.a r18.n r18.c) fun w20 => J8 ((IntKind.i64.wrap (s5.1 + 1)), ()) w20)
  else Q ((some a3), (0, ())) w6
theorem store_New.t (p0 : Int) (p1 : Int) (Q : (Option Addr × (Int × Unit)) → World → Prop) (w : World) : store_New p0 p1 Q w = fvc Tryz.prog an_store_New Tryz.f30 (.tup (.pair .P (.pair (.I .i64) .nil))) [Kd.av (.I .i64) p0, Kd.av (.I .i64) p1] w Q := by kernel_rfl
theorem store_New.k : fnOk Tryz.prog Tryz.f30 = true := by kernel_rfl
theorem store_New.cl {p0 : Int} {p1 : Int} {Q : (Option Addr × (Int × Unit)) → World → Prop} {w : World} (h : store_New p0 p1 Q w) : cl Tryz.prog n_store_New #[.int .i64 p0, .int .i64 p1] (.tup (.pair .P (.pair (.I .i64) .nil))) w Q :=
  cl_tie Tryz.func30 store_New.k (args := [Kd.av (.I .i64) p0, Kd.av (.I .i64) p1]) (store_New.t p0 p1 Q w) h

/-- flume/tunnel.New -/
def tunnel_New (p0 : Int) (Q : (Option Addr × (Int × Unit)) → World → Prop) (w : World) : Prop :=
 bif (decide (p0 < 1)) then
 (Q (none, (1, ())) w)
 else bif (decide (p0 > 1099511627776)) then
 (Q (none, (1, ())) w)
 else nw w ((Kd.av k_tunnel_Tunnel (z_tunnel_session, (p0, (0, (0, (0, (⟨none, 0, 0⟩, ()))))))).cells) t_tunnel_Tunnel fun a1 w2 => Q ((some a1), (0, ())) w2
theorem tunnel_New.t (p0 : Int) (Q : (Option Addr × (Int × Unit)) → World → Prop) (w : World) : tunnel_New p0 Q w = fvc Tryz.prog (fun _ => []) Tryz.f31 (.tup (.pair .P (.pair (.I .i64) .nil))) [Kd.av (.I .i64) p0] w Q := by kernel_rfl
theorem tunnel_New.k : fnOk Tryz.prog Tryz.f31 = true := by kernel_rfl
theorem tunnel_New.cl {p0 : Int} {Q : (Option Addr × (Int × Unit)) → World → Prop} {w : World} (h : tunnel_New p0 Q w) : cl Tryz.prog n_tunnel_New #[.int .i64 p0] (.tup (.pair .P (.pair (.I .i64) .nil))) w Q :=
  cl_tie Tryz.func31 tunnel_New.k (args := [Kd.av (.I .i64) p0]) (tunnel_New.t p0 Q w) h

/-- flume/rabin.New -/
def rabin_New (p0 : Int) (Q : (Option Addr × (Int × Unit)) → World → Prop) (w : World) : Prop :=
 cl Tryz.prog n_rabin_Deg #[.int .u64 p0] (.I .i64) w fun (x1 : Int) w2 => bif (x1 != 31) then
 (Q (none, (50, ())) w2)
 else cl Tryz.prog n_rabin_Prime #[.int .u64 p0] .B w2 fun (x3 : Bool) w4 => bif (!x3) then
 (Q (none, (50, ())) w4)
 else nw w4 ((Kd.av k_rabin_Table (z_rabin_lazy, (p0, ()))).cells) t_rabin_Table fun a5 w6 => Q ((some a5), (0, ())) w6
theorem rabin_New.t (p0 : Int) (Q : (Option Addr × (Int × Unit)) → World → Prop) (w : World) : rabin_New p0 Q w = fvc Tryz.prog (fun _ => []) Tryz.f32 (.tup (.pair .P (.pair (.I .i64) .nil))) [Kd.av (.I .u64) p0] w Q := by kernel_rfl
theorem rabin_New.k : fnOk Tryz.prog Tryz.f32 = true := by kernel_rfl
theorem rabin_New.cl {p0 : Int} {Q : (Option Addr × (Int × Unit)) → World → Prop} {w : World} (h : rabin_New p0 Q w) : cl Tryz.prog n_rabin_New #[.int .u64 p0] (.tup (.pair .P (.pair (.I .i64) .nil))) w Q :=
  cl_tie Tryz.func32 rabin_New.k (args := [Kd.av (.I .u64) p0]) (rabin_New.t p0 Q w) h

/-- flume/flumeref04.Check -/
def an_flumeref04_Check : Nat → LA
  | 2 => [(31, (.I .i64))] | _ => []
def flumeref04_Check (p0 : y_api_Packet) (Q : Int → World → Prop) (w : World) : Prop :=
 nw w ((Kd.av k_api_Packet p0).cells) t_api_Packet fun a1 w2 => ld (.I .i64) w2 a1 fun (x3 : Int) => qn Tryz.prog (Instr.build t_3_int #[(0, .int .i64 x3), (1, .int .i64 1), (2, .int .i64 4)]) (.row 3) w2 fun (x4 : {l : List Value // l.length = 3}) => ld (.I .i64) w2 (a1.add 1) fun (x5 : Int) => qn Tryz.prog (Instr.build t_3_int #[(0, .int .i64 x5), (1, .int .i64 1), (2, .int .i64 4)]) (.row 3) w2 fun (x6 : {l : List Value // l.length = 3}) => ld (.I .i64) w2 (a1.add 2) fun (x7 : Int) => qn Tryz.prog (Instr.build t_3_int #[(0, .int .i64 x7), (1, .int .i64 1), (2, .int .i64 65535)]) (.row 3) w2 fun (x8 : {l : List Value // l.length = 3}) => ld (.I .i64) w2 (a1.add 3) fun (x9 : Int) => qn Tryz.prog (Instr.build t_3_int #[(0, .int .i64 x9), (1, .int .i64 1), (2, .int .i64 65535)]) (.row 3) w2 fun (x10 : {l : List Value // l.length = 3}) => ld (.I .i64) w2 (a1.add 6) fun (x11 : Int) => qn Tryz.prog (Instr.build t_3_int #[(0, .int .i64 x11), (1, .int .i64 0), (2, .int .i64 15)]) (.row 3) w2 fun (x12 : {l : List Value // l.length = 3}) => ld (.I .i64) w2 (a1.add 7) fun (x13 : Int) => qn Tryz.prog (Instr.build t_3_int #[(0, .int .i64 x13), (1, .int .i64 0), (2, .int .i64 65535)]) (.row 3) w2 fun (x14 : {l : List Value // l.length = 3}) => ld (.I .i64) w2 (a1.add 8) fun (x15 : Int) => qn Tryz.prog (Instr.build t_3_int #[(0, .int .i64 x15), (1, .int .i64 0), (2, .int .i64 1099511627776)]) (.row 3) w2 fun (x16 : {l : List Value // l.length = 3}) => ld (.I .i64) w2 (a1.add 9) fun (x17 : Int) => qn Tryz.prog (Instr.build t_3_int #[(0, .int .i64 x17), (1, .int .i64 0), (2, .int .i64 65535)]) (.row 3) w2 fun (x18 : {l : List Value // l.length = 3}) => nw w2 (x4.1 ++ (x6.1 ++ (x8.1 ++ (x10.1 ++ (x12.1 ++ (x14.1 ++ (x16.1 ++ (x18.1 ++ ([]))))))))) t_3_int fun a19 w20 => lp (α := (Int × Unit)) (fun K => K (0, ())) w20 fun D23 J24 s21 w22 =>
 bif (decide (s21.1 < 8)) then
  (ixa (some a19) 8 s21.1 3 fun a25 => ld (.row 3) w22 a25 fun (x26 : {l : List Value // l.length = 3}) => nw w22 ((zrow 3 (.int .i64 0)).1) t_3_int fun a27 w28 => stL a27 w28 0 x26.1 fun w29 => ixa (some a27) 3 0 1 fun a30 => ld (.I .i64) w29 a30 fun (x31 : Int) => ixa (some a27) 3 1 1 fun a32 => ld (.I .i64) w29 a32 fun (x33 : Int) => bif (decide (x31 < x33)) then
  (Q 40 w29)
  else ixa (some a27) 3 0 1 fun a34 => ld (.I .i64) w29 a34 fun (x35 : Int) => ixa (some a27) 3 2 1 fun a36 => ld (.I .i64) w29 a36 fun (x37 : Int) => bif (decide (x35 > x37)) then
  (Q 40 w29)
  else J24 ((IntKind.i64.wrap (s21.1 + 1)), ()) w29)
  else ld (.I .i64) w22 a1 fun (x38 : Int) => ld (.I .i64) w22 (a1.add 1) fun (x39 : Int) => bif (x38 == x39) then
 (Q 40 w22)
 else ld .L w22 (a1.add 10) fun (x40 : Sl) => bif (decide ((x40.n : Int) > 128)) then
 (Q 40 w22)
 else Q 0 w22
theorem flumeref04_Check.t (p0 : y_api_Packet) (Q : Int → World → Prop) (w : World) : flumeref04_Check p0 Q w = fvc Tryz.prog an_flumeref04_Check Tryz.f33 (.I .i64) [Kd.av k_api_Packet p0] w Q := by kernel_rfl
theorem flumeref04_Check.k : fnOk Tryz.prog Tryz.f33 = true := by kernel_rfl
theorem flumeref04_Check.cl {p0 : y_api_Packet} {Q : Int → World → Prop} {w : World} (h : flumeref04_Check p0 Q w) : cl Tryz.prog n_flumeref04_Check #[(Kd.av k_api_Packet p0).val] (.I .i64) w Q :=
  cl_tie Tryz.func33 flumeref04_Check.k (args := [Kd.av k_api_Packet p0]) (flumeref04_Check.t p0 Q w) h

/-- flume/flumeref04.big -/
def an_flumeref04_big : Nat → LA
  | 3 => [(0, (.I .i64)), (5, .L), (7, (.I .i64))] | _ => []
def flumeref04_big (p0 : Int) (p1 : Int) (Q : Sl → World → Prop) (w : World) : Prop :=
 lp (α := (Int × (Sl × (Int × Unit)))) (fun K => K (p0, (⟨none, 0, 0⟩, (0, ())))) w fun D3 J4 s1 w2 =>
 bif (decide (s1.2.2.1 < p1)) then
  (nw w2 [.int .u8 (IntKind.u8.wrap (Int.tmod s1.1 256))] t_uint8 fun a5 w6 => app Tryz.prog t_s_uint8 t_s_uint8 ⟨(some a5), 1, 1⟩ s1.2.1 w6 fun r7 w8 => J4 ((IntKind.i64.wrap (Int.tdiv s1.1 256)), (r7, ((IntKind.i64.wrap (s1.2.2.1 + 1)), ()))) w8)
  else Q s1.2.1 w2
theorem flumeref04_big.t (p0 : Int) (p1 : Int) (Q : Sl → World → Prop) (w : World) : flumeref04_big p0 p1 Q w = fvc Tryz.prog an_flumeref04_big Tryz.f34 .L [Kd.av (.I .i64) p0, Kd.av (.I .i64) p1] w Q := by kernel_rfl
theorem flumeref04_big.k : fnOk Tryz.prog Tryz.f34 = true := by kernel_rfl
theorem flumeref04_big.cl {p0 : Int} {p1 : Int} {Q : Sl → World → Prop} {w : World} (h : flumeref04_big p0 p1 Q w) : cl Tryz.prog n_flumeref04_big #[.int .i64 p0, .int .i64 p1] .L w Q :=
  cl_tie Tryz.func34 flumeref04_big.k (args := [Kd.av (.I .i64) p0, Kd.av (.I .i64) p1]) (flumeref04_big.t p0 p1 Q w) h

/-- flume/flumeref01.Inet -/
def an_flumeref01_Inet : Nat → LA
  | 3 => [(3, .L), (8, (.I .i64))] | _ => []
def flumeref01_Inet (p0 : Sl) (Q : Int → World → Prop) (w : World) : Prop :=
 lp (α := (Sl × (Int × Unit))) (fun K => K (⟨none, 0, 0⟩, (0, ()))) w fun D3 J4 s1 w2 =>
 bif (decide (s1.2.1 < (p0.n : Int))) then
  (ixa p0.a p0.n s1.2.1 1 fun a5 => ld .L w2 a5 fun (x6 : Sl) => cl Tryz.prog n_flumeref01_Words #[.slice x6.a x6.n x6.c] .L w2 fun (x7 : Sl) w8 => app Tryz.prog t_s_int t_s_int s1.1 x7 w8 fun r9 w10 => J4 (r9, ((IntKind.i64.wrap (s1.2.1 + 1)), ())) w10)
  else cl Tryz.prog n_flumeref01_Add #[.slice s1.1.a s1.1.n s1.1.c] (.I .i64) w2 fun (x11 : Int) w12 => Q (IntKind.u16.wrap (IntKind.i64.wrap (65535 - x11))) w12
theorem flumeref01_Inet.t (p0 : Sl) (Q : Int → World → Prop) (w : World) : flumeref01_Inet p0 Q w = fvc Tryz.prog an_flumeref01_Inet Tryz.f35 (.I .u16) [Kd.av .L p0] w Q := by kernel_rfl
theorem flumeref01_Inet.k : fnOk Tryz.prog Tryz.f35 = true := by kernel_rfl
theorem flumeref01_Inet.cl {p0 : Sl} {Q : Int → World → Prop} {w : World} (h : flumeref01_Inet p0 Q w) : cl Tryz.prog n_flumeref01_Inet #[.slice p0.a p0.n p0.c] (.I .u16) w Q :=
  cl_tie Tryz.func35 flumeref01_Inet.k (args := [Kd.av .L p0]) (flumeref01_Inet.t p0 Q w) h

/-- flume/packet.Get -/
def an_packet_Get : Nat → LA
  | 1000006 => [(0, .nil)] | _ => []
def packet_Get (p0 : Sl) (Q : (y_api_Packet × (Int × Unit)) → World → Prop) (w : World) : Prop :=
 nw w ((Kd.av k_api_Packet z_api_Packet).cells) t_api_Packet fun a1 w2 => bif (decide ((p0.n : Int) < 22)) then
 (st w2 a1 (Kd.av k_api_Packet (0, (0, (0, (0, (0, (0, (0, (0, (0, (0, (⟨none, 0, 0⟩, ())))))))))))) fun w5 => ld k_api_Packet w5 a1 fun (r6 : y_api_Packet) => Q (r6, (2, ())) w5)
 else ixa p0.a p0.n 20 1 fun a3 => ld (.I .u8) w2 a3 fun (x4 : Int) => bif (decide ((p0.n : Int) < (IntKind.i64.wrap (22 + (IntKind.i64.wrap x4))))) then
 (st w2 a1 (Kd.av k_api_Packet (0, (0, (0, (0, (0, (0, (0, (0, (0, (0, (⟨none, 0, 0⟩, ())))))))))))) fun w7 => ld k_api_Packet w7 a1 fun (r8 : y_api_Packet) => Q (r8, (2, ())) w7)
 else nw w2 [.slice p0.a p0.n p0.c] t_s_uint8 fun a9 w10 => cl Tryz.prog n_sums_Valid #[.slice (some a9) 1 1] .B w10 fun (x11 : Bool) w12 => bif (!x11) then
 (st w12 a1 (Kd.av k_api_Packet (0, (0, (0, (0, (0, (0, (0, (0, (0, (0, (⟨none, 0, 0⟩, ())))))))))))) fun w13 => ld k_api_Packet w13 a1 fun (r14 : y_api_Packet) => Q (r14, (10, ())) w13)
 else ixa p0.a p0.n 20 1 fun a15 => ld (.I .u8) w12 a15 fun (x16 : Int) => let j1 := (fun (y108 : Option Addr) (w109 : World) =>
   sls p0 22 (IntKind.i64.wrap (22 + (IntKind.i64.wrap x16))) 1 fun r110 => cl Tryz.prog n_packet_read #[.pointer y108, .slice r110.a r110.n r110.c] (.tup .nil) w109 fun (x111 : Unit) w112 => bif (decide ((IntKind.i64.wrap ((p0.n : Int) - (IntKind.i64.wrap (22 + (IntKind.i64.wrap x16))))) > 128)) then
 (st w112 a1 (Kd.av k_api_Packet (0, (0, (0, (0, (0, (0, (0, (0, (0, (0, (⟨none, 0, 0⟩, ())))))))))))) fun w113 => ld k_api_Packet w113 a1 fun (r114 : y_api_Packet) => Q (r114, (4, ())) w113)
 else sls p0 (IntKind.i64.wrap (22 + (IntKind.i64.wrap x16))) p0.n 1 fun r115 => cl Tryz.prog n_slices_Clone_byte_byte #[.slice r115.a r115.n r115.c] .L w112 fun (x116 : Sl) w117 => nz y108 fun a118 => st1 w117 (a118.add 10) (.slice x116.a x116.n x116.c) fun w119 => nz y108 fun a121 => ld k_api_Packet w119 a121 fun (x120 : y_api_Packet) => cl Tryz.prog n_packet_Put #[(Kd.av k_api_Packet x120).val] (.tup (.pair .L (.pair (.I .i64) .nil))) w119 fun (x122 : (Sl × (Int × Unit))) w123 => bif (x122.2.1 != 0) then
 (st w123 a1 (Kd.av k_api_Packet (0, (0, (0, (0, (0, (0, (0, (0, (0, (0, (⟨none, 0, 0⟩, ())))))))))))) fun w126 => ld k_api_Packet w126 a1 fun (r127 : y_api_Packet) => Q (r127, (20, ())) w126)
 else bstr w123 x122.1 fun z124 => bstr w123 p0 fun z125 => bif (!(beqB ⟨z124.toArray⟩ ⟨z125.toArray⟩)) then
 (st w123 a1 (Kd.av k_api_Packet (0, (0, (0, (0, (0, (0, (0, (0, (0, (0, (⟨none, 0, 0⟩, ())))))))))))) fun w128 => ld k_api_Packet w128 a1 fun (r129 : y_api_Packet) => Q (r129, (20, ())) w128)
 else nz y108 fun a131 => ld k_api_Packet w123 a131 fun (x130 : y_api_Packet) => st w123 a1 (Kd.av k_api_Packet x130) fun w132 => ld k_api_Packet w132 a1 fun (r133 : y_api_Packet) => Q (r133, (0, ())) w132);
 dr w12 fun w17 => ixa p0.a p0.n 1 1 fun a18 => ld (.I .u8) w17 a18 fun (x19 : Int) => ixa p0.a p0.n 2 1 fun a20 => ld (.I .u8) w17 a20 fun (x21 : Int) => ixa p0.a p0.n 3 1 fun a22 => ld (.I .u8) w17 a22 fun (x23 : Int) => sls p0 4 p0.n 1 fun r24 => sls p0 6 p0.n 1 fun r25 => sls p0 8 p0.n 1 fun r26 => sls p0 12 p0.n 1 fun r27 => sls p0 16 p0.n 1 fun r28 => (cl Tryz.prog n_packet_get2 #[.slice r24.a r24.n r24.c] (.I .i64) w17 fun (x29 : Int) w30 => Fr w17 w30 ∧ (cl Tryz.prog n_packet_get2 #[.slice r25.a r25.n r25.c] (.I .i64) w30 fun (x31 : Int) w32 => Fr w30 w32 ∧ (cl Tryz.prog n_packet_get4 #[.slice r26.a r26.n r26.c] (.I .u32) w32 fun (x33 : Int) w34 => Fr w32 w34 ∧ (cl Tryz.prog n_packet_get4 #[.slice r27.a r27.n r27.c] (.I .u32) w34 fun (x35 : Int) w36 => Fr w34 w36 ∧ (cl Tryz.prog n_packet_get2 #[.slice r28.a r28.n r28.c] (.I .i64) w36 fun (x37 : Int) w38 => Fr w36 w38 ∧ nw w38 ((Kd.av k_api_Packet z_api_Packet).cells) t_api_Packet fun a39 w40 => Fr w38 w40 ∧ st w40 a39 (Kd.av k_api_Packet ((IntKind.i64.wrap x19), ((IntKind.i64.wrap x21), (x29, (x31, (x33, (x35, ((IntKind.i64.wrap x23), (x37, (0, (0, (⟨none, 0, 0⟩, ())))))))))))) fun w41 => j1 (some a39) w41) ∧ (nw w36 ((Kd.av k_api_Packet z_api_Packet).cells) t_api_Packet fun a42 w43 => Fr w36 w43 ∧ cl Tryz.prog n_packet_get2 #[.slice r28.a r28.n r28.c] (.I .i64) w43 fun (x44 : Int) w45 => Fr w43 w45 ∧ st w45 a42 (Kd.av k_api_Packet ((IntKind.i64.wrap x19), ((IntKind.i64.wrap x21), (x29, (x31, (x33, (x35, ((IntKind.i64.wrap x23), (x44, (0, (0, (⟨none, 0, 0⟩, ())))))))))))) fun w46 => j1 (some a42) w46)) ∧ (nw w34 ((Kd.av k_api_Packet z_api_Packet).cells) t_api_Packet fun a47 w48 => Fr w34 w48 ∧ cl Tryz.prog n_packet_get4 #[.slice r27.a r27.n r27.c] (.I .u32) w48 fun (x49 : Int) w50 => Fr w48 w50 ∧ cl Tryz.prog n_packet_get2 #[.slice r28.a r28.n r28.c] (.I .i64) w50 fun (x51 : Int) w52 => Fr w50 w52 ∧ st w52 a47 (Kd.av k_api_Packet ((IntKind.i64.wrap x19), ((IntKind.i64.wrap x21), (x29, (x31, (x33, (x49, ((IntKind.i64.wrap x23), (x51, (0, (0, (⟨none, 0, 0⟩, ())))))))))))) fun w53 => j1 (some a47) w53)) ∧ (nw w32 ((Kd.av k_api_Packet z_api_Packet).cells) t_api_Packet fun a54 w55 => Fr w32 w55 ∧ cl Tryz.prog n_packet_get4 #[.slice r26.a r26.n r26.c] (.I .u32) w55 fun (x56 : Int) w57 => Fr w55 w57 ∧ cl Tryz.prog n_packet_get4 #[.slice r27.a r27.n r27.c] (.I .u32) w57 fun (x58 : Int) w59 => Fr w57 w59 ∧ cl Tryz.prog n_packet_get2 #[.slice r28.a r28.n r28.c] (.I .i64) w59 fun (x60 : Int) w61 => Fr w59 w61 ∧ st w61 a54 (Kd.av k_api_Packet ((IntKind.i64.wrap x19), ((IntKind.i64.wrap x21), (x29, (x31, (x56, (x58, ((IntKind.i64.wrap x23), (x60, (0, (0, (⟨none, 0, 0⟩, ())))))))))))) fun w62 => j1 (some a54) w62)) ∧ (nw w30 ((Kd.av k_api_Packet z_api_Packet).cells) t_api_Packet fun a63 w64 => Fr w30 w64 ∧ cl Tryz.prog n_packet_get2 #[.slice r25.a r25.n r25.c] (.I .i64) w64 fun (x65 : Int) w66 => Fr w64 w66 ∧ cl Tryz.prog n_packet_get4 #[.slice r26.a r26.n r26.c] (.I .u32) w66 fun (x67 : Int) w68 => Fr w66 w68 ∧ cl Tryz.prog n_packet_get4 #[.slice r27.a r27.n r27.c] (.I .u32) w68 fun (x69 : Int) w70 => Fr w68 w70 ∧ cl Tryz.prog n_packet_get2 #[.slice r28.a r28.n r28.c] (.I .i64) w70 fun (x71 : Int) w72 => Fr w70 w72 ∧ st w72 a63 (Kd.av k_api_Packet ((IntKind.i64.wrap x19), ((IntKind.i64.wrap x21), (x29, (x65, (x67, (x69, ((IntKind.i64.wrap x23), (x71, (0, (0, (⟨none, 0, 0⟩, ())))))))))))) fun w73 => j1 (some a63) w73)) ∧ (nw w17 ((Kd.av k_api_Packet z_api_Packet).cells) t_api_Packet fun a74 w75 => Fr w17 w75 ∧ cl Tryz.prog n_packet_get2 #[.slice r24.a r24.n r24.c] (.I .i64) w75 fun (x76 : Int) w77 => Fr w75 w77 ∧ cl Tryz.prog n_packet_get2 #[.slice r25.a r25.n r25.c] (.I .i64) w77 fun (x78 : Int) w79 => Fr w77 w79 ∧ cl Tryz.prog n_packet_get4 #[.slice r26.a r26.n r26.c] (.I .u32) w79 fun (x80 : Int) w81 => Fr w79 w81 ∧ cl Tryz.prog n_packet_get4 #[.slice r27.a r27.n r27.c] (.I .u32) w81 fun (x82 : Int) w83 => Fr w81 w83 ∧ cl Tryz.prog n_packet_get2 #[.slice r28.a r28.n r28.c] (.I .i64) w83 fun (x84 : Int) w85 => Fr w83 w85 ∧ st w85 a74 (Kd.av k_api_Packet ((IntKind.i64.wrap x19), ((IntKind.i64.wrap x21), (x76, (x78, (x80, (x82, ((IntKind.i64.wrap x23), (x84, (0, (0, (⟨none, 0, 0⟩, ())))))))))))) fun w86 => j1 (some a74) w86)
theorem packet_Get.t (p0 : Sl) (Q : (y_api_Packet × (Int × Unit)) → World → Prop) (w : World) : packet_Get p0 Q w = fvc Tryz.prog an_packet_Get Tryz.f36 (.tup (.pair k_api_Packet (.pair (.I .i64) .nil))) [Kd.av .L p0] w Q := by kernel_rfl
theorem packet_Get.k : fnOk Tryz.prog Tryz.f36 = true := by kernel_rfl
theorem packet_Get.cl {p0 : Sl} {Q : (y_api_Packet × (Int × Unit)) → World → Prop} {w : World} (h : packet_Get p0 Q w) : cl Tryz.prog n_packet_Get #[.slice p0.a p0.n p0.c] (.tup (.pair k_api_Packet (.pair (.I .i64) .nil))) w Q :=
  cl_tie Tryz.func36 packet_Get.k (args := [Kd.av .L p0]) (packet_Get.t p0 Q w) h

/-- (*flume/box.Box).made -/
def box_Box_made (p0 : Option Addr) (Q : Bool → World → Prop) (w : World) : Prop :=
 bif (!p0.isNone) then
 (nz p0 fun a1 => ld (.I .i64) w (a1.add 5) fun (x2 : Int) => Q (x2 != 0) w)
 else Q false w
theorem box_Box_made.t (p0 : Option Addr) (Q : Bool → World → Prop) (w : World) : box_Box_made p0 Q w = fvc Tryz.prog (fun _ => []) Tryz.f37 .B [Kd.av .P p0] w Q := by kernel_rfl
theorem box_Box_made.k : fnOk Tryz.prog Tryz.f37 = true := by kernel_rfl
theorem box_Box_made.cl {p0 : Option Addr} {Q : Bool → World → Prop} {w : World} (h : box_Box_made p0 Q w) : cl Tryz.prog n_box_Box_made #[.pointer p0] .B w Q :=
  cl_tie Tryz.func37 box_Box_made.k (args := [Kd.av .P p0]) (box_Box_made.t p0 Q w) h
end Go.Proofs.YtoglafmpllimgaaGreatDoor
set_option linter.unusedVariables false
set_option maxHeartbeats 4000000
namespace Go.Proofs.YtoglafmpllimgaaGreatDoor
open Go.Fl
/-- (*flume/box.Box).asked -/
def an_box_Box_asked : Nat → LA
  | 1000004 => [(0, .nil)] | 1000006 => [(0, .nil)] | 1000007 => [(0, .nil)] | _ => []
def box_Box_asked (p0 : Option Addr) (p1 : y_api_Packet) (p2 : Sl) (Q : Unit → World → Prop) (w : World) : Prop :=
 nw w ((Kd.av k_api_Packet p1).cells) t_api_Packet fun a1 w2 => cl Tryz.prog n_box_Box_find #[.pointer p0, (.func (.func n_box_Box_asked_1) #[] #[.pointer (some a1)])] .P w2 fun (x3 : Option Addr) w4 => bif (!x3.isNone) then
 (dr w4 fun w5 => nz x3 fun a6 => ld .P w5 (a6.add 3) fun (x7 : Option Addr) => ld k_api_Packet w5 a1 fun (x8 : y_api_Packet) => cl Tryz.prog n_tcp_Conn_Take #[.pointer x7, (Kd.av k_api_Packet x8).val] (.tup .nil) w5 fun (x9 : Unit) w10 => Q () w10)
 else let j2 := (fun (y68 : Bool) (w69 : World) =>
   bif y68 then
 (dr w69 fun w70 => nz p0 fun a71 => ld (.I .i64) w70 (a71.add 12) fun (x72 : Int) => ld (.I .i64) w70 (a1.add 2) fun (x73 : Int) => ld (.I .i64) w70 (a1.add 3) fun (x74 : Int) => ld k_api_Packet w70 a1 fun (x75 : y_api_Packet) => cl Tryz.prog n_box_Box_isn #[.pointer p0] (.I .u32) w70 fun (x76 : Int) w77 => Fr w70 w77 ∧ cl Tryz.prog n_tcp_Accept #[(Kd.av k_api_Packet x75).val, .int .u32 x76] .P w77 fun (x78 : Option Addr) w79 => Fr w77 w79 ∧ cl Tryz.prog n_box_Box_open #[.pointer p0, .int .i64 (IntKind.i64.wrap (x72 + 1)), .int .i64 x73, .int .i64 x74, .pointer x78] .P w79 fun (x80 : Option Addr) w81 => dr w81 fun w82 => nz x80 fun a83 => ld (.I .i64) w82 a83 fun (x84 : Int) => ld (.I .i64) w82 (a1.add 2) fun (x85 : Int) => ld (.I .i64) w82 (a1.add 3) fun (x86 : Int) => cl Tryz.prog n_box_Box_send #[.pointer p0, (Kd.av k_api_Note (1, (x84, (x85, (x86, (0, (z_api_Record, ()))))))).val] (.tup .nil) w82 fun (x87 : Unit) w88 => Q () w88)
 else let j3 := (fun (y106 : Bool) (w107 : World) =>
   bif y106 then
 (nz p0 fun a108 => ld .P w107 (a108.add 9) fun (x109 : Option Addr) => cl Tryz.prog n_tunnel_Tunnel_Me #[.pointer x109] (.I .i64) w107 fun (x110 : Int) w111 => cl Tryz.prog n_packet_Probed #[.slice p2.a p2.n p2.c, .int .i64 x110] (.tup (.pair .L (.pair (.I .i64) .nil))) w111 fun (x112 : (Sl × (Int × Unit))) w113 => nz p0 fun a114 => cl Tryz.prog n_box_Box_pass #[.pointer p0, .pointer (some (a114.add 15)), .slice x112.1.a x112.1.n x112.1.c] (.tup .nil) w113 fun (x115 : Unit) w116 => Q () w116)
 else nz p0 fun a117 => cl Tryz.prog n_box_Box_pass #[.pointer p0, .pointer (some (a117.add 15)), .slice p2.a p2.n p2.c] (.tup .nil) w107 fun (x118 : Unit) w119 => Q () w119);
 ld (.I .i64) w69 (a1.add 6) fun (x89 : Int) => bif (x89 == 1) then
 (nz p0 fun a90 => ld .P w69 (a90.add 9) fun (x91 : Option Addr) => cl Tryz.prog n_tunnel_Tunnel_Up #[.pointer x91] .B w69 fun (x92 : Bool) w93 => j3 (!x92) w93)
 else j3 false w69);
 ld (.I .i64) w4 (a1.add 6) fun (x11 : Int) => bif (x11 == 1) then
 (nz p0 fun a12 => ld .P w4 (a12.add 9) fun (x13 : Option Addr) => cl Tryz.prog n_tunnel_Tunnel_Up #[.pointer x13] .B w4 fun (x14 : Bool) w15 => bif x14 then
 (cl Tryz.prog n_box_Box_full #[.pointer p0] .B w15 fun (x16 : Bool) w17 => j2 (!x16) w17)
 else j2 false w15)
 else j2 false w4
theorem box_Box_asked.t (p0 : Option Addr) (p1 : y_api_Packet) (p2 : Sl) (Q : Unit → World → Prop) (w : World) : box_Box_asked p0 p1 p2 Q w = fvc Tryz.prog an_box_Box_asked Tryz.f38 (.tup .nil) [Kd.av .P p0, Kd.av k_api_Packet p1, Kd.av .L p2] w Q := by kernel_rfl
theorem box_Box_asked.k : fnOk Tryz.prog Tryz.f38 = true := by kernel_rfl
theorem box_Box_asked.cl {p0 : Option Addr} {p1 : y_api_Packet} {p2 : Sl} {Q : Unit → World → Prop} {w : World} (h : box_Box_asked p0 p1 p2 Q w) : cl Tryz.prog n_box_Box_asked #[.pointer p0, (Kd.av k_api_Packet p1).val, .slice p2.a p2.n p2.c] (.tup .nil) w Q :=
  cl_tie Tryz.func38 box_Box_asked.k (args := [Kd.av .P p0, Kd.av k_api_Packet p1, Kd.av .L p2]) (box_Box_asked.t p0 p1 p2 Q w) h

/-- (*flume/box.Box).pass -/
def an_box_Box_pass : Nat → LA
  | 1000000 => [(0, .nil)] | _ => []
def box_Box_pass (p0 : Option Addr) (p1 : Option Addr) (p2 : Sl) (Q : Unit → World → Prop) (w : World) : Prop :=
 dr w fun w1 => nz p1 fun a2 => ld .L w1 a2 fun (x3 : Sl) => cl Tryz.prog n_slices_Clone_byte_byte #[.slice p2.a p2.n p2.c] .L w1 fun (x4 : Sl) w5 => Fr w1 w5 ∧ nw w5 [.slice x4.a x4.n x4.c] t_s_uint8 fun a6 w7 => Fr w5 w7 ∧ app Tryz.prog t_s_s_uint8 t_s_s_uint8 x3 ⟨(some a6), 1, 1⟩ w7 fun r8 w9 => nz p1 fun a10 => st1 w9 a10 (.slice r8.a r8.n r8.c) fun w11 => nz p0 fun a12 => cl Tryz.prog n_sync_atomic_Int64_Add #[.pointer (some a12), .int .i64 1] (.I .i64) w11 fun (x13 : Int) w14 => Q () w14
theorem box_Box_pass.t (p0 : Option Addr) (p1 : Option Addr) (p2 : Sl) (Q : Unit → World → Prop) (w : World) : box_Box_pass p0 p1 p2 Q w = fvc Tryz.prog an_box_Box_pass Tryz.f40 (.tup .nil) [Kd.av .P p0, Kd.av .P p1, Kd.av .L p2] w Q := by kernel_rfl
theorem box_Box_pass.k : fnOk Tryz.prog Tryz.f40 = true := by kernel_rfl
theorem box_Box_pass.cl {p0 : Option Addr} {p1 : Option Addr} {p2 : Sl} {Q : Unit → World → Prop} {w : World} (h : box_Box_pass p0 p1 p2 Q w) : cl Tryz.prog n_box_Box_pass #[.pointer p0, .pointer p1, .slice p2.a p2.n p2.c] (.tup .nil) w Q :=
  cl_tie Tryz.func40 box_Box_pass.k (args := [Kd.av .P p0, Kd.av .P p1, Kd.av .L p2]) (box_Box_pass.t p0 p1 p2 Q w) h

/-- (*flume/box.Box).pump -/
def an_box_Box_pump : Nat → LA
  | 2 => [(13, (.I .i64))] | 10 => [(51, (.I .i64))] | _ => []
def box_Box_pump (p0 : Option Addr) (Q : Unit → World → Prop) (w : World) : Prop :=
 cl Tryz.prog n_box_Box_drain #[.pointer p0] (.tup .nil) w fun (x1 : Unit) w2 => nz p0 fun a3 => ld .L w2 (a3.add 11) fun (x4 : Sl) => lp (α := (Int × Unit)) (fun K => K (0, ())) w2 fun D7 J8 s5 w6 =>
 bif (decide (s5.1 < (x4.n : Int))) then
  (ixa x4.a x4.n s5.1 1 fun a9 => ld .P w6 a9 fun (x10 : Option Addr) => let j2 := (fun  (w58 : World) =>
    let j3 := (fun  (w81 : World) =>
    nz x10 fun a82 => ld .P w81 (a82.add 3) fun (x83 : Option Addr) => cl Tryz.prog n_tcp_Conn_Out #[.pointer x83] .L w81 fun (x84 : Sl) w85 => lp (α := (Int × Unit)) (fun K => K (0, ())) w85 fun D88 J89 s86 w87 =>
  bif (decide (s86.1 < (x84.n : Int))) then
   (ixa x84.a x84.n s86.1 11 fun a90 => ld k_api_Packet w87 a90 fun (x91 : y_api_Packet) => nw w87 ((Kd.av k_api_Packet z_api_Packet).cells) t_api_Packet fun a92 w93 => st w93 a92 (Kd.av k_api_Packet x91) fun w94 => ld k_api_Packet w94 a92 fun (x95 : y_api_Packet) => cl Tryz.prog n_box_Box_put #[.pointer p0, (Kd.av k_api_Packet x95).val] (.tup .nil) w94 fun (x96 : Unit) w97 => J89 ((IntKind.i64.wrap (s86.1 + 1)), ()) w97)
   else J8 ((IntKind.i64.wrap (s5.1 + 1)), ()) w87);
  nz x10 fun a59 => ld .B w58 (a59.add 12) fun (x60 : Bool) => bif (!x60) then
  (cl Tryz.prog n_box_Box_in #[.pointer p0, .pointer x10] (.tup .nil) w58 fun (x61 : Unit) w62 => cl Tryz.prog n_box_Box_out #[.pointer p0, .pointer x10] (.tup .nil) w62 fun (x63 : Unit) w64 => j3 w64)
  else j3 w58);
  nz x10 fun a11 => ld .B w6 (a11.add 12) fun (x12 : Bool) => bif (!x12) then
  (nz x10 fun a13 => ld .P w6 (a13.add 3) fun (x14 : Option Addr) => cl Tryz.prog n_tcp_Conn_End #[.pointer x14] k_api_End w6 fun (x15 : y_api_End) w16 => bif (x15.1 == 5) then
  (cl Tryz.prog n_box_Box_smash #[.pointer p0, .pointer x10, .bool true] (.tup .nil) w16 fun (x17 : Unit) w18 => j2 w18)
  else j2 w16)
  else j2 w6)
  else Q () w6
theorem box_Box_pump.t (p0 : Option Addr) (Q : Unit → World → Prop) (w : World) : box_Box_pump p0 Q w = fvc Tryz.prog an_box_Box_pump Tryz.f41 (.tup .nil) [Kd.av .P p0] w Q := by kernel_rfl
theorem box_Box_pump.k : fnOk Tryz.prog Tryz.f41 = true := by kernel_rfl
theorem box_Box_pump.cl {p0 : Option Addr} {Q : Unit → World → Prop} {w : World} (h : box_Box_pump p0 Q w) : cl Tryz.prog n_box_Box_pump #[.pointer p0] (.tup .nil) w Q :=
  cl_tie Tryz.func41 box_Box_pump.k (args := [Kd.av .P p0]) (box_Box_pump.t p0 Q w) h
theorem box_Box_pump.dcl {p0 : Option Addr} {K : World → Prop} {w : World} (h : box_Box_pump p0 (fun _ w' => K w') w) : dcl Tryz.prog n_box_Box_pump #[.pointer p0] w K :=
  dcl_tie (k := (.tup .nil)) Tryz.func41 box_Box_pump.k (args := [Kd.av .P p0]) (box_Box_pump.t p0 (fun _ w' => K w') w) h

/-- (*flume/tunnel.Tunnel).Out -/
def tunnel_Tunnel_Out (p0 : Option Addr) (Q : Sl → World → Prop) (w : World) : Prop :=
 cl Tryz.prog n_tunnel_Tunnel_made #[.pointer p0] .B w fun (x1 : Bool) w2 => bif (!x1) then
 (Q ⟨none, 0, 0⟩ w2)
 else nz p0 fun a3 => ld .L w2 (a3.add 11) fun (x4 : Sl) => nz p0 fun a5 => st1 w2 (a5.add 11) (.slice none 0 0) fun w6 => Q x4 w6
theorem tunnel_Tunnel_Out.t (p0 : Option Addr) (Q : Sl → World → Prop) (w : World) : tunnel_Tunnel_Out p0 Q w = fvc Tryz.prog (fun _ => []) Tryz.f42 .L [Kd.av .P p0] w Q := by kernel_rfl
theorem tunnel_Tunnel_Out.k : fnOk Tryz.prog Tryz.f42 = true := by kernel_rfl
theorem tunnel_Tunnel_Out.cl {p0 : Option Addr} {Q : Sl → World → Prop} {w : World} (h : tunnel_Tunnel_Out p0 Q w) : cl Tryz.prog n_tunnel_Tunnel_Out #[.pointer p0] .L w Q :=
  cl_tie Tryz.func42 tunnel_Tunnel_Out.k (args := [Kd.av .P p0]) (tunnel_Tunnel_Out.t p0 Q w) h

/-- flume/flumeref04.num -/
def an_flumeref04_num : Nat → LA
  | 3 => [(3, (.I .i64)), (8, (.I .i64))] | _ => []
def flumeref04_num (p0 : Sl) (Q : Int → World → Prop) (w : World) : Prop :=
 lp (α := (Int × (Int × Unit))) (fun K => K (0, (0, ()))) w fun D3 J4 s1 w2 =>
 bif (decide (s1.2.1 < (p0.n : Int))) then
  (ixa p0.a p0.n s1.2.1 1 fun a5 => ld (.I .u8) w2 a5 fun (x6 : Int) => J4 ((IntKind.i64.wrap ((IntKind.i64.wrap (256 * s1.1)) + (IntKind.i64.wrap x6))), ((IntKind.i64.wrap (s1.2.1 + 1)), ())) w2)
  else Q s1.1 w2
theorem flumeref04_num.t (p0 : Sl) (Q : Int → World → Prop) (w : World) : flumeref04_num p0 Q w = fvc Tryz.prog an_flumeref04_num Tryz.f43 (.I .i64) [Kd.av .L p0] w Q := by kernel_rfl
theorem flumeref04_num.k : fnOk Tryz.prog Tryz.f43 = true := by kernel_rfl
theorem flumeref04_num.cl {p0 : Sl} {Q : Int → World → Prop} {w : World} (h : flumeref04_num p0 Q w) : cl Tryz.prog n_flumeref04_num #[.slice p0.a p0.n p0.c] (.I .i64) w Q :=
  cl_tie Tryz.func43 flumeref04_num.k (args := [Kd.av .L p0]) (flumeref04_num.t p0 Q w) h

/-- (*flume/box.Box).over -/
def an_box_Box_over : Nat → LA
  | 1000006 => [(0, .nil)] | _ => []
def box_Box_over (p0 : Option Addr) (p1 : y_api_Packet) (p2 : Sl) (Q : Unit → World → Prop) (w : World) : Prop :=
 nw w ((Kd.av k_api_Packet p1).cells) t_api_Packet fun a1 w2 => let j2 := (fun (y48 : Bool) (w49 : World) =>
   bif y48 then
 (cl Tryz.prog n_box_Box_find #[.pointer p0, (.func (.func n_box_Box_over_1) #[] #[.pointer (some a1)])] .P w49 fun (x50 : Option Addr) w51 => bif x50.isNone then
  (nz p0 fun a52 => cl Tryz.prog n_box_Box_pass #[.pointer p0, .pointer (some (a52.add 14)), .slice p2.a p2.n p2.c] (.tup .nil) w51 fun (x53 : Unit) w54 => Q () w54)
  else Q () w51)
 else let j3 := (fun (y74 : Bool) (w75 : World) =>
   bif y74 then
 (ld (.I .i64) w75 (a1.add 8) fun (x76 : Int) => bif (decide (x76 > 0)) then
  (dr w75 fun w77 => nz p0 fun a78 => ld .P w77 (a78.add 9) fun (x79 : Option Addr) => ld (.I .i64) w77 (a1.add 8) fun (x80 : Int) => cl Tryz.prog n_tunnel_Tunnel_Hint #[.pointer x79, .int .i64 x80] (.tup .nil) w77 fun (x81 : Unit) w82 => cl Tryz.prog n_packet_Probed #[.slice p2.a p2.n p2.c, .int .i64 0] (.tup (.pair .L (.pair (.I .i64) .nil))) w82 fun (x83 : (Sl × (Int × Unit))) w84 => nz p0 fun a85 => cl Tryz.prog n_box_Box_pass #[.pointer p0, .pointer (some (a85.add 14)), .slice x83.1.a x83.1.n x83.1.c] (.tup .nil) w84 fun (x86 : Unit) w87 => Q () w87)
  else nz p0 fun a88 => cl Tryz.prog n_box_Box_pass #[.pointer p0, .pointer (some (a88.add 14)), .slice p2.a p2.n p2.c] (.tup .nil) w75 fun (x89 : Unit) w90 => Q () w90)
 else Q () w75);
 nz p0 fun a55 => ld (.I .i64) w49 (a55.add 5) fun (x56 : Int) => bif (x56 == 4) then
 (ld (.I .i64) w49 a1 fun (x57 : Int) => bif (x57 == 1) then
 (ld (.I .i64) w49 (a1.add 1) fun (x58 : Int) => j3 (x58 == 2) w49)
 else j3 false w49)
 else j3 false w49);
 nz p0 fun a3 => ld (.I .i64) w2 (a3.add 5) fun (x4 : Int) => bif (x4 == 3) then
 (ld (.I .i64) w2 a1 fun (x5 : Int) => bif (x5 == 2) then
 (ld (.I .i64) w2 (a1.add 1) fun (x6 : Int) => j2 (x6 == 1) w2)
 else j2 false w2)
 else j2 false w2
theorem box_Box_over.t (p0 : Option Addr) (p1 : y_api_Packet) (p2 : Sl) (Q : Unit → World → Prop) (w : World) : box_Box_over p0 p1 p2 Q w = fvc Tryz.prog an_box_Box_over Tryz.f44 (.tup .nil) [Kd.av .P p0, Kd.av k_api_Packet p1, Kd.av .L p2] w Q := by kernel_rfl
theorem box_Box_over.k : fnOk Tryz.prog Tryz.f44 = true := by kernel_rfl
theorem box_Box_over.cl {p0 : Option Addr} {p1 : y_api_Packet} {p2 : Sl} {Q : Unit → World → Prop} {w : World} (h : box_Box_over p0 p1 p2 Q w) : cl Tryz.prog n_box_Box_over #[.pointer p0, (Kd.av k_api_Packet p1).val, .slice p2.a p2.n p2.c] (.tup .nil) w Q :=
  cl_tie Tryz.func44 box_Box_over.k (args := [Kd.av .P p0, Kd.av k_api_Packet p1, Kd.av .L p2]) (box_Box_over.t p0 p1 p2 Q w) h

/-- (*flume/tunnel.Tunnel).Epoch -/
def tunnel_Tunnel_Epoch (p0 : Option Addr) (Q : Int → World → Prop) (w : World) : Prop :=
 cl Tryz.prog n_tunnel_Tunnel_made #[.pointer p0] .B w fun (x1 : Bool) w2 => bif (!x1) then
 (Q 0 w2)
 else nz p0 fun a3 => ld (.I .i64) w2 (a3.add 9) fun (x4 : Int) => Q x4 w2
theorem tunnel_Tunnel_Epoch.t (p0 : Option Addr) (Q : Int → World → Prop) (w : World) : tunnel_Tunnel_Epoch p0 Q w = fvc Tryz.prog (fun _ => []) Tryz.f45 (.I .i64) [Kd.av .P p0] w Q := by kernel_rfl
theorem tunnel_Tunnel_Epoch.k : fnOk Tryz.prog Tryz.f45 = true := by kernel_rfl
theorem tunnel_Tunnel_Epoch.cl {p0 : Option Addr} {Q : Int → World → Prop} {w : World} (h : tunnel_Tunnel_Epoch p0 Q w) : cl Tryz.prog n_tunnel_Tunnel_Epoch #[.pointer p0] (.I .i64) w Q :=
  cl_tie Tryz.func45 tunnel_Tunnel_Epoch.k (args := [Kd.av .P p0]) (tunnel_Tunnel_Epoch.t p0 Q w) h

/-- (*flume/tunnel.Tunnel).Take -/
def tunnel_Tunnel_Take (p0 : Option Addr) (p1 : Sl) (Q : (Sl × (Int × Unit)) → World → Prop) (w : World) : Prop :=
 cl Tryz.prog n_tunnel_Tunnel_made #[.pointer p0] .B w fun (x1 : Bool) w2 => bif (!x1) then
 (Q (⟨none, 0, 0⟩, (6, ())) w2)
 else cl Tryz.prog n_tunnel_Get #[.slice p1.a p1.n p1.c] (.tup (.pair k_api_Frame (.pair (.I .i64) .nil))) w2 fun (x3 : (y_api_Frame × (Int × Unit))) w4 => nw w4 ((Kd.av k_api_Frame z_api_Frame).cells) t_api_Frame fun a5 w6 => st w6 a5 (Kd.av k_api_Frame x3.1) fun w7 => bif (x3.2.1 != 0) then
 (Q (⟨none, 0, 0⟩, (x3.2.1, ())) w7)
 else ld (.I .i64) w7 a5 fun (x8 : Int) => bif (x8 == 1) then
 (ld k_api_Frame w7 a5 fun (x9 : y_api_Frame) => cl Tryz.prog n_tunnel_Tunnel_hello #[.pointer p0, (Kd.av k_api_Frame x9).val] (.tup .nil) w7 fun (x10 : Unit) w11 => Q (⟨none, 0, 0⟩, (0, ())) w11)
 else let j2 := (fun (y39 : Bool) (w40 : World) =>
   bif y39 then
 (let j3 := (fun (y52 : Bool) (w53 : World) =>
    bif y52 then
  (ld (.I .i64) w53 (a5.add 1) fun (x54 : Int) => cl Tryz.prog n_tunnel_Tunnel_say #[.pointer p0, (Kd.av k_api_Frame (1, (0, (x54, (0, (0, (0, (⟨none, 0, 0⟩, ())))))))).val] (.tup .nil) w53 fun (x55 : Unit) w56 => Q (⟨none, 0, 0⟩, (0, ())) w56)
  else Q (⟨none, 0, 0⟩, (0, ())) w53);
  ld (.I .i64) w40 (a5.add 2) fun (x41 : Int) => nz p0 fun a42 => ld (.I .i64) w40 (a42.add 7) fun (x43 : Int) => bif (x41 != x43) then (ld (.I .i64) w40 (a5.add 1) fun (x44 : Int) => nz p0 fun a45 => ld (.I .i64) w40 (a45.add 8) fun (x46 : Int) => dr w40 fun w47 => j3 (decide (x44 ≥ x46)) w47) else dr w40 fun w48 => j3 false w48)
 else nz p0 fun a57 => st1 w40 (a57.add 1) (.int .i64 0) fun w58 => ld (.I .i64) w58 a5 fun (x59 : Int) => bif (x59 == 3) then
 (ld k_api_Frame w58 a5 fun (x60 : y_api_Frame) => cl Tryz.prog n_tunnel_Tunnel_ack #[.pointer p0, (Kd.av k_api_Frame x60).val] (.tup .nil) w58 fun (x61 : Unit) w62 => Q (⟨none, 0, 0⟩, (0, ())) w62)
 else ld k_api_Frame w58 a5 fun (x63 : y_api_Frame) => cl Tryz.prog n_tunnel_Tunnel_data #[.pointer p0, (Kd.av k_api_Frame x63).val] .L w58 fun (x64 : Sl) w65 => Q (x64, (0, ())) w65);
 nz p0 fun a12 => ld .B w7 a12 fun (x13 : Bool) => bif (!x13) then (dr w7 fun w14 => j2 true w14) else ld (.I .i64) w7 (a5.add 1) fun (x15 : Int) => nz p0 fun a16 => ld (.I .i64) w7 (a16.add 8) fun (x17 : Int) => bif (x15 != x17) then (dr w7 fun w18 => j2 true w18) else ld (.I .i64) w7 (a5.add 2) fun (x19 : Int) => nz p0 fun a20 => ld (.I .i64) w7 (a20.add 7) fun (x21 : Int) => dr w7 fun w22 => j2 (x19 != x21) w22
theorem tunnel_Tunnel_Take.t (p0 : Option Addr) (p1 : Sl) (Q : (Sl × (Int × Unit)) → World → Prop) (w : World) : tunnel_Tunnel_Take p0 p1 Q w = fvc Tryz.prog (fun _ => []) Tryz.f46 (.tup (.pair .L (.pair (.I .i64) .nil))) [Kd.av .P p0, Kd.av .L p1] w Q := by kernel_rfl
theorem tunnel_Tunnel_Take.k : fnOk Tryz.prog Tryz.f46 = true := by kernel_rfl
theorem tunnel_Tunnel_Take.cl {p0 : Option Addr} {p1 : Sl} {Q : (Sl × (Int × Unit)) → World → Prop} {w : World} (h : tunnel_Tunnel_Take p0 p1 Q w) : cl Tryz.prog n_tunnel_Tunnel_Take #[.pointer p0, .slice p1.a p1.n p1.c] (.tup (.pair .L (.pair (.I .i64) .nil))) w Q :=
  cl_tie Tryz.func46 tunnel_Tunnel_Take.k (args := [Kd.av .P p0, Kd.av .L p1]) (tunnel_Tunnel_Take.t p0 p1 Q w) h
end Go.Proofs.YtoglafmpllimgaaGreatDoor
set_option linter.unusedVariables false
set_option maxHeartbeats 4000000
namespace Go.Proofs.YtoglafmpllimgaaGreatDoor
open Go.Fl
/-- (*flume/box.Box).anew -/
def an_box_Box_anew : Nat → LA
  | 2 => [(12, (.I .i64))] | _ => []
def box_Box_anew (p0 : Option Addr) (Q : Unit → World → Prop) (w : World) : Prop :=
 nz p0 fun a1 => st1 w (a1.add 13) (.slice none 0 0) fun w2 => nz p0 fun a3 => ld .L w2 (a3.add 11) fun (x4 : Sl) => lp (α := (Int × Unit)) (fun K => K (0, ())) w2 fun D7 J8 s5 w6 =>
 bif (decide (s5.1 < (x4.n : Int))) then
  (ixa x4.a x4.n s5.1 1 fun a9 => ld .P w6 a9 fun (x10 : Option Addr) => cl Tryz.prog n_box_Box_smash #[.pointer p0, .pointer x10, .bool false] (.tup .nil) w6 fun (x11 : Unit) w12 => nz x10 fun a13 => st1 w12 a13 (.int .i64 0) fun w14 => J8 ((IntKind.i64.wrap (s5.1 + 1)), ()) w14)
  else Q () w6
theorem box_Box_anew.t (p0 : Option Addr) (Q : Unit → World → Prop) (w : World) : box_Box_anew p0 Q w = fvc Tryz.prog an_box_Box_anew Tryz.f47 (.tup .nil) [Kd.av .P p0] w Q := by kernel_rfl
theorem box_Box_anew.k : fnOk Tryz.prog Tryz.f47 = true := by kernel_rfl
theorem box_Box_anew.cl {p0 : Option Addr} {Q : Unit → World → Prop} {w : World} (h : box_Box_anew p0 Q w) : cl Tryz.prog n_box_Box_anew #[.pointer p0] (.tup .nil) w Q :=
  cl_tie Tryz.func47 box_Box_anew.k (args := [Kd.av .P p0]) (box_Box_anew.t p0 Q w) h

/-- (*flume/tunnel.Tunnel).Me -/
def tunnel_Tunnel_Me (p0 : Option Addr) (Q : Int → World → Prop) (w : World) : Prop :=
 cl Tryz.prog n_tunnel_Tunnel_made #[.pointer p0] .B w fun (x1 : Bool) w2 => bif (!x1) then
 (Q 0 w2)
 else nz p0 fun a3 => ld (.I .i64) w2 (a3.add 7) fun (x4 : Int) => Q x4 w2
theorem tunnel_Tunnel_Me.t (p0 : Option Addr) (Q : Int → World → Prop) (w : World) : tunnel_Tunnel_Me p0 Q w = fvc Tryz.prog (fun _ => []) Tryz.f53 (.I .i64) [Kd.av .P p0] w Q := by kernel_rfl
theorem tunnel_Tunnel_Me.k : fnOk Tryz.prog Tryz.f53 = true := by kernel_rfl
theorem tunnel_Tunnel_Me.cl {p0 : Option Addr} {Q : Int → World → Prop} {w : World} (h : tunnel_Tunnel_Me p0 Q w) : cl Tryz.prog n_tunnel_Tunnel_Me #[.pointer p0] (.I .i64) w Q :=
  cl_tie Tryz.func53 tunnel_Tunnel_Me.k (args := [Kd.av .P p0]) (tunnel_Tunnel_Me.t p0 Q w) h

/-- (*flume/tunnel.Tunnel).You -/
def tunnel_Tunnel_You (p0 : Option Addr) (Q : Int → World → Prop) (w : World) : Prop :=
 cl Tryz.prog n_tunnel_Tunnel_made #[.pointer p0] .B w fun (x1 : Bool) w2 => bif (!x1) then
 (Q 0 w2)
 else nz p0 fun a3 => ld (.I .i64) w2 (a3.add 8) fun (x4 : Int) => Q x4 w2
theorem tunnel_Tunnel_You.t (p0 : Option Addr) (Q : Int → World → Prop) (w : World) : tunnel_Tunnel_You p0 Q w = fvc Tryz.prog (fun _ => []) Tryz.f54 (.I .i64) [Kd.av .P p0] w Q := by kernel_rfl
theorem tunnel_Tunnel_You.k : fnOk Tryz.prog Tryz.f54 = true := by kernel_rfl
theorem tunnel_Tunnel_You.cl {p0 : Option Addr} {Q : Int → World → Prop} {w : World} (h : tunnel_Tunnel_You p0 Q w) : cl Tryz.prog n_tunnel_Tunnel_You #[.pointer p0] (.I .i64) w Q :=
  cl_tie Tryz.func54 tunnel_Tunnel_You.k (args := [Kd.av .P p0]) (tunnel_Tunnel_You.t p0 Q w) h

/-- (*flume/tunnel.Tunnel).Up -/
def tunnel_Tunnel_Up (p0 : Option Addr) (Q : Bool → World → Prop) (w : World) : Prop :=
 cl Tryz.prog n_tunnel_Tunnel_made #[.pointer p0] .B w fun (x1 : Bool) w2 => bif x1 then
 (nz p0 fun a3 => ld .B w2 a3 fun (x4 : Bool) => Q x4 w2)
 else Q false w2
theorem tunnel_Tunnel_Up.t (p0 : Option Addr) (Q : Bool → World → Prop) (w : World) : tunnel_Tunnel_Up p0 Q w = fvc Tryz.prog (fun _ => []) Tryz.f55 .B [Kd.av .P p0] w Q := by kernel_rfl
theorem tunnel_Tunnel_Up.k : fnOk Tryz.prog Tryz.f55 = true := by kernel_rfl
theorem tunnel_Tunnel_Up.cl {p0 : Option Addr} {Q : Bool → World → Prop} {w : World} (h : tunnel_Tunnel_Up p0 Q w) : cl Tryz.prog n_tunnel_Tunnel_Up #[.pointer p0] .B w Q :=
  cl_tie Tryz.func55 tunnel_Tunnel_Up.k (args := [Kd.av .P p0]) (tunnel_Tunnel_Up.t p0 Q w) h

end Go.Proofs.YtoglafmpllimgaaGreatDoor
set_option linter.unusedVariables false
set_option maxHeartbeats 4000000
namespace Go.Proofs.YtoglafmpllimgaaGreatDoor
open Go.Fl
/-- (*sync/atomic.Int64).Load -/
def sync_atomic_Int64_Load (p0 : Option Addr) (Q : Int → World → Prop) (w : World) : Prop :=
 nz p0 fun a1 => ex Tryz.prog n_sync_atomic_LoadInt64 #[.pointer (some a1)] (.I .i64) w fun (x2 : Int) w3 => Q x2 w3
theorem sync_atomic_Int64_Load.t (p0 : Option Addr) (Q : Int → World → Prop) (w : World) : sync_atomic_Int64_Load p0 Q w = fvc Tryz.prog (fun _ => []) Tryz.f67 (.I .i64) [Kd.av .P p0] w Q := by kernel_rfl
theorem sync_atomic_Int64_Load.k : fnOk Tryz.prog Tryz.f67 = true := by kernel_rfl
theorem sync_atomic_Int64_Load.cl {p0 : Option Addr} {Q : Int → World → Prop} {w : World} (h : sync_atomic_Int64_Load p0 Q w) : cl Tryz.prog n_sync_atomic_Int64_Load #[.pointer p0] (.I .i64) w Q :=
  cl_tie Tryz.func67 sync_atomic_Int64_Load.k (args := [Kd.av .P p0]) (sync_atomic_Int64_Load.t p0 Q w) h

/-- flume/rabin.Deg -/
def rabin_Deg (p0 : Int) (Q : Int → World → Prop) (w : World) : Prop :=
 cl Tryz.prog n_math_bits_Len64 #[.int .u64 p0] (.I .i64) w fun (x1 : Int) w2 => Q (IntKind.i64.wrap (x1 - 1)) w2
theorem rabin_Deg.t (p0 : Int) (Q : Int → World → Prop) (w : World) : rabin_Deg p0 Q w = fvc Tryz.prog (fun _ => []) Tryz.f70 (.I .i64) [Kd.av (.I .u64) p0] w Q := by kernel_rfl
theorem rabin_Deg.k : fnOk Tryz.prog Tryz.f70 = true := by kernel_rfl
theorem rabin_Deg.cl {p0 : Int} {Q : Int → World → Prop} {w : World} (h : rabin_Deg p0 Q w) : cl Tryz.prog n_rabin_Deg #[.int .u64 p0] (.I .i64) w Q :=
  cl_tie Tryz.func70 rabin_Deg.k (args := [Kd.av (.I .u64) p0]) (rabin_Deg.t p0 Q w) h

/-- flume/rabin.Prime -/
def an_rabin_Prime : Nat → LA
  | 6 => [(4, (.I .u64)), (17, (.I .i64))] | _ => []
def rabin_Prime (p0 : Int) (Q : Bool → World → Prop) (w : World) : Prop :=
 cl Tryz.prog n_rabin_Deg #[.int .u64 p0] (.I .i64) w fun (x1 : Int) w2 => bif (decide (x1 < 1)) then
 (Q false w2)
 else bif (decide (x1 > 31)) then
 (Q false w2)
 else cl Tryz.prog n_rabin_Mod #[.int .u64 2, .int .u64 p0] (.I .u64) w2 fun (x3 : Int) w4 => lp (α := (Int × (Int × Unit))) (fun K => K (x3, (0, ()))) w4 fun D7 J8 s5 w6 =>
 bif (decide (s5.2.1 < (IntKind.i64.wrap (Int.tdiv x1 2)))) then
  (cl Tryz.prog n_rabin_Mul #[.int .u64 s5.1, .int .u64 s5.1, .int .u64 p0] (.I .u64) w6 fun (x9 : Int) w10 => cl Tryz.prog n_rabin_Mod #[.int .u64 2, .int .u64 p0] (.I .u64) w10 fun (x11 : Int) w12 => cl Tryz.prog n_rabin_Gcd #[.int .u64 p0, .int .u64 (bits .xor .u64 x9 x11)] (.I .u64) w12 fun (x13 : Int) w14 => cl Tryz.prog n_rabin_Deg #[.int .u64 x13] (.I .i64) w14 fun (x15 : Int) w16 => bif (decide (x15 > 0)) then
  (Q false w16)
  else J8 (x9, ((IntKind.i64.wrap (s5.2.1 + 1)), ())) w16)
  else Q true w6
theorem rabin_Prime.t (p0 : Int) (Q : Bool → World → Prop) (w : World) : rabin_Prime p0 Q w = fvc Tryz.prog an_rabin_Prime Tryz.f71 .B [Kd.av (.I .u64) p0] w Q := by kernel_rfl
theorem rabin_Prime.k : fnOk Tryz.prog Tryz.f71 = true := by kernel_rfl
theorem rabin_Prime.cl {p0 : Int} {Q : Bool → World → Prop} {w : World} (h : rabin_Prime p0 Q w) : cl Tryz.prog n_rabin_Prime #[.int .u64 p0] .B w Q :=
  cl_tie Tryz.func71 rabin_Prime.k (args := [Kd.av (.I .u64) p0]) (rabin_Prime.t p0 Q w) h

/-- flume/flumeref01.Words -/
def an_flumeref01_Words : Nat → LA
  | 3 => [(3, .L), (4, (.I .i64))] | _ => []
def flumeref01_Words (p0 : Sl) (Q : Sl → World → Prop) (w : World) : Prop :=
 lp (α := (Sl × (Int × Unit))) (fun K => K (⟨none, 0, 0⟩, (0, ()))) w fun D3 J4 s1 w2 =>
 bif (decide (s1.2.1 < (p0.n : Int))) then
  (ixa p0.a p0.n s1.2.1 1 fun a5 => ld (.I .u8) w2 a5 fun (x6 : Int) => bif (decide ((IntKind.i64.wrap (s1.2.1 + 1)) < (p0.n : Int))) then
  (ixa p0.a p0.n (IntKind.i64.wrap (s1.2.1 + 1)) 1 fun a7 => ld (.I .u8) w2 a7 fun (x8 : Int) => nw w2 [.int .i64 (IntKind.i64.wrap ((IntKind.i64.wrap (256 * (IntKind.i64.wrap x6))) + (IntKind.i64.wrap x8)))] t_int fun a9 w10 => app Tryz.prog t_s_int t_s_int s1.1 ⟨(some a9), 1, 1⟩ w10 fun r11 w12 => J4 (r11, ((IntKind.i64.wrap (s1.2.1 + 2)), ())) w12)
  else nw w2 [.int .i64 (IntKind.i64.wrap (256 * (IntKind.i64.wrap x6)))] t_int fun a13 w14 => app Tryz.prog t_s_int t_s_int s1.1 ⟨(some a13), 1, 1⟩ w14 fun r15 w16 => J4 (r15, ((IntKind.i64.wrap (s1.2.1 + 2)), ())) w16)
  else Q s1.1 w2
theorem flumeref01_Words.t (p0 : Sl) (Q : Sl → World → Prop) (w : World) : flumeref01_Words p0 Q w = fvc Tryz.prog an_flumeref01_Words Tryz.f72 .L [Kd.av .L p0] w Q := by kernel_rfl
theorem flumeref01_Words.k : fnOk Tryz.prog Tryz.f72 = true := by kernel_rfl
theorem flumeref01_Words.cl {p0 : Sl} {Q : Sl → World → Prop} {w : World} (h : flumeref01_Words p0 Q w) : cl Tryz.prog n_flumeref01_Words #[.slice p0.a p0.n p0.c] .L w Q :=
  cl_tie Tryz.func72 flumeref01_Words.k (args := [Kd.av .L p0]) (flumeref01_Words.t p0 Q w) h

/-- flume/flumeref01.Add -/
def an_flumeref01_Add : Nat → LA
  | 3 => [(3, (.I .i64)), (8, (.I .i64))] | 7 => [(3, (.I .i64))] | _ => []
def flumeref01_Add (p0 : Sl) (Q : Int → World → Prop) (w : World) : Prop :=
 lp (α := (Int × (Int × Unit))) (fun K => K (0, (0, ()))) w fun D3 J4 s1 w2 =>
 bif (decide (s1.2.1 < (p0.n : Int))) then
  (ixa p0.a p0.n s1.2.1 1 fun a5 => ld (.I .i64) w2 a5 fun (x6 : Int) => J4 ((IntKind.i64.wrap (s1.1 + x6)), ((IntKind.i64.wrap (s1.2.1 + 1)), ())) w2)
  else lp (α := (Int × Unit)) (fun K => K (s1.1, ())) w2 fun D9 J10 s7 w8 =>
 bif (decide (s7.1 > 65535)) then
  (J10 ((IntKind.i64.wrap ((IntKind.i64.wrap (Int.tdiv s7.1 65536)) + (Int.tmod s7.1 65536))), ()) w8)
  else Q s7.1 w8
theorem flumeref01_Add.t (p0 : Sl) (Q : Int → World → Prop) (w : World) : flumeref01_Add p0 Q w = fvc Tryz.prog an_flumeref01_Add Tryz.f73 (.I .i64) [Kd.av .L p0] w Q := by kernel_rfl
theorem flumeref01_Add.k : fnOk Tryz.prog Tryz.f73 = true := by kernel_rfl
theorem flumeref01_Add.cl {p0 : Sl} {Q : Int → World → Prop} {w : World} (h : flumeref01_Add p0 Q w) : cl Tryz.prog n_flumeref01_Add #[.slice p0.a p0.n p0.c] (.I .i64) w Q :=
  cl_tie Tryz.func73 flumeref01_Add.k (args := [Kd.av .L p0]) (flumeref01_Add.t p0 Q w) h

/-- flume/sums.Valid -/
def sums_Valid (p0 : Sl) (Q : Bool → World → Prop) (w : World) : Prop :=
 cl Tryz.prog n_sums_Inet #[.slice p0.a p0.n p0.c] (.I .u16) w fun (x1 : Int) w2 => bif ((bits .xor .u16 65535 x1) == 0) then
 (Q true w2)
 else Q ((bits .xor .u16 65535 x1) == 65535) w2
theorem sums_Valid.t (p0 : Sl) (Q : Bool → World → Prop) (w : World) : sums_Valid p0 Q w = fvc Tryz.prog (fun _ => []) Tryz.f74 .B [Kd.av .L p0] w Q := by kernel_rfl
theorem sums_Valid.k : fnOk Tryz.prog Tryz.f74 = true := by kernel_rfl
theorem sums_Valid.cl {p0 : Sl} {Q : Bool → World → Prop} {w : World} (h : sums_Valid p0 Q w) : cl Tryz.prog n_sums_Valid #[.slice p0.a p0.n p0.c] .B w Q :=
  cl_tie Tryz.func74 sums_Valid.k (args := [Kd.av .L p0]) (sums_Valid.t p0 Q w) h

/-- flume/packet.get2 -/
def packet_get2 (p0 : Sl) (Q : Int → World → Prop) (w : World) : Prop :=
 ixa p0.a p0.n 0 1 fun a1 => ld (.I .u8) w a1 fun (x2 : Int) => ixa p0.a p0.n 1 1 fun a3 => ld (.I .u8) w a3 fun (x4 : Int) => dr w fun w5 => Q (bits .or .i64 (IntKind.i64.wrap ((IntKind.i64.wrap x2) * 2 ^ (min 8 64))) (IntKind.i64.wrap x4)) w5
theorem packet_get2.t (p0 : Sl) (Q : Int → World → Prop) (w : World) : packet_get2 p0 Q w = fvc Tryz.prog (fun _ => []) Tryz.f75 (.I .i64) [Kd.av .L p0] w Q := by kernel_rfl
theorem packet_get2.k : fnOk Tryz.prog Tryz.f75 = true := by kernel_rfl
theorem packet_get2.cl {p0 : Sl} {Q : Int → World → Prop} {w : World} (h : packet_get2 p0 Q w) : cl Tryz.prog n_packet_get2 #[.slice p0.a p0.n p0.c] (.I .i64) w Q :=
  cl_tie Tryz.func75 packet_get2.k (args := [Kd.av .L p0]) (packet_get2.t p0 Q w) h

/-- flume/packet.get4 -/
def packet_get4 (p0 : Sl) (Q : Int → World → Prop) (w : World) : Prop :=
 qcl Tryz.prog n_packet_get2 #[.slice p0.a p0.n p0.c] (.I .i64) w fun (x1 : Int) => sls p0 2 p0.n 1 fun r2 => qcl Tryz.prog n_packet_get2 #[.slice r2.a r2.n r2.c] (.I .i64) w fun (x3 : Int) => dr w fun w4 => Q (bits .or .u32 (IntKind.u32.wrap ((IntKind.u32.wrap x1) * 2 ^ (min 16 32))) (IntKind.u32.wrap x3)) w4
theorem packet_get4.t (p0 : Sl) (Q : Int → World → Prop) (w : World) : packet_get4 p0 Q w = fvc Tryz.prog (fun _ => []) Tryz.f76 (.I .u32) [Kd.av .L p0] w Q := by kernel_rfl
theorem packet_get4.k : fnOk Tryz.prog Tryz.f76 = true := by kernel_rfl
theorem packet_get4.cl {p0 : Sl} {Q : Int → World → Prop} {w : World} (h : packet_get4 p0 Q w) : cl Tryz.prog n_packet_get4 #[.slice p0.a p0.n p0.c] (.I .u32) w Q :=
  cl_tie Tryz.func76 packet_get4.k (args := [Kd.av .L p0]) (packet_get4.t p0 Q w) h

/-- flume/packet.read -/
def an_packet_read : Nat → LA
  | 1000001 => [(0, .nil)] | _ => []
def packet_read (p0 : Option Addr) (p1 : Sl) (Q : Unit → World → Prop) (w : World) : Prop :=
 let j2 := (fun (y32 : Sl) (w33 : World) =>
   bif (decide ((y32.n : Int) ≥ 4)) then
 (ixa y32.a y32.n 0 1 fun a34 => ld (.I .u8) w33 a34 fun (x35 : Int) => bif (x35 == 2) then
 (sls y32 2 y32.n 1 fun r36 => cl Tryz.prog n_packet_get2 #[.slice r36.a r36.n r36.c] (.I .i64) w33 fun (x37 : Int) w38 => nz p0 fun a39 => st1 w38 (a39.add 9) (.int .i64 x37) fun w40 => Q () w40)
 else Q () w33)
 else Q () w33);
 let j1 := (fun (y13 : Bool) (w14 : World) =>
   bif y13 then
 (dr w14 fun w15 => sls p1 2 p1.n 1 fun r16 => sls p1 6 p1.n 1 fun r17 => cl Tryz.prog n_packet_get4 #[.slice r16.a r16.n r16.c] (.I .u32) w15 fun (x18 : Int) w19 => cl Tryz.prog n_packet_get4 #[.slice r17.a r17.n r17.c] (.I .u32) w19 fun (x20 : Int) w21 => nz p0 fun a22 => st1 w21 (a22.add 8) (.int .i64 (bits .or .i64 (IntKind.i64.wrap ((IntKind.i64.wrap x18) * 2 ^ (min 32 64))) (IntKind.i64.wrap x20))) fun w23 => sls p1 10 p1.n 1 fun r24 => j2 r24 w23)
 else j2 p1 w14);
 bif (decide ((p1.n : Int) ≥ 10)) then
 (ixa p1.a p1.n 0 1 fun a1 => ld (.I .u8) w a1 fun (x2 : Int) => j1 (x2 == 1) w)
 else j1 false w
theorem packet_read.t (p0 : Option Addr) (p1 : Sl) (Q : Unit → World → Prop) (w : World) : packet_read p0 p1 Q w = fvc Tryz.prog an_packet_read Tryz.f77 (.tup .nil) [Kd.av .P p0, Kd.av .L p1] w Q := by kernel_rfl
theorem packet_read.k : fnOk Tryz.prog Tryz.f77 = true := by kernel_rfl
theorem packet_read.cl {p0 : Option Addr} {p1 : Sl} {Q : Unit → World → Prop} {w : World} (h : packet_read p0 p1 Q w) : cl Tryz.prog n_packet_read #[.pointer p0, .slice p1.a p1.n p1.c] (.tup .nil) w Q :=
  cl_tie Tryz.func77 packet_read.k (args := [Kd.av .P p0, Kd.av .L p1]) (packet_read.t p0 p1 Q w) h

/-- slices.Clone[[]byte,byte] -/
def slices_Clone_byte_byte (p0 : Sl) (Q : Sl → World → Prop) (w : World) : Prop :=
 bif p0.a.isNone then
 (Q ⟨none, 0, 0⟩ w)
 else nw w [] t_uint8 fun a1 w2 => app Tryz.prog t_s_uint8 t_s_uint8 ⟨(some a1), 0, 0⟩ p0 w2 fun r3 w4 => Q r3 w4
theorem slices_Clone_byte_byte.t (p0 : Sl) (Q : Sl → World → Prop) (w : World) : slices_Clone_byte_byte p0 Q w = fvc Tryz.prog (fun _ => []) Tryz.f78 .L [Kd.av .L p0] w Q := by kernel_rfl
theorem slices_Clone_byte_byte.k : fnOk Tryz.prog Tryz.f78 = true := by kernel_rfl
theorem slices_Clone_byte_byte.cl {p0 : Sl} {Q : Sl → World → Prop} {w : World} (h : slices_Clone_byte_byte p0 Q w) : cl Tryz.prog n_slices_Clone_byte_byte #[.slice p0.a p0.n p0.c] .L w Q :=
  cl_tie Tryz.func78 slices_Clone_byte_byte.k (args := [Kd.av .L p0]) (slices_Clone_byte_byte.t p0 Q w) h
end Go.Proofs.YtoglafmpllimgaaGreatDoor
set_option linter.unusedVariables false
set_option maxHeartbeats 4000000
namespace Go.Proofs.YtoglafmpllimgaaGreatDoor
open Go.Fl
/-- flume/packet.Put -/
def an_packet_Put : Nat → LA
  | 1000006 => [(0, .nil)] | 1000007 => [(0, .nil)] | _ => []
def packet_Put (p0 : y_api_Packet) (Q : (Sl × (Int × Unit)) → World → Prop) (w : World) : Prop :=
 nw w ((Kd.av k_api_Packet p0).cells) t_api_Packet fun a1 w2 => ld k_api_Packet w2 a1 fun (x3 : y_api_Packet) => cl Tryz.prog n_packet_Check #[(Kd.av k_api_Packet x3).val] (.I .i64) w2 fun (x4 : Int) w5 => bif (x4 != 0) then
 (Q (⟨none, 0, 0⟩, (x4, ())) w5)
 else ld k_api_Packet w5 a1 fun (x6 : y_api_Packet) => cl Tryz.prog n_packet_options #[(Kd.av k_api_Packet x6).val] .L w5 fun (x7 : Sl) w8 => ld (.I .i64) w8 a1 fun (x9 : Int) => ld (.I .i64) w8 (a1.add 1) fun (x10 : Int) => ld (.I .i64) w8 (a1.add 6) fun (x11 : Int) => nw w8 [.int .u8 70, .int .u8 (IntKind.u8.wrap x9), .int .u8 (IntKind.u8.wrap x10), .int .u8 (IntKind.u8.wrap x11)] t_uint8 fun a12 w13 => let j1 := (fun (y127 : Sl) (w128 : World) =>
   dr w128 fun w129 => sls y127 18 y127.n 1 fun r130 => nw w129 [.slice y127.a y127.n y127.c] t_s_uint8 fun a131 w132 => cl Tryz.prog n_sums_Inet #[.slice (some a131) 1 1] (.I .u16) w132 fun (x133 : Int) w134 => cl Tryz.prog n_packet_two #[.int .i64 (IntKind.i64.wrap x133)] .L w134 fun (x135 : Sl) w136 => rn Tryz.prog (Builtin.copy_ #[t_s_uint8, t_s_uint8] t_int #[.slice r130.a r130.n r130.c, .slice x135.a x135.n x135.c]) (.I .i64) w136 fun (x137 : Int) w138 => Q (y127, (0, ())) w138);
 dr w13 fun w14 => ld (.I .i64) w14 (a1.add 2) fun (x15 : Int) => ld (.I .i64) w14 (a1.add 3) fun (x16 : Int) => ld (.I .u32) w14 (a1.add 4) fun (x17 : Int) => ld (.I .u32) w14 (a1.add 5) fun (x18 : Int) => ld (.I .i64) w14 (a1.add 7) fun (x19 : Int) => ld .L w14 (a1.add 10) fun (x20 : Sl) => (cl Tryz.prog n_packet_two #[.int .i64 x15] .L w14 fun (x21 : Sl) w22 => Fr w14 w22 ∧ (cl Tryz.prog n_packet_two #[.int .i64 x16] .L w22 fun (x23 : Sl) w24 => Fr w22 w24 ∧ (cl Tryz.prog n_packet_four #[.int .u32 x17] .L w24 fun (x25 : Sl) w26 => Fr w24 w26 ∧ (cl Tryz.prog n_packet_four #[.int .u32 x18] .L w26 fun (x27 : Sl) w28 => Fr w26 w28 ∧ (cl Tryz.prog n_packet_two #[.int .i64 x19] .L w28 fun (x29 : Sl) w30 => Fr w28 w30 ∧ (cl Tryz.prog n_packet_two #[.int .i64 0] .L w30 fun (x31 : Sl) w32 => Fr w30 w32 ∧ nw w32 [.int .u8 (IntKind.u8.wrap (x7.n : Int)), .int .u8 0] t_uint8 fun a33 w34 => Fr w32 w34 ∧ nw w34 [.slice (some a12) 4 4, .slice x21.a x21.n x21.c, .slice x23.a x23.n x23.c, .slice x25.a x25.n x25.c, .slice x27.a x27.n x27.c, .slice x29.a x29.n x29.c, .slice x31.a x31.n x31.c, .slice (some a33) 2 2, .slice x7.a x7.n x7.c, .slice x20.a x20.n x20.c] t_s_uint8 fun a35 w36 => cl Tryz.prog n_slices_Concat_byte_byte #[.slice (some a35) 10 10] .L w36 fun (x37 : Sl) w38 => j1 x37 w38) ∧ (nw w30 [.int .u8 (IntKind.u8.wrap (x7.n : Int)), .int .u8 0] t_uint8 fun a39 w40 => Fr w30 w40 ∧ cl Tryz.prog n_packet_two #[.int .i64 0] .L w40 fun (x41 : Sl) w42 => Fr w40 w42 ∧ nw w42 [.slice (some a12) 4 4, .slice x21.a x21.n x21.c, .slice x23.a x23.n x23.c, .slice x25.a x25.n x25.c, .slice x27.a x27.n x27.c, .slice x29.a x29.n x29.c, .slice x41.a x41.n x41.c, .slice (some a39) 2 2, .slice x7.a x7.n x7.c, .slice x20.a x20.n x20.c] t_s_uint8 fun a43 w44 => cl Tryz.prog n_slices_Concat_byte_byte #[.slice (some a43) 10 10] .L w44 fun (x45 : Sl) w46 => j1 x45 w46)) ∧ (nw w28 [.int .u8 (IntKind.u8.wrap (x7.n : Int)), .int .u8 0] t_uint8 fun a47 w48 => Fr w28 w48 ∧ cl Tryz.prog n_packet_two #[.int .i64 x19] .L w48 fun (x49 : Sl) w50 => Fr w48 w50 ∧ cl Tryz.prog n_packet_two #[.int .i64 0] .L w50 fun (x51 : Sl) w52 => Fr w50 w52 ∧ nw w52 [.slice (some a12) 4 4, .slice x21.a x21.n x21.c, .slice x23.a x23.n x23.c, .slice x25.a x25.n x25.c, .slice x27.a x27.n x27.c, .slice x49.a x49.n x49.c, .slice x51.a x51.n x51.c, .slice (some a47) 2 2, .slice x7.a x7.n x7.c, .slice x20.a x20.n x20.c] t_s_uint8 fun a53 w54 => cl Tryz.prog n_slices_Concat_byte_byte #[.slice (some a53) 10 10] .L w54 fun (x55 : Sl) w56 => j1 x55 w56)) ∧ (nw w26 [.int .u8 (IntKind.u8.wrap (x7.n : Int)), .int .u8 0] t_uint8 fun a57 w58 => Fr w26 w58 ∧ cl Tryz.prog n_packet_four #[.int .u32 x18] .L w58 fun (x59 : Sl) w60 => Fr w58 w60 ∧ cl Tryz.prog n_packet_two #[.int .i64 x19] .L w60 fun (x61 : Sl) w62 => Fr w60 w62 ∧ cl Tryz.prog n_packet_two #[.int .i64 0] .L w62 fun (x63 : Sl) w64 => Fr w62 w64 ∧ nw w64 [.slice (some a12) 4 4, .slice x21.a x21.n x21.c, .slice x23.a x23.n x23.c, .slice x25.a x25.n x25.c, .slice x59.a x59.n x59.c, .slice x61.a x61.n x61.c, .slice x63.a x63.n x63.c, .slice (some a57) 2 2, .slice x7.a x7.n x7.c, .slice x20.a x20.n x20.c] t_s_uint8 fun a65 w66 => cl Tryz.prog n_slices_Concat_byte_byte #[.slice (some a65) 10 10] .L w66 fun (x67 : Sl) w68 => j1 x67 w68)) ∧ (nw w24 [.int .u8 (IntKind.u8.wrap (x7.n : Int)), .int .u8 0] t_uint8 fun a69 w70 => Fr w24 w70 ∧ cl Tryz.prog n_packet_four #[.int .u32 x17] .L w70 fun (x71 : Sl) w72 => Fr w70 w72 ∧ cl Tryz.prog n_packet_four #[.int .u32 x18] .L w72 fun (x73 : Sl) w74 => Fr w72 w74 ∧ cl Tryz.prog n_packet_two #[.int .i64 x19] .L w74 fun (x75 : Sl) w76 => Fr w74 w76 ∧ cl Tryz.prog n_packet_two #[.int .i64 0] .L w76 fun (x77 : Sl) w78 => Fr w76 w78 ∧ nw w78 [.slice (some a12) 4 4, .slice x21.a x21.n x21.c, .slice x23.a x23.n x23.c, .slice x71.a x71.n x71.c, .slice x73.a x73.n x73.c, .slice x75.a x75.n x75.c, .slice x77.a x77.n x77.c, .slice (some a69) 2 2, .slice x7.a x7.n x7.c, .slice x20.a x20.n x20.c] t_s_uint8 fun a79 w80 => cl Tryz.prog n_slices_Concat_byte_byte #[.slice (some a79) 10 10] .L w80 fun (x81 : Sl) w82 => j1 x81 w82)) ∧ (nw w22 [.int .u8 (IntKind.u8.wrap (x7.n : Int)), .int .u8 0] t_uint8 fun a83 w84 => Fr w22 w84 ∧ cl Tryz.prog n_packet_two #[.int .i64 x16] .L w84 fun (x85 : Sl) w86 => Fr w84 w86 ∧ cl Tryz.prog n_packet_four #[.int .u32 x17] .L w86 fun (x87 : Sl) w88 => Fr w86 w88 ∧ cl Tryz.prog n_packet_four #[.int .u32 x18] .L w88 fun (x89 : Sl) w90 => Fr w88 w90 ∧ cl Tryz.prog n_packet_two #[.int .i64 x19] .L w90 fun (x91 : Sl) w92 => Fr w90 w92 ∧ cl Tryz.prog n_packet_two #[.int .i64 0] .L w92 fun (x93 : Sl) w94 => Fr w92 w94 ∧ nw w94 [.slice (some a12) 4 4, .slice x21.a x21.n x21.c, .slice x85.a x85.n x85.c, .slice x87.a x87.n x87.c, .slice x89.a x89.n x89.c, .slice x91.a x91.n x91.c, .slice x93.a x93.n x93.c, .slice (some a83) 2 2, .slice x7.a x7.n x7.c, .slice x20.a x20.n x20.c] t_s_uint8 fun a95 w96 => cl Tryz.prog n_slices_Concat_byte_byte #[.slice (some a95) 10 10] .L w96 fun (x97 : Sl) w98 => j1 x97 w98)) ∧ (nw w14 [.int .u8 (IntKind.u8.wrap (x7.n : Int)), .int .u8 0] t_uint8 fun a99 w100 => Fr w14 w100 ∧ cl Tryz.prog n_packet_two #[.int .i64 x15] .L w100 fun (x101 : Sl) w102 => Fr w100 w102 ∧ cl Tryz.prog n_packet_two #[.int .i64 x16] .L w102 fun (x103 : Sl) w104 => Fr w102 w104 ∧ cl Tryz.prog n_packet_four #[.int .u32 x17] .L w104 fun (x105 : Sl) w106 => Fr w104 w106 ∧ cl Tryz.prog n_packet_four #[.int .u32 x18] .L w106 fun (x107 : Sl) w108 => Fr w106 w108 ∧ cl Tryz.prog n_packet_two #[.int .i64 x19] .L w108 fun (x109 : Sl) w110 => Fr w108 w110 ∧ cl Tryz.prog n_packet_two #[.int .i64 0] .L w110 fun (x111 : Sl) w112 => Fr w110 w112 ∧ nw w112 [.slice (some a12) 4 4, .slice x101.a x101.n x101.c, .slice x103.a x103.n x103.c, .slice x105.a x105.n x105.c, .slice x107.a x107.n x107.c, .slice x109.a x109.n x109.c, .slice x111.a x111.n x111.c, .slice (some a99) 2 2, .slice x7.a x7.n x7.c, .slice x20.a x20.n x20.c] t_s_uint8 fun a113 w114 => cl Tryz.prog n_slices_Concat_byte_byte #[.slice (some a113) 10 10] .L w114 fun (x115 : Sl) w116 => j1 x115 w116)
theorem packet_Put.t (p0 : y_api_Packet) (Q : (Sl × (Int × Unit)) → World → Prop) (w : World) : packet_Put p0 Q w = fvc Tryz.prog an_packet_Put Tryz.f79 (.tup (.pair .L (.pair (.I .i64) .nil))) [Kd.av k_api_Packet p0] w Q := by kernel_rfl
theorem packet_Put.k : fnOk Tryz.prog Tryz.f79 = true := by kernel_rfl
theorem packet_Put.cl {p0 : y_api_Packet} {Q : (Sl × (Int × Unit)) → World → Prop} {w : World} (h : packet_Put p0 Q w) : cl Tryz.prog n_packet_Put #[(Kd.av k_api_Packet p0).val] (.tup (.pair .L (.pair (.I .i64) .nil))) w Q :=
  cl_tie Tryz.func79 packet_Put.k (args := [Kd.av k_api_Packet p0]) (packet_Put.t p0 Q w) h

/-- (*flume/box.Box).find -/
def box_Box_find (p0 : Option Addr) (p1 : Value) (Q : Option Addr → World → Prop) (w : World) : Prop :=
 nz p0 fun a1 => ld .L w (a1.add 11) fun (x2 : Sl) => cl Tryz.prog n_slices_IndexFunc_box_flow_box_flow #[.slice x2.a x2.n x2.c, p1] (.I .i64) w fun (x3 : Int) w4 => bif (decide (x3 < 0)) then
 (Q none w4)
 else nz p0 fun a5 => ld .L w4 (a5.add 11) fun (x6 : Sl) => ixa x6.a x6.n x3 1 fun a7 => ld .P w4 a7 fun (x8 : Option Addr) => Q x8 w4
theorem box_Box_find.t (p0 : Option Addr) (p1 : Value) (Q : Option Addr → World → Prop) (w : World) : box_Box_find p0 p1 Q w = fvc Tryz.prog (fun _ => []) Tryz.f80 .P [Kd.av .P p0, Kd.av .U p1] w Q := by kernel_rfl
theorem box_Box_find.k : fnOk Tryz.prog Tryz.f80 = true := by kernel_rfl
theorem box_Box_find.cl {p0 : Option Addr} {p1 : Value} {Q : Option Addr → World → Prop} {w : World} (h : box_Box_find p0 p1 Q w) : cl Tryz.prog n_box_Box_find #[.pointer p0, p1] .P w Q :=
  cl_tie Tryz.func80 box_Box_find.k (args := [Kd.av .P p0, Kd.av .U p1]) (box_Box_find.t p0 p1 Q w) h

end Go.Proofs.YtoglafmpllimgaaGreatDoor
set_option linter.unusedVariables false
set_option maxHeartbeats 4000000
namespace Go.Proofs.YtoglafmpllimgaaGreatDoor
open Go.Fl
/-- flume/packet.Probed -/
def packet_Probed (p0 : Sl) (p1 : Int) (Q : (Sl × (Int × Unit)) → World → Prop) (w : World) : Prop :=
 cl Tryz.prog n_packet_Get #[.slice p0.a p0.n p0.c] (.tup (.pair k_api_Packet (.pair (.I .i64) .nil))) w fun (x1 : (y_api_Packet × (Int × Unit))) w2 => nw w2 ((Kd.av k_api_Packet z_api_Packet).cells) t_api_Packet fun a3 w4 => st w4 a3 (Kd.av k_api_Packet x1.1) fun w5 => bif (x1.2.1 != 0) then
 (Q (⟨none, 0, 0⟩, (x1.2.1, ())) w5)
 else st1 w5 (a3.add 8) (.int .i64 p1) fun w6 => ld k_api_Packet w6 a3 fun (x7 : y_api_Packet) => cl Tryz.prog n_packet_Put #[(Kd.av k_api_Packet x7).val] (.tup (.pair .L (.pair (.I .i64) .nil))) w6 fun (x8 : (Sl × (Int × Unit))) w9 => Q (x8.1, (x8.2.1, ())) w9
theorem packet_Probed.t (p0 : Sl) (p1 : Int) (Q : (Sl × (Int × Unit)) → World → Prop) (w : World) : packet_Probed p0 p1 Q w = fvc Tryz.prog (fun _ => []) Tryz.f88 (.tup (.pair .L (.pair (.I .i64) .nil))) [Kd.av .L p0, Kd.av (.I .i64) p1] w Q := by kernel_rfl
theorem packet_Probed.k : fnOk Tryz.prog Tryz.f88 = true := by kernel_rfl
theorem packet_Probed.cl {p0 : Sl} {p1 : Int} {Q : (Sl × (Int × Unit)) → World → Prop} {w : World} (h : packet_Probed p0 p1 Q w) : cl Tryz.prog n_packet_Probed #[.slice p0.a p0.n p0.c, .int .i64 p1] (.tup (.pair .L (.pair (.I .i64) .nil))) w Q :=
  cl_tie Tryz.func88 packet_Probed.k (args := [Kd.av .L p0, Kd.av (.I .i64) p1]) (packet_Probed.t p0 p1 Q w) h

/-- (*sync/atomic.Int64).Add -/
def sync_atomic_Int64_Add (p0 : Option Addr) (p1 : Int) (Q : Int → World → Prop) (w : World) : Prop :=
 nz p0 fun a1 => ex Tryz.prog n_sync_atomic_AddInt64 #[.pointer (some a1), .int .i64 p1] (.I .i64) w fun (x2 : Int) w3 => Q x2 w3
theorem sync_atomic_Int64_Add.t (p0 : Option Addr) (p1 : Int) (Q : Int → World → Prop) (w : World) : sync_atomic_Int64_Add p0 p1 Q w = fvc Tryz.prog (fun _ => []) Tryz.f92 (.I .i64) [Kd.av .P p0, Kd.av (.I .i64) p1] w Q := by kernel_rfl
theorem sync_atomic_Int64_Add.k : fnOk Tryz.prog Tryz.f92 = true := by kernel_rfl
theorem sync_atomic_Int64_Add.cl {p0 : Option Addr} {p1 : Int} {Q : Int → World → Prop} {w : World} (h : sync_atomic_Int64_Add p0 p1 Q w) : cl Tryz.prog n_sync_atomic_Int64_Add #[.pointer p0, .int .i64 p1] (.I .i64) w Q :=
  cl_tie Tryz.func92 sync_atomic_Int64_Add.k (args := [Kd.av .P p0, Kd.av (.I .i64) p1]) (sync_atomic_Int64_Add.t p0 p1 Q w) h

/-- (*flume/box.Box).drain -/
def an_box_Box_drain : Nat → LA
  | 0 => [] | _ => []
def box_Box_drain (p0 : Option Addr) (Q : Unit → World → Prop) (w : World) : Prop :=
 lp (α := Unit) (fun K => K ()) w fun D3 J4 s1 w2 =>
 nz p0 fun a5 => ld .L w2 (a5.add 13) fun (x6 : Sl) => bif (decide ((x6.n : Int) > 0)) then
  (nz p0 fun a7 => ld .L w2 (a7.add 13) fun (x8 : Sl) => ixa x8.a x8.n 0 40 fun a9 => ld k_api_Note w2 a9 fun (x10 : y_api_Note) => cl Tryz.prog n_record_Put #[(Kd.av k_api_Note x10).val] (.tup (.pair .L (.pair (.I .i64) .nil))) w2 fun (x11 : (Sl × (Int × Unit))) w12 => nz p0 fun a13 => ld .P w12 (a13.add 9) fun (x14 : Option Addr) => cl Tryz.prog n_tunnel_Tunnel_Send #[.pointer x14, .slice x11.1.a x11.1.n x11.1.c] (.I .i64) w12 fun (x15 : Int) w16 => bif (x15 == 0) then
  (nz p0 fun a17 => ld .L w16 (a17.add 13) fun (x18 : Sl) => sls x18 1 x18.n 40 fun r19 => cl Tryz.prog n_slices_Clone_api_Note_api_Note #[.slice r19.a r19.n r19.c] .L w16 fun (x20 : Sl) w21 => nz p0 fun a22 => st1 w21 (a22.add 13) (.slice x20.a x20.n x20.c) fun w23 => J4 () w23)
  else cl Tryz.prog n_errors_Is #[(.iface 29 (.int .i64 x15)), (.iface 29 (.int .i64 121))] .B w16 fun (x24 : Bool) w25 => bif x24 then
  (nz p0 fun a26 => st1 w25 (a26.add 13) (.slice none 0 0) fun w27 => J4 () w27)
  else Q () w25)
  else Q () w2
theorem box_Box_drain.t (p0 : Option Addr) (Q : Unit → World → Prop) (w : World) : box_Box_drain p0 Q w = fvc Tryz.prog an_box_Box_drain Tryz.f93 (.tup .nil) [Kd.av .P p0] w Q := by kernel_rfl
theorem box_Box_drain.k : fnOk Tryz.prog Tryz.f93 = true := by kernel_rfl
theorem box_Box_drain.cl {p0 : Option Addr} {Q : Unit → World → Prop} {w : World} (h : box_Box_drain p0 Q w) : cl Tryz.prog n_box_Box_drain #[.pointer p0] (.tup .nil) w Q :=
  cl_tie Tryz.func93 box_Box_drain.k (args := [Kd.av .P p0]) (box_Box_drain.t p0 Q w) h

/-- (*flume/tunnel.Tunnel).made -/
def tunnel_Tunnel_made (p0 : Option Addr) (Q : Bool → World → Prop) (w : World) : Prop :=
 bif (!p0.isNone) then
 (nz p0 fun a1 => ld (.I .i64) w (a1.add 7) fun (x2 : Int) => Q (decide (x2 > 0)) w)
 else Q false w
theorem tunnel_Tunnel_made.t (p0 : Option Addr) (Q : Bool → World → Prop) (w : World) : tunnel_Tunnel_made p0 Q w = fvc Tryz.prog (fun _ => []) Tryz.f98 .B [Kd.av .P p0] w Q := by kernel_rfl
theorem tunnel_Tunnel_made.k : fnOk Tryz.prog Tryz.f98 = true := by kernel_rfl
theorem tunnel_Tunnel_made.cl {p0 : Option Addr} {Q : Bool → World → Prop} {w : World} (h : tunnel_Tunnel_made p0 Q w) : cl Tryz.prog n_tunnel_Tunnel_made #[.pointer p0] .B w Q :=
  cl_tie Tryz.func98 tunnel_Tunnel_made.k (args := [Kd.av .P p0]) (tunnel_Tunnel_made.t p0 Q w) h
end Go.Proofs.YtoglafmpllimgaaGreatDoor
set_option linter.unusedVariables false
set_option maxHeartbeats 4000000
namespace Go.Proofs.YtoglafmpllimgaaGreatDoor
open Go.Fl
/-- (*flume/tunnel.Tunnel).Hint -/
def tunnel_Tunnel_Hint (p0 : Option Addr) (p1 : Int) (Q : Unit → World → Prop) (w : World) : Prop :=
 let j1 := (fun (y5 : Bool) (w6 : World) =>
   bif y5 then
 (cl Tryz.prog n_tunnel_Tunnel_say #[.pointer p0, (Kd.av k_api_Frame (1, (0, (p1, (0, (0, (0, (⟨none, 0, 0⟩, ())))))))).val] (.tup .nil) w6 fun (x7 : Unit) w8 => Q () w8)
 else Q () w6);
 cl Tryz.prog n_tunnel_Tunnel_made #[.pointer p0] .B w fun (x1 : Bool) w2 => bif x1 then
 (bif (decide (p1 ≥ 1)) then
 (j1 (decide (p1 ≤ 1099511627776)) w2)
 else j1 false w2)
 else j1 false w2
theorem tunnel_Tunnel_Hint.t (p0 : Option Addr) (p1 : Int) (Q : Unit → World → Prop) (w : World) : tunnel_Tunnel_Hint p0 p1 Q w = fvc Tryz.prog (fun _ => []) Tryz.f100 (.tup .nil) [Kd.av .P p0, Kd.av (.I .i64) p1] w Q := by kernel_rfl
theorem tunnel_Tunnel_Hint.k : fnOk Tryz.prog Tryz.f100 = true := by kernel_rfl
theorem tunnel_Tunnel_Hint.cl {p0 : Option Addr} {p1 : Int} {Q : Unit → World → Prop} {w : World} (h : tunnel_Tunnel_Hint p0 p1 Q w) : cl Tryz.prog n_tunnel_Tunnel_Hint #[.pointer p0, .int .i64 p1] (.tup .nil) w Q :=
  cl_tie Tryz.func100 tunnel_Tunnel_Hint.k (args := [Kd.av .P p0, Kd.av (.I .i64) p1]) (tunnel_Tunnel_Hint.t p0 p1 Q w) h

/-- flume/tunnel.Get -/
def an_tunnel_Get : Nat → LA
  | 9 => [(44, (.I .i64))] | _ => []
def tunnel_Get (p0 : Sl) (Q : (y_api_Frame × (Int × Unit)) → World → Prop) (w : World) : Prop :=
 nw w ((Kd.av k_api_Frame z_api_Frame).cells) t_api_Frame fun a1 w2 => cl Tryz.prog n_sums_Open #[.slice p0.a p0.n p0.c] (.tup (.pair .L (.pair (.I .i64) .nil))) w2 fun (x3 : (Sl × (Int × Unit))) w4 => bif (x3.2.1 != 0) then
 (st w4 a1 (Kd.av k_api_Frame (0, (0, (0, (0, (0, (0, (⟨none, 0, 0⟩, ())))))))) fun w5 => ld k_api_Frame w5 a1 fun (r6 : y_api_Frame) => Q (r6, (x3.2.1, ())) w5)
 else bif ((x3.1.n : Int) == 0) then
 (st w4 a1 (Kd.av k_api_Frame (0, (0, (0, (0, (0, (0, (⟨none, 0, 0⟩, ())))))))) fun w9 => ld k_api_Frame w9 a1 fun (r10 : y_api_Frame) => Q (r10, (120, ())) w9)
 else ixa x3.1.a x3.1.n 0 1 fun a7 => ld (.I .u8) w4 a7 fun (x8 : Int) => bif (x8 != 85) then
 (st w4 a1 (Kd.av k_api_Frame (0, (0, (0, (0, (0, (0, (⟨none, 0, 0⟩, ())))))))) fun w11 => ld k_api_Frame w11 a1 fun (r12 : y_api_Frame) => Q (r12, (120, ())) w11)
 else nw w4 ((Kd.av k_api_Frame z_api_Frame).cells) t_api_Frame fun a13 w14 => sls x3.1 1 x3.1.n 1 fun r15 => cl Tryz.prog n_octet_Read #[.slice r15.a r15.n r15.c] .P w14 fun (x16 : Option Addr) w17 => nw w17 [.pointer (some a13), .pointer (some (a13.add 1)), .pointer (some (a13.add 2)), .pointer (some (a13.add 3)), .pointer (some (a13.add 4)), .pointer (some (a13.add 5))] t_p_int fun a18 w19 => lp (α := (Int × Unit)) (fun K => K (0, ())) w19 fun D22 J23 s20 w21 =>
 bif (decide (s20.1 < 6)) then
  (ixa (some a18) 6 s20.1 1 fun a24 => ld .P w21 a24 fun (x25 : Option Addr) => cl Tryz.prog n_octet_Reader_Number #[.pointer x16] (.tup (.pair (.I .i64) (.pair (.I .i64) .nil))) w21 fun (x26 : (Int × (Int × Unit))) w27 => bif (x26.2.1 != 0) then
  (st w27 a1 (Kd.av k_api_Frame (0, (0, (0, (0, (0, (0, (⟨none, 0, 0⟩, ())))))))) fun w28 => ld k_api_Frame w28 a1 fun (r29 : y_api_Frame) => Q (r29, (120, ())) w28)
  else nz x25 fun a30 => st1 w27 a30 (.int .i64 x26.1) fun w31 => J23 ((IntKind.i64.wrap (s20.1 + 1)), ()) w31)
  else cl Tryz.prog n_octet_Reader_Text #[.pointer x16, .int .i64 512] (.tup (.pair .L (.pair (.I .i64) .nil))) w21 fun (x32 : (Sl × (Int × Unit))) w33 => st1 w33 (a13.add 6) (.slice x32.1.a x32.1.n x32.1.c) fun w34 => let j1 := (fun (y42 : Bool) (w43 : World) =>
   bif y42 then
 (st w43 a1 (Kd.av k_api_Frame (0, (0, (0, (0, (0, (0, (⟨none, 0, 0⟩, ())))))))) fun w44 => ld k_api_Frame w44 a1 fun (r45 : y_api_Frame) => Q (r45, (120, ())) w44)
 else ld k_api_Frame w43 a13 fun (x46 : y_api_Frame) => st w43 a1 (Kd.av k_api_Frame x46) fun w47 => ld k_api_Frame w47 a1 fun (r48 : y_api_Frame) => Q (r48, (0, ())) w47);
 bif (x32.2.1 != 0) then
 (j1 true w34)
 else cl Tryz.prog n_octet_Reader_End #[.pointer x16] (.I .i64) w34 fun (x35 : Int) w36 => bif (x35 != 0) then
 (j1 true w36)
 else ld k_api_Frame w36 a13 fun (x37 : y_api_Frame) => cl Tryz.prog n_tunnel_Check #[(Kd.av k_api_Frame x37).val] (.I .i64) w36 fun (x38 : Int) w39 => j1 (x38 != 0) w39
theorem tunnel_Get.t (p0 : Sl) (Q : (y_api_Frame × (Int × Unit)) → World → Prop) (w : World) : tunnel_Get p0 Q w = fvc Tryz.prog an_tunnel_Get Tryz.f101 (.tup (.pair k_api_Frame (.pair (.I .i64) .nil))) [Kd.av .L p0] w Q := by kernel_rfl
theorem tunnel_Get.k : fnOk Tryz.prog Tryz.f101 = true := by kernel_rfl
theorem tunnel_Get.cl {p0 : Sl} {Q : (y_api_Frame × (Int × Unit)) → World → Prop} {w : World} (h : tunnel_Get p0 Q w) : cl Tryz.prog n_tunnel_Get #[.slice p0.a p0.n p0.c] (.tup (.pair k_api_Frame (.pair (.I .i64) .nil))) w Q :=
  cl_tie Tryz.func101 tunnel_Get.k (args := [Kd.av .L p0]) (tunnel_Get.t p0 Q w) h

/-- (*flume/tunnel.Tunnel).hello -/
def tunnel_Tunnel_hello (p0 : Option Addr) (p1 : y_api_Frame) (Q : Unit → World → Prop) (w : World) : Prop :=
 nw w ((Kd.av k_api_Frame p1).cells) t_api_Frame fun a1 w2 => ld (.I .i64) w2 (a1.add 2) fun (x3 : Int) => nz p0 fun a4 => ld (.I .i64) w2 (a4.add 7) fun (x5 : Int) => dr w2 fun w6 => bif (x3 != x5) then
 (ld (.I .i64) w6 (a1.add 1) fun (x7 : Int) => nz p0 fun a8 => ld (.I .i64) w6 (a8.add 8) fun (x9 : Int) => dr w6 fun w10 => bif (decide (x7 ≥ x9)) then
  (ld (.I .i64) w10 (a1.add 1) fun (x11 : Int) => cl Tryz.prog n_tunnel_Tunnel_say #[.pointer p0, (Kd.av k_api_Frame (1, (0, (x11, (0, (0, (0, (⟨none, 0, 0⟩, ())))))))).val] (.tup .nil) w10 fun (x12 : Unit) w13 => Q () w13)
  else Q () w10)
 else let j1 := (fun (y28 : Bool) (w29 : World) =>
   bif y28 then
 (ld (.I .i64) w29 (a1.add 1) fun (x30 : Int) => cl Tryz.prog n_tunnel_Tunnel_begin #[.pointer p0, .int .i64 x30] (.tup .nil) w29 fun (x31 : Unit) w32 => Q () w32)
 else ld (.I .i64) w29 (a1.add 1) fun (x33 : Int) => nz p0 fun a34 => ld (.I .i64) w29 (a34.add 8) fun (x35 : Int) => dr w29 fun w36 => bif (x33 == x35) then
 (nz p0 fun a37 => st1 w36 (a37.add 1) (.int .i64 0) fun w38 => Q () w38)
 else Q () w36);
 ld (.I .i64) w6 (a1.add 1) fun (x14 : Int) => nz p0 fun a15 => ld (.I .i64) w6 (a15.add 8) fun (x16 : Int) => bif (decide (x14 > x16)) then (dr w6 fun w17 => j1 true w17) else ld (.I .i64) w6 (a1.add 1) fun (x18 : Int) => nz p0 fun a19 => ld (.I .i64) w6 (a19.add 8) fun (x20 : Int) => bif (x18 == x20) then (nz p0 fun a21 => ld .B w6 a21 fun (x22 : Bool) => dr w6 fun w23 => j1 (!x22) w23) else dr w6 fun w24 => j1 false w24
theorem tunnel_Tunnel_hello.t (p0 : Option Addr) (p1 : y_api_Frame) (Q : Unit → World → Prop) (w : World) : tunnel_Tunnel_hello p0 p1 Q w = fvc Tryz.prog (fun _ => []) Tryz.f102 (.tup .nil) [Kd.av .P p0, Kd.av k_api_Frame p1] w Q := by kernel_rfl
theorem tunnel_Tunnel_hello.k : fnOk Tryz.prog Tryz.f102 = true := by kernel_rfl
theorem tunnel_Tunnel_hello.cl {p0 : Option Addr} {p1 : y_api_Frame} {Q : Unit → World → Prop} {w : World} (h : tunnel_Tunnel_hello p0 p1 Q w) : cl Tryz.prog n_tunnel_Tunnel_hello #[.pointer p0, (Kd.av k_api_Frame p1).val] (.tup .nil) w Q :=
  cl_tie Tryz.func102 tunnel_Tunnel_hello.k (args := [Kd.av .P p0, Kd.av k_api_Frame p1]) (tunnel_Tunnel_hello.t p0 p1 Q w) h

/-- (*flume/tunnel.Tunnel).say -/
def tunnel_Tunnel_say (p0 : Option Addr) (p1 : y_api_Frame) (Q : Unit → World → Prop) (w : World) : Prop :=
 nw w ((Kd.av k_api_Frame p1).cells) t_api_Frame fun a1 w2 => nz p0 fun a3 => ld (.I .i64) w2 (a3.add 7) fun (x4 : Int) => st1 w2 (a1.add 1) (.int .i64 x4) fun w5 => ld k_api_Frame w5 a1 fun (x6 : y_api_Frame) => cl Tryz.prog n_tunnel_Put #[(Kd.av k_api_Frame x6).val] (.tup (.pair .L (.pair (.I .i64) .nil))) w5 fun (x7 : (Sl × (Int × Unit))) w8 => nz p0 fun a9 => ld .L w8 (a9.add 11) fun (x10 : Sl) => nw w8 [.slice x7.1.a x7.1.n x7.1.c] t_s_uint8 fun a11 w12 => app Tryz.prog t_s_s_uint8 t_s_s_uint8 x10 ⟨(some a11), 1, 1⟩ w12 fun r13 w14 => nz p0 fun a15 => st1 w14 (a15.add 11) (.slice r13.a r13.n r13.c) fun w16 => Q () w16
theorem tunnel_Tunnel_say.t (p0 : Option Addr) (p1 : y_api_Frame) (Q : Unit → World → Prop) (w : World) : tunnel_Tunnel_say p0 p1 Q w = fvc Tryz.prog (fun _ => []) Tryz.f103 (.tup .nil) [Kd.av .P p0, Kd.av k_api_Frame p1] w Q := by kernel_rfl
theorem tunnel_Tunnel_say.k : fnOk Tryz.prog Tryz.f103 = true := by kernel_rfl
theorem tunnel_Tunnel_say.cl {p0 : Option Addr} {p1 : y_api_Frame} {Q : Unit → World → Prop} {w : World} (h : tunnel_Tunnel_say p0 p1 Q w) : cl Tryz.prog n_tunnel_Tunnel_say #[.pointer p0, (Kd.av k_api_Frame p1).val] (.tup .nil) w Q :=
  cl_tie Tryz.func103 tunnel_Tunnel_say.k (args := [Kd.av .P p0, Kd.av k_api_Frame p1]) (tunnel_Tunnel_say.t p0 p1 Q w) h

/-- (*flume/tunnel.Tunnel).ack -/
def tunnel_Tunnel_ack (p0 : Option Addr) (p1 : y_api_Frame) (Q : Unit → World → Prop) (w : World) : Prop :=
 nw w ((Kd.av k_api_Frame p1).cells) t_api_Frame fun a1 w2 => nz p0 fun a3 => ld .L w2 (a3.add 3) fun (x4 : Sl) => cl Tryz.prog n_slices_Clone_tunnel_sent_tunnel_sent #[.slice x4.a x4.n x4.c] .L w2 fun (x5 : Sl) w6 => cl Tryz.prog n_slices_DeleteFunc_tunnel_sent_tunnel_sent #[.slice x5.a x5.n x5.c, (.func (.func n_tunnel_Tunnel_ack_1) #[] #[.pointer (some a1)])] .L w6 fun (x7 : Sl) w8 => nz p0 fun a9 => st1 w8 (a9.add 3) (.slice x7.a x7.n x7.c) fun w10 => cl Tryz.prog n_tunnel_Tunnel_slide #[.pointer p0] (.tup .nil) w10 fun (x11 : Unit) w12 => Q () w12
theorem tunnel_Tunnel_ack.t (p0 : Option Addr) (p1 : y_api_Frame) (Q : Unit → World → Prop) (w : World) : tunnel_Tunnel_ack p0 p1 Q w = fvc Tryz.prog (fun _ => []) Tryz.f104 (.tup .nil) [Kd.av .P p0, Kd.av k_api_Frame p1] w Q := by kernel_rfl
theorem tunnel_Tunnel_ack.k : fnOk Tryz.prog Tryz.f104 = true := by kernel_rfl
theorem tunnel_Tunnel_ack.cl {p0 : Option Addr} {p1 : y_api_Frame} {Q : Unit → World → Prop} {w : World} (h : tunnel_Tunnel_ack p0 p1 Q w) : cl Tryz.prog n_tunnel_Tunnel_ack #[.pointer p0, (Kd.av k_api_Frame p1).val] (.tup .nil) w Q :=
  cl_tie Tryz.func104 tunnel_Tunnel_ack.k (args := [Kd.av .P p0, Kd.av k_api_Frame p1]) (tunnel_Tunnel_ack.t p0 p1 Q w) h

/-- (*flume/tunnel.Tunnel).data -/
def an_tunnel_Tunnel_data : Nat → LA
  | 4 => [(5, .L)] | 11 => [(8, (.I .i64)), (81, (.I .i64))] | 1000003 => [(0, .nil)] | 1000006 => [(0, .nil)] | 1000017 => [(0, .nil)] | _ => []
def tunnel_Tunnel_data (p0 : Option Addr) (p1 : y_api_Frame) (Q : Sl → World → Prop) (w : World) : Prop :=
 nw w ((Kd.av k_api_Frame p1).cells) t_api_Frame fun a1 w2 => let j2 := (fun  (w67 : World) =>
   lp (α := (Sl × Unit)) (fun K => K (⟨none, 0, 0⟩, ())) w67 fun D70 J71 s68 w69 =>
 nz p0 fun a72 => ld .M w69 (a72.add 6) fun (x73 : Option Nat) => nz p0 fun a74 => ld (.I .i64) w69 (a74.add 5) fun (x75 : Int) => qn Tryz.prog (Instr.lookup t_map_int_s_uint8 (.map x73) (.int .i64 (IntKind.i64.wrap (x75 + 1))) true) (.tup (.pair .L (.pair .B .nil))) w69 fun (x76 : (Sl × (Bool × Unit))) => dr w69 fun w77 => bif (!x76.2.1) then
  (lp (α := (Int × (Int × Unit))) (fun K => K (0, (0, ()))) w77 fun D95 J96 s93 w94 =>
 bif (decide (s93.2.1 < 16)) then
  (nz p0 fun a97 => ld .M w94 (a97.add 6) fun (x98 : Option Nat) => nz p0 fun a99 => ld (.I .i64) w94 (a99.add 5) fun (x100 : Int) => qn Tryz.prog (Instr.lookup t_map_int_s_uint8 (.map x98) (.int .i64 (IntKind.i64.wrap ((IntKind.i64.wrap (x100 + 1)) + s93.2.1))) true) (.tup (.pair .L (.pair .B .nil))) w94 fun (x101 : (Sl × (Bool × Unit))) => dr w94 fun w102 => bif x101.2.1 then
  (bif decide (0 ≤ s93.2.1) then (J96 ((bits .or .i64 s93.1 (IntKind.i64.wrap (1 * 2 ^ (min (Int.toNat s93.2.1) 64)))), ((IntKind.i64.wrap (s93.2.1 + 1)), ())) w102) else False)
  else J96 (s93.1, ((IntKind.i64.wrap (s93.2.1 + 1)), ())) w102)
  else dr w94 fun w103 => nz p0 fun a104 => ld (.I .i64) w103 (a104.add 8) fun (x105 : Int) => nz p0 fun a106 => ld (.I .i64) w103 (a106.add 5) fun (x107 : Int) => cl Tryz.prog n_tunnel_Tunnel_say #[.pointer p0, (Kd.av k_api_Frame (3, (0, (x105, (0, (x107, (s93.1, (⟨none, 0, 0⟩, ())))))))).val] (.tup .nil) w103 fun (x108 : Unit) w109 => Q s68.1 w109)
  else dr w77 fun w78 => nz p0 fun a79 => ld .M w78 (a79.add 6) fun (x80 : Option Nat) => nz p0 fun a81 => ld (.I .i64) w78 (a81.add 5) fun (x82 : Int) => rn Tryz.prog (Builtin.delete_ #[t_map_int_s_uint8, t_int] t_ #[.map x80, .int .i64 (IntKind.i64.wrap (x82 + 1))]) (.tup .nil) w78 fun (x83 : Unit) w84 => nz p0 fun a85 => ld (.I .i64) w84 (a85.add 5) fun (x86 : Int) => nz p0 fun a87 => st1 w84 (a87.add 5) (.int .i64 (IntKind.i64.wrap (x86 + 1))) fun w88 => nw w88 [.slice x76.1.a x76.1.n x76.1.c] t_s_uint8 fun a89 w90 => app Tryz.prog t_s_s_uint8 t_s_s_uint8 s68.1 ⟨(some a89), 1, 1⟩ w90 fun r91 w92 => J71 (r91, ()) w92);
 let j1 := (fun (y17 : Bool) (w18 : World) =>
   bif y17 then
 (dr w18 fun w19 => nz p0 fun a20 => ld .M w19 (a20.add 6) fun (x21 : Option Nat) => ld (.I .i64) w19 (a1.add 3) fun (x22 : Int) => ld .L w19 (a1.add 6) fun (x23 : Sl) => ru Tryz.prog (Instr.mapUpdate t_map_int_s_uint8 (.map x21) (.int .i64 x22) (.slice x23.a x23.n x23.c)) w19 fun w24 => j2 w24)
 else j2 w18);
 ld (.I .i64) w2 (a1.add 3) fun (x3 : Int) => nz p0 fun a4 => ld (.I .i64) w2 (a4.add 5) fun (x5 : Int) => bif (decide (x3 > x5)) then (ld (.I .i64) w2 (a1.add 3) fun (x6 : Int) => nz p0 fun a7 => ld (.I .i64) w2 (a7.add 5) fun (x8 : Int) => dr w2 fun w9 => j1 (decide ((IntKind.i64.wrap (x6 - x8)) ≤ 16)) w9) else dr w2 fun w10 => j1 false w10
theorem tunnel_Tunnel_data.t (p0 : Option Addr) (p1 : y_api_Frame) (Q : Sl → World → Prop) (w : World) : tunnel_Tunnel_data p0 p1 Q w = fvc Tryz.prog an_tunnel_Tunnel_data Tryz.f105 .L [Kd.av .P p0, Kd.av k_api_Frame p1] w Q := by kernel_rfl
theorem tunnel_Tunnel_data.k : fnOk Tryz.prog Tryz.f105 = true := by kernel_rfl
theorem tunnel_Tunnel_data.cl {p0 : Option Addr} {p1 : y_api_Frame} {Q : Sl → World → Prop} {w : World} (h : tunnel_Tunnel_data p0 p1 Q w) : cl Tryz.prog n_tunnel_Tunnel_data #[.pointer p0, (Kd.av k_api_Frame p1).val] .L w Q :=
  cl_tie Tryz.func105 tunnel_Tunnel_data.k (args := [Kd.av .P p0, Kd.av k_api_Frame p1]) (tunnel_Tunnel_data.t p0 p1 Q w) h

/-- flume/octet.Read -/
def octet_Read (p0 : Sl) (Q : Option Addr → World → Prop) (w : World) : Prop :=
 nw w [] t_uint8 fun a1 w2 => app Tryz.prog t_s_uint8 t_s_uint8 ⟨(some a1), 0, 0⟩ p0 w2 fun r3 w4 => nw w4 ([.slice r3.a r3.n r3.c, .bool true]) t_octet_Reader fun a5 w6 => Q (some a5) w6
theorem octet_Read.t (p0 : Sl) (Q : Option Addr → World → Prop) (w : World) : octet_Read p0 Q w = fvc Tryz.prog (fun _ => []) Tryz.f106 .P [Kd.av .L p0] w Q := by kernel_rfl
theorem octet_Read.k : fnOk Tryz.prog Tryz.f106 = true := by kernel_rfl
theorem octet_Read.cl {p0 : Sl} {Q : Option Addr → World → Prop} {w : World} (h : octet_Read p0 Q w) : cl Tryz.prog n_octet_Read #[.slice p0.a p0.n p0.c] .P w Q :=
  cl_tie Tryz.func106 octet_Read.k (args := [Kd.av .L p0]) (octet_Read.t p0 Q w) h

/-- (*flume/octet.Reader).Number -/
def octet_Reader_Number (p0 : Option Addr) (Q : (Int × (Int × Unit)) → World → Prop) (w : World) : Prop :=
 bif p0.isNone then
 (Q (0, (6, ())) w)
 else nz p0 fun a1 => ld .B w (a1.add 1) fun (x2 : Bool) => bif (!x2) then
 (Q (0, (6, ())) w)
 else nz p0 fun a3 => ld .L w a3 fun (x4 : Sl) => cl Tryz.prog n_octet_look #[.slice x4.a x4.n x4.c] (.tup (.pair (.I .i64) (.pair (.I .i64) (.pair (.I .i64) .nil)))) w fun (x5 : (Int × (Int × (Int × Unit)))) w6 => nz p0 fun a7 => ld .L w6 a7 fun (x8 : Sl) => sls x8 x5.2.1 x8.n 1 fun r9 => nz p0 fun a10 => st1 w6 a10 (.slice r9.a r9.n r9.c) fun w11 => Q (x5.1, (x5.2.2.1, ())) w11
theorem octet_Reader_Number.t (p0 : Option Addr) (Q : (Int × (Int × Unit)) → World → Prop) (w : World) : octet_Reader_Number p0 Q w = fvc Tryz.prog (fun _ => []) Tryz.f107 (.tup (.pair (.I .i64) (.pair (.I .i64) .nil))) [Kd.av .P p0] w Q := by kernel_rfl
theorem octet_Reader_Number.k : fnOk Tryz.prog Tryz.f107 = true := by kernel_rfl
theorem octet_Reader_Number.cl {p0 : Option Addr} {Q : (Int × (Int × Unit)) → World → Prop} {w : World} (h : octet_Reader_Number p0 Q w) : cl Tryz.prog n_octet_Reader_Number #[.pointer p0] (.tup (.pair (.I .i64) (.pair (.I .i64) .nil))) w Q :=
  cl_tie Tryz.func107 octet_Reader_Number.k (args := [Kd.av .P p0]) (octet_Reader_Number.t p0 Q w) h

end Go.Proofs.YtoglafmpllimgaaGreatDoor
set_option linter.unusedVariables false
set_option maxHeartbeats 4000000
namespace Go.Proofs.YtoglafmpllimgaaGreatDoor
open Go.Fl
/-- (*flume/octet.Reader).End -/
def octet_Reader_End (p0 : Option Addr) (Q : Int → World → Prop) (w : World) : Prop :=
 bif p0.isNone then
 (Q 6 w)
 else nz p0 fun a1 => ld .B w (a1.add 1) fun (x2 : Bool) => bif (!x2) then
 (Q 6 w)
 else nz p0 fun a3 => ld .L w a3 fun (x4 : Sl) => bif (decide ((x4.n : Int) > 0)) then
 (Q 3 w)
 else Q 0 w
theorem octet_Reader_End.t (p0 : Option Addr) (Q : Int → World → Prop) (w : World) : octet_Reader_End p0 Q w = fvc Tryz.prog (fun _ => []) Tryz.f110 (.I .i64) [Kd.av .P p0] w Q := by kernel_rfl
theorem octet_Reader_End.k : fnOk Tryz.prog Tryz.f110 = true := by kernel_rfl
theorem octet_Reader_End.cl {p0 : Option Addr} {Q : Int → World → Prop} {w : World} (h : octet_Reader_End p0 Q w) : cl Tryz.prog n_octet_Reader_End #[.pointer p0] (.I .i64) w Q :=
  cl_tie Tryz.func110 octet_Reader_End.k (args := [Kd.av .P p0]) (octet_Reader_End.t p0 Q w) h

end Go.Proofs.YtoglafmpllimgaaGreatDoor
set_option linter.unusedVariables false
set_option maxHeartbeats 4000000
namespace Go.Proofs.YtoglafmpllimgaaGreatDoor
open Go.Fl
/-- slices.Clone[[]flume/tunnel.sent,flume/tunnel.sent] -/
def slices_Clone_tunnel_sent_tunnel_sent (p0 : Sl) (Q : Sl → World → Prop) (w : World) : Prop :=
 bif p0.a.isNone then
 (Q ⟨none, 0, 0⟩ w)
 else nw w [] t_tunnel_sent fun a1 w2 => app Tryz.prog t_s_tunnel_sent t_s_tunnel_sent ⟨(some a1), 0, 0⟩ p0 w2 fun r3 w4 => Q r3 w4
theorem slices_Clone_tunnel_sent_tunnel_sent.t (p0 : Sl) (Q : Sl → World → Prop) (w : World) : slices_Clone_tunnel_sent_tunnel_sent p0 Q w = fvc Tryz.prog (fun _ => []) Tryz.f126 .L [Kd.av .L p0] w Q := by kernel_rfl
theorem slices_Clone_tunnel_sent_tunnel_sent.k : fnOk Tryz.prog Tryz.f126 = true := by kernel_rfl
theorem slices_Clone_tunnel_sent_tunnel_sent.cl {p0 : Sl} {Q : Sl → World → Prop} {w : World} (h : slices_Clone_tunnel_sent_tunnel_sent p0 Q w) : cl Tryz.prog n_slices_Clone_tunnel_sent_tunnel_sent #[.slice p0.a p0.n p0.c] .L w Q :=
  cl_tie Tryz.func126 slices_Clone_tunnel_sent_tunnel_sent.k (args := [Kd.av .L p0]) (slices_Clone_tunnel_sent_tunnel_sent.t p0 Q w) h

/-- (*flume/tcp.Conn).emit -/
def an_tcp_Conn_emit : Nat → LA
  | 1000000 => [(0, .nil)] | 1000005 => [(0, .nil)] | _ => []
def tcp_Conn_emit (p0 : Option Addr) (p1 : Int) (p2 : Int) (p3 : Sl) (Q : Unit → World → Prop) (w : World) : Prop :=
 let j4 := (fun (y81 : Option Addr) (w82 : World) =>
   let j6 := (fun  (w114 : World) =>
   let j7 := (fun  (w130 : World) =>
   dr w130 fun w131 => nz p0 fun a132 => ld .L w131 (a132.add 2073) fun (x133 : Sl) => nz y81 fun a135 => ld k_api_Packet w131 a135 fun (x134 : y_api_Packet) => nw w131 [.int .i64 x134.1, .int .i64 x134.2.1, .int .i64 x134.2.2.1, .int .i64 x134.2.2.2.1, .int .u32 x134.2.2.2.2.1, .int .u32 x134.2.2.2.2.2.1, .int .i64 x134.2.2.2.2.2.2.1, .int .i64 x134.2.2.2.2.2.2.2.1, .int .i64 x134.2.2.2.2.2.2.2.2.1, .int .i64 x134.2.2.2.2.2.2.2.2.2.1, .slice x134.2.2.2.2.2.2.2.2.2.2.1.a x134.2.2.2.2.2.2.2.2.2.2.1.n x134.2.2.2.2.2.2.2.2.2.2.1.c] t_api_Packet fun a136 w137 => Fr w131 w137 ∧ app Tryz.prog t_s_api_Packet t_s_api_Packet x133 ⟨(some a136), 1, 1⟩ w137 fun r138 w139 => nz p0 fun a140 => st1 w139 (a140.add 2073) (.slice r138.a r138.n r138.c) fun w141 => Q () w141);
 bif ((bits .and .i64 p1 1) != 0) then
 (nz p0 fun a115 => ld (.I .i64) w114 (a115.add 4) fun (x116 : Int) => nz y81 fun a117 => st1 w114 (a117.add 9) (.int .i64 x116) fun w118 => j7 w118)
 else j7 w114);
 bif ((bits .and .i64 p1 2) != 0) then
 (nz p0 fun a83 => ld (.I .u32) w82 ((a83.add 14).add 1) fun (x84 : Int) => nz y81 fun a85 => st1 w82 (a85.add 5) (.int .u32 x84) fun w86 => j6 w86)
 else j6 w82);
 dr w fun w1 => nz p0 fun a2 => ld (.I .i64) w1 a2 fun (x3 : Int) => nz p0 fun a4 => ld (.I .i64) w1 (a4.add 1) fun (x5 : Int) => nz p0 fun a6 => ld (.I .i64) w1 (a6.add 2) fun (x7 : Int) => nz p0 fun a8 => ld (.I .i64) w1 (a8.add 3) fun (x9 : Int) => (cl Tryz.prog n_tcp_Conn_window #[.pointer p0] (.I .i64) w1 fun (x10 : Int) w11 => Fr w1 w11 ∧ (cl Tryz.prog n_slices_Clone_byte_byte #[.slice p3.a p3.n p3.c] .L w11 fun (x12 : Sl) w13 => Fr w11 w13 ∧ nw w13 ((Kd.av k_api_Packet z_api_Packet).cells) t_api_Packet fun a14 w15 => Fr w13 w15 ∧ st w15 a14 (Kd.av k_api_Packet (x3, (x5, (x7, (x9, (p2, (0, (p1, (x10, (0, (0, (x12, ())))))))))))) fun w16 => j4 (some a14) w16) ∧ (nw w11 ((Kd.av k_api_Packet z_api_Packet).cells) t_api_Packet fun a17 w18 => Fr w11 w18 ∧ cl Tryz.prog n_slices_Clone_byte_byte #[.slice p3.a p3.n p3.c] .L w18 fun (x19 : Sl) w20 => Fr w18 w20 ∧ st w20 a17 (Kd.av k_api_Packet (x3, (x5, (x7, (x9, (p2, (0, (p1, (x10, (0, (0, (x19, ())))))))))))) fun w21 => j4 (some a17) w21)) ∧ (nw w1 ((Kd.av k_api_Packet z_api_Packet).cells) t_api_Packet fun a22 w23 => Fr w1 w23 ∧ cl Tryz.prog n_tcp_Conn_window #[.pointer p0] (.I .i64) w23 fun (x24 : Int) w25 => Fr w23 w25 ∧ cl Tryz.prog n_slices_Clone_byte_byte #[.slice p3.a p3.n p3.c] .L w25 fun (x26 : Sl) w27 => Fr w25 w27 ∧ st w27 a22 (Kd.av k_api_Packet (x3, (x5, (x7, (x9, (p2, (0, (p1, (x24, (0, (0, (x26, ())))))))))))) fun w28 => j4 (some a22) w28)
theorem tcp_Conn_emit.t (p0 : Option Addr) (p1 : Int) (p2 : Int) (p3 : Sl) (Q : Unit → World → Prop) (w : World) : tcp_Conn_emit p0 p1 p2 p3 Q w = fvc Tryz.prog an_tcp_Conn_emit Tryz.f129 (.tup .nil) [Kd.av .P p0, Kd.av (.I .i64) p1, Kd.av (.I .u32) p2, Kd.av .L p3] w Q := by kernel_rfl
theorem tcp_Conn_emit.k : fnOk Tryz.prog Tryz.f129 = true := by kernel_rfl
theorem tcp_Conn_emit.cl {p0 : Option Addr} {p1 : Int} {p2 : Int} {p3 : Sl} {Q : Unit → World → Prop} {w : World} (h : tcp_Conn_emit p0 p1 p2 p3 Q w) : cl Tryz.prog n_tcp_Conn_emit #[.pointer p0, .int .i64 p1, .int .u32 p2, .slice p3.a p3.n p3.c] (.tup .nil) w Q :=
  cl_tie Tryz.func129 tcp_Conn_emit.k (args := [Kd.av .P p0, Kd.av (.I .i64) p1, Kd.av (.I .u32) p2, Kd.av .L p3]) (tcp_Conn_emit.t p0 p1 p2 p3 Q w) h

/-- slices.IndexFunc[[]*flume/box.flow,*flume/box.flow] -/
def an_slices_IndexFunc_box_flow_box_flow : Nat → LA
  | 2 => [(8, (.I .i64))] | _ => []
def slices_IndexFunc_box_flow_box_flow (p0 : Sl) (p1 : Value) (Q : Int → World → Prop) (w : World) : Prop :=
 lp (α := (Int × Unit)) (fun K => K (0, ())) w fun D3 J4 s1 w2 =>
 bif (decide (s1.1 < (p0.n : Int))) then
  (ixa p0.a p0.n s1.1 1 fun a5 => ld .P w2 a5 fun (x6 : Option Addr) => clv Tryz.prog (p1) #[.pointer x6] .B w2 fun (x7 : Bool) w8 => bif x7 then
  (Q s1.1 w8)
  else J4 ((IntKind.i64.wrap (s1.1 + 1)), ()) w8)
  else Q (-1) w2
theorem slices_IndexFunc_box_flow_box_flow.t (p0 : Sl) (p1 : Value) (Q : Int → World → Prop) (w : World) : slices_IndexFunc_box_flow_box_flow p0 p1 Q w = fvc Tryz.prog an_slices_IndexFunc_box_flow_box_flow Tryz.f130 (.I .i64) [Kd.av .L p0, Kd.av .U p1] w Q := by kernel_rfl
theorem slices_IndexFunc_box_flow_box_flow.k : fnOk Tryz.prog Tryz.f130 = true := by kernel_rfl
theorem slices_IndexFunc_box_flow_box_flow.cl {p0 : Sl} {p1 : Value} {Q : Int → World → Prop} {w : World} (h : slices_IndexFunc_box_flow_box_flow p0 p1 Q w) : cl Tryz.prog n_slices_IndexFunc_box_flow_box_flow #[.slice p0.a p0.n p0.c, p1] (.I .i64) w Q :=
  cl_tie Tryz.func130 slices_IndexFunc_box_flow_box_flow.k (args := [Kd.av .L p0, Kd.av .U p1]) (slices_IndexFunc_box_flow_box_flow.t p0 p1 Q w) h

end Go.Proofs.YtoglafmpllimgaaGreatDoor
set_option linter.unusedVariables false
set_option maxHeartbeats 4000000
namespace Go.Proofs.YtoglafmpllimgaaGreatDoor
open Go.Fl
/-- math/bits.Len64 -/
def math_bits_Len64 (p0 : Int) (Q : Int → World → Prop) (w : World) : Prop :=
 let j4 := (fun (y10 : Int) (y11 : Int) (w12 : World) =>
   let j6 := (fun (y16 : Int) (y17 : Int) (w18 : World) =>
   let j7 := (fun (y19 : Int) (y20 : Int) (w21 : World) =>
   0 ≤ (IntKind.u8.wrap y19) ∧ (IntKind.u8.wrap y19) < ((⟨#[0, 1, 2, 2, 3, 3, 3, 3, 4, 4, 4, 4, 4, 4, 4, 4, 5, 5, 5, 5, 5, 5, 5, 5, 5, 5, 5, 5, 5, 5, 5, 5, 6, 6, 6, 6, 6, 6, 6, 6, 6, 6, 6, 6, 6, 6, 6, 6, 6, 6, 6, 6, 6, 6, 6, 6, 6, 6, 6, 6, 6, 6, 6, 6, 7, 7, 7, 7, 7, 7, 7, 7, 7, 7, 7, 7, 7, 7, 7, 7, 7, 7, 7, 7, 7, 7, 7, 7, 7, 7, 7, 7, 7, 7, 7, 7, 7, 7, 7, 7, 7, 7, 7, 7, 7, 7, 7, 7, 7, 7, 7, 7, 7, 7, 7, 7, 7, 7, 7, 7, 7, 7, 7, 7, 7, 7, 7, 7, 8, 8, 8, 8, 8, 8, 8, 8, 8, 8, 8, 8, 8, 8, 8, 8, 8, 8, 8, 8, 8, 8, 8, 8, 8, 8, 8, 8, 8, 8, 8, 8, 8, 8, 8, 8, 8, 8, 8, 8, 8, 8, 8, 8, 8, 8, 8, 8, 8, 8, 8, 8, 8, 8, 8, 8, 8, 8, 8, 8, 8, 8, 8, 8, 8, 8, 8, 8, 8, 8, 8, 8, 8, 8, 8, 8, 8, 8, 8, 8, 8, 8, 8, 8, 8, 8, 8, 8, 8, 8, 8, 8, 8, 8, 8, 8, 8, 8, 8, 8, 8, 8, 8, 8, 8, 8, 8, 8, 8, 8, 8, 8, 8, 8, 8, 8, 8, 8, 8, 8, 8, 8, 8, 8, 8, 8, 8, 8]⟩ : ByteArray).size : Int) ∧ (Q (IntKind.i64.wrap (y20 + (IntKind.i64.wrap (((⟨#[0, 1, 2, 2, 3, 3, 3, 3, 4, 4, 4, 4, 4, 4, 4, 4, 5, 5, 5, 5, 5, 5, 5, 5, 5, 5, 5, 5, 5, 5, 5, 5, 6, 6, 6, 6, 6, 6, 6, 6, 6, 6, 6, 6, 6, 6, 6, 6, 6, 6, 6, 6, 6, 6, 6, 6, 6, 6, 6, 6, 6, 6, 6, 6, 7, 7, 7, 7, 7, 7, 7, 7, 7, 7, 7, 7, 7, 7, 7, 7, 7, 7, 7, 7, 7, 7, 7, 7, 7, 7, 7, 7, 7, 7, 7, 7, 7, 7, 7, 7, 7, 7, 7, 7, 7, 7, 7, 7, 7, 7, 7, 7, 7, 7, 7, 7, 7, 7, 7, 7, 7, 7, 7, 7, 7, 7, 7, 7, 8, 8, 8, 8, 8, 8, 8, 8, 8, 8, 8, 8, 8, 8, 8, 8, 8, 8, 8, 8, 8, 8, 8, 8, 8, 8, 8, 8, 8, 8, 8, 8, 8, 8, 8, 8, 8, 8, 8, 8, 8, 8, 8, 8, 8, 8, 8, 8, 8, 8, 8, 8, 8, 8, 8, 8, 8, 8, 8, 8, 8, 8, 8, 8, 8, 8, 8, 8, 8, 8, 8, 8, 8, 8, 8, 8, 8, 8, 8, 8, 8, 8, 8, 8, 8, 8, 8, 8, 8, 8, 8, 8, 8, 8, 8, 8, 8, 8, 8, 8, 8, 8, 8, 8, 8, 8, 8, 8, 8, 8, 8, 8, 8, 8, 8, 8, 8, 8, 8, 8, 8, 8, 8, 8, 8, 8, 8, 8]⟩ : ByteArray).data.toList.getD (Int.toNat (IntKind.u8.wrap y19)) 0).toNat : Int)))) w21));
 bif (decide (y16 ≥ 256)) then
 (j7 (y16 / 2 ^ (min 8 64)) (IntKind.i64.wrap (y17 + 8)) w18)
 else j7 y16 y17 w18);
 bif (decide (y10 ≥ 65536)) then
 (j6 (y10 / 2 ^ (min 16 64)) (IntKind.i64.wrap (y11 + 16)) w12)
 else j6 y10 y11 w12);
 bif (decide (p0 ≥ 4294967296)) then
 (j4 (p0 / 2 ^ (min 32 64)) 32 w)
 else j4 p0 0 w
theorem math_bits_Len64.t (p0 : Int) (Q : Int → World → Prop) (w : World) : math_bits_Len64 p0 Q w = fvc Tryz.prog (fun _ => []) Tryz.f135 (.I .i64) [Kd.av (.I .u64) p0] w Q := by kernel_rfl
theorem math_bits_Len64.k : fnOk Tryz.prog Tryz.f135 = true := by kernel_rfl
theorem math_bits_Len64.cl {p0 : Int} {Q : Int → World → Prop} {w : World} (h : math_bits_Len64 p0 Q w) : cl Tryz.prog n_math_bits_Len64 #[.int .u64 p0] (.I .i64) w Q :=
  cl_tie Tryz.func135 math_bits_Len64.k (args := [Kd.av (.I .u64) p0]) (math_bits_Len64.t p0 Q w) h

/-- flume/rabin.Mod -/
def an_rabin_Mod : Nat → LA
  | 4 => [(0, (.I .u64))] | _ => []
def rabin_Mod (p0 : Int) (p1 : Int) (Q : Int → World → Prop) (w : World) : Prop :=
 bif (p1 == 0) then
 (Q p0 w)
 else cl Tryz.prog n_rabin_Deg #[.int .u64 p1] (.I .i64) w fun (x1 : Int) w2 => lp (α := (Int × Unit)) (fun K => K (p0, ())) w2 fun D5 J6 s3 w4 =>
 cl Tryz.prog n_rabin_Deg #[.int .u64 s3.1] (.I .i64) w4 fun (x7 : Int) w8 => bif (decide (x7 ≥ x1)) then
  (cl Tryz.prog n_rabin_Deg #[.int .u64 s3.1] (.I .i64) w8 fun (x9 : Int) w10 => bif decide (0 ≤ (IntKind.i64.wrap (x9 - x1))) then (J6 ((bits .xor .u64 s3.1 (IntKind.u64.wrap (p1 * 2 ^ (min (Int.toNat (IntKind.i64.wrap (x9 - x1))) 64)))), ()) w10) else False)
  else Q s3.1 w8
theorem rabin_Mod.t (p0 : Int) (p1 : Int) (Q : Int → World → Prop) (w : World) : rabin_Mod p0 p1 Q w = fvc Tryz.prog an_rabin_Mod Tryz.f136 (.I .u64) [Kd.av (.I .u64) p0, Kd.av (.I .u64) p1] w Q := by kernel_rfl
theorem rabin_Mod.k : fnOk Tryz.prog Tryz.f136 = true := by kernel_rfl
theorem rabin_Mod.cl {p0 : Int} {p1 : Int} {Q : Int → World → Prop} {w : World} (h : rabin_Mod p0 p1 Q w) : cl Tryz.prog n_rabin_Mod #[.int .u64 p0, .int .u64 p1] (.I .u64) w Q :=
  cl_tie Tryz.func136 rabin_Mod.k (args := [Kd.av (.I .u64) p0, Kd.av (.I .u64) p1]) (rabin_Mod.t p0 p1 Q w) h

/-- flume/rabin.Mul -/
def an_rabin_Mul : Nat → LA
  | 5 => [(0, (.I .u64)), (1, (.I .u64)), (7, (.I .u64))] | _ => []
def rabin_Mul (p0 : Int) (p1 : Int) (p2 : Int) (Q : Int → World → Prop) (w : World) : Prop :=
 bif (p2 == 0) then
 (Q 0 w)
 else cl Tryz.prog n_rabin_Deg #[.int .u64 p2] (.I .i64) w fun (x1 : Int) w2 => bif (decide (x1 > 62)) then
 (Q 0 w2)
 else cl Tryz.prog n_rabin_Mod #[.int .u64 p0, .int .u64 p2] (.I .u64) w2 fun (x3 : Int) w4 => lp (α := (Int × (Int × (Int × Unit)))) (fun K => K (x3, (p1, (0, ())))) w4 fun D7 J8 s5 w6 =>
 bif (decide (s5.2.1 > 0)) then
  (cl Tryz.prog n_rabin_Mod #[.int .u64 (IntKind.u64.wrap (s5.1 * 2 ^ (min 1 64))), .int .u64 p2] (.I .u64) w6 fun (x9 : Int) w10 => J8 (x9, ((s5.2.1 / 2 ^ (min 1 64)), ((bits .xor .u64 s5.2.2.1 (IntKind.u64.wrap (s5.1 * (bits .and .u64 s5.2.1 1)))), ()))) w10)
  else cl Tryz.prog n_rabin_Mod #[.int .u64 s5.2.2.1, .int .u64 p2] (.I .u64) w6 fun (x11 : Int) w12 => Q x11 w12
theorem rabin_Mul.t (p0 : Int) (p1 : Int) (p2 : Int) (Q : Int → World → Prop) (w : World) : rabin_Mul p0 p1 p2 Q w = fvc Tryz.prog an_rabin_Mul Tryz.f137 (.I .u64) [Kd.av (.I .u64) p0, Kd.av (.I .u64) p1, Kd.av (.I .u64) p2] w Q := by kernel_rfl
theorem rabin_Mul.k : fnOk Tryz.prog Tryz.f137 = true := by kernel_rfl
theorem rabin_Mul.cl {p0 : Int} {p1 : Int} {p2 : Int} {Q : Int → World → Prop} {w : World} (h : rabin_Mul p0 p1 p2 Q w) : cl Tryz.prog n_rabin_Mul #[.int .u64 p0, .int .u64 p1, .int .u64 p2] (.I .u64) w Q :=
  cl_tie Tryz.func137 rabin_Mul.k (args := [Kd.av (.I .u64) p0, Kd.av (.I .u64) p1, Kd.av (.I .u64) p2]) (rabin_Mul.t p0 p1 p2 Q w) h

/-- flume/rabin.Gcd -/
def an_rabin_Gcd : Nat → LA
  | 1 => [(0, (.I .u64)), (1, (.I .u64))] | _ => []
def rabin_Gcd (p0 : Int) (p1 : Int) (Q : Int → World → Prop) (w : World) : Prop :=
 lp (α := (Int × (Int × Unit))) (fun K => K (p0, (p1, ()))) w fun D3 J4 s1 w2 =>
 bif (s1.2.1 != 0) then
  (cl Tryz.prog n_rabin_Mod #[.int .u64 s1.1, .int .u64 s1.2.1] (.I .u64) w2 fun (x5 : Int) w6 => J4 (s1.2.1, (x5, ())) w6)
  else Q s1.1 w2
theorem rabin_Gcd.t (p0 : Int) (p1 : Int) (Q : Int → World → Prop) (w : World) : rabin_Gcd p0 p1 Q w = fvc Tryz.prog an_rabin_Gcd Tryz.f138 (.I .u64) [Kd.av (.I .u64) p0, Kd.av (.I .u64) p1] w Q := by kernel_rfl
theorem rabin_Gcd.k : fnOk Tryz.prog Tryz.f138 = true := by kernel_rfl
theorem rabin_Gcd.cl {p0 : Int} {p1 : Int} {Q : Int → World → Prop} {w : World} (h : rabin_Gcd p0 p1 Q w) : cl Tryz.prog n_rabin_Gcd #[.int .u64 p0, .int .u64 p1] (.I .u64) w Q :=
  cl_tie Tryz.func138 rabin_Gcd.k (args := [Kd.av (.I .u64) p0, Kd.av (.I .u64) p1]) (rabin_Gcd.t p0 p1 Q w) h

/-- flume/sums.Inet -/
def an_sums_Inet : Nat → LA
  | 3 => [(3, (.I .u64)), (8, (.I .i64))] | _ => []
def sums_Inet (p0 : Sl) (Q : Int → World → Prop) (w : World) : Prop :=
 lp (α := (Int × (Int × Unit))) (fun K => K (0, (0, ()))) w fun D3 J4 s1 w2 =>
 bif (decide (s1.2.1 < (p0.n : Int))) then
  (ixa p0.a p0.n s1.2.1 1 fun a5 => ld .L w2 a5 fun (x6 : Sl) => cl Tryz.prog n_sums_words #[.slice x6.a x6.n x6.c] (.I .u64) w2 fun (x7 : Int) w8 => cl Tryz.prog n_sums_fold #[.int .u64 x7] (.I .u16) w8 fun (x9 : Int) w10 => J4 ((IntKind.u64.wrap (s1.1 + (IntKind.u64.wrap x9))), ((IntKind.i64.wrap (s1.2.1 + 1)), ())) w10)
  else cl Tryz.prog n_sums_fold #[.int .u64 s1.1] (.I .u16) w2 fun (x11 : Int) w12 => Q (bits .xor .u16 65535 x11) w12
theorem sums_Inet.t (p0 : Sl) (Q : Int → World → Prop) (w : World) : sums_Inet p0 Q w = fvc Tryz.prog an_sums_Inet Tryz.f139 (.I .u16) [Kd.av .L p0] w Q := by kernel_rfl
theorem sums_Inet.k : fnOk Tryz.prog Tryz.f139 = true := by kernel_rfl
theorem sums_Inet.cl {p0 : Sl} {Q : Int → World → Prop} {w : World} (h : sums_Inet p0 Q w) : cl Tryz.prog n_sums_Inet #[.slice p0.a p0.n p0.c] (.I .u16) w Q :=
  cl_tie Tryz.func139 sums_Inet.k (args := [Kd.av .L p0]) (sums_Inet.t p0 Q w) h

/-- flume/packet.Check -/
def packet_Check (p0 : y_api_Packet) (Q : Int → World → Prop) (w : World) : Prop :=
 nw w ((Kd.av k_api_Packet p0).cells) t_api_Packet fun a1 w2 => let j1 := (fun (y32 : Bool) (w33 : World) =>
   ld (.I .i64) w33 a1 fun (x34 : Int) => cl Tryz.prog n_packet_host #[.int .i64 x34] .B w33 fun (x35 : Bool) w36 => bif (!x35) then
 (Q 40 w36)
 else ld (.I .i64) w36 (a1.add 1) fun (x37 : Int) => cl Tryz.prog n_packet_host #[.int .i64 x37] .B w36 fun (x38 : Bool) w39 => bif (!x38) then
 (Q 40 w39)
 else ld (.I .i64) w39 a1 fun (x40 : Int) => ld (.I .i64) w39 (a1.add 1) fun (x41 : Int) => bif (x40 == x41) then
 (Q 40 w39)
 else bif (!y32) then
 (Q 40 w39)
 else ld (.I .i64) w39 (a1.add 6) fun (x42 : Int) => cl Tryz.prog n_packet_within #[.int .i64 x42, .int .i64 15] .B w39 fun (x43 : Bool) w44 => bif (!x43) then
 (Q 40 w44)
 else ld (.I .i64) w44 (a1.add 7) fun (x45 : Int) => cl Tryz.prog n_packet_within #[.int .i64 x45, .int .i64 65535] .B w44 fun (x46 : Bool) w47 => bif (!x46) then
 (Q 40 w47)
 else ld (.I .i64) w47 (a1.add 8) fun (x48 : Int) => cl Tryz.prog n_packet_within #[.int .i64 x48, .int .i64 1099511627776] .B w47 fun (x49 : Bool) w50 => bif (!x49) then
 (Q 40 w50)
 else ld (.I .i64) w50 (a1.add 9) fun (x51 : Int) => cl Tryz.prog n_packet_within #[.int .i64 x51, .int .i64 65535] .B w50 fun (x52 : Bool) w53 => bif (!x52) then
 (Q 40 w53)
 else ld .L w53 (a1.add 10) fun (x54 : Sl) => bif (decide ((x54.n : Int) > 128)) then
 (Q 40 w53)
 else Q 0 w53);
 ld (.I .i64) w2 (a1.add 2) fun (x3 : Int) => bif (decide (x3 ≥ 1)) then
 (ld (.I .i64) w2 (a1.add 2) fun (x4 : Int) => cl Tryz.prog n_packet_within #[.int .i64 x4, .int .i64 65535] .B w2 fun (x5 : Bool) w6 => bif x5 then
 (ld (.I .i64) w6 (a1.add 3) fun (x7 : Int) => bif (decide (x7 ≥ 1)) then
 (ld (.I .i64) w6 (a1.add 3) fun (x8 : Int) => cl Tryz.prog n_packet_within #[.int .i64 x8, .int .i64 65535] .B w6 fun (x9 : Bool) w10 => j1 x9 w10)
 else j1 false w6)
 else j1 false w6)
 else j1 false w2
theorem packet_Check.t (p0 : y_api_Packet) (Q : Int → World → Prop) (w : World) : packet_Check p0 Q w = fvc Tryz.prog (fun _ => []) Tryz.f140 (.I .i64) [Kd.av k_api_Packet p0] w Q := by kernel_rfl
theorem packet_Check.k : fnOk Tryz.prog Tryz.f140 = true := by kernel_rfl
theorem packet_Check.cl {p0 : y_api_Packet} {Q : Int → World → Prop} {w : World} (h : packet_Check p0 Q w) : cl Tryz.prog n_packet_Check #[(Kd.av k_api_Packet p0).val] (.I .i64) w Q :=
  cl_tie Tryz.func140 packet_Check.k (args := [Kd.av k_api_Packet p0]) (packet_Check.t p0 Q w) h

/-- flume/packet.options -/
def packet_options (p0 : y_api_Packet) (Q : Sl → World → Prop) (w : World) : Prop :=
 nw w ((Kd.av k_api_Packet p0).cells) t_api_Packet fun a1 w2 => let j1 := (fun (y28 : Sl) (w29 : World) =>
   ld (.I .i64) w29 (a1.add 9) fun (x30 : Int) => bif (decide (x30 > 0)) then
 (nw w29 [.int .u8 2, .int .u8 4] t_uint8 fun a31 w32 => app Tryz.prog t_s_uint8 t_s_uint8 y28 ⟨(some a31), 2, 2⟩ w32 fun r33 w34 => ld (.I .i64) w34 (a1.add 9) fun (x35 : Int) => cl Tryz.prog n_packet_two #[.int .i64 x35] .L w34 fun (x36 : Sl) w37 => app Tryz.prog t_s_uint8 t_s_uint8 r33 x36 w37 fun r38 w39 => Q r38 w39)
 else Q y28 w29);
 ld (.I .i64) w2 (a1.add 8) fun (x3 : Int) => bif (decide (x3 > 0)) then
 (nw w2 [.int .u8 1, .int .u8 10] t_uint8 fun a4 w5 => app Tryz.prog t_s_uint8 t_s_uint8 ⟨none, 0, 0⟩ ⟨(some a4), 2, 2⟩ w5 fun r6 w7 => ld (.I .i64) w7 (a1.add 8) fun (x8 : Int) => cl Tryz.prog n_packet_four #[.int .u32 (IntKind.u32.wrap (x8 / 2 ^ (min 32 64)))] .L w7 fun (x9 : Sl) w10 => app Tryz.prog t_s_uint8 t_s_uint8 r6 x9 w10 fun r11 w12 => ld (.I .i64) w12 (a1.add 8) fun (x13 : Int) => cl Tryz.prog n_packet_four #[.int .u32 (IntKind.u32.wrap x13)] .L w12 fun (x14 : Sl) w15 => app Tryz.prog t_s_uint8 t_s_uint8 r11 x14 w15 fun r16 w17 => j1 r16 w17)
 else j1 ⟨none, 0, 0⟩ w2
theorem packet_options.t (p0 : y_api_Packet) (Q : Sl → World → Prop) (w : World) : packet_options p0 Q w = fvc Tryz.prog (fun _ => []) Tryz.f141 .L [Kd.av k_api_Packet p0] w Q := by kernel_rfl
theorem packet_options.k : fnOk Tryz.prog Tryz.f141 = true := by kernel_rfl
theorem packet_options.cl {p0 : y_api_Packet} {Q : Sl → World → Prop} {w : World} (h : packet_options p0 Q w) : cl Tryz.prog n_packet_options #[(Kd.av k_api_Packet p0).val] .L w Q :=
  cl_tie Tryz.func141 packet_options.k (args := [Kd.av k_api_Packet p0]) (packet_options.t p0 Q w) h

/-- flume/packet.two -/
def packet_two (p0 : Int) (Q : Sl → World → Prop) (w : World) : Prop :=
 cl Tryz.prog n_packet_lay_int #[.int .i64 p0, .int .i64 2] .L w fun (x1 : Sl) w2 => Q x1 w2
theorem packet_two.t (p0 : Int) (Q : Sl → World → Prop) (w : World) : packet_two p0 Q w = fvc Tryz.prog (fun _ => []) Tryz.f143 .L [Kd.av (.I .i64) p0] w Q := by kernel_rfl
theorem packet_two.k : fnOk Tryz.prog Tryz.f143 = true := by kernel_rfl
theorem packet_two.cl {p0 : Int} {Q : Sl → World → Prop} {w : World} (h : packet_two p0 Q w) : cl Tryz.prog n_packet_two #[.int .i64 p0] .L w Q :=
  cl_tie Tryz.func143 packet_two.k (args := [Kd.av (.I .i64) p0]) (packet_two.t p0 Q w) h

/-- flume/packet.four -/
def packet_four (p0 : Int) (Q : Sl → World → Prop) (w : World) : Prop :=
 cl Tryz.prog n_packet_lay_uint32 #[.int .u32 p0, .int .i64 4] .L w fun (x1 : Sl) w2 => Q x1 w2
theorem packet_four.t (p0 : Int) (Q : Sl → World → Prop) (w : World) : packet_four p0 Q w = fvc Tryz.prog (fun _ => []) Tryz.f144 .L [Kd.av (.I .u32) p0] w Q := by kernel_rfl
theorem packet_four.k : fnOk Tryz.prog Tryz.f144 = true := by kernel_rfl
theorem packet_four.cl {p0 : Int} {Q : Sl → World → Prop} {w : World} (h : packet_four p0 Q w) : cl Tryz.prog n_packet_four #[.int .u32 p0] .L w Q :=
  cl_tie Tryz.func144 packet_four.k (args := [Kd.av (.I .u32) p0]) (packet_four.t p0 Q w) h

/-- slices.Concat[[]byte,byte] -/
def an_slices_Concat_byte_byte : Nat → LA
  | 3 => [(3, (.I .i64)), (11, (.I .i64))] | 11 => [(6, .L), (27, (.I .i64))] | _ => []
def slices_Concat_byte_byte (p0 : Sl) (Q : Sl → World → Prop) (w : World) : Prop :=
 lp (α := (Int × (Int × Unit))) (fun K => K (0, (0, ()))) w fun D3 J4 s1 w2 =>
 bif (decide (s1.2.1 < (p0.n : Int))) then
  (ixa p0.a p0.n s1.2.1 1 fun a5 => ld .L w2 a5 fun (x6 : Sl) => bif (decide ((IntKind.i64.wrap (s1.1 + (x6.n : Int))) < 0)) then
  (False)
  else J4 ((IntKind.i64.wrap (s1.1 + (x6.n : Int))), ((IntKind.i64.wrap (s1.2.1 + 1)), ())) w2)
  else cl Tryz.prog n_slices_Grow_byte_byte #[.slice none 0 0, .int .i64 s1.1] .L w2 fun (x7 : Sl) w8 => lp (α := (Sl × (Int × Unit))) (fun K => K (x7, (0, ()))) w8 fun D11 J12 s9 w10 =>
 bif (decide (s9.2.1 < (p0.n : Int))) then
  (ixa p0.a p0.n s9.2.1 1 fun a13 => ld .L w10 a13 fun (x14 : Sl) => app Tryz.prog t_s_uint8 t_s_uint8 s9.1 x14 w10 fun r15 w16 => J12 (r15, ((IntKind.i64.wrap (s9.2.1 + 1)), ())) w16)
  else Q s9.1 w10
theorem slices_Concat_byte_byte.t (p0 : Sl) (Q : Sl → World → Prop) (w : World) : slices_Concat_byte_byte p0 Q w = fvc Tryz.prog an_slices_Concat_byte_byte Tryz.f142 .L [Kd.av .L p0] w Q := by kernel_rfl
theorem slices_Concat_byte_byte.k : fnOk Tryz.prog Tryz.f142 = true := by kernel_rfl
theorem slices_Concat_byte_byte.cl {p0 : Sl} {Q : Sl → World → Prop} {w : World} (h : slices_Concat_byte_byte p0 Q w) : cl Tryz.prog n_slices_Concat_byte_byte #[.slice p0.a p0.n p0.c] .L w Q :=
  cl_tie Tryz.func142 slices_Concat_byte_byte.k (args := [Kd.av .L p0]) (slices_Concat_byte_byte.t p0 Q w) h

end Go.Proofs.YtoglafmpllimgaaGreatDoor
set_option linter.unusedVariables false
set_option maxHeartbeats 4000000
namespace Go.Proofs.YtoglafmpllimgaaGreatDoor
open Go.Fl
/-- (*flume/tcp.Conn).syn -/
def tcp_Conn_syn (p0 : Option Addr) (Q : Unit → World → Prop) (w : World) : Prop :=
 nz p0 fun a1 => ld (.I .i64) w (a1.add 2069) fun (x2 : Int) => bif (x2 == 1) then
 (nz p0 fun a3 => ld (.I .u32) w (a3.add 5) fun (x4 : Int) => cl Tryz.prog n_tcp_Conn_emit #[.pointer p0, .int .i64 1, .int .u32 x4, .slice none 0 0] (.tup .nil) w fun (x5 : Unit) w6 => Q () w6)
 else nz p0 fun a7 => ld (.I .u32) w (a7.add 5) fun (x8 : Int) => cl Tryz.prog n_tcp_Conn_emit #[.pointer p0, .int .i64 3, .int .u32 x8, .slice none 0 0] (.tup .nil) w fun (x9 : Unit) w10 => Q () w10
theorem tcp_Conn_syn.t (p0 : Option Addr) (Q : Unit → World → Prop) (w : World) : tcp_Conn_syn p0 Q w = fvc Tryz.prog (fun _ => []) Tryz.f152 (.tup .nil) [Kd.av .P p0] w Q := by kernel_rfl
theorem tcp_Conn_syn.k : fnOk Tryz.prog Tryz.f152 = true := by kernel_rfl
theorem tcp_Conn_syn.cl {p0 : Option Addr} {Q : Unit → World → Prop} {w : World} (h : tcp_Conn_syn p0 Q w) : cl Tryz.prog n_tcp_Conn_syn #[.pointer p0] (.tup .nil) w Q :=
  cl_tie Tryz.func152 tcp_Conn_syn.k (args := [Kd.av .P p0]) (tcp_Conn_syn.t p0 Q w) h

end Go.Proofs.YtoglafmpllimgaaGreatDoor
set_option linter.unusedVariables false
set_option maxHeartbeats 4000000
namespace Go.Proofs.YtoglafmpllimgaaGreatDoor
open Go.Fl
/-- flume/sums.Open -/
def sums_Open (p0 : Sl) (Q : (Sl × (Int × Unit)) → World → Prop) (w : World) : Prop :=
 bif (decide ((IntKind.i64.wrap ((p0.n : Int) - 4)) < 0)) then
 (Q (⟨none, 0, 0⟩, (2, ())) w)
 else ixa p0.a p0.n (IntKind.i64.wrap ((p0.n : Int) - 4)) 1 fun a1 => ld (.I .u8) w a1 fun (x2 : Int) => ixa p0.a p0.n (IntKind.i64.wrap ((IntKind.i64.wrap ((p0.n : Int) - 4)) + 1)) 1 fun a3 => ld (.I .u8) w a3 fun (x4 : Int) => ixa p0.a p0.n (IntKind.i64.wrap ((IntKind.i64.wrap ((p0.n : Int) - 4)) + 2)) 1 fun a5 => ld (.I .u8) w a5 fun (x6 : Int) => ixa p0.a p0.n (IntKind.i64.wrap ((IntKind.i64.wrap ((p0.n : Int) - 4)) + 3)) 1 fun a7 => ld (.I .u8) w a7 fun (x8 : Int) => dr w fun w9 => sls p0 0 (IntKind.i64.wrap ((p0.n : Int) - 4)) 1 fun r10 => nw w9 [.slice r10.a r10.n r10.c] t_s_uint8 fun a11 w12 => cl Tryz.prog n_sums_Crc #[.slice (some a11) 1 1] (.I .u32) w12 fun (x13 : Int) w14 => bif ((bits .or .u32 (bits .or .u32 (bits .or .u32 (IntKind.u32.wrap x2) (IntKind.u32.wrap ((IntKind.u32.wrap x4) * 2 ^ (min 8 32)))) (IntKind.u32.wrap ((IntKind.u32.wrap x6) * 2 ^ (min 16 32)))) (IntKind.u32.wrap ((IntKind.u32.wrap x8) * 2 ^ (min 24 32)))) != x13) then
 (Q (⟨none, 0, 0⟩, (10, ())) w14)
 else nw w14 [] t_uint8 fun a15 w16 => sls p0 0 (IntKind.i64.wrap ((p0.n : Int) - 4)) 1 fun r17 => app Tryz.prog t_s_uint8 t_s_uint8 ⟨(some a15), 0, 0⟩ r17 w16 fun r18 w19 => Q (r18, (0, ())) w19
theorem sums_Open.t (p0 : Sl) (Q : (Sl × (Int × Unit)) → World → Prop) (w : World) : sums_Open p0 Q w = fvc Tryz.prog (fun _ => []) Tryz.f171 (.tup (.pair .L (.pair (.I .i64) .nil))) [Kd.av .L p0] w Q := by kernel_rfl
theorem sums_Open.k : fnOk Tryz.prog Tryz.f171 = true := by kernel_rfl
theorem sums_Open.cl {p0 : Sl} {Q : (Sl × (Int × Unit)) → World → Prop} {w : World} (h : sums_Open p0 Q w) : cl Tryz.prog n_sums_Open #[.slice p0.a p0.n p0.c] (.tup (.pair .L (.pair (.I .i64) .nil))) w Q :=
  cl_tie Tryz.func171 sums_Open.k (args := [Kd.av .L p0]) (sums_Open.t p0 Q w) h

/-- (*flume/octet.Reader).Text -/
def octet_Reader_Text (p0 : Option Addr) (p1 : Int) (Q : (Sl × (Int × Unit)) → World → Prop) (w : World) : Prop :=
 bif p0.isNone then
 (Q (⟨none, 0, 0⟩, (6, ())) w)
 else nz p0 fun a1 => ld .B w (a1.add 1) fun (x2 : Bool) => bif (!x2) then
 (Q (⟨none, 0, 0⟩, (6, ())) w)
 else nz p0 fun a3 => ld .L w a3 fun (x4 : Sl) => cl Tryz.prog n_octet_look #[.slice x4.a x4.n x4.c] (.tup (.pair (.I .i64) (.pair (.I .i64) (.pair (.I .i64) .nil)))) w fun (x5 : (Int × (Int × (Int × Unit)))) w6 => bif (x5.2.2.1 != 0) then
 (Q (⟨none, 0, 0⟩, (x5.2.2.1, ())) w6)
 else bif (decide (x5.1 > (max p1 0))) then
 (Q (⟨none, 0, 0⟩, (4, ())) w6)
 else nz p0 fun a7 => ld .L w6 a7 fun (x8 : Sl) => bif (decide (x5.1 > (IntKind.i64.wrap ((x8.n : Int) - x5.2.1)))) then
 (Q (⟨none, 0, 0⟩, (2, ())) w6)
 else nw w6 [] t_uint8 fun a9 w10 => nz p0 fun a11 => ld .L w10 a11 fun (x12 : Sl) => sls x12 x5.2.1 (IntKind.i64.wrap (x5.2.1 + x5.1)) 1 fun r13 => app Tryz.prog t_s_uint8 t_s_uint8 ⟨(some a9), 0, 0⟩ r13 w10 fun r14 w15 => nz p0 fun a16 => ld .L w15 a16 fun (x17 : Sl) => sls x17 (IntKind.i64.wrap (x5.2.1 + x5.1)) x17.n 1 fun r18 => nz p0 fun a19 => st1 w15 a19 (.slice r18.a r18.n r18.c) fun w20 => Q (r14, (0, ())) w20
theorem octet_Reader_Text.t (p0 : Option Addr) (p1 : Int) (Q : (Sl × (Int × Unit)) → World → Prop) (w : World) : octet_Reader_Text p0 p1 Q w = fvc Tryz.prog (fun _ => []) Tryz.f172 (.tup (.pair .L (.pair (.I .i64) .nil))) [Kd.av .P p0, Kd.av (.I .i64) p1] w Q := by kernel_rfl
theorem octet_Reader_Text.k : fnOk Tryz.prog Tryz.f172 = true := by kernel_rfl
theorem octet_Reader_Text.cl {p0 : Option Addr} {p1 : Int} {Q : (Sl × (Int × Unit)) → World → Prop} {w : World} (h : octet_Reader_Text p0 p1 Q w) : cl Tryz.prog n_octet_Reader_Text #[.pointer p0, .int .i64 p1] (.tup (.pair .L (.pair (.I .i64) .nil))) w Q :=
  cl_tie Tryz.func172 octet_Reader_Text.k (args := [Kd.av .P p0, Kd.av (.I .i64) p1]) (octet_Reader_Text.t p0 p1 Q w) h

/-- flume/tunnel.Check -/
def tunnel_Check (p0 : y_api_Frame) (Q : Int → World → Prop) (w : World) : Prop :=
 nw w ((Kd.av k_api_Frame p0).cells) t_api_Frame fun a1 w2 => let j4 := (fun (y49 : Bool) (w50 : World) =>
   let j6 := (fun (y70 : Bool) (y71 : Bool) (y72 : Bool) (w73 : World) =>
   let j7 := (fun (y84 : Bool) (w85 : World) =>
   bif (!y84) then
 (Q 120 w85)
 else ld (.I .i64) w85 (a1.add 4) fun (x86 : Int) => bif (decide (x86 < 0)) then
 (Q 120 w85)
 else ld (.I .i64) w85 (a1.add 4) fun (x87 : Int) => bif (decide (x87 > 1099511627776)) then
 (Q 120 w85)
 else ld (.I .i64) w85 (a1.add 5) fun (x88 : Int) => bif (decide (x88 < 0)) then
 (Q 120 w85)
 else ld (.I .i64) w85 (a1.add 5) fun (x89 : Int) => bif (decide (x89 ≥ 65536)) then
 (Q 120 w85)
 else bif (!y72) then
 (ld (.I .i64) w85 (a1.add 4) fun (x90 : Int) => bif (x90 != 0) then
 (Q 120 w85)
 else ld (.I .i64) w85 (a1.add 5) fun (x91 : Int) => bif (x91 != 0) then
 (Q 120 w85)
 else Q 0 w85)
 else Q 0 w85);
 bif y70 then
 (ld (.I .i64) w73 (a1.add 3) fun (x74 : Int) => bif (y71 == (decide (x74 > 0))) then
 (ld (.I .i64) w73 (a1.add 3) fun (x75 : Int) => bif (decide (x75 ≥ 0)) then
 (ld (.I .i64) w73 (a1.add 3) fun (x76 : Int) => bif (decide (x76 ≤ 1099511627776)) then
 (bif y71 then
 (j7 true w73)
 else ld .L w73 (a1.add 6) fun (x77 : Sl) => j7 ((x77.n : Int) == 0) w73)
 else j7 false w73)
 else j7 false w73)
 else j7 false w73)
 else j7 false w73);
 ld (.I .i64) w50 a1 fun (x51 : Int) => bif (x51 == 1) then
 (j6 y49 false false w50)
 else bif (x51 == 2) then
 (j6 y49 true false w50)
 else bif (x51 == 3) then
 (j6 y49 false true w50)
 else j6 false false false w50);
 ld (.I .i64) w2 (a1.add 1) fun (x3 : Int) => bif (decide (x3 ≥ 1)) then
 (ld (.I .i64) w2 (a1.add 1) fun (x4 : Int) => bif (decide (x4 ≤ 1099511627776)) then
 (ld (.I .i64) w2 (a1.add 2) fun (x5 : Int) => bif (decide (x5 ≥ 0)) then
 (ld (.I .i64) w2 (a1.add 2) fun (x6 : Int) => bif (decide (x6 ≤ 1099511627776)) then
 (ld .L w2 (a1.add 6) fun (x7 : Sl) => j4 (decide ((x7.n : Int) ≤ 512)) w2)
 else j4 false w2)
 else j4 false w2)
 else j4 false w2)
 else j4 false w2
theorem tunnel_Check.t (p0 : y_api_Frame) (Q : Int → World → Prop) (w : World) : tunnel_Check p0 Q w = fvc Tryz.prog (fun _ => []) Tryz.f173 (.I .i64) [Kd.av k_api_Frame p0] w Q := by kernel_rfl
theorem tunnel_Check.k : fnOk Tryz.prog Tryz.f173 = true := by kernel_rfl
theorem tunnel_Check.cl {p0 : y_api_Frame} {Q : Int → World → Prop} {w : World} (h : tunnel_Check p0 Q w) : cl Tryz.prog n_tunnel_Check #[(Kd.av k_api_Frame p0).val] (.I .i64) w Q :=
  cl_tie Tryz.func173 tunnel_Check.k (args := [Kd.av k_api_Frame p0]) (tunnel_Check.t p0 Q w) h

/-- (*flume/tunnel.Tunnel).begin -/
def tunnel_Tunnel_begin (p0 : Option Addr) (p1 : Int) (Q : Unit → World → Prop) (w : World) : Prop :=
 nz p0 fun a1 => st1 w (a1.add 8) (.int .i64 p1) fun w2 => rn Tryz.prog (Instr.makeMap t_map_int_s_uint8 none) .M w2 fun (m3 : Option Nat) w4 => nz p0 fun a5 => st w4 a5 (Kd.av k_tunnel_session (true, (0, (0, (⟨none, 0, 0⟩, (⟨none, 0, 0⟩, (0, (m3, ())))))))) fun w6 => nz p0 fun a7 => ld (.I .i64) w6 (a7.add 9) fun (x8 : Int) => nz p0 fun a9 => st1 w6 (a9.add 9) (.int .i64 (IntKind.i64.wrap (x8 + 1))) fun w10 => cl Tryz.prog n_tunnel_Tunnel_say #[.pointer p0, (Kd.av k_api_Frame (1, (0, (p1, (0, (0, (0, (⟨none, 0, 0⟩, ())))))))).val] (.tup .nil) w10 fun (x11 : Unit) w12 => Q () w12
theorem tunnel_Tunnel_begin.t (p0 : Option Addr) (p1 : Int) (Q : Unit → World → Prop) (w : World) : tunnel_Tunnel_begin p0 p1 Q w = fvc Tryz.prog (fun _ => []) Tryz.f174 (.tup .nil) [Kd.av .P p0, Kd.av (.I .i64) p1] w Q := by kernel_rfl
theorem tunnel_Tunnel_begin.k : fnOk Tryz.prog Tryz.f174 = true := by kernel_rfl
theorem tunnel_Tunnel_begin.cl {p0 : Option Addr} {p1 : Int} {Q : Unit → World → Prop} {w : World} (h : tunnel_Tunnel_begin p0 p1 Q w) : cl Tryz.prog n_tunnel_Tunnel_begin #[.pointer p0, .int .i64 p1] (.tup .nil) w Q :=
  cl_tie Tryz.func174 tunnel_Tunnel_begin.k (args := [Kd.av .P p0, Kd.av (.I .i64) p1]) (tunnel_Tunnel_begin.t p0 p1 Q w) h

/-- flume/tunnel.Put -/
def tunnel_Put (p0 : y_api_Frame) (Q : (Sl × (Int × Unit)) → World → Prop) (w : World) : Prop :=
 nw w ((Kd.av k_api_Frame p0).cells) t_api_Frame fun a1 w2 => ld k_api_Frame w2 a1 fun (x3 : y_api_Frame) => cl Tryz.prog n_tunnel_Check #[(Kd.av k_api_Frame x3).val] (.I .i64) w2 fun (x4 : Int) w5 => bif (x4 != 0) then
 (Q (⟨none, 0, 0⟩, (x4, ())) w5)
 else nw w5 [.int .u8 85] t_uint8 fun a6 w7 => ld (.I .i64) w7 a1 fun (x8 : Int) => ld (.I .i64) w7 (a1.add 1) fun (x9 : Int) => ld (.I .i64) w7 (a1.add 2) fun (x10 : Int) => ld (.I .i64) w7 (a1.add 3) fun (x11 : Int) => ld (.I .i64) w7 (a1.add 4) fun (x12 : Int) => ld (.I .i64) w7 (a1.add 5) fun (x13 : Int) => nw w7 [.int .i64 x8, .int .i64 x9, .int .i64 x10, .int .i64 x11, .int .i64 x12, .int .i64 x13] t_int fun a14 w15 => cl Tryz.prog n_octet_Numbers #[.slice (some a6) 1 1, .slice (some a14) 6 6] .L w15 fun (x16 : Sl) w17 => ld .L w17 (a1.add 6) fun (x18 : Sl) => cl Tryz.prog n_octet_Text #[.slice x16.a x16.n x16.c, .slice x18.a x18.n x18.c] .L w17 fun (x19 : Sl) w20 => cl Tryz.prog n_sums_Seal #[.slice x19.a x19.n x19.c] .L w20 fun (x21 : Sl) w22 => Q (x21, (0, ())) w22
theorem tunnel_Put.t (p0 : y_api_Frame) (Q : (Sl × (Int × Unit)) → World → Prop) (w : World) : tunnel_Put p0 Q w = fvc Tryz.prog (fun _ => []) Tryz.f175 (.tup (.pair .L (.pair (.I .i64) .nil))) [Kd.av k_api_Frame p0] w Q := by kernel_rfl
theorem tunnel_Put.k : fnOk Tryz.prog Tryz.f175 = true := by kernel_rfl
theorem tunnel_Put.cl {p0 : y_api_Frame} {Q : (Sl × (Int × Unit)) → World → Prop} {w : World} (h : tunnel_Put p0 Q w) : cl Tryz.prog n_tunnel_Put #[(Kd.av k_api_Frame p0).val] (.tup (.pair .L (.pair (.I .i64) .nil))) w Q :=
  cl_tie Tryz.func175 tunnel_Put.k (args := [Kd.av k_api_Frame p0]) (tunnel_Put.t p0 Q w) h

/-- (*flume/tunnel.Tunnel).ack$1 -/
def tunnel_Tunnel_ack_1 (p0 : y_tunnel_sent) (p1 : Option Addr) (Q : Bool → World → Prop) (w : World) : Prop :=
 nw w ((Kd.av k_tunnel_sent p0).cells) t_tunnel_sent fun a1 w2 => ld (.I .i64) w2 a1 fun (x3 : Int) => nz p1 fun a4 => ld (.I .i64) w2 (a4.add 4) fun (x5 : Int) => bif (decide ((IntKind.i64.wrap ((IntKind.i64.wrap (x3 - x5)) - 1)) < 0)) then
 (Q true w2)
 else bif (decide ((IntKind.i64.wrap ((IntKind.i64.wrap (x3 - x5)) - 1)) < 16)) then
 (nz p1 fun a6 => ld (.I .i64) w2 (a6.add 5) fun (x7 : Int) => bif decide (0 ≤ (IntKind.i64.wrap ((IntKind.i64.wrap (x3 - x5)) - 1))) then (Q ((bits .and .i64 (x7 / 2 ^ (min (Int.toNat (IntKind.i64.wrap ((IntKind.i64.wrap (x3 - x5)) - 1))) 64)) 1) == 1) w2) else False)
 else Q false w2
theorem tunnel_Tunnel_ack_1.t (p0 : y_tunnel_sent) (p1 : Option Addr) (Q : Bool → World → Prop) (w : World) : tunnel_Tunnel_ack_1 p0 p1 Q w = fvc Tryz.prog (fun _ => []) Tryz.f177 .B [Kd.av k_tunnel_sent p0, Kd.av .P p1] w Q := by kernel_rfl
theorem tunnel_Tunnel_ack_1.k : fnOk Tryz.prog Tryz.f177 = true := by kernel_rfl
theorem tunnel_Tunnel_ack_1.cl {p0 : y_tunnel_sent} {p1 : Option Addr} {Q : Bool → World → Prop} {w : World} (h : tunnel_Tunnel_ack_1 p0 p1 Q w) : cl Tryz.prog n_tunnel_Tunnel_ack_1 #[(Kd.av k_tunnel_sent p0).val, .pointer p1] .B w Q :=
  cl_tie Tryz.func177 tunnel_Tunnel_ack_1.k (args := [Kd.av k_tunnel_sent p0, Kd.av .P p1]) (tunnel_Tunnel_ack_1.t p0 p1 Q w) h

/-- slices.DeleteFunc[[]flume/tunnel.sent,flume/tunnel.sent] -/
def an_slices_DeleteFunc_tunnel_sent_tunnel_sent : Nat → LA
  | 5 => [(5, (.I .i64)), (6, (.I .i64))] | _ => []
def slices_DeleteFunc_tunnel_sent_tunnel_sent (p0 : Sl) (p1 : Value) (Q : Sl → World → Prop) (w : World) : Prop :=
 cl Tryz.prog n_slices_IndexFunc_tunnel_sent_tunnel_sent #[.slice p0.a p0.n p0.c, p1] (.I .i64) w fun (x1 : Int) w2 => bif (x1 == (-1)) then
 (Q p0 w2)
 else lp (α := (Int × (Int × Unit))) (fun K => K (x1, ((IntKind.i64.wrap (x1 + 1)), ()))) w2 fun D5 J6 s3 w4 =>
 bif (decide (s3.2.1 < (p0.n : Int))) then
  (ixa p0.a p0.n s3.2.1 3 fun a7 => ld k_tunnel_sent w4 a7 fun (x8 : y_tunnel_sent) => nw w4 ((Kd.av k_tunnel_sent z_tunnel_sent).cells) t_tunnel_sent fun a9 w10 => st w10 a9 (Kd.av k_tunnel_sent x8) fun w11 => ld k_tunnel_sent w11 a9 fun (x12 : y_tunnel_sent) => clv Tryz.prog (p1) #[(Kd.av k_tunnel_sent x12).val] .B w11 fun (x13 : Bool) w14 => bif (!x13) then
  (ld k_tunnel_sent w14 a9 fun (x15 : y_tunnel_sent) => ixa p0.a p0.n s3.1 3 fun a16 => st w14 a16 (Kd.av k_tunnel_sent x15) fun w17 => J6 ((IntKind.i64.wrap (s3.1 + 1)), ((IntKind.i64.wrap (s3.2.1 + 1)), ())) w17)
  else J6 (s3.1, ((IntKind.i64.wrap (s3.2.1 + 1)), ())) w14)
  else sls p0 s3.1 p0.n 3 fun r18 => rn Tryz.prog (Builtin.clear_ #[t_s_tunnel_sent] t_ #[.slice r18.a r18.n r18.c]) (.tup .nil) w4 fun (x19 : Unit) w20 => sls p0 0 s3.1 3 fun r21 => Q r21 w20
theorem slices_DeleteFunc_tunnel_sent_tunnel_sent.t (p0 : Sl) (p1 : Value) (Q : Sl → World → Prop) (w : World) : slices_DeleteFunc_tunnel_sent_tunnel_sent p0 p1 Q w = fvc Tryz.prog an_slices_DeleteFunc_tunnel_sent_tunnel_sent Tryz.f176 .L [Kd.av .L p0, Kd.av .U p1] w Q := by kernel_rfl
theorem slices_DeleteFunc_tunnel_sent_tunnel_sent.k : fnOk Tryz.prog Tryz.f176 = true := by kernel_rfl
theorem slices_DeleteFunc_tunnel_sent_tunnel_sent.cl {p0 : Sl} {p1 : Value} {Q : Sl → World → Prop} {w : World} (h : slices_DeleteFunc_tunnel_sent_tunnel_sent p0 p1 Q w) : cl Tryz.prog n_slices_DeleteFunc_tunnel_sent_tunnel_sent #[.slice p0.a p0.n p0.c, p1] .L w Q :=
  cl_tie Tryz.func176 slices_DeleteFunc_tunnel_sent_tunnel_sent.k (args := [Kd.av .L p0, Kd.av .U p1]) (slices_DeleteFunc_tunnel_sent_tunnel_sent.t p0 p1 Q w) h

/-- (*flume/tunnel.Tunnel).slide -/
def an_tunnel_Tunnel_slide : Nat → LA
  | 0 => [] | 1000002 => [(0, .nil)] | 1000003 => [(0, .nil)] | _ => []
def tunnel_Tunnel_slide (p0 : Option Addr) (Q : Unit → World → Prop) (w : World) : Prop :=
 lp (α := Unit) (fun K => K ()) w fun D3 J4 s1 w2 =>
 let j2 := (fun  (w84 : World) =>
    nz p0 fun a85 => ld (.I .i64) w84 (a85.add 2) fun (x86 : Int) => nz p0 fun a87 => st1 w84 (a87.add 2) (.int .i64 (IntKind.i64.wrap (x86 + 1))) fun w88 => let j3 := (fun  (w132 : World) =>
    dr w132 fun w133 => nz p0 fun a134 => ld (.I .i64) w133 (a134.add 8) fun (x135 : Int) => nz p0 fun a136 => ld (.I .i64) w133 (a136.add 2) fun (x137 : Int) => nz p0 fun a138 => ld .L w133 (a138.add 4) fun (x139 : Sl) => ixa x139.a x139.n 0 1 fun a140 => ld .L w133 a140 fun (x141 : Sl) => cl Tryz.prog n_tunnel_Tunnel_say #[.pointer p0, (Kd.av k_api_Frame (2, (0, (x135, (x137, (0, (0, (x141, ())))))))).val] (.tup .nil) w133 fun (x142 : Unit) w143 => nz p0 fun a144 => ld .L w143 (a144.add 4) fun (x145 : Sl) => sls x145 1 x145.n 1 fun r146 => cl Tryz.prog n_slices_Clone_rows_byte_byte #[.slice r146.a r146.n r146.c] .L w143 fun (x147 : Sl) w148 => nz p0 fun a149 => st1 w148 (a149.add 4) (.slice x147.a x147.n x147.c) fun w150 => J4 () w150);
  dr w88 fun w89 => nz p0 fun a90 => ld .L w89 (a90.add 3) fun (x91 : Sl) => nz p0 fun a92 => ld (.I .i64) w89 (a92.add 2) fun (x93 : Int) => nz p0 fun a94 => ld .L w89 (a94.add 4) fun (x95 : Sl) => ixa x95.a x95.n 0 1 fun a96 => ld .L w89 a96 fun (x97 : Sl) => (cl Tryz.prog n_slices_Clone_tunnel_sent_tunnel_sent #[.slice x91.a x91.n x91.c] .L w89 fun (x98 : Sl) w99 => Fr w89 w99 ∧ nw w99 [.int .i64 x93, .slice x97.a x97.n x97.c, .int .i64 0] t_tunnel_sent fun a100 w101 => Fr w99 w101 ∧ app Tryz.prog t_s_tunnel_sent t_s_tunnel_sent x98 ⟨(some a100), 1, 1⟩ w101 fun r102 w103 => nz p0 fun a104 => st1 w103 (a104.add 3) (.slice r102.a r102.n r102.c) fun w105 => j3 w105) ∧ (nw w89 [.int .i64 x93, .slice x97.a x97.n x97.c, .int .i64 0] t_tunnel_sent fun a106 w107 => Fr w89 w107 ∧ cl Tryz.prog n_slices_Clone_tunnel_sent_tunnel_sent #[.slice x91.a x91.n x91.c] .L w107 fun (x108 : Sl) w109 => Fr w107 w109 ∧ app Tryz.prog t_s_tunnel_sent t_s_tunnel_sent x108 ⟨(some a106), 1, 1⟩ w109 fun r110 w111 => nz p0 fun a112 => st1 w111 (a112.add 3) (.slice r110.a r110.n r110.c) fun w113 => j3 w113));
  nz p0 fun a5 => ld .L w2 (a5.add 4) fun (x6 : Sl) => bif (decide ((x6.n : Int) > 0)) then (nz p0 fun a7 => ld .L w2 (a7.add 3) fun (x8 : Sl) => bif ((x8.n : Int) == 0) then (dr w2 fun w9 => j2 w9) else nz p0 fun a10 => ld (.I .i64) w2 (a10.add 2) fun (x11 : Int) => nz p0 fun a12 => ld .L w2 (a12.add 3) fun (x13 : Sl) => ixa x13.a x13.n 0 3 fun a14 => ld (.I .i64) w2 a14 fun (x15 : Int) => dr w2 fun w16 => bif (decide ((IntKind.i64.wrap ((IntKind.i64.wrap (x11 + 1)) - x15)) < 16)) then
  (j2 w16)
  else Q () w16) else dr w2 fun w17 => Q () w17
theorem tunnel_Tunnel_slide.t (p0 : Option Addr) (Q : Unit → World → Prop) (w : World) : tunnel_Tunnel_slide p0 Q w = fvc Tryz.prog an_tunnel_Tunnel_slide Tryz.f178 (.tup .nil) [Kd.av .P p0] w Q := by kernel_rfl
theorem tunnel_Tunnel_slide.k : fnOk Tryz.prog Tryz.f178 = true := by kernel_rfl
theorem tunnel_Tunnel_slide.cl {p0 : Option Addr} {Q : Unit → World → Prop} {w : World} (h : tunnel_Tunnel_slide p0 Q w) : cl Tryz.prog n_tunnel_Tunnel_slide #[.pointer p0] (.tup .nil) w Q :=
  cl_tie Tryz.func178 tunnel_Tunnel_slide.k (args := [Kd.av .P p0]) (tunnel_Tunnel_slide.t p0 Q w) h

/-- flume/octet.look -/
def an_octet_look : Nat → LA
  | 11 => [(6, (.I .u64)), (36, (.I .i64))] | _ => []
def octet_look (p0 : Sl) (Q : (Int × (Int × (Int × Unit))) → World → Prop) (w : World) : Prop :=
 bif ((p0.n : Int) == 0) then
 (Q (0, (0, (2, ()))) w)
 else ixa p0.a p0.n 0 1 fun a1 => ld (.I .u8) w a1 fun (x2 : Int) => cl Tryz.prog n_math_bits_LeadingZeros8 #[.int .u8 (bits .xor .u8 255 x2)] (.I .i64) w fun (x3 : Int) w4 => bif (decide ((p0.n : Int) ≤ x3)) then
 (Q (0, (0, (2, ()))) w4)
 else ixa p0.a p0.n 0 1 fun a5 => ld (.I .u8) w4 a5 fun (x6 : Int) => let j1 := (fun (y16 : Int) (w17 : World) =>
   sls p0 1 (IntKind.i64.wrap (x3 + 1)) 1 fun r18 => lp (α := (Int × (Int × Unit))) (fun K => K (y16, (0, ()))) w17 fun D21 J22 s19 w20 =>
 bif (decide (s19.2.1 < (r18.n : Int))) then
  (ixa r18.a r18.n s19.2.1 1 fun a23 => ld (.I .u8) w20 a23 fun (x24 : Int) => J22 ((bits .or .u64 (IntKind.u64.wrap (s19.1 * 2 ^ (min 8 64))) (IntKind.u64.wrap x24)), ((IntKind.i64.wrap (s19.2.1 + 1)), ())) w20)
  else bif (decide (s19.1 > 9223372036854775807)) then
 (Q (0, (0, (5, ()))) w20)
 else cl Tryz.prog n_octet_more #[.int .u64 s19.1] (.I .i64) w20 fun (x25 : Int) w26 => bif (x25 != x3) then
 (Q (0, (0, (20, ()))) w26)
 else Q ((IntKind.i64.wrap s19.1), ((IntKind.i64.wrap (x3 + 1)), (0, ()))) w26);
 bif (decide (x3 < 8)) then
 (bif decide (0 ≤ x3) then (j1 (bits .and .u64 (IntKind.u64.wrap x6) (127 / 2 ^ (min (Int.toNat x3) 64))) w4) else False)
 else j1 0 w4
theorem octet_look.t (p0 : Sl) (Q : (Int × (Int × (Int × Unit))) → World → Prop) (w : World) : octet_look p0 Q w = fvc Tryz.prog an_octet_look Tryz.f179 (.tup (.pair (.I .i64) (.pair (.I .i64) (.pair (.I .i64) .nil)))) [Kd.av .L p0] w Q := by kernel_rfl
theorem octet_look.k : fnOk Tryz.prog Tryz.f179 = true := by kernel_rfl
theorem octet_look.cl {p0 : Sl} {Q : (Int × (Int × (Int × Unit))) → World → Prop} {w : World} (h : octet_look p0 Q w) : cl Tryz.prog n_octet_look #[.slice p0.a p0.n p0.c] (.tup (.pair (.I .i64) (.pair (.I .i64) (.pair (.I .i64) .nil)))) w Q :=
  cl_tie Tryz.func179 octet_look.k (args := [Kd.av .L p0]) (octet_look.t p0 Q w) h
end Go.Proofs.YtoglafmpllimgaaGreatDoor
set_option linter.unusedVariables false
set_option maxHeartbeats 4000000
namespace Go.Proofs.YtoglafmpllimgaaGreatDoor
open Go.Fl
/-- (*flume/tcp.Conn).window -/
def tcp_Conn_window (p0 : Option Addr) (Q : Int → World → Prop) (w : World) : Prop :=
 nz p0 fun a1 => ld .L w ((a1.add 14).add 2) fun (x2 : Sl) => Q (IntKind.i64.wrap (1024 - (x2.n : Int))) w
theorem tcp_Conn_window.t (p0 : Option Addr) (Q : Int → World → Prop) (w : World) : tcp_Conn_window p0 Q w = fvc Tryz.prog (fun _ => []) Tryz.f192 (.I .i64) [Kd.av .P p0] w Q := by kernel_rfl
theorem tcp_Conn_window.k : fnOk Tryz.prog Tryz.f192 = true := by kernel_rfl
theorem tcp_Conn_window.cl {p0 : Option Addr} {Q : Int → World → Prop} {w : World} (h : tcp_Conn_window p0 Q w) : cl Tryz.prog n_tcp_Conn_window #[.pointer p0] (.I .i64) w Q :=
  cl_tie Tryz.func192 tcp_Conn_window.k (args := [Kd.av .P p0]) (tcp_Conn_window.t p0 Q w) h

/-- flume/sums.words -/
def an_sums_words : Nat → LA
  | 3 => [(3, (.I .u64)), (8, (.I .i64))] | _ => []
def sums_words (p0 : Sl) (Q : Int → World → Prop) (w : World) : Prop :=
 lp (α := (Int × (Int × Unit))) (fun K => K (0, (0, ()))) w fun D3 J4 s1 w2 =>
 bif (decide (s1.2.1 < (p0.n : Int))) then
  (ixa p0.a p0.n s1.2.1 1 fun a5 => ld (.I .u8) w2 a5 fun (x6 : Int) => bif ((bits .and .i64 s1.2.1 1) == 0) then
  (J4 ((IntKind.u64.wrap (s1.1 + (IntKind.u64.wrap ((IntKind.u64.wrap x6) * 2 ^ (min 8 64))))), ((IntKind.i64.wrap (s1.2.1 + 1)), ())) w2)
  else J4 ((IntKind.u64.wrap (s1.1 + (IntKind.u64.wrap x6))), ((IntKind.i64.wrap (s1.2.1 + 1)), ())) w2)
  else Q s1.1 w2
theorem sums_words.t (p0 : Sl) (Q : Int → World → Prop) (w : World) : sums_words p0 Q w = fvc Tryz.prog an_sums_words Tryz.f195 (.I .u64) [Kd.av .L p0] w Q := by kernel_rfl
theorem sums_words.k : fnOk Tryz.prog Tryz.f195 = true := by kernel_rfl
theorem sums_words.cl {p0 : Sl} {Q : Int → World → Prop} {w : World} (h : sums_words p0 Q w) : cl Tryz.prog n_sums_words #[.slice p0.a p0.n p0.c] (.I .u64) w Q :=
  cl_tie Tryz.func195 sums_words.k (args := [Kd.av .L p0]) (sums_words.t p0 Q w) h

/-- flume/sums.fold -/
def an_sums_fold : Nat → LA
  | 1 => [(0, (.I .u64))] | _ => []
def sums_fold (p0 : Int) (Q : Int → World → Prop) (w : World) : Prop :=
 lp (α := (Int × Unit)) (fun K => K (p0, ())) w fun D3 J4 s1 w2 =>
 bif (decide (s1.1 > 65535)) then
  (J4 ((IntKind.u64.wrap ((s1.1 / 2 ^ (min 16 64)) + (bits .and .u64 s1.1 65535))), ()) w2)
  else Q (IntKind.u16.wrap s1.1) w2
theorem sums_fold.t (p0 : Int) (Q : Int → World → Prop) (w : World) : sums_fold p0 Q w = fvc Tryz.prog an_sums_fold Tryz.f194 (.I .u16) [Kd.av (.I .u64) p0] w Q := by kernel_rfl
theorem sums_fold.k : fnOk Tryz.prog Tryz.f194 = true := by kernel_rfl
theorem sums_fold.cl {p0 : Int} {Q : Int → World → Prop} {w : World} (h : sums_fold p0 Q w) : cl Tryz.prog n_sums_fold #[.int .u64 p0] (.I .u16) w Q :=
  cl_tie Tryz.func194 sums_fold.k (args := [Kd.av (.I .u64) p0]) (sums_fold.t p0 Q w) h

/-- flume/packet.within -/
def packet_within (p0 : Int) (p1 : Int) (Q : Bool → World → Prop) (w : World) : Prop :=
 bif (decide (p0 ≥ 0)) then
 (Q (decide (p0 ≤ p1)) w)
 else Q false w
theorem packet_within.t (p0 : Int) (p1 : Int) (Q : Bool → World → Prop) (w : World) : packet_within p0 p1 Q w = fvc Tryz.prog (fun _ => []) Tryz.f196 .B [Kd.av (.I .i64) p0, Kd.av (.I .i64) p1] w Q := by kernel_rfl
theorem packet_within.k : fnOk Tryz.prog Tryz.f196 = true := by kernel_rfl
theorem packet_within.cl {p0 : Int} {p1 : Int} {Q : Bool → World → Prop} {w : World} (h : packet_within p0 p1 Q w) : cl Tryz.prog n_packet_within #[.int .i64 p0, .int .i64 p1] .B w Q :=
  cl_tie Tryz.func196 packet_within.k (args := [Kd.av (.I .i64) p0, Kd.av (.I .i64) p1]) (packet_within.t p0 p1 Q w) h

/-- flume/packet.host -/
def packet_host (p0 : Int) (Q : Bool → World → Prop) (w : World) : Prop :=
 bif (decide (p0 ≥ 1)) then
 (Q (decide (p0 ≤ 4)) w)
 else Q false w
theorem packet_host.t (p0 : Int) (Q : Bool → World → Prop) (w : World) : packet_host p0 Q w = fvc Tryz.prog (fun _ => []) Tryz.f197 .B [Kd.av (.I .i64) p0] w Q := by kernel_rfl
theorem packet_host.k : fnOk Tryz.prog Tryz.f197 = true := by kernel_rfl
theorem packet_host.cl {p0 : Int} {Q : Bool → World → Prop} {w : World} (h : packet_host p0 Q w) : cl Tryz.prog n_packet_host #[.int .i64 p0] .B w Q :=
  cl_tie Tryz.func197 packet_host.k (args := [Kd.av (.I .i64) p0]) (packet_host.t p0 Q w) h

/-- flume/packet.lay[int] -/
def an_packet_lay_int : Nat → LA
  | 3 => [(11, (.I .i64))] | _ => []
def packet_lay_int (p0 : Int) (p1 : Int) (Q : Sl → World → Prop) (w : World) : Prop :=
 mks Tryz.prog t_s_uint8 p1 p1 w fun r1 w2 => lp (α := (Int × Unit)) (fun K => K (0, ())) w2 fun D5 J6 s3 w4 =>
 bif (decide (s3.1 < (r1.n : Int))) then
  (bif decide (0 ≤ (IntKind.i64.wrap (8 * (IntKind.i64.wrap ((IntKind.i64.wrap (p1 - 1)) - s3.1))))) then (ixa r1.a r1.n s3.1 1 fun a7 => st1 w4 a7 (.int .u8 (IntKind.u8.wrap (p0 / 2 ^ (min (Int.toNat (IntKind.i64.wrap (8 * (IntKind.i64.wrap ((IntKind.i64.wrap (p1 - 1)) - s3.1))))) 64)))) fun w8 => J6 ((IntKind.i64.wrap (s3.1 + 1)), ()) w8) else False)
  else Q r1 w4
theorem packet_lay_int.t (p0 : Int) (p1 : Int) (Q : Sl → World → Prop) (w : World) : packet_lay_int p0 p1 Q w = fvc Tryz.prog an_packet_lay_int Tryz.f199 .L [Kd.av (.I .i64) p0, Kd.av (.I .i64) p1] w Q := by kernel_rfl
theorem packet_lay_int.k : fnOk Tryz.prog Tryz.f199 = true := by kernel_rfl
theorem packet_lay_int.cl {p0 : Int} {p1 : Int} {Q : Sl → World → Prop} {w : World} (h : packet_lay_int p0 p1 Q w) : cl Tryz.prog n_packet_lay_int #[.int .i64 p0, .int .i64 p1] .L w Q :=
  cl_tie Tryz.func199 packet_lay_int.k (args := [Kd.av (.I .i64) p0, Kd.av (.I .i64) p1]) (packet_lay_int.t p0 p1 Q w) h

/-- flume/packet.lay[uint32] -/
def an_packet_lay_uint32 : Nat → LA
  | 3 => [(11, (.I .i64))] | _ => []
def packet_lay_uint32 (p0 : Int) (p1 : Int) (Q : Sl → World → Prop) (w : World) : Prop :=
 mks Tryz.prog t_s_uint8 p1 p1 w fun r1 w2 => lp (α := (Int × Unit)) (fun K => K (0, ())) w2 fun D5 J6 s3 w4 =>
 bif (decide (s3.1 < (r1.n : Int))) then
  (bif decide (0 ≤ (IntKind.i64.wrap (8 * (IntKind.i64.wrap ((IntKind.i64.wrap (p1 - 1)) - s3.1))))) then (ixa r1.a r1.n s3.1 1 fun a7 => st1 w4 a7 (.int .u8 (IntKind.u8.wrap (p0 / 2 ^ (min (Int.toNat (IntKind.i64.wrap (8 * (IntKind.i64.wrap ((IntKind.i64.wrap (p1 - 1)) - s3.1))))) 32)))) fun w8 => J6 ((IntKind.i64.wrap (s3.1 + 1)), ()) w8) else False)
  else Q r1 w4
theorem packet_lay_uint32.t (p0 : Int) (p1 : Int) (Q : Sl → World → Prop) (w : World) : packet_lay_uint32 p0 p1 Q w = fvc Tryz.prog an_packet_lay_uint32 Tryz.f200 .L [Kd.av (.I .u32) p0, Kd.av (.I .i64) p1] w Q := by kernel_rfl
theorem packet_lay_uint32.k : fnOk Tryz.prog Tryz.f200 = true := by kernel_rfl
theorem packet_lay_uint32.cl {p0 : Int} {p1 : Int} {Q : Sl → World → Prop} {w : World} (h : packet_lay_uint32 p0 p1 Q w) : cl Tryz.prog n_packet_lay_uint32 #[.int .u32 p0, .int .i64 p1] .L w Q :=
  cl_tie Tryz.func200 packet_lay_uint32.k (args := [Kd.av (.I .u32) p0, Kd.av (.I .i64) p1]) (packet_lay_uint32.t p0 p1 Q w) h

/-- slices.Grow[[]byte,byte] -/
def slices_Grow_byte_byte (p0 : Sl) (p1 : Int) (Q : Sl → World → Prop) (w : World) : Prop :=
 bif (decide (p1 < 0)) then
 (False)
 else rn Tryz.prog (Builtin.cap_ #[t_s_uint8] t_int #[.slice p0.a p0.n p0.c]) (.I .i64) w fun (x1 : Int) w2 => bif (decide ((IntKind.i64.wrap (p1 - (IntKind.i64.wrap (x1 - (p0.n : Int))))) > 0)) then
 (rn Tryz.prog (Builtin.cap_ #[t_s_uint8] t_int #[.slice p0.a p0.n p0.c]) (.I .i64) w2 fun (x3 : Int) w4 => sls p0 0 x3 1 fun r5 => rn Tryz.prog (Builtin.append_ #[t_s_uint8, t_int] t_s_uint8 #[.slice r5.a r5.n r5.c, .int .i64 (IntKind.i64.wrap (p1 - (IntKind.i64.wrap (x1 - (p0.n : Int)))))]) .L w4 fun (r6 : Sl) w7 => sls r6 0 (p0.n : Int) 1 fun r8 => Q r8 w7)
 else Q p0 w2
theorem slices_Grow_byte_byte.t (p0 : Sl) (p1 : Int) (Q : Sl → World → Prop) (w : World) : slices_Grow_byte_byte p0 p1 Q w = fvc Tryz.prog (fun _ => []) Tryz.f198 .L [Kd.av .L p0, Kd.av (.I .i64) p1] w Q := by kernel_rfl
theorem slices_Grow_byte_byte.k : fnOk Tryz.prog Tryz.f198 = true := by kernel_rfl
theorem slices_Grow_byte_byte.cl {p0 : Sl} {p1 : Int} {Q : Sl → World → Prop} {w : World} (h : slices_Grow_byte_byte p0 p1 Q w) : cl Tryz.prog n_slices_Grow_byte_byte #[.slice p0.a p0.n p0.c, .int .i64 p1] .L w Q :=
  cl_tie Tryz.func198 slices_Grow_byte_byte.k (args := [Kd.av .L p0, Kd.av (.I .i64) p1]) (slices_Grow_byte_byte.t p0 p1 Q w) h

end Go.Proofs.YtoglafmpllimgaaGreatDoor
set_option linter.unusedVariables false
set_option maxHeartbeats 4000000
namespace Go.Proofs.YtoglafmpllimgaaGreatDoor
open Go.Fl
/-- flume/octet.Number -/
def an_octet_Number : Nat → LA
  | 8 => [(8, .L), (9, (.I .i64))] | _ => []
def octet_Number (p0 : Sl) (p1 : Int) (Q : Sl → World → Prop) (w : World) : Prop :=
 cl Tryz.prog n_octet_more #[.int .u64 (IntKind.u64.wrap (max p1 0))] (.I .i64) w fun (x1 : Int) w2 => bif decide (0 ≤ (IntKind.i64.wrap (8 - x1))) then (let j1 := (fun (y19 : Int) (w20 : World) =>
   mks Tryz.prog t_s_uint8 0 (IntKind.i64.wrap ((p0.n : Int) + 9)) w20 fun r21 w22 => app Tryz.prog t_s_uint8 t_s_uint8 r21 p0 w22 fun r23 w24 => nw w24 [.int .u8 y19] t_uint8 fun a25 w26 => app Tryz.prog t_s_uint8 t_s_uint8 r23 ⟨(some a25), 1, 1⟩ w26 fun r27 w28 => lp (α := (Sl × (Int × Unit))) (fun K => K (r27, ((IntKind.i64.wrap (x1 - 1)), ()))) w28 fun D31 J32 s29 w30 =>
 bif (decide (s29.2.1 ≥ 0)) then
  (bif decide (0 ≤ (IntKind.i64.wrap (8 * s29.2.1))) then (nw w30 [.int .u8 (IntKind.u8.wrap ((IntKind.u64.wrap (max p1 0)) / 2 ^ (min (Int.toNat (IntKind.i64.wrap (8 * s29.2.1))) 64)))] t_uint8 fun a33 w34 => app Tryz.prog t_s_uint8 t_s_uint8 s29.1 ⟨(some a33), 1, 1⟩ w34 fun r35 w36 => J32 (r35, ((IntKind.i64.wrap (s29.2.1 - 1)), ())) w36) else False)
  else Q s29.1 w30);
 bif (decide (x1 < 8)) then
 (bif decide (0 ≤ (IntKind.i64.wrap (8 * x1))) then (j1 (bits .or .u8 (IntKind.u8.wrap (255 * 2 ^ (min (Int.toNat (IntKind.i64.wrap (8 - x1))) 8))) (IntKind.u8.wrap ((IntKind.u64.wrap (max p1 0)) / 2 ^ (min (Int.toNat (IntKind.i64.wrap (8 * x1))) 64)))) w2) else False)
 else j1 (IntKind.u8.wrap (255 * 2 ^ (min (Int.toNat (IntKind.i64.wrap (8 - x1))) 8))) w2) else False
theorem octet_Number.t (p0 : Sl) (p1 : Int) (Q : Sl → World → Prop) (w : World) : octet_Number p0 p1 Q w = fvc Tryz.prog an_octet_Number Tryz.f208 .L [Kd.av .L p0, Kd.av (.I .i64) p1] w Q := by kernel_rfl
theorem octet_Number.k : fnOk Tryz.prog Tryz.f208 = true := by kernel_rfl
theorem octet_Number.cl {p0 : Sl} {p1 : Int} {Q : Sl → World → Prop} {w : World} (h : octet_Number p0 p1 Q w) : cl Tryz.prog n_octet_Number #[.slice p0.a p0.n p0.c, .int .i64 p1] .L w Q :=
  cl_tie Tryz.func208 octet_Number.k (args := [Kd.av .L p0, Kd.av (.I .i64) p1]) (octet_Number.t p0 p1 Q w) h

/-- slices.Clone[[][]byte,[]byte] -/
def slices_Clone_rows_byte_byte (p0 : Sl) (Q : Sl → World → Prop) (w : World) : Prop :=
 bif p0.a.isNone then
 (Q ⟨none, 0, 0⟩ w)
 else nw w [] t_s_uint8 fun a1 w2 => app Tryz.prog t_s_s_uint8 t_s_s_uint8 ⟨(some a1), 0, 0⟩ p0 w2 fun r3 w4 => Q r3 w4
theorem slices_Clone_rows_byte_byte.t (p0 : Sl) (Q : Sl → World → Prop) (w : World) : slices_Clone_rows_byte_byte p0 Q w = fvc Tryz.prog (fun _ => []) Tryz.f211 .L [Kd.av .L p0] w Q := by kernel_rfl
theorem slices_Clone_rows_byte_byte.k : fnOk Tryz.prog Tryz.f211 = true := by kernel_rfl
theorem slices_Clone_rows_byte_byte.cl {p0 : Sl} {Q : Sl → World → Prop} {w : World} (h : slices_Clone_rows_byte_byte p0 Q w) : cl Tryz.prog n_slices_Clone_rows_byte_byte #[.slice p0.a p0.n p0.c] .L w Q :=
  cl_tie Tryz.func211 slices_Clone_rows_byte_byte.k (args := [Kd.av .L p0]) (slices_Clone_rows_byte_byte.t p0 Q w) h

end Go.Proofs.YtoglafmpllimgaaGreatDoor
set_option linter.unusedVariables false
set_option maxHeartbeats 4000000
namespace Go.Proofs.YtoglafmpllimgaaGreatDoor
open Go.Fl
/-- flume/sums.Crc -/
def an_sums_Crc : Nat → LA
  | 3 => [(3, (.I .u32)), (10, (.I .i64))] | 6 => [(3, (.I .u32)), (16, (.I .i64))] | _ => []
def sums_Crc (p0 : Sl) (Q : Int → World → Prop) (w : World) : Prop :=
 lp (α := (Int × (Int × Unit))) (fun K => K (4294967295, (0, ()))) w fun D3 J4 s1 w2 =>
 bif (decide (s1.2.1 < (p0.n : Int))) then
  (ixa p0.a p0.n s1.2.1 1 fun a5 => ld .L w2 a5 fun (x6 : Sl) => lp (α := (Int × (Int × Unit))) (fun K => K (s1.1, (0, ()))) w2 fun D9 J10 s7 w8 =>
  bif (decide (s7.2.1 < (x6.n : Int))) then
   (ixa x6.a x6.n s7.2.1 1 fun a11 => ld (.I .u8) w8 a11 fun (x12 : Int) => ixa (some ⟨g_sums_nibbles, 0, none⟩) 16 (bits .and .u32 (bits .xor .u32 s7.1 (IntKind.u32.wrap x12)) 15) 1 fun a13 => ld (.I .u32) w8 a13 fun (x14 : Int) => ixa (some ⟨g_sums_nibbles, 0, none⟩) 16 (bits .and .u32 (bits .xor .u32 ((bits .xor .u32 s7.1 (IntKind.u32.wrap x12)) / 2 ^ (min 4 32)) x14) 15) 1 fun a15 => ld (.I .u32) w8 a15 fun (x16 : Int) => J10 ((bits .xor .u32 ((bits .xor .u32 ((bits .xor .u32 s7.1 (IntKind.u32.wrap x12)) / 2 ^ (min 4 32)) x14) / 2 ^ (min 4 32)) x16), ((IntKind.i64.wrap (s7.2.1 + 1)), ())) w8)
   else J4 (s7.1, ((IntKind.i64.wrap (s1.2.1 + 1)), ())) w8)
  else Q (bits .xor .u32 4294967295 s1.1) w2
theorem sums_Crc.t (p0 : Sl) (Q : Int → World → Prop) (w : World) : sums_Crc p0 Q w = fvc Tryz.prog an_sums_Crc Tryz.f226 (.I .u32) [Kd.av .L p0] w Q := by kernel_rfl
theorem sums_Crc.k : fnOk Tryz.prog Tryz.f226 = true := by kernel_rfl
theorem sums_Crc.cl {p0 : Sl} {Q : Int → World → Prop} {w : World} (h : sums_Crc p0 Q w) : cl Tryz.prog n_sums_Crc #[.slice p0.a p0.n p0.c] (.I .u32) w Q :=
  cl_tie Tryz.func226 sums_Crc.k (args := [Kd.av .L p0]) (sums_Crc.t p0 Q w) h

/-- flume/octet.Numbers -/
def an_octet_Numbers : Nat → LA
  | 2 => [(0, .L), (9, (.I .i64))] | _ => []
def octet_Numbers (p0 : Sl) (p1 : Sl) (Q : Sl → World → Prop) (w : World) : Prop :=
 lp (α := (Sl × (Int × Unit))) (fun K => K (p0, (0, ()))) w fun D3 J4 s1 w2 =>
 bif (decide (s1.2.1 < (p1.n : Int))) then
  (ixa p1.a p1.n s1.2.1 1 fun a5 => ld (.I .i64) w2 a5 fun (x6 : Int) => cl Tryz.prog n_octet_Number #[.slice s1.1.a s1.1.n s1.1.c, .int .i64 x6] .L w2 fun (x7 : Sl) w8 => J4 (x7, ((IntKind.i64.wrap (s1.2.1 + 1)), ())) w8)
  else Q s1.1 w2
theorem octet_Numbers.t (p0 : Sl) (p1 : Sl) (Q : Sl → World → Prop) (w : World) : octet_Numbers p0 p1 Q w = fvc Tryz.prog an_octet_Numbers Tryz.f227 .L [Kd.av .L p0, Kd.av .L p1] w Q := by kernel_rfl
theorem octet_Numbers.k : fnOk Tryz.prog Tryz.f227 = true := by kernel_rfl
theorem octet_Numbers.cl {p0 : Sl} {p1 : Sl} {Q : Sl → World → Prop} {w : World} (h : octet_Numbers p0 p1 Q w) : cl Tryz.prog n_octet_Numbers #[.slice p0.a p0.n p0.c, .slice p1.a p1.n p1.c] .L w Q :=
  cl_tie Tryz.func227 octet_Numbers.k (args := [Kd.av .L p0, Kd.av .L p1]) (octet_Numbers.t p0 p1 Q w) h

/-- flume/octet.Text -/
def octet_Text (p0 : Sl) (p1 : Sl) (Q : Sl → World → Prop) (w : World) : Prop :=
 cl Tryz.prog n_octet_Number #[.slice p0.a p0.n p0.c, .int .i64 (p1.n : Int)] .L w fun (x1 : Sl) w2 => app Tryz.prog t_s_uint8 t_s_uint8 x1 p1 w2 fun r3 w4 => Q r3 w4
theorem octet_Text.t (p0 : Sl) (p1 : Sl) (Q : Sl → World → Prop) (w : World) : octet_Text p0 p1 Q w = fvc Tryz.prog (fun _ => []) Tryz.f229 .L [Kd.av .L p0, Kd.av .L p1] w Q := by kernel_rfl
theorem octet_Text.k : fnOk Tryz.prog Tryz.f229 = true := by kernel_rfl
theorem octet_Text.cl {p0 : Sl} {p1 : Sl} {Q : Sl → World → Prop} {w : World} (h : octet_Text p0 p1 Q w) : cl Tryz.prog n_octet_Text #[.slice p0.a p0.n p0.c, .slice p1.a p1.n p1.c] .L w Q :=
  cl_tie Tryz.func229 octet_Text.k (args := [Kd.av .L p0, Kd.av .L p1]) (octet_Text.t p0 p1 Q w) h

/-- flume/sums.Seal -/
def sums_Seal (p0 : Sl) (Q : Sl → World → Prop) (w : World) : Prop :=
 nw w [.slice p0.a p0.n p0.c] t_s_uint8 fun a1 w2 => cl Tryz.prog n_sums_Crc #[.slice (some a1) 1 1] (.I .u32) w2 fun (x3 : Int) w4 => mks Tryz.prog t_s_uint8 0 (IntKind.i64.wrap ((p0.n : Int) + 4)) w4 fun r5 w6 => app Tryz.prog t_s_uint8 t_s_uint8 r5 p0 w6 fun r7 w8 => nw w8 [.int .u8 (IntKind.u8.wrap x3), .int .u8 (IntKind.u8.wrap (x3 / 2 ^ (min 8 32))), .int .u8 (IntKind.u8.wrap (x3 / 2 ^ (min 16 32))), .int .u8 (IntKind.u8.wrap (x3 / 2 ^ (min 24 32)))] t_uint8 fun a9 w10 => app Tryz.prog t_s_uint8 t_s_uint8 r7 ⟨(some a9), 4, 4⟩ w10 fun r11 w12 => Q r11 w12
theorem sums_Seal.t (p0 : Sl) (Q : Sl → World → Prop) (w : World) : sums_Seal p0 Q w = fvc Tryz.prog (fun _ => []) Tryz.f228 .L [Kd.av .L p0] w Q := by kernel_rfl
theorem sums_Seal.k : fnOk Tryz.prog Tryz.f228 = true := by kernel_rfl
theorem sums_Seal.cl {p0 : Sl} {Q : Sl → World → Prop} {w : World} (h : sums_Seal p0 Q w) : cl Tryz.prog n_sums_Seal #[.slice p0.a p0.n p0.c] .L w Q :=
  cl_tie Tryz.func228 sums_Seal.k (args := [Kd.av .L p0]) (sums_Seal.t p0 Q w) h
end Go.Proofs.YtoglafmpllimgaaGreatDoor
set_option linter.unusedVariables false
set_option maxHeartbeats 4000000
namespace Go.Proofs.YtoglafmpllimgaaGreatDoor
open Go.Fl
/-- slices.IndexFunc[[]flume/tunnel.sent,flume/tunnel.sent] -/
def an_slices_IndexFunc_tunnel_sent_tunnel_sent : Nat → LA
  | 2 => [(8, (.I .i64))] | _ => []
def slices_IndexFunc_tunnel_sent_tunnel_sent (p0 : Sl) (p1 : Value) (Q : Int → World → Prop) (w : World) : Prop :=
 lp (α := (Int × Unit)) (fun K => K (0, ())) w fun D3 J4 s1 w2 =>
 bif (decide (s1.1 < (p0.n : Int))) then
  (ixa p0.a p0.n s1.1 3 fun a5 => ld k_tunnel_sent w2 a5 fun (x6 : y_tunnel_sent) => clv Tryz.prog (p1) #[(Kd.av k_tunnel_sent x6).val] .B w2 fun (x7 : Bool) w8 => bif x7 then
  (Q s1.1 w8)
  else J4 ((IntKind.i64.wrap (s1.1 + 1)), ()) w8)
  else Q (-1) w2
theorem slices_IndexFunc_tunnel_sent_tunnel_sent.t (p0 : Sl) (p1 : Value) (Q : Int → World → Prop) (w : World) : slices_IndexFunc_tunnel_sent_tunnel_sent p0 p1 Q w = fvc Tryz.prog an_slices_IndexFunc_tunnel_sent_tunnel_sent Tryz.f230 (.I .i64) [Kd.av .L p0, Kd.av .U p1] w Q := by kernel_rfl
theorem slices_IndexFunc_tunnel_sent_tunnel_sent.k : fnOk Tryz.prog Tryz.f230 = true := by kernel_rfl
theorem slices_IndexFunc_tunnel_sent_tunnel_sent.cl {p0 : Sl} {p1 : Value} {Q : Int → World → Prop} {w : World} (h : slices_IndexFunc_tunnel_sent_tunnel_sent p0 p1 Q w) : cl Tryz.prog n_slices_IndexFunc_tunnel_sent_tunnel_sent #[.slice p0.a p0.n p0.c, p1] (.I .i64) w Q :=
  cl_tie Tryz.func230 slices_IndexFunc_tunnel_sent_tunnel_sent.k (args := [Kd.av .L p0, Kd.av .U p1]) (slices_IndexFunc_tunnel_sent_tunnel_sent.t p0 p1 Q w) h

/-- math/bits.LeadingZeros8 -/
def math_bits_LeadingZeros8 (p0 : Int) (Q : Int → World → Prop) (w : World) : Prop :=
 cl Tryz.prog n_math_bits_Len8 #[.int .u8 p0] (.I .i64) w fun (x1 : Int) w2 => Q (IntKind.i64.wrap (8 - x1)) w2
theorem math_bits_LeadingZeros8.t (p0 : Int) (Q : Int → World → Prop) (w : World) : math_bits_LeadingZeros8 p0 Q w = fvc Tryz.prog (fun _ => []) Tryz.f231 (.I .i64) [Kd.av (.I .u8) p0] w Q := by kernel_rfl
theorem math_bits_LeadingZeros8.k : fnOk Tryz.prog Tryz.f231 = true := by kernel_rfl
theorem math_bits_LeadingZeros8.cl {p0 : Int} {Q : Int → World → Prop} {w : World} (h : math_bits_LeadingZeros8 p0 Q w) : cl Tryz.prog n_math_bits_LeadingZeros8 #[.int .u8 p0] (.I .i64) w Q :=
  cl_tie Tryz.func231 math_bits_LeadingZeros8.k (args := [Kd.av (.I .u8) p0]) (math_bits_LeadingZeros8.t p0 Q w) h

/-- flume/octet.more -/
def an_octet_more : Nat → LA
  | 2 => [(4, (.I .i64))] | _ => []
def octet_more (p0 : Int) (Q : Int → World → Prop) (w : World) : Prop :=
 lp (α := (Int × Unit)) (fun K => K (0, ())) w fun D3 J4 s1 w2 =>
 bif (decide (s1.1 < 8)) then
  (bif decide (0 ≤ (IntKind.i64.wrap (7 * (IntKind.i64.wrap (s1.1 + 1))))) then (bif (decide (p0 < (IntKind.u64.wrap (1 * 2 ^ (min (Int.toNat (IntKind.i64.wrap (7 * (IntKind.i64.wrap (s1.1 + 1))))) 64))))) then
  (Q s1.1 w2)
  else J4 ((IntKind.i64.wrap (s1.1 + 1)), ()) w2) else False)
  else Q 8 w2
theorem octet_more.t (p0 : Int) (Q : Int → World → Prop) (w : World) : octet_more p0 Q w = fvc Tryz.prog an_octet_more Tryz.f232 (.I .i64) [Kd.av (.I .u64) p0] w Q := by kernel_rfl
theorem octet_more.k : fnOk Tryz.prog Tryz.f232 = true := by kernel_rfl
theorem octet_more.cl {p0 : Int} {Q : Int → World → Prop} {w : World} (h : octet_more p0 Q w) : cl Tryz.prog n_octet_more #[.int .u64 p0] (.I .i64) w Q :=
  cl_tie Tryz.func232 octet_more.k (args := [Kd.av (.I .u64) p0]) (octet_more.t p0 Q w) h

end Go.Proofs.YtoglafmpllimgaaGreatDoor
set_option linter.unusedVariables false
set_option maxHeartbeats 4000000
namespace Go.Proofs.YtoglafmpllimgaaGreatDoor
open Go.Fl
/-- math/bits.Len8 -/
def math_bits_Len8 (p0 : Int) (Q : Int → World → Prop) (w : World) : Prop :=
 0 ≤ p0 ∧ p0 < ((⟨#[0, 1, 2, 2, 3, 3, 3, 3, 4, 4, 4, 4, 4, 4, 4, 4, 5, 5, 5, 5, 5, 5, 5, 5, 5, 5, 5, 5, 5, 5, 5, 5, 6, 6, 6, 6, 6, 6, 6, 6, 6, 6, 6, 6, 6, 6, 6, 6, 6, 6, 6, 6, 6, 6, 6, 6, 6, 6, 6, 6, 6, 6, 6, 6, 7, 7, 7, 7, 7, 7, 7, 7, 7, 7, 7, 7, 7, 7, 7, 7, 7, 7, 7, 7, 7, 7, 7, 7, 7, 7, 7, 7, 7, 7, 7, 7, 7, 7, 7, 7, 7, 7, 7, 7, 7, 7, 7, 7, 7, 7, 7, 7, 7, 7, 7, 7, 7, 7, 7, 7, 7, 7, 7, 7, 7, 7, 7, 7, 8, 8, 8, 8, 8, 8, 8, 8, 8, 8, 8, 8, 8, 8, 8, 8, 8, 8, 8, 8, 8, 8, 8, 8, 8, 8, 8, 8, 8, 8, 8, 8, 8, 8, 8, 8, 8, 8, 8, 8, 8, 8, 8, 8, 8, 8, 8, 8, 8, 8, 8, 8, 8, 8, 8, 8, 8, 8, 8, 8, 8, 8, 8, 8, 8, 8, 8, 8, 8, 8, 8, 8, 8, 8, 8, 8, 8, 8, 8, 8, 8, 8, 8, 8, 8, 8, 8, 8, 8, 8, 8, 8, 8, 8, 8, 8, 8, 8, 8, 8, 8, 8, 8, 8, 8, 8, 8, 8, 8, 8, 8, 8, 8, 8, 8, 8, 8, 8, 8, 8, 8, 8, 8, 8, 8, 8, 8, 8]⟩ : ByteArray).size : Int) ∧ (Q (IntKind.i64.wrap (((⟨#[0, 1, 2, 2, 3, 3, 3, 3, 4, 4, 4, 4, 4, 4, 4, 4, 5, 5, 5, 5, 5, 5, 5, 5, 5, 5, 5, 5, 5, 5, 5, 5, 6, 6, 6, 6, 6, 6, 6, 6, 6, 6, 6, 6, 6, 6, 6, 6, 6, 6, 6, 6, 6, 6, 6, 6, 6, 6, 6, 6, 6, 6, 6, 6, 7, 7, 7, 7, 7, 7, 7, 7, 7, 7, 7, 7, 7, 7, 7, 7, 7, 7, 7, 7, 7, 7, 7, 7, 7, 7, 7, 7, 7, 7, 7, 7, 7, 7, 7, 7, 7, 7, 7, 7, 7, 7, 7, 7, 7, 7, 7, 7, 7, 7, 7, 7, 7, 7, 7, 7, 7, 7, 7, 7, 7, 7, 7, 7, 8, 8, 8, 8, 8, 8, 8, 8, 8, 8, 8, 8, 8, 8, 8, 8, 8, 8, 8, 8, 8, 8, 8, 8, 8, 8, 8, 8, 8, 8, 8, 8, 8, 8, 8, 8, 8, 8, 8, 8, 8, 8, 8, 8, 8, 8, 8, 8, 8, 8, 8, 8, 8, 8, 8, 8, 8, 8, 8, 8, 8, 8, 8, 8, 8, 8, 8, 8, 8, 8, 8, 8, 8, 8, 8, 8, 8, 8, 8, 8, 8, 8, 8, 8, 8, 8, 8, 8, 8, 8, 8, 8, 8, 8, 8, 8, 8, 8, 8, 8, 8, 8, 8, 8, 8, 8, 8, 8, 8, 8, 8, 8, 8, 8, 8, 8, 8, 8, 8, 8, 8, 8, 8, 8, 8, 8, 8, 8]⟩ : ByteArray).data.toList.getD (Int.toNat p0) 0).toNat : Int)) w)
theorem math_bits_Len8.t (p0 : Int) (Q : Int → World → Prop) (w : World) : math_bits_Len8 p0 Q w = fvc Tryz.prog (fun _ => []) Tryz.f251 (.I .i64) [Kd.av (.I .u8) p0] w Q := by kernel_rfl
theorem math_bits_Len8.k : fnOk Tryz.prog Tryz.f251 = true := by kernel_rfl
theorem math_bits_Len8.cl {p0 : Int} {Q : Int → World → Prop} {w : World} (h : math_bits_Len8 p0 Q w) : cl Tryz.prog n_math_bits_Len8 #[.int .u8 p0] (.I .i64) w Q :=
  cl_tie Tryz.func251 math_bits_Len8.k (args := [Kd.av (.I .u8) p0]) (math_bits_Len8.t p0 Q w) h

end Go.Proofs.YtoglafmpllimgaaGreatDoor
namespace Go.Fl
open Go.RowKit

theorem bP {p : Prop} [Decidable p] {X Y : Prop} (h : p) (k : X) : bif decide p then X else Y := by rw [decide_eq_true h]; exact k
theorem bN {p : Prop} [Decidable p] {X Y : Prop} (h : ¬p) (k : Y) : bif decide p then X else Y := by rw [decide_eq_false h]; exact k
theorem bD {p : Prop} [Decidable p] {X Y : Prop} (ht : p → X) (hf : ¬p → Y) : bif decide p then X else Y := by
  by_cases h : p
  · exact bP h (ht h)
  · exact bN h (hf h)
theorem bT {b : Bool} {X Y : Prop} (h : b = true) (k : X) : bif b then X else Y := by rw [h]; exact k
theorem bF {b : Bool} {X Y : Prop} (h : b = false) (k : Y) : bif b then X else Y := by rw [h]; exact k
theorem bB {b : Bool} {X Y : Prop} (ht : b = true → X) (hf : b = false → Y) : bif b then X else Y := by cases b; exact hf rfl; exact ht rfl
theorem bE {a b : Int} {X Y : Prop} (ht : a = b → X) (hf : a ≠ b → Y) : bif a == b then X else Y := by
  by_cases h : a = b
  · exact bT (by simpa using h) (ht h)
  · exact bF (by simpa using h) (hf h)
theorem bNe {a b : Int} {X Y : Prop} (ht : a ≠ b → X) (hf : a = b → Y) : bif a != b then X else Y := by
  by_cases h : a = b
  · exact bF (by simpa using h) (hf h)
  · exact bT (by simpa using h) (ht h)

theorem i64w {n : Int} (h : -9223372036854775808 ≤ n) (h' : n ≤ 9223372036854775807) : IntKind.i64.wrap n = n := by rw [IntKind.wrap_i64]; omega
theorem u64w {n : Int} (h : 0 ≤ n) (h' : n ≤ 18446744073709551615) : IntKind.u64.wrap n = n := by simp only [IntKind.wrap, IntKind.bits, IntKind.signed]; simp; omega
theorem u8w (n : Int) : IntKind.u8.wrap n = n % 256 := IntKind.wrap_u8 n
theorem u32w (n : Int) : IntKind.u32.wrap n = n % 4294967296 := IntKind.wrap_u32 n

/-- A loop: an invariant, and what every round lowers. -/
theorem lpI {α : Type} {init : (α → Prop) → Prop} {w : World} {body : (Nat → AV) → (α → World → Prop) → α → World → Prop} (J : α → World → Prop) (μ : α → World → Nat)
    (h0 : init fun s => J s w) (h : ∀ D s w', J s w' → body D (fun s' w'' => J s' w'' ∧ μ s' w'' < μ s w') s w') : lp init w body := ⟨J, μ, h0, h⟩

theorem Fr.on {a b c : World} (h : Fr a b) (k : Below a.heap.size b c) : Fr a c := Below.trans h k
theorem Fr.alloc (w : World) (o : Obj) : Fr w (w.alloc o) := (Below.refl _ w).alloc (Nat.le_refl _) o
theorem Fr.drewN (w : World) (n : Nat) : Fr w (w.drewN n) := ⟨rfl, rfl, rfl, Nat.le_refl _, fun _ _ => rfl⟩

theorem own_kept {w w' : World} {base : Nat} {e : TypeId} {size : Nat} {v : Value} {n : Nat} {xs : List Value} (h : w.ownsRow base e size v n xs) (hf : Fr w w') : w'.ownsRow base e size v n xs := by
  refine ⟨h.1, ?_⟩
  rcases h.2 with hn | ⟨g, cap, cur, rfl, hb, hgg, rest⟩
  · exact .inl hn
  · exact .inr ⟨g, cap, cur, rfl, hb, (hf.block g (Array.getElem?_eq_some_iff.1 hgg).1).trans hgg, rest⟩

/-- A slice of the call's own that holds bytes. -/
def OwB (w : World) (base : Nat) (e : TypeId) (s : Sl) (l : List UInt8) : Prop := w.ownsRow base e 1 (.slice s.a s.n s.c) s.n (u8s l)
theorem OwB.len {w : World} {base : Nat} {e : TypeId} {s : Sl} {l : List UInt8} (h : OwB w base e s l) : s.n = l.length := by
  have := h.1; rw [u8s_length] at this; omega
theorem OwB.rd {w : World} {base : Nat} {e : TypeId} {s : Sl} {l : List UInt8} (h : OwB w base e s l) : Rd w s.a (u8s l) := Rd.of_own h
theorem OwB.fr {w w' : World} {base : Nat} {e : TypeId} {s : Sl} {l : List UInt8} (h : OwB w base e s l) (hf : Fr w w') : OwB w' base e s l := own_kept h hf
theorem OwB.nil (w : World) (base : Nat) (e : TypeId) : OwB w base e ⟨none, 0, 0⟩ [] := World.ownsRow_nil w base e 1
theorem OwB.cap {w : World} {base : Nat} {e : TypeId} {s : Sl} {l : List UInt8} (h : OwB w base e s l) : s.n ≤ s.c := by
  rcases h.2 with ⟨hv, hn⟩ | ⟨g, cap, cur, hv, _, _, hc, _⟩
  · injection hv with _ h1 h2; omega
  · injection hv with _ h1 h2; omega
theorem OwB.block {w : World} {base : Nat} {e : TypeId} {s : Sl} {l : List UInt8} (h : OwB w base e s l) : ∀ k, (Value.slice s.a s.n s.c).ownBlock = some k → base ≤ k ∧ k < w.heap.size := h.lt

/-- A slice that reads as bytes. -/
structure Bs (w : World) (s : Sl) (l : List UInt8) : Prop where
  rd : Rd w s.a (u8s l)
  len : s.n = l.length
  cap : s.n ≤ s.c
theorem Bs.fr {w w' : World} {s : Sl} {l : List UInt8} (h : Bs w s l) (hf : Fr w w') : Bs w' s l := ⟨h.rd.below hf, h.len, h.cap⟩
theorem OwB.bs {w : World} {base : Nat} {e : TypeId} {s : Sl} {l : List UInt8} (h : OwB w base e s l) : Bs w s l := ⟨h.rd, h.len, h.cap⟩

theorem sl_of_own {w : World} {base : Nat} {e : TypeId} {size : Nat} {v : Value} {n : Nat} {xs : List Value} (h : w.ownsRow base e size v n xs) : ∃ s : Sl, v = .slice s.a s.n s.c ∧ s.n = n := by
  rcases h.2 with ⟨rfl, rfl⟩ | ⟨g, cap, cur, rfl, _⟩
  · exact ⟨⟨none, 0, 0⟩, rfl, rfl⟩
  · exact ⟨⟨some ⟨g, 0, none⟩, n, cap⟩, rfl, rfl⟩

/-- append onto a row of the call's own. -/
theorem app_own {P : Program} {t ty e : TypeId} {size bytes : Nat} (hT : SlT P t e size bytes) {base : Nat} {s x : Sl} {w : World} {K : Sl → World → Prop} {xs news : List Value}
    (hown : w.ownsRow base e size (.slice s.a s.n s.c) s.n xs) (hr : Rd w x.a news) (hl : news.length = x.n * size) (h1 : ∀ u ∈ news, u.oneCell' = true)
    (hb : (s.n + x.n) * bytes ≤ 140737488355328) (h63 : s.n + x.n ≤ 140737488355328) (hbase : base ≤ w.heap.size)
    (h : ∀ (r : Sl) w', r.n = s.n + x.n → w'.ownsRow base e size (.slice r.a r.n r.c) r.n (xs ++ news) → w.grownBy w' (Value.slice s.a s.n s.c).ownBlock →
      ((Value.slice r.a r.n r.c).ownBlock = (Value.slice s.a s.n s.c).ownBlock ∨ (Value.slice r.a r.n r.c).ownBlock = some w.heap.size) → K r w') : app P t ty s x w K := by
  obtain ⟨v', w', hrun, h2, h3, h4⟩ := run_append_rd (P := P) (ty := ty) hT base hown (c := x.c) hr hl h1 hb h63 hbase
  obtain ⟨r, rfl, hn⟩ := sl_of_own h2
  exact ⟨r, w', hrun, h r w' hn (hn ▸ h2) h3 h4⟩

/-- append of bytes. -/
theorem app_B {P : Program} {t ty e : TypeId} (hT : SlT P t e 1 1) {base : Nat} {s x : Sl} {w : World} {K : Sl → World → Prop} {l m : List UInt8}
    (hs : OwB w base e s l) (hx : Rd w x.a (u8s m)) (hm : m.length = x.n) (hl : l.length + m.length ≤ 140737488355328) (hbase : base ≤ w.heap.size)
    (h : ∀ (r : Sl) w', OwB w' base e r (l ++ m) → Below base w w' → (∀ k, k < w.heap.size → (Value.slice s.a s.n s.c).ownBlock ≠ some k → w'.heap[k]? = w.heap[k]?) → 
      ((Value.slice r.a r.n r.c).ownBlock = (Value.slice s.a s.n s.c).ownBlock ∨ (Value.slice r.a r.n r.c).ownBlock = some w.heap.size) → K r w') : app P t ty s x w K := by
  have hn := hs.len
  refine app_own hT hs hx (by simp [u8s_length, hm]) (u8s_one m) (by omega) (by omega) hbase fun r w' hr ho hg hat => h r w' ?_ ?_ ?_ hat
  · unfold OwB; rw [u8s_append]; exact ho
  · exact (Below.refl base w).grown hg hbase fun k hk => (hs.block k hk).1
  · exact fun k hk hne => hg.block k hk fun e => hne e.symm

/-- make([]T, 0, n). -/
theorem mks0 {P : Program} {t e : TypeId} {size bytes : Nat} (hT : SlT P t e size bytes) (base : Nat) {C : Int} {w : World} {K : Sl → World → Prop} (n : Nat) (hC : C = (n : Int)) (hb : bytes * n ≤ 140737488355328) (h63 : n ≤ 140737488355328) (hbase : base ≤ w.heap.size)
    (h : ∀ w', w'.ownsRow base e size (.slice (some ⟨w.heap.size, 0, none⟩) 0 n) 0 [] → Fr w w' → K ⟨some ⟨w.heap.size, 0, none⟩, 0, n⟩ w') : mks P t 0 C w K := by
  obtain ⟨i, z, hi, hz, hsize, hby, hzs⟩ := hT.info
  subst hC
  obtain ⟨w', hrun, r1, r2⟩ := run_make_own (P := P) w base t e i z size hT.under hi hz hsize .i64 .i64 n (by rw [hby]; omega) (by simp only [maxLen]; omega) hbase
  exact ⟨⟨some ⟨w.heap.size, 0, none⟩, 0, n⟩, w', hrun, h w' r1 ((Below.refl _ w).grown r2 (Nat.le_refl _) (by simp))⟩

/-- A new block. -/
theorem nwI {w : World} {cs : List Value} {t : TypeId} {K : Addr → World → Prop}
    (h : ∀ b w', b = w.heap.size → w'.heap.size = w.heap.size + 1 → Fr w w' → w'.heap[b]? = some (.cells cs.toArray t (0, 0)) → Rd w' (some ⟨b, 0, none⟩) cs → K ⟨b, 0, none⟩ w') : nw w cs t K := by
  refine h w.heap.size _ rfl (by simp) (Fr.alloc _ _) (heap_alloc_new w _) ?_
  intro j u hu
  refine ⟨_, rfl, ?_⟩
  have hadd : (⟨w.heap.size, 0, none⟩ : Addr).add j = ⟨w.heap.size, j, none⟩ := by unfold Addr.add; split <;> simp_all
  rw [hadd, cell_of_row (w.alloc (.cells cs.toArray t)) w.heap.size j cs.toArray t (0, 0) (heap_alloc_new w _)]
  simpa using hu

theorem Rd.u8 {w : World} {A : Option Addr} {l : List UInt8} (h : Rd w A (u8s l)) {i : Nat} (hi : i < l.length) : ∃ ad, A = some ad ∧ w.cell? (ad.add i) = some (.int .u8 (l[i].toNat)) := by
  have := h.at i (by rw [u8s_length]; exact hi)
  simpa [u8s] using this
/-- A byte of a slice is read. -/
theorem ixB {w w' : World} {s : Sl} {l : List UInt8} {i : Int} {K : Int → Prop} (hs : Rd w s.a (u8s l)) (hl : s.n = l.length) (h0 : 0 ≤ i) (hi : i.toNat < l.length) (hw : Fr w w')
    (h : K (l[i.toNat].toNat)) : ixa s.a s.n i 1 fun a => ld (.I .u8) w' a K := by
  obtain ⟨ad, ha, hc⟩ := (hs.below hw).u8 hi
  refine ⟨h0, by omega, ?_⟩
  rw [ha]
  exact ⟨_, hc, h⟩
theorem ixB0 {w w' : World} {s : Sl} {b : UInt8} {t : List UInt8} {K : Int → Prop} (hs : Rd w s.a (u8s (b :: t))) (hl : s.n = (b :: t).length) (hw : Fr w w')
    (h : K (b.toNat)) : ixa s.a s.n 0 1 fun a => ld (.I .u8) w' a K := ixB hs hl (by decide) (by simp) hw h
theorem bstrI {w w' : World} {x : Sl} {l : List UInt8} {K : List UInt8 → Prop} (h : Rd w x.a (u8s l)) (hl : l.length = x.n) (hw : Fr w w') (hk : K l) : bstr w' x K := ⟨l, hl, h.below hw, hk⟩
theorem beqB_eq (a b : List UInt8) : beqB ⟨a.toArray⟩ ⟨b.toArray⟩ = decide (a = b) := by
  unfold beqB
  rw [ByteArray.toList_eq, ByteArray.toList_eq]
  simp [Bool.beq_eq_decide_eq]
/-- A law's call, as its row wants it. -/
theorem lawE {P : Program} {f : FuncId} {args : Array Value} {w : World} (h : cl P f args .B w fun r w' => r = true ∧ Fr w w') : Calls P f args w fun e w' => e = .returned (.bool true) ∧ Below w.heap.size w w' := by
  refine Calls.mono h ?_
  rintro e w' ⟨x, rfl, rfl, hf⟩
  exact ⟨rfl, hf⟩

/-- A part of a slice. -/
theorem Bs.cut {w : World} {s : Sl} {l : List UInt8} (h : Bs w s l) {i j : Nat} (hij : i ≤ j) (hj : j ≤ l.length) : Bs w (cut s i j 1) ((l.take j).drop i) := by
  have hl := h.len
  have hc := h.cap
  refine ⟨?_, by simp [Fl.cut, List.length_take]; omega, by simp [Fl.cut]; omega⟩
  have hr : Rd w s.a (u8s (l.take j)) := by
    have := h.rd.take j
    rwa [show (u8s l).take j = u8s (l.take j) from by simp [u8s, List.map_take]] at this
  have hd := hr.drop i
  rw [show (u8s (l.take j)).drop i = u8s ((l.take j).drop i) from by simp [u8s, List.map_drop]] at hd
  unfold Fl.cut
  by_cases hci : s.c = i
  · simp only [hci, if_true]
    have : (l.take j).drop i = [] := by rw [List.drop_eq_nil_iff, List.length_take]; omega
    rw [this]; exact Rd.nil _ _
  · rw [if_neg hci]
    rw [show (fun x => atOff x (i : Int) 1) = fun x : Addr => x.add i from rfl]
    exact hd
theorem slsB {w : World} {s : Sl} {l : List UInt8} {i j : Int} {K : Sl → Prop} (h : Bs w s l) (h0 : 0 ≤ i) (hij : i ≤ j) (hj : j ≤ l.length)
    (hk : ∀ r : Sl, Bs w r ((l.take j.toNat).drop i.toNat) → (∀ ad, r.a = some ad → ∃ ad', s.a = some ad' ∧ ad.block = ad'.block) → r.c ≤ s.c → K r) : sls s i j 1 K := by
  have hl := h.len
  have hc := h.cap
  refine ⟨h0, hij, by omega, hk _ (h.cut (by omega) (by omega)) (fun ad ha => ?_) (by simp [Fl.cut])⟩
  unfold Fl.cut at ha
  split at ha
  · exact ⟨ad, ha, rfl⟩
  · cases hs : s.a with
    | none => rw [hs] at ha; cases ha
    | some ad' =>
      rw [hs] at ha
      simp only [Option.map_some, Option.some.injEq] at ha
      refine ⟨ad', rfl, ?_⟩
      rw [← ha, atOff_eq, add_block]
theorem Bs.nil (w : World) (c : Nat) : Bs w ⟨none, 0, c⟩ [] := ⟨Rd.nil _ _, rfl, Nat.zero_le _⟩
theorem OwB.new {w : World} {base : Nat} {e : TypeId} {b : Nat} (h : w.heap[b]? = some (.cells #[] e (0, 0))) (hb : base ≤ b) : OwB w base e ⟨some ⟨b, 0, none⟩, 0, 0⟩ [] :=
  ⟨rfl, .inr ⟨b, 0, #[], rfl, hb, h, Nat.le_refl _, Nat.zero_le _, rfl, rfl⟩⟩
theorem OwB.mono {w : World} {base base' : Nat} {e : TypeId} {s : Sl} {l : List UInt8} (h : OwB w base e s l) (hb : base' ≤ base) : OwB w base' e s l := by
  refine ⟨h.1, ?_⟩
  rcases h.2 with hn | ⟨g, cap, cur, hv, hg, rest⟩
  · exact .inl hn
  · exact .inr ⟨g, cap, cur, hv, Nat.le_trans hb hg, rest⟩
/-- append to a new empty slice. -/
theorem copyB {P : Program} {t ty e : TypeId} (hT : SlT P t e 1 1) {x : Sl} {l : List UInt8} {w : World} {K : Sl → World → Prop} (hx : Bs w x l) (hl : l.length ≤ 140737488355328)
    (h : ∀ (r : Sl) w', OwB w' w.heap.size e r l → Fr w w' → K r w') : nw w [] e fun a w2 => app P t ty ⟨some a, 0, 0⟩ x w2 K := by
  refine nwI fun b w2 hb hsz hf hblk _ => ?_
  refine app_B hT (base := w.heap.size) (l := []) (OwB.new hblk (by omega)) (hx.fr hf).rd hx.len.symm (by simpa using hl) hf.size fun r w3 ho hb3 _ _ => h r w3 ?_ (hf.on hb3)
  simpa using ho

/-- A slice that reads as numbers. -/
structure Is (w : World) (s : Sl) (l : List Int) : Prop where
  rd : Rd w s.a (l.map (Value.int .i64))
  len : s.n = l.length
  cap : s.n ≤ s.c
theorem Is.fr {w w' : World} {s : Sl} {l : List Int} (h : Is w s l) (hf : Fr w w') : Is w' s l := ⟨h.rd.below hf, h.len, h.cap⟩
theorem ixI {w w' : World} {s : Sl} {l : List Int} {i : Int} {K : Int → Prop} (hs : Is w s l) (h0 : 0 ≤ i) (hi : i.toNat < l.length) (hw : Fr w w')
    (h : K l[i.toNat]) : ixa s.a s.n i 1 fun a => ld (.I .i64) w' a K := by
  have := (hs.rd.below hw).at i.toNat (by simpa using hi)
  obtain ⟨ad, ha, hc⟩ := this
  rw [List.getElem_map] at hc
  refine ⟨h0, by have := hs.len; omega, ?_⟩
  rw [ha]
  exact ⟨_, hc, h⟩
theorem wfI64 {n : Int} (h : (Lit.int .i64 n).wf = true) : -9223372036854775808 ≤ n ∧ n ≤ 9223372036854775807 := by
  simp only [Lit.wf, IntKind.min, IntKind.max, IntKind.signed, IntKind.bits, Bool.and_eq_true, decide_eq_true_eq, if_true] at h
  omega
/-- A slice of numbers that came in. -/
abbrev RowK (k : IntKind) (w : World) (a : Option Addr) (len cap : Nat) (zs : List Int) : Prop :=
  (a = none ∧ len = 0 ∧ cap = 0 ∧ zs = []) ∨
  ∃ x, a = some x ∧ len ≤ cap ∧ cap ≤ maxLen ∧ zs.length = cap ∧ (∀ i, i < zs.length → w.cell? (x.add i) = some (.int k (zs.getD i 0))) ∧ ∀ n ∈ zs, (Lit.int k n).wf = true
theorem rowRd {k : IntKind} {w : World} {a : Option Addr} {len cap : Nat} {zs : List Int} (h : RowK k w a len cap zs) :
    Rd w a ((zs.take len).map (Value.int k)) ∧ len = (zs.take len).length ∧ len ≤ cap ∧ ∀ n ∈ zs.take len, (Lit.int k n).wf = true := by
  rcases h with ⟨rfl, rfl, rfl, rfl⟩ | ⟨x, rfl, hc, hm, hl, hcell, hw⟩
  · exact ⟨Rd.nil _ _, rfl, Nat.le_refl _, by simp⟩
  · refine ⟨fun j u hu => ⟨x, rfl, ?_⟩, by simp [List.length_take]; omega, hc, fun n hn => hw n (List.mem_of_mem_take hn)⟩
    rw [List.getElem?_map, List.getElem?_take] at hu
    split at hu
    case isTrue hj =>
      rw [hcell j (by omega)]
      rw [List.getD_eq_getElem?_getD]
      cases hz : zs[j]? with
      | none => simp [hz] at hu
      | some z => simpa [hz] using hu
    case isFalse => simp at hu
theorem rowB {w : World} {a : Option Addr} {len cap : Nat} {zs : List Int} (h : RowK .u8 w a len cap zs) : ∃ l : List UInt8, Bs w ⟨a, len, cap⟩ l := by
  obtain ⟨h1, h2, h3, h4⟩ := rowRd h
  refine ⟨(zs.take len).map fun n => UInt8.ofNat n.toNat, ?_, by simpa using h2, h3⟩
  unfold u8s
  rw [List.map_map]
  rwa [List.map_congr_left (g := Value.int .u8)]
  intro n hn
  have := h4 n hn
  simp only [Lit.wf, IntKind.min, IntKind.max, IntKind.signed, IntKind.bits, Bool.and_eq_true] at this
  simp only [Function.comp, UInt8.toNat_ofNat']
  congr 1
  simp at this
  omega
end Go.Fl
namespace Go.Fl

def moreF : Nat → Nat → Nat
  | 0, _ => 0
  | f + 1, x => if x < 128 then 0 else moreF f (x / 128) + 1
/-- How many bytes follow a number's first one. -/
def moreN (x : Nat) : Nat := moreF 8 x
theorem moreF_le : ∀ f x, moreF f x ≤ f
  | 0, _ => Nat.le_refl _
  | f + 1, x => by unfold moreF; split; omega; have := moreF_le f (x / 128); omega
theorem moreN_le (x : Nat) : moreN x ≤ 8 := moreF_le 8 x
theorem moreF_of : ∀ {f k x : Nat}, k < f → x < 128 ^ (k + 1) → (∀ j, j < k → 128 ^ (j + 1) ≤ x) → moreF f x = k
  | f + 1, 0, x, _, h, _ => by unfold moreF; rw [if_pos (by simpa using h)]
  | f + 1, k + 1, x, hk, h, hl => by
    have h0 : 128 ≤ x := by simpa using hl 0 (by omega)
    unfold moreF
    rw [if_neg (by omega), moreF_of (k := k) (by omega) (by rw [Nat.div_lt_iff_lt_mul (by decide)]; simpa [Nat.pow_succ] using h)
      (fun j hj => by rw [Nat.le_div_iff_mul_le (by decide)]; have := hl (j + 1) (by omega); simpa [Nat.pow_succ] using this)]
theorem moreF_top : ∀ {f x : Nat}, (∀ j, j < f → 128 ^ (j + 1) ≤ x) → moreF f x = f
  | 0, _, _ => rfl
  | f + 1, x, hl => by
    have h0 : 128 ≤ x := by simpa using hl 0 (by omega)
    unfold moreF
    rw [if_neg (by omega), moreF_top (fun j hj => by rw [Nat.le_div_iff_mul_le (by decide)]; have := hl (j + 1) (by omega); simpa [Nat.pow_succ] using this)]
/-- Where it stops, and what stands ahead. -/
theorem moreF_spec : ∀ {f x : Nat}, (moreF f x < f → x < 128 ^ (moreF f x + 1)) ∧ ∀ j, j < moreF f x → 128 ^ (j + 1) ≤ x
  | 0, x => ⟨fun h => by simp [moreF] at h, fun j h => by simp [moreF] at h⟩
  | f + 1, x => by
    unfold moreF
    split
    · rename_i h; exact ⟨fun _ => by simpa using h, fun j hj => by omega⟩
    · rename_i h
      obtain ⟨h1, h2⟩ := moreF_spec (f := f) (x := x / 128)
      refine ⟨fun hlt => ?_, fun j hj => ?_⟩
      · have := h1 (by omega)
        rw [Nat.div_lt_iff_lt_mul (by decide)] at this
        rw [Nat.pow_succ]; exact this
      · cases j with
        | zero => simp; omega
        | succ j =>
          have := h2 j (by omega)
          rw [Nat.le_div_iff_mul_le (by decide)] at this
          rw [Nat.pow_succ]; exact this

/-- The k lowest bytes of a number, the highest one first. -/
def lowB (x : Nat) : Nat → List UInt8
  | 0 => []
  | k + 1 => UInt8.ofNat (x / 256 ^ k) :: lowB x k
theorem lowB_length (x : Nat) : ∀ k, (lowB x k).length = k
  | 0 => rfl
  | k + 1 => by simp [lowB, lowB_length x k]
/-- What stands in the first byte: as many ones as bytes follow, and what is left of the number. -/
def leadB (x k : Nat) : Nat := 256 - 2 ^ (8 - k) + if k < 8 then x / 256 ^ k else 0
def numB (x : Nat) : List UInt8 := UInt8.ofNat (leadB x (moreN x)) :: lowB x (moreN x)
theorem numB_length (x : Nat) : (numB x).length = moreN x + 1 := by simp [numB, lowB_length]

theorem lowB_succ (x k : Nat) : lowB x (k + 1) = UInt8.ofNat (x / 256 ^ k) :: lowB x k := rfl
/-- Laid from the highest one on: the first m of k. -/
theorem lowB_take {x : Nat} : ∀ {k m : Nat}, m < k → (lowB x k).take (m + 1) = (lowB x k).take m ++ [UInt8.ofNat (x / 256 ^ (k - 1 - m))]
  | k + 1, 0, _ => by simp [lowB]
  | k + 1, m + 1, h => by
    simp only [lowB, List.take_succ_cons, List.cons_append]
    rw [lowB_take (by omega), show k + 1 - 1 - (m + 1) = k - 1 - m from by omega]

theorem lead_small {x k : Nat} (hk : k < 8) (hx : x < 128 ^ (k + 1)) : x / 256 ^ k < 2 ^ (7 - k) := by
  rw [Nat.div_lt_iff_lt_mul (Nat.pow_pos (by decide))]
  refine Nat.lt_of_lt_of_le hx (Nat.le_of_eq ?_)
  match k, hk with
  | 0, _ => rfl
  | 1, _ => rfl
  | 2, _ => rfl
  | 3, _ => rfl
  | 4, _ => rfl
  | 5, _ => rfl
  | 6, _ => rfl
  | 7, _ => rfl
theorem ones_eq {k : Nat} (hk : k ≤ 8) : 255 * 2 ^ (8 - k) % 256 = 256 - 2 ^ (8 - k) := by
  match k, hk with
  | 0, _ => rfl
  | 1, _ => rfl
  | 2, _ => rfl
  | 3, _ => rfl
  | 4, _ => rfl
  | 5, _ => rfl
  | 6, _ => rfl
  | 7, _ => rfl
  | 8, _ => rfl
theorem leadB_lt {x k : Nat} (hx : k < 8 → x < 128 ^ (k + 1)) (hk : k ≤ 8) : leadB x k < 256 := by
  unfold leadB
  by_cases h : k < 8
  · rw [if_pos h]
    have := lead_small h (hx h)
    have h2 : 2 ^ (8 - k) = 2 * 2 ^ (7 - k) := by rw [show 8 - k = 7 - k + 1 from by omega, Nat.pow_succ, Nat.mul_comm]
    have h3 : 2 ^ (8 - k) ≤ 2 ^ 8 := Nat.pow_le_pow_right (by decide) (by omega)
    have h4 : 0 < 2 ^ (7 - k) := Nat.pow_pos (by decide)
    omega
  · rw [if_neg h]
    have : 0 < 2 ^ (8 - k) := Nat.pow_pos (by decide)
    omega
theorem or_lead {x k : Nat} (hk : k < 8) (hx : x < 128 ^ (k + 1)) : (255 * 2 ^ (8 - k) % 256) ||| (x / 256 ^ k) = leadB x k := by
  have hs := lead_small hk hx
  rw [ones_eq (by omega), leadB, if_pos hk]
  have h2 : 2 ^ (8 - k) = 2 * 2 ^ (7 - k) := by rw [show 8 - k = 7 - k + 1 from by omega, Nat.pow_succ, Nat.mul_comm]
  have hd : 256 - 2 ^ (8 - k) = 2 ^ (7 - k) * (2 ^ (k + 1) - 2) := by
    rw [Nat.mul_sub, ← Nat.pow_add, show 7 - k + (k + 1) = 8 from by omega]
    omega
  rw [hd, ← Nat.two_pow_add_eq_or_of_lt hs]

/-! ### Reading -/
/-- How many ones a byte begins with. -/
def ones (b : Nat) : Nat := if b < 128 then 0 else if b < 192 then 1 else if b < 224 then 2 else if b < 240 then 3 else if b < 248 then 4 else if b < 252 then 5 else if b < 254 then 6 else if b < 255 then 7 else 8
theorem ones_le (b : Nat) : ones b ≤ 8 := by unfold ones; (repeat' split) <;> omega
theorem ones_spec {b : Nat} (hb : b < 256) : 256 - 2 ^ (8 - ones b) ≤ b ∧ (ones b < 8 → b < 256 - 2 ^ (7 - ones b)) := by
  unfold ones
  (repeat' split) <;> simp <;> omega

/-- Digits to the base 256 behind a first one. -/
def beN (a : Nat) (l : List UInt8) : Nat := l.foldl (fun x c => x * 256 + c.toNat) a
theorem beN_cons (a : Nat) (c : UInt8) (l : List UInt8) : beN a (c :: l) = beN (a * 256 + c.toNat) l := rfl
theorem beN_append (a : Nat) (l m : List UInt8) : beN a (l ++ m) = beN (beN a l) m := by simp [beN]
theorem beN_lt {a B : Nat} : ∀ {l : List UInt8}, a < B → beN a l < B * 256 ^ l.length
  | [], h => by simpa [beN] using h
  | c :: l, h => by
    rw [beN_cons]
    have hc := c.toNat_lt
    have := beN_lt (a := a * 256 + c.toNat) (B := B * 256) (l := l) (by omega)
    rwa [Nat.mul_assoc, ← Nat.pow_succ'] at this
theorem beN_ge (a : Nat) : ∀ l : List UInt8, a ≤ beN a l
  | [] => Nat.le_refl _
  | c :: l => by rw [beN_cons]; have := beN_ge (a * 256 + c.toNat) l; omega
theorem low_beN : ∀ {k : Nat} {a : Nat} {l : List UInt8}, l.length = k → lowB (beN a l) k = l ∧ beN a l / 256 ^ k = a
  | 0, a, l, h => by
    have : l = [] := List.eq_nil_of_length_eq_zero h
    subst this; simp [lowB, beN]
  | k + 1, a, c :: l, h => by
    obtain ⟨h1, h2⟩ := low_beN (k := k) (a := a * 256 + c.toNat) (l := l) (by simpa using h)
    have hc := c.toNat_lt
    rw [beN_cons, lowB_succ, h2, h1]
    refine ⟨?_, ?_⟩
    · congr 1
      apply UInt8.toNat_inj.1
      simp
    · rw [Nat.pow_succ, ← Nat.div_div_eq_div_mul, h2]; omega

/-- The number with which bytes begin, how many it has, and the error. -/
def lookS : List UInt8 → Nat × Nat × Nat
  | [] => (0, 0, 2)
  | b :: t =>
    if t.length < ones b.toNat then (0, 0, 2) else
    let x := beN (if ones b.toNat < 8 then b.toNat % 2 ^ (7 - ones b.toNat) else 0) (t.take (ones b.toNat))
    if x > 9223372036854775807 then (0, 0, 5) else if moreN x ≠ ones b.toNat then (0, 0, 20) else (x, ones b.toNat + 1, 0)

theorem lookS_cons (b : UInt8) (t : List UInt8) : lookS (b :: t) = if t.length < ones b.toNat then (0, 0, 2) else
    if beN (if ones b.toNat < 8 then b.toNat % 2 ^ (7 - ones b.toNat) else 0) (t.take (ones b.toNat)) > 9223372036854775807 then (0, 0, 5) else
    if moreN (beN (if ones b.toNat < 8 then b.toNat % 2 ^ (7 - ones b.toNat) else 0) (t.take (ones b.toNat))) ≠ ones b.toNat then (0, 0, 20) else (beN (if ones b.toNat < 8 then b.toNat % 2 ^ (7 - ones b.toNat) else 0) (t.take (ones b.toNat)), ones b.toNat + 1, 0) := rfl

theorem lead_mod {b k : Nat} (hk : k < 8) (h1 : 256 - 2 ^ (8 - k) ≤ b) (h2 : b < 256 - 2 ^ (7 - k)) : b % 2 ^ (7 - k) = b - (256 - 2 ^ (8 - k)) := by
  have e2 : 2 ^ (8 - k) = 2 * 2 ^ (7 - k) := by rw [show 8 - k = 7 - k + 1 from by omega, Nat.pow_succ, Nat.mul_comm]
  have e3 : 2 ^ (8 - k) ≤ 2 ^ 8 := Nat.pow_le_pow_right (by decide) (by omega)
  have hd : 256 - 2 ^ (8 - k) = 2 ^ (7 - k) * (2 ^ (k + 1) - 2) := by
    rw [Nat.mul_sub, ← Nat.pow_add, show 7 - k + (k + 1) = 8 from by omega]
    omega
  obtain ⟨r, rfl⟩ : ∃ r, b = (256 - 2 ^ (8 - k)) + r := ⟨b - (256 - 2 ^ (8 - k)), by omega⟩
  conv => lhs; rw [hd, Nat.mul_add_mod]
  rw [Nat.add_sub_cancel_left]
  exact Nat.mod_eq_of_lt (by omega)

/-- What is read, put again, is the bytes that were read. -/
theorem look_back {l : List UInt8} {n k : Nat} (h : lookS l = (n, k, 0)) : k = moreN n + 1 ∧ k ≤ l.length ∧ l.take k = numB n ∧ n ≤ 9223372036854775807 := by
  cases l with
  | nil => simp [lookS] at h
  | cons b t =>
    rw [lookS_cons] at h
    split at h
    · simp at h
    · rename_i hlen
      generalize hX : beN (if ones b.toNat < 8 then b.toNat % 2 ^ (7 - ones b.toNat) else 0) (t.take (ones b.toNat)) = X at h
      split at h
      · simp at h
      · rename_i hbig
        split at h
        · simp at h
        · rename_i hmore
          simp only [Prod.mk.injEq] at h
          obtain ⟨rfl, rfl, _⟩ := h
          have hmore : moreN X = ones b.toNat := Decidable.not_not.1 hmore
          have hb := b.toNat_lt
          have hsp := ones_spec (b := b.toNat) hb
          have ho8 := ones_le b.toNat
          obtain ⟨h1, h2⟩ := low_beN (k := ones b.toNat) (a := if ones b.toNat < 8 then b.toNat % 2 ^ (7 - ones b.toNat) else 0) (l := t.take (ones b.toNat)) (by rw [List.length_take]; omega)
          rw [hX] at h1 h2
          refine ⟨by omega, by simp; omega, ?_, by omega⟩
          rw [List.take_succ_cons, numB, hmore, h1]
          congr 1
          apply UInt8.toNat_inj.1
          have hl : leadB X (ones b.toNat) = b.toNat := by
            unfold leadB
            split
            · rename_i h
              rw [h2, if_pos h]
              obtain ⟨g1, g2⟩ := hsp
              have g2 := g2 h
              have e2 : 2 ^ (8 - ones b.toNat) = 2 * 2 ^ (7 - ones b.toNat) := by rw [show 8 - ones b.toNat = 7 - ones b.toNat + 1 from by omega, Nat.pow_succ, Nat.mul_comm]
              have e3 : 2 ^ (8 - ones b.toNat) ≤ 2 ^ 8 := Nat.pow_le_pow_right (by decide) (by omega)
              have hd : 256 - 2 ^ (8 - ones b.toNat) = 2 ^ (7 - ones b.toNat) * (2 ^ (ones b.toNat + 1) - 2) := by
                rw [Nat.mul_sub, ← Nat.pow_add, show 7 - ones b.toNat + (ones b.toNat + 1) = 8 from by omega]
                omega
              have e5 := lead_mod h g1 g2
              omega
            · rename_i h
              have h8 : ones b.toNat = 8 := by omega
              rw [h8] at hsp ⊢
              simp at hsp ⊢
              omega
          rw [hl]
          simp
/-- Numbers, one behind the other. -/
def numsB (ns : List Int) : List UInt8 := ns.flatMap fun n => numB n.toNat
theorem numsB_cons (n : Int) (ns : List Int) : numsB (n :: ns) = numB n.toNat ++ numsB ns := by simp [numsB]
theorem numsB_append (a b : List Int) : numsB (a ++ b) = numsB a ++ numsB b := by simp [numsB]
theorem numB_le (x : Nat) : (numB x).length ≤ 9 := by rw [numB_length]; have := moreN_le x; omega
theorem numsB_le : ∀ ns : List Int, (numsB ns).length ≤ 9 * ns.length
  | [] => by simp [numsB]
  | n :: ns => by
    rw [numsB_cons, List.length_append, List.length_cons]
    have := numsB_le ns
    have := numB_le n.toNat
    omega
theorem numsB_take {ns : List Int} {k : Nat} (hk : k < ns.length) : numsB (ns.take (k + 1)) = numsB (ns.take k) ++ numB (ns[k]).toNat := by
  rw [List.take_succ_eq_append_getElem hk, numsB_append]
  simp [numsB]
end Go.Fl
namespace Go.Proofs.YtoglafmpllimgaaGreatDoor
open Go.RowKit Go.Fl
theorem slB : SlT Tryz.prog t_s_uint8 t_uint8 1 1 := SlT.mk' (z := .int .u8 0) (by kernel_rfl) (by kernel_rfl) rfl (by decide)

theorem pow7 (k : Nat) : (2 : Nat) ^ (7 * k) = 128 ^ k := by rw [Nat.pow_mul]
theorem pow7i (k : Nat) : (2 : Int) ^ (7 * k) = ((128 ^ k : Nat) : Int) := by rw [← pow7]; simp
theorem octet_more_ok {x : Int} {w : World} (h0 : 0 ≤ x) (h1 : x ≤ 18446744073709551615) : cl Tryz.prog n_octet_more #[.int .u64 x] (.I .i64) w fun r w' => r = moreN x.toNat ∧ w = w' := by
  refine octet_more.cl ?_
  unfold octet_more
  refine lpI (fun s w' => w = w' ∧ ∃ k : Nat, k ≤ 8 ∧ s.1 = k ∧ ∀ j, j < k → 128 ^ (j + 1) ≤ x.toNat) (fun s _ => (8 - s.1).toNat) ⟨rfl, 0, by omega, rfl, fun j h => by omega⟩ ?_
  rintro _ ⟨s, ⟨⟩⟩ w' ⟨rfl, k, hk, rfl, hn⟩
  dsimp only
  rw [i64w (n := (k : Int) + 1) (by omega) (by omega), i64w (n := 7 * ((k : Int) + 1)) (by omega) (by omega)]
  have e : min (7 * ((k : Int) + 1)).toNat 64 = 7 * (k + 1) ∨ k = 8 := by omega
  refine bD (fun h8 => bP (by omega) ?_) (fun h8 => ⟨?_, rfl⟩)
  · rw [e.resolve_right (by omega), Int.one_mul, pow7i]
    have hp : (128 : Nat) ^ (k + 1) ≤ 72057594037927936 := Nat.pow_le_pow_right (n := 128) (i := k + 1) (j := 8) (by decide) (by omega)
    have hM := moreF_of (f := 8) (k := k) (x := x.toNat) (by omega)
    obtain ⟨B, hB⟩ : ∃ B, (128 : Nat) ^ (k + 1) = B := ⟨_, rfl⟩
    rw [hB] at hp hM ⊢
    rw [u64w (by omega) (by omega)]
    refine bD (fun hx => ⟨?_, rfl⟩) (fun hx => ⟨⟨rfl, k + 1, by omega, rfl, fun j hj => ?_⟩, by omega⟩)
    · rw [moreN, hM (by omega) hn]
    · by_cases hjk : j = k
      · subst hjk; rw [hB]; omega
      · exact hn j (by omega)
  · obtain rfl : k = 8 := by omega
    rw [moreN, moreF_top hn]; rfl

theorem u8_ofNat (n : Nat) : (((UInt8.ofNat n).toNat : Nat) : Int) = (n : Int) % 256 := by simp
theorem pow256i (k : Nat) : (2 : Int) ^ (8 * k) = ((256 ^ k : Nat) : Int) := by
  have : (2 : Nat) ^ (8 * k) = 256 ^ k := by rw [Nat.pow_mul]
  rw [← this]; simp
theorem octet_Number_ok {s : Sl} {n : Int} {l : List UInt8} {w : World} (hs : Bs w s l) (hl : l.length ≤ 1099511627776) (hn : n ≤ 9223372036854775807) :
    cl Tryz.prog n_octet_Number #[.slice s.a s.n s.c, .int .i64 n] .L w fun (r : Sl) w' => OwB w' w.heap.size t_uint8 r (l ++ numB n.toNat) ∧ Fr w w' := by
  refine octet_Number.cl ?_
  unfold octet_Number
  have hx : max n 0 = (n.toNat : Int) := by omega
  rw [hx, u64w (by omega) (by omega)]
  generalize hxx : n.toNat = x
  refine (octet_more_ok (by omega) (by omega)).mono ?_
  rintro k w' ⟨rfl, rfl⟩
  rw [Int.toNat_natCast]
  have hk8 := moreN_le x
  have hsp := (moreF_spec (f := 8) (x := x)).1
  change moreN x < 8 → x < 128 ^ (moreN x + 1) at hsp
  have hnum : numB x = UInt8.ofNat (leadB x (moreN x)) :: lowB x (moreN x) := rfl
  generalize moreN x = k at hk8 hsp hnum
  rw [i64w (n := 8 - (k : Int)) (by omega) (by omega)]
  refine bP (by omega) ?_
  intro j1
  have hln := hs.len
  have hj : ∀ (y : Int) (w' : World), y = ((UInt8.ofNat (leadB x k)).toNat : Int) → w = w' → j1 y w' := by
    rintro y w' rfl rfl
    show mks _ _ _ _ _ _
    rw [i64w (by omega) (by omega)]
    refine mks0 slB w.heap.size (s.n + 9) (by omega) (by omega) (by omega) (Nat.le_refl _) fun w1 ho1 hf1 => ?_
    refine app_B slB (base := w.heap.size) (l := []) (m := l) ho1 (hs.fr hf1).rd hs.len.symm (by simp; omega) hf1.size fun r w2 ho2 hb2 _ _ => ?_
    have hf2 : Fr w w2 := hf1.on hb2
    refine nwI fun b w3 hb hsz hf3 hblk hrd => ?_
    refine app_B slB (base := w.heap.size) (m := [UInt8.ofNat (leadB x k)]) (ho2.fr hf3) hrd rfl (by simp; omega) (by have := hf2.size; have := hf3.size; omega) fun r w4 ho4 hb4 _ _ => ?_
    have hf4 : Below w.heap.size w w4 := (hf2.trans hf3).on hb4
    rw [i64w (n := (k : Int) - 1) (by omega) (by omega)]
    refine lpI (fun s w'' => ∃ m : Nat, m ≤ k ∧ s.2.1 = (k : Int) - 1 - m ∧ OwB w'' w.heap.size t_uint8 s.1 (l ++ (UInt8.ofNat (leadB x k) :: (lowB x k).take m)) ∧ Fr w w'') (fun s _ => (s.2.1 + 1).toNat)
      ⟨0, by omega, by simp, by simpa using ho4, hf4⟩ ?_
    rintro _ ⟨s', i, ⟨⟩⟩ w5 ⟨m, hm, hi, ho5, hf5⟩
    simp only at hi ho5
    subst hi
    dsimp only
    refine bD (fun h0 => bP ?_ ?_) (fun h0 => ⟨?_, hf5⟩)
    · rw [i64w (by omega) (by omega)]; omega
    · rw [i64w (n := 8 * _) (by omega) (by omega), i64w (by omega) (by omega)]
      have e : min (8 * ((k : Int) - 1 - m)).toNat 64 = 8 * (k - 1 - m) := by omega
      rw [e, pow256i, u8w]
      have hcell : (x : Int) / ((256 ^ (k - 1 - m) : Nat) : Int) % 256 = ((UInt8.ofNat (x / 256 ^ (k - 1 - m))).toNat : Int) := by rw [u8_ofNat]; simp
      rw [hcell]
      refine nwI fun b w6 hb hsz hf6 hblk hrd => ?_
      refine app_B slB (base := w.heap.size) (m := [UInt8.ofNat (x / 256 ^ (k - 1 - m))]) (ho5.fr hf6) hrd rfl ?_ (by have := hf5.size; have := hf6.size; omega) fun r w7 ho7 hb7 _ _ => ?_
      · simp [lowB_length]; omega
      · refine ⟨⟨m + 1, by omega, by simp; omega, ?_, (hf5.trans hf6).on hb7⟩, by simp; omega⟩
        rw [lowB_take (by omega)]
        simpa using ho7
    · obtain rfl : m = k := by omega
      rw [hnum]
      rwa [List.take_of_length_le (by rw [lowB_length]; exact Nat.le_refl _)] at ho5
  refine bD ?_ ?_ <;> intro h8
  · rw [i64w (n := 8 * (k : Int)) (by omega) (by omega)]
    refine bP (by omega) ?_
    refine hj _ _ ?_ rfl
    rw [show min (8 * (k : Int)).toNat 64 = 8 * k from by omega, pow256i, u8w, u8w, show min (8 - (k : Int)).toNat 8 = 8 - k from by omega]
    have ho := or_lead (x := x) (k := k) (by omega) (hsp (by omega))
    have hlt := lead_small (x := x) (k := k) (by omega) (hsp (by omega))
    have h7 : (2 : Nat) ^ (7 - k) ≤ 2 ^ 7 := Nat.pow_le_pow_right (by decide) (by omega)
    have e1 : (255 : Int) * 2 ^ (8 - k) % 256 = ((255 * 2 ^ (8 - k) % 256 : Nat) : Int) := by simp
    have e2 : (x : Int) / ((256 ^ k : Nat) : Int) % 256 = ((x / 256 ^ k : Nat) : Int) := by
      rw [← Int.natCast_ediv]
      generalize x / 256 ^ k = q at hlt
      omega
    rw [e1, e2, u8_or_nat _ _ (by omega) (by generalize x / 256 ^ k = q at hlt; omega), ho, u8_ofNat]
    have := leadB_lt hsp hk8
    omega
  · obtain rfl : k = 8 := by omega
    refine hj _ _ ?_ rfl
    simp [leadB, u8w]

theorem Lz8_ok {x : Int} {w : World} (h0 : 0 ≤ x) (h1 : x < 256) : cl Tryz.prog n_math_bits_LeadingZeros8 #[.int .u8 x] (.I .i64) w fun (r : Int) w' => r = ones (255 - x.toNat) ∧ w = w' := by
  refine math_bits_LeadingZeros8.cl ?_
  unfold math_bits_LeadingZeros8
  obtain ⟨n, rfl⟩ : ∃ n : Nat, x = n := ⟨x.toNat, by omega⟩
  refine cl.mono (K := fun (r : Int) w' => r = (8 : Int) - (ones (255 - n) : Int) ∧ w = w') (math_bits_Len8.cl ?_) ?_
  · unfold math_bits_Len8
    refine ⟨h0, (by refine Eq.mp ?_ h1; kernel_rfl), ?_, rfl⟩
    have h1' : n < 256 := by omega
    rw [Int.toNat_natCast]
    clear h0 h1
    revert n
    decide +kernel
  · rintro r w' ⟨rfl, rfl⟩
    have := ones_le (255 - n)
    rw [i64w (by omega) (by omega)]
    exact ⟨by simp; omega, rfl⟩

theorem xor255 {x : Nat} (h : x < 256) : bits .xor .u8 255 (x : Int) = ((255 - x : Nat) : Int) := by
  have := u8_xor_nat 255 x (by decide) h
  rw [show ((255 : Nat) : Int) = 255 from rfl] at this
  rw [this]
  congr 1
  revert x
  decide +kernel

/-- look. -/
theorem octet_look_ok {s : Sl} {l : List UInt8} {w : World} (hs : Bs w s l) (hl : l.length ≤ 140737488351232) :
    cl Tryz.prog n_octet_look #[.slice s.a s.n s.c] (.tup (.pair (.I .i64) (.pair (.I .i64) (.pair (.I .i64) .nil)))) w
      fun (r : Int × Int × Int × Unit) w' => r = (((lookS l).1 : Int), ((lookS l).2.1 : Int), ((lookS l).2.2 : Int), ()) ∧ w = w' := by
  refine octet_look.cl ?_
  unfold octet_look
  have hn := hs.len
  cases l with
  | nil => exact bT (by simp [hn]) ⟨rfl, rfl⟩
  | cons b t =>
    refine bF (by simp [hn]; omega) ?_
    have hb := b.toNat_lt
    have ho := ones_le b.toNat
    refine ixB0 hs.rd hs.len (Fr.refl w) ?_
    rw [xor255 (by omega)]
    refine (Lz8_ok (by omega) (by omega)).mono ?_
    rintro k w' ⟨rfl, rfl⟩
    rw [Int.toNat_natCast, show 255 - (255 - b.toNat) = b.toNat from by omega]
    generalize hk : ones b.toNat = k at ho
    rw [lookS_cons, hk]
    refine bD ?_ ?_ <;> intro hlen
    · rw [if_pos (by simp [hn] at hlen; omega)]; exact ⟨rfl, rfl⟩
    · have hlen' : k ≤ t.length := by simp [hn] at hlen; omega
      rw [if_neg (by omega)]
      refine ixB0 hs.rd hs.len (Fr.refl w) ?_
      intro j1
      have hj : ∀ (y : Nat) (w' : World), (y < 2 ^ (7 - k) ∧ k < 8 ∨ y = 0) → y = (if k < 8 then b.toNat % 2 ^ (7 - k) else 0) → w = w' → j1 y w' := by
        rintro y w' hy hyk rfl
        show sls _ _ _ _ _
        rw [i64w (n := (k : Int) + 1) (by omega) (by omega)]
        refine slsB hs (by decide) (by omega) (by simp; omega) fun r hr _ _ => ?_
        simp only [Int.toNat_one, show ((k : Int) + 1).toNat = k + 1 from by omega, List.take_succ_cons, List.drop_succ_cons, List.drop_zero] at hr
        have hrl := hr.len
        rw [List.length_take, Nat.min_eq_left hlen'] at hrl
        have hBk : beN y (t.take k) < 18446744073709551616 := by
          rcases hy with ⟨hy, hk8⟩ | rfl
          · have h1 := beN_lt (l := t.take k) hy
            rw [List.length_take, Nat.min_eq_left hlen'] at h1
            refine Nat.lt_of_lt_of_le h1 ?_
            match k, hk8 with
            | 0, _ | 1, _ | 2, _ | 3, _ | 4, _ | 5, _ | 6, _ | 7, _ => decide
          · have h1 := beN_lt (a := 0) (B := 1) (l := t.take k) (by decide)
            rw [List.length_take, Nat.min_eq_left hlen', Nat.one_mul] at h1
            refine Nat.lt_of_lt_of_le h1 ?_
            exact Nat.pow_le_pow_right (n := 256) (i := k) (j := 8) (by decide) ho
        refine lpI (fun s w' => w = w' ∧ ∃ i : Nat, i ≤ k ∧ s.2.1 = i ∧ s.1 = (beN y (t.take i) : Nat)) (fun s _ => (k - s.2.1).toNat) ⟨rfl, 0, by omega, rfl, by simp [beN]⟩ ?_
        rintro _ ⟨z, i, ⟨⟩⟩ w' ⟨rfl, i, hik, rfl, rfl⟩
        dsimp only
        refine bD ?_ ?_ <;> intro hi
        · have hik' : i < k := by omega
          refine ixB hr.rd hr.len (by omega) (by simp [List.length_take]; omega) (Fr.refl w) ?_
          have hlt' : beN y (t.take (i + 1)) ≤ beN y (t.take k) := by
            have hsp := List.take_append_drop (i + 1) (t.take k)
            rw [List.take_take, Nat.min_eq_left (by omega)] at hsp
            rw [← hsp, beN_append]
            exact beN_ge _ _
          have hst : t.take (i + 1) = t.take i ++ [t[i]] := by rw [List.take_succ_eq_append_getElem (by omega)]
          have hstep : beN y (t.take (i + 1)) = beN y (t.take i) * 256 + t[i].toNat := by rw [hst, beN_append]; rfl
          have hc := t[i].toNat_lt
          simp only [Int.toNat_natCast, List.getElem_take]
          rw [show min 8 64 = 8 from rfl, u64w (n := _ * 2 ^ 8) (by omega) (by omega), u64w (n := ((t[i].toNat : Nat) : Int)) (by omega) (by omega)]
          have e1 : ((beN y (t.take i) : Nat) : Int) * 2 ^ 8 = ((beN y (t.take i) * 256 : Nat) : Int) := by simp
          rw [e1, u64_or_nat _ _ (by omega) (by omega), i64w (by omega) (by omega)]
          refine ⟨⟨trivial, i + 1, by omega, rfl, ?_⟩, by omega⟩

          rw [hstep]
          congr 1
          rw [show beN y (t.take i) * 256 = 2 ^ 8 * beN y (t.take i) from by omega, ← Nat.two_pow_add_eq_or_of_lt (by omega)]
        · obtain rfl : i = k := by omega
          simp only [← hyk]
          generalize beN y (t.take i) = X at hBk
          refine bD ?_ ?_ <;> intro hX
          · rw [if_pos (by omega)]; exact ⟨rfl, trivial⟩
          · rw [if_neg (by omega)]
            refine (octet_more_ok (by omega) (by omega)).mono ?_
            rintro m w' ⟨rfl, rfl⟩
            rw [Int.toNat_natCast]
            refine bNe ?_ ?_ <;> intro hm
            · rw [if_pos (by omega)]; exact ⟨rfl, rfl⟩
            · rw [if_neg (by omega), i64w (by omega) (by omega)]; exact ⟨by simp, rfl⟩
      refine bD ?_ ?_ <;> intro h8
      · refine bP (by omega) ?_
        have h7 : (2 : Nat) ^ (7 - k) ≤ 2 ^ 7 := Nat.pow_le_pow_right (by decide) (by omega)
        have hm : b.toNat % 2 ^ (7 - k) < 2 ^ (7 - k) := Nat.mod_lt _ (Nat.pow_pos (by decide))
        have e : bits .and .u64 (IntKind.u64.wrap (b.toNat : Int)) (127 / 2 ^ min ((k : Int)).toNat 64) = ((b.toNat % 2 ^ (7 - k) : Nat) : Int) := by
          rw [u64w (by omega) (by omega), show min ((k : Int)).toNat 64 = k from by omega]
          have e2 : (127 : Int) / 2 ^ k = ((2 ^ (7 - k) - 1 : Nat) : Int) := by
            match k, (show k < 8 by omega) with
            | 0, _ | 1, _ | 2, _ | 3, _ | 4, _ | 5, _ | 6, _ | 7, _ => decide
          rw [e2, u64_and_nat _ _ (by omega) (by omega), Nat.and_two_pow_sub_one_eq_mod]
        rw [e]
        exact hj _ _ (.inl ⟨hm, by omega⟩) (by rw [if_pos (by omega)]) rfl
      · exact hj 0 _ (.inr rfl) (by rw [if_neg (by omega)]) rfl
end Go.Proofs.YtoglafmpllimgaaGreatDoor
namespace Go.Proofs.YtoglafmpllimgaaGreatDoor
open Go.RowKit Go.Fl
theorem octet_Text_ok {s x : Sl} {l m : List UInt8} {w : World} (hs : Bs w s l) (hx : Bs w x m) (hl : l.length ≤ 549755813888) (hm : m.length ≤ 549755813888) :
    cl Tryz.prog n_octet_Text #[.slice s.a s.n s.c, .slice x.a x.n x.c] .L w fun (r : Sl) w' => OwB w' w.heap.size t_uint8 r (l ++ numB m.length ++ m) ∧ Fr w w' := by
  refine octet_Text.cl ?_
  unfold octet_Text
  have hn := hx.len
  have h9 := numB_le m.length
  refine (octet_Number_ok hs (by omega) (by omega)).mono ?_
  rintro r w1 ⟨ho, hf⟩
  rw [Int.toNat_natCast, hn] at ho
  refine app_B slB (base := w.heap.size) ho (hx.fr hf).rd hn.symm (by simp; omega) hf.size fun r w2 ho2 hb2 _ _ => ⟨ho2, hf.on hb2⟩

theorem octet_Numbers_ok {s x : Sl} {l : List UInt8} {ns : List Int} {w : World} (hs : Bs w s l) (hx : Is w x ns) (hl : l.length + 9 * ns.length ≤ 1099511627776) (hn : ∀ n ∈ ns, n ≤ 9223372036854775807) :
    cl Tryz.prog n_octet_Numbers #[.slice s.a s.n s.c, .slice x.a x.n x.c] .L w fun (r : Sl) w' => Bs w' r (l ++ numsB ns) ∧ (ns = [] ∧ r = s ∨ OwB w' w.heap.size t_uint8 r (l ++ numsB ns)) ∧ Fr w w' := by
  refine octet_Numbers.cl ?_
  unfold octet_Numbers
  have hxn := hx.len
  refine lpI (fun s' w' => ∃ k : Nat, k ≤ ns.length ∧ s'.2.1 = k ∧ Bs w' s'.1 (l ++ numsB (ns.take k)) ∧ (k = 0 ∧ s'.1 = s ∨ OwB w' w.heap.size t_uint8 s'.1 (l ++ numsB (ns.take k))) ∧ Fr w w') (fun s' _ => (x.n - s'.2.1).toNat)
    ⟨0, by omega, rfl, by simpa [numsB] using hs, .inl ⟨rfl, rfl⟩, Fr.refl w⟩ ?_
  rintro _ ⟨r, i, ⟨⟩⟩ w1 ⟨k, hk, rfl, hr, ho, hf⟩
  dsimp only at hr ho ⊢
  have hlen := numsB_le (ns.take k)
  rw [List.length_take, Nat.min_eq_left hk] at hlen
  refine bD ?_ ?_ <;> intro h
  · have hk' : k < ns.length := by omega
    refine ixI hx (by omega) (by simpa using hk') hf ?_
    simp only [Int.toNat_natCast]
    refine (octet_Number_ok hr (by simp; omega) (hn _ (List.getElem_mem _))).mono ?_
    rintro r' w2 ⟨ho2, hf2⟩
    rw [List.append_assoc, ← numsB_take hk'] at ho2
    rw [i64w (by omega) (by omega)]
    exact ⟨⟨k + 1, by omega, by simp, ho2.bs, .inr (ho2.mono hf.size), hf.trans hf2⟩, by omega⟩
  · obtain rfl : k = ns.length := by omega
    rw [List.take_length] at hr ho
    exact ⟨hr, ho.imp (fun h => ⟨List.eq_nil_of_length_eq_zero h.1, h.2⟩) id, hf⟩

theorem Clone_byte_ok {s : Sl} {l : List UInt8} {w : World} (hs : Bs w s l) (hl : l.length ≤ 140737488351232) :
    cl Tryz.prog n_slices_Clone_byte_byte #[.slice s.a s.n s.c] .L w fun (r : Sl) w' => OwB w' w.heap.size t_uint8 r l ∧ Fr w w' := by
  refine slices_Clone_byte_byte.cl ?_
  unfold slices_Clone_byte_byte
  refine bB ?_ ?_ <;> intro h
  · have : l = [] := by
      rcases l with _ | ⟨b, t⟩
      · rfl
      · obtain ⟨ad, ha, _⟩ := hs.rd.u8 (l := b :: t) (i := 0) (by simp)
        rw [ha] at h
        cases h
    subst this
    exact ⟨OwB.nil _ _ _, Fr.refl w⟩
  · exact copyB slB hs (by omega) fun r w' ho hf => ⟨ho, hf⟩

theorem Equal_ok {s x : Sl} {l m : List UInt8} {w : World} (hs : Bs w s l) (hx : Bs w x m) :
    cl Tryz.prog n_bytes_Equal #[.slice s.a s.n s.c, .slice x.a x.n x.c] .B w fun (r : Bool) w' => r = decide (l = m) ∧ w = w' := by
  refine bytes_Equal.cl ?_
  unfold bytes_Equal
  refine bstrI hs.rd hs.len.symm (Fr.refl w) ?_
  refine bstrI hx.rd hx.len.symm (Fr.refl w) ?_
  rw [beqB_eq]
  exact ⟨rfl, rfl⟩

end Go.Proofs.YtoglafmpllimgaaGreatDoor
namespace Go.Fl

/-- A sum of words, the higher byte first; 'hi': the next byte is a higher one. -/
def wordsN : Bool → List UInt8 → Nat
  | _, [] => 0
  | true, x :: l => x.toNat * 256 + wordsN false l
  | false, x :: l => x.toNat + wordsN true l
def foldF : Nat → Nat → Nat
  | 0, n => n
  | k + 1, n => if n ≤ 65535 then n else foldF k (n / 65536 + n % 65536)
def foldN (n : Nat) : Nat := foldF 8 n
def inetN (b : List UInt8) : Nat := 65535 - foldN (foldN (wordsN true b))
/-- A sequence number further on; how far one stands behind another; is it one of so many? -/
def qAdd (a n : Int) : Int := (a + n) % 4294967296
def qDiff (a b : Int) : Int := if (a - b) % 4294967296 < 2147483648 then (a - b) % 4294967296 else (a - b) % 4294967296 - 4294967296
def qIn (x f n : Int) : Bool := decide (0 < n ∧ (x - f) % 4294967296 < n)
def qClip (sf sn f n : Int) : Int × Int :=
  if sn ≤ 0 ∨ n ≤ 0 ∨ (sf - f) % 4294967296 = 2147483648 then (0, 0)
  else if max 0 (qDiff f sf) ≥ sn ∨ qDiff sf f ≥ n then (0, 0)
  else (max 0 (qDiff f sf), min (sn - max 0 (qDiff f sf)) (n - max 0 (qDiff sf f)))
def qMost (a b : Int) : Int := if qDiff b a > qDiff a a then b else a
/-- A packet. -/
structure Pk where
  src : Int
  dst : Int
  sport : Int
  dport : Int
  seq : Int
  ack : Int
  flags : Int
  window : Int
  probe : Int
  origin : Int
  data : List UInt8
deriving DecidableEq
def pk0 : Pk := ⟨0, 0, 0, 0, 0, 0, 0, 0, 0, 0, []⟩
/-- May a packet be? -/
def okPk (src dst sport dport flags window probe origin : Int) (n : Nat) : Prop :=
  (1 ≤ src ∧ src ≤ 4) ∧ (1 ≤ dst ∧ dst ≤ 4) ∧ src ≠ dst ∧ (1 ≤ sport ∧ sport ≤ 65535) ∧ (1 ≤ dport ∧ dport ≤ 65535) ∧ (0 ≤ flags ∧ flags ≤ 15) ∧ (0 ≤ window ∧ window ≤ 65535) ∧ (0 ≤ probe ∧ probe ≤ 1099511627776) ∧ (0 ≤ origin ∧ origin ≤ 65535) ∧ n ≤ 128
instance instDecOkPk (a b c d e f g h : Int) (n : Nat) : Decidable (okPk a b c d e f g h n) := by unfold okPk; infer_instance
def Pk.ok (p : Pk) : Prop := okPk p.src p.dst p.sport p.dport p.flags p.window p.probe p.origin p.data.length
instance instDecPk (p : Pk) : Decidable p.ok := by unfold Pk.ok; infer_instance
/-- Its numbers are words. -/
def Pk.q (p : Pk) : Prop := (0 ≤ p.seq ∧ p.seq < 4294967296) ∧ (0 ≤ p.ack ∧ p.ack < 4294967296)
def b8 (n : Int) : UInt8 := UInt8.ofNat (n % 256).toNat
def be2 (n : Int) : List UInt8 := [b8 (n / 256), b8 n]
def be4 (n : Int) : List UInt8 := [b8 (n / 16777216), b8 (n / 65536), b8 (n / 256), b8 n]
def optP (p : Pk) : List UInt8 := (if p.probe > 0 then [1, 10] ++ be4 (p.probe / 4294967296) ++ be4 p.probe else []) ++ (if p.origin > 0 then [2, 4] ++ be2 p.origin else [])
/-- What stands ahead of the sum, and behind it. -/
def frontP (p : Pk) : List UInt8 := [0x46, b8 p.src, b8 p.dst, b8 p.flags] ++ be2 p.sport ++ be2 p.dport ++ be4 p.seq ++ be4 p.ack ++ be2 p.window
def tailP (p : Pk) : List UInt8 := [b8 (optP p).length, 0] ++ optP p ++ p.data
def bytesP (p : Pk) : List UInt8 := frontP p ++ be2 (inetN (frontP p ++ [0, 0] ++ tailP p)) ++ tailP p
def putP (p : Pk) : List UInt8 × Int := if p.ok then (bytesP p, 0) else ([], 40)
/-- Numbers of bytes. -/
def g2 (b : List UInt8) (i : Nat) : Int := ((b.getD i 0).toNat : Int) * 256 + (b.getD (i + 1) 0).toNat
def g4 (b : List UInt8) (i : Nat) : Int := g2 b i * 65536 + g2 b (i + 2)
/-- A packet's options. -/
def probe8 (l : List UInt8) : Int := IntKind.i64.wrap (g4 l 2 * 4294967296 + g4 l 6)
def optA (p : Pk) (o : List UInt8) : Pk := if 10 ≤ o.length ∧ o.getD 0 0 = 1 then { p with probe := probe8 o } else p
def optR (o : List UInt8) : List UInt8 := if 10 ≤ o.length ∧ o.getD 0 0 = 1 then o.drop 10 else o
def optB (p : Pk) (o : List UInt8) : Pk := if 4 ≤ o.length ∧ o.getD 0 0 = 2 then { p with origin := g2 o 2 } else p
def readO (p : Pk) (o : List UInt8) : Pk := optB (optA p o) (optR o)
/-- What stands in bytes, if they are a packet's. -/
def parseP (b : List UInt8) : Pk :=
  let n := 22 + (b.getD 20 0).toNat
  { readO ⟨(b.getD 1 0).toNat, (b.getD 2 0).toNat, g2 b 4, g2 b 6, g4 b 8, g4 b 12, (b.getD 3 0).toNat, g2 b 16, 0, 0, []⟩ ((b.take n).drop 22) with data := b.drop n }
/-- The packet whose bytes they are. -/
def getP (b : List UInt8) : Option Pk := if 22 ≤ b.length ∧ 22 + (b.getD 20 0).toNat ≤ b.length ∧ putP (parseP b) = (b, 0) then some (parseP b) else none
def Pk.takes (p : Pk) : Int := p.data.length + (if p.flags % 2 = 1 then 1 else 0) + (if p.flags / 4 % 2 = 1 then 1 else 0)
def Pk.back (p : Pk) : Pk := { pk0 with src := p.dst, dst := p.src, sport := p.dport, dport := p.sport }
def Pk.refuse (p : Pk) : Option Pk := if p.flags / 8 % 2 = 1 then none
  else some { p.back with flags := 10, ack := qAdd p.seq p.takes, seq := if p.flags / 2 % 2 = 1 then p.ack else 0 }
end Go.Fl
namespace Go.Fl
open Go.RowKit

theorem ldB0 {w : World} {g i : Nat} {cs : Array Value} {t : TypeId} {f : Nat × Nat} {b : Bool} {K : Bool → Prop} (h : w.heap[g]? = some (.cells cs t f)) (hi : cs[i]? = some (.bool b)) (k : K b) : ld .B w ⟨g, i, none⟩ K :=
  ⟨b, (cell_of_row w g i cs t f h).trans hi, k⟩
theorem ldL0 {w : World} {g i : Nat} {cs : Array Value} {t : TypeId} {f : Nat × Nat} {s : Sl} {K : Sl → Prop} (h : w.heap[g]? = some (.cells cs t f)) (hi : cs[i]? = some (.slice s.a s.n s.c)) (k : K s) : ld .L w ⟨g, i, none⟩ K :=
  ⟨s, (cell_of_row w g i cs t f h).trans hi, k⟩
theorem ldI0 {w : World} {g i : Nat} {cs : Array Value} {t : TypeId} {f : Nat × Nat} {kd : IntKind} {n : Int} {K : Int → Prop} (h : w.heap[g]? = some (.cells cs t f)) (hi : cs[i]? = some (.int kd n)) (k : K n) : ld (.I kd) w ⟨g, i, none⟩ K :=
  ⟨n, (cell_of_row w g i cs t f h).trans hi, k⟩
theorem ldP0 {w : World} {g i : Nat} {cs : Array Value} {t : TypeId} {f : Nat × Nat} {p : Option Addr} {K : Option Addr → Prop} (h : w.heap[g]? = some (.cells cs t f)) (hi : cs[i]? = some (.pointer p)) (k : K p) : ld .P w ⟨g, i, none⟩ K :=
  ⟨p, (cell_of_row w g i cs t f h).trans hi, k⟩

theorem st0 {w : World} {g i : Nat} {cs : Array Value} {t : TypeId} {v : Value} {K : World → Prop} (h : w.heap[g]? = some (.cells cs t (0, 0))) (hi : i < cs.size)
    (hk : ∀ w', w'.heap[g]? = some (.cells (cs.setIfInBounds i v) t (0, 0)) → w.grownBy w' (some g) → w'.heap.size = w.heap.size → K w') : st1 w ⟨g, i, none⟩ v K := by
  refine ⟨⟨cs[i], by rw [cell_of_row w g i cs t _ h]; exact Array.getElem?_eq_getElem hi⟩, by simp [World.frozen?, h], hk _ ?_ ⟨rfl, rfl, rfl, by simp [World.setCell], fun k _ hk => Below.heap_setCell _ _ _ _ (fun e => hk (by rw [e]))⟩ (by simp [World.setCell])⟩
  simp [World.setCell, Array.getElem?_modify, h]

theorem Fr.heap {w w' : World} (h : Fr w w') {g : Nat} {o : Obj} (hg : w.heap[g]? = some o) : w'.heap[g]? = some o :=
  (h.block g (Array.getElem?_eq_some_iff.1 hg).1).trans hg

/-- A part of memory stays. -/
def Kp (S : Nat → Prop) (w w' : World) : Prop := ∀ k, k < w.heap.size → S k → w'.heap[k]? = w.heap[k]?
theorem Kp.rd {S : Nat → Prop} {w w' : World} {A : Option Addr} {xs : List Value} (h : Rd w A xs) (hk : Kp S w w') (hS : ∀ ad, A = some ad → S ad.block) : Rd w' A xs :=
  h.keep fun ad e j hlt => World.cell?_of_block (w := w) (by rw [add_block]; exact hk _ hlt (hS ad e))
theorem Bs.kp {S : Nat → Prop} {w w' : World} {s : Sl} {l : List UInt8} (h : Bs w s l) (hk : Kp S w w') (hS : ∀ ad, s.a = some ad → S ad.block) : Bs w' s l := ⟨Kp.rd h.rd hk hS, h.len, h.cap⟩
theorem Bs.kpn {S : Nat → Prop} {w w' : World} {s : Sl} {l : List UInt8} (h : Bs w s l) (hk : Kp S w w') (hS : l ≠ [] → ∀ ad, s.a = some ad → S ad.block) : Bs w' s l := by
  cases l with
  | nil => exact ⟨Rd.nil _ _, h.len, h.cap⟩
  | cons b t => exact h.kp hk (hS (by simp))
theorem Bs.lt {w : World} {s : Sl} {l : List UInt8} (h : Bs w s l) (hl : l ≠ []) : ∀ ad, s.a = some ad → ad.block < w.heap.size := fun ad ha => by
  cases l with
  | nil => exact absurd rfl hl
  | cons b t =>
    obtain ⟨ad', ha', hc⟩ := h.rd.u8 (l := b :: t) (i := 0) (by simp)
    rw [ha] at ha'
    cases ha'
    have := World.block_lt_of_cell? w _ hc
    rwa [add_block] at this
theorem kp_grown {w w' : World} {g : Nat} (h : w.grownBy w' (some g)) : Kp (· ≠ g) w w' := fun k hk hne => h.block k hk (fun e => hne (Option.some.inj e))
theorem OwB.own {w : World} {base : Nat} {e : TypeId} {s : Sl} {l : List UInt8} (h : OwB w base e s l) : ∀ ad, s.a = some ad → base ≤ ad.block ∧ ad.block < w.heap.size := fun ad ha => h.block ad.block (by rw [ha]; rfl)
theorem OwB.kp {S : Nat → Prop} {w w' : World} {base : Nat} {e : TypeId} {s : Sl} {l : List UInt8} (h : OwB w base e s l) (hk : Kp S w w') (hS : ∀ ad, s.a = some ad → S ad.block) : OwB w' base e s l := by
  refine ⟨h.1, ?_⟩
  rcases h.2 with hn | ⟨g, cap, cur, hv, hb, hgg, rest⟩
  · exact .inl hn
  · have ha : s.a = some ⟨g, 0, none⟩ := by injection hv
    exact .inr ⟨g, cap, cur, hv, hb, (hk g (Array.getElem?_eq_some_iff.1 hgg).1 (hS _ ha)).trans hgg, rest⟩
theorem grown_below {w w' : World} {g base : Nat} (h : w.grownBy w' (some g)) (hb : base ≤ g) (hs : base ≤ w.heap.size) : Below base w w' :=
  (Below.refl base w).grown h hs fun k hk => by cases hk; exact hb
theorem fr_grown {w w' : World} {g : Nat} (h : Fr w w') : w.grownBy w' (some g) := ⟨h.os, h.tape, h.output, h.size, fun k hk _ => h.block k hk⟩
/-- A byte of an own slice is written. -/
theorem stB {w : World} {base : Nat} {e : TypeId} {s : Sl} {l : List UInt8} {i : Int} {v : Value} {K : World → Prop} (h : OwB w base e s l) (h0 : 0 ≤ i) (hi : i.toNat < l.length) (b : UInt8) (hv : v = .int .u8 b.toNat)
    (hk : ∀ w', OwB w' base e s (l.set i.toNat b) → Below base w w' → (∀ k, some k ≠ (Value.slice s.a s.n s.c).ownBlock → w'.heap[k]? = w.heap[k]?) → w'.heap.size = w.heap.size → K w') : ixa s.a s.n i 1 fun a => st1 w a v K := by
  have hl := h.len
  obtain ⟨h1, h2⟩ := h
  rcases h2 with ⟨_, hn⟩ | ⟨g, cap, cur, hs, hb, hg, hnc, hcm, hsz, ht⟩
  · omega
  · have ha : s.a = some ⟨g, 0, none⟩ := by injection hs
    refine ⟨h0, by omega, ?_⟩
    rw [ha]
    have he : atOff ⟨g, 0, none⟩ i 1 = ⟨g, i.toNat, none⟩ := by
      show Addr.add _ _ = _
      unfold Addr.add
      split <;> simp_all
    show st1 w (atOff ⟨g, 0, none⟩ i 1) v K
    rw [he]
    refine st0 hg (by omega) fun w' hb' hgr hsz' => hk w' ⟨?_, .inr ⟨g, cap, _, hs, hb, hb', hnc, hcm, by simpa using hsz, ?_⟩⟩ ⟨hgr.os, hgr.tape, hgr.output, hgr.size, fun k hk => ?_⟩ (fun k hk => ?_) hsz'
    · simpa [u8s] using h1
    · rw [Array.toList_setIfInBounds, List.take_set, ht, hv]
      simp [u8s, List.map_set]
    · by_cases hkl : k < w.heap.size
      · exact hgr.block k hkl (fun e => by cases e; omega)
      · rw [Array.getElem?_eq_none (by omega), Array.getElem?_eq_none (by omega)]
    · rw [ha] at hk
      by_cases hkl : k < w.heap.size
      · exact hgr.block k hkl hk
      · rw [Array.getElem?_eq_none (by omega), Array.getElem?_eq_none (by omega)]
theorem run_append_none {P : Program} (w : World) {t ty e : TypeId} {i : TypeInfo} (ht : P.underlying t = some (.slice e)) (hi : P.info? e = some i) (A B : Option Addr) {n c d : Nat} (hle : n ≤ c) :
    (Builtin.append_ #[t, t] ty #[.slice A n c, .slice B 0 d]).run P w = .ok (.slice A n c) w := by
  cases A <;> cases B <;> simp [Builtin.append_, run_underlying ht, sizeOf, typeInfo, hi, Builtin.lenOf, Builtin.firstCells, loadCells, loadCellsFrom, hle, storeCells]
/-- append to a new empty slice: no block that was there turns. -/
theorem app0B {P : Program} {t ty e : TypeId} (hT : SlT P t e 1 1) {base b : Nat} {x : Sl} {w : World} {K : Sl → World → Prop} {m : List UInt8} (hb : w.heap[b]? = some (.cells #[] e (0, 0))) (hbb : base ≤ b) (hx : Bs w x m) (hl : m.length ≤ 140737488355328) (hbase : base ≤ w.heap.size)
    (h : ∀ (r : Sl) w', OwB w' base e r m → Fr w w' → K r w') : app P t ty ⟨some ⟨b, 0, none⟩, 0, 0⟩ x w K := by
  obtain ⟨i, z, hi, hz, hsize, hby, hzs⟩ := hT.info
  have hn := hx.len
  cases m with
  | nil =>
    obtain ⟨A, n, c⟩ := x
    obtain rfl : n = 0 := hn
    exact ⟨_, w, run_append_none w hT.under hi _ _ (Nat.le_refl _), h _ _ (OwB.new hb hbb) (Fr.refl w)⟩
  | cons u m =>
    obtain ⟨ad, ha, _⟩ := hx.rd.u8 (l := u :: m) (i := 0) (by simp)
    obtain ⟨v', w', hrun, ho, hg⟩ := run_append_arg_grows (P := P) w t ty e i z 1 1 hT.under hi hz hsize hby hzs (by decide) ⟨b, 0, none⟩ 0 0 [] rfl (fun j u hu => by simp at hu) ad x.n x.c (u8s (u :: m)) (by rw [u8s_length, hn]; simp)
      (fun j u' hu => by obtain ⟨ad', ha', hc⟩ := hx.rd j u' hu; rw [ha] at ha'; cases ha'; exact hc) (by rw [hn]; simp) (by simp only [maxLen]; rw [hn]; simp at hl ⊢; omega) (by rw [hn]; simp at hl ⊢; omega)
    rw [Nat.zero_add, List.nil_append] at ho
    obtain ⟨r, rfl, hrn⟩ := sl_of_own ho
    refine ⟨r, w', by rw [ha]; exact hrun, h r w' ?_ ⟨hg.os, hg.tape, hg.output, hg.size, fun k hk => hg.block k hk (by simp)⟩⟩
    have : OwB w' w.heap.size e r (u :: m) := by unfold OwB; rw [← hrn] at ho; exact ho
    exact this.mono hbase
end Go.Fl
namespace Go.Fl
open Go.RowKit

/-- A byte of a slice is read, by its value. -/
theorem ixBc {w w' : World} {s : Sl} {l : List UInt8} {i : Int} {c : UInt8} {K : Int → Prop} (hs : Rd w s.a (u8s l)) (hl : s.n = l.length) (h0 : 0 ≤ i) (hc : l[i.toNat]? = some c) (hw : Fr w w')
    (h : K (c.toNat)) : ixa s.a s.n i 1 fun a => ld (.I .u8) w' a K := by
  obtain ⟨hi, rfl⟩ := List.getElem?_eq_some_iff.1 hc
  exact ixB hs hl h0 hi hw h
/-- make([]T, n): a row of n zeros, T of one cell. -/
theorem mksN {P : Program} {t e : TypeId} {bytes : Nat} {z : Value} (hu : P.underlying t = some (.slice e)) (hinfo : (P.info? e).map (fun i => (i.zero, i.size, i.bytes)) = some (some z, 1, bytes)) (hz1 : z.cells = #[z]) (base : Nat) {C : Int} {w : World} {K : Sl → World → Prop} (n : Nat) (hC : C = (n : Int)) (hb : bytes * n ≤ 140737488355328) (h63 : n ≤ 140737488355328) (hbase : base ≤ w.heap.size)
    (h : ∀ w', w'.ownsRow base e 1 (.slice (some ⟨w.heap.size, 0, none⟩) n n) n (List.replicate n z) → w'.heap[w.heap.size]? = some (.cells (List.replicate n z).toArray e (0, 0)) → w'.heap.size = w.heap.size + 1 → Fr w w' → K ⟨some ⟨w.heap.size, 0, none⟩, n, n⟩ w') : mks P t C C w K := by
  subst hC
  have hrun := run_make_row' (P := P) t e z bytes hu hinfo hz1 .i64 .i64 n (by omega) (by omega) w
  have hm : madeCells #[z] n = (List.replicate n z).toArray := by
    apply Array.toList_inj.1
    rw [toList_madeCells_one]
  rw [hm] at hrun
  refine ⟨⟨some ⟨w.heap.size, 0, none⟩, n, n⟩, _, hrun, h _ ?_ (heap_alloc_new w _) (by simp) (Fr.alloc _ _)⟩
  exact World.ownsRow_lit w (List.replicate n z).toArray n hbase (by simp only [maxLen]; omega) (by simp)
theorem Addr.add0 (a : Addr) : a.add 0 = a := by simp [Addr.add]
theorem addOff (g i j : Nat) : (⟨g, i, none⟩ : Addr).add j = ⟨g, i + j, none⟩ := by unfold Addr.add; split <;> simp_all
/-- A row is stored. -/
theorem stL_row {g : Nat} {t : TypeId} : ∀ {vs : List Value} {cs : List Value} {i : Nat} {w : World} {K : World → Prop}, w.heap[g]? = some (.cells cs.toArray t (0, 0)) → i + vs.length ≤ cs.length → (∀ v ∈ vs, v.oneCell' = true) →
    (∀ w', w'.heap[g]? = some (.cells (cs.take i ++ vs ++ cs.drop (i + vs.length)).toArray t (0, 0)) → w.grownBy w' (some g) → w'.heap.size = w.heap.size → K w') → stL ⟨g, 0, none⟩ w i vs K
  | [], cs, i, w, K, h, _, _, hk => by
    refine hk w ?_ (World.grownBy.refl _ _) rfl
    simpa using h
  | v :: vs, cs, i, w, K, h, hi, h1, hk => by
    simp only [List.length_cons] at hi
    refine ⟨h1 v (by simp), ?_⟩
    rw [addOff, Nat.zero_add]
    refine st0 h (by simp; omega) fun w' hb hg hs => ?_
    refine stL_row (cs := cs.set i v) (i := i + 1) (by simpa using hb) (by simp; omega) (fun u hu => h1 u (by simp [hu])) fun w2 hb2 hg2 hs2 => hk w2 ?_ (hg.trans hg2) (hs2.trans hs)
    have e : (cs.set i v).take (i + 1) ++ vs ++ (cs.set i v).drop (i + 1 + vs.length) = cs.take i ++ (v :: vs) ++ cs.drop (i + (v :: vs).length) := by
      rw [List.take_set, List.drop_set_of_lt (by omega), List.take_succ_eq_append_getElem (by omega), List.set_append_right _ _ (by simp; omega), List.length_take, List.length_cons, Nat.min_eq_left (by omega), Nat.sub_self]
      simp [Nat.add_assoc, Nat.add_comm 1]
    rw [hb2, e]
theorem ldM0 {w : World} {g i : Nat} {cs : Array Value} {t : TypeId} {f : Nat × Nat} {r : Option Nat} {K : Option Nat → Prop} (h : w.heap[g]? = some (.cells cs t f)) (hi : cs[i]? = some (.map r)) (k : K r) : ld .M w ⟨g, i, none⟩ K :=
  ⟨r, (cell_of_row w g i cs t f h).trans hi, k⟩
theorem atH (g : Nat) (i : Int) : atOff ⟨g, 0, none⟩ i 1 = ⟨g, i.toNat, none⟩ := by
  show Addr.add _ _ = _
  rw [addOff, Nat.zero_add]
/-- A number of a known block is read; one is written. -/
theorem ixH {w : World} {g n : Nat} {cs : List Value} {t : TypeId} {f : Nat × Nat} {i : Int} {kd : IntKind} {v : Int} {K : Int → Prop} (h : w.heap[g]? = some (.cells cs.toArray t f)) (h0 : 0 ≤ i) (hn : i < n) (hi : cs[i.toNat]? = some (.int kd v)) (k : K v) :
    ixa (some ⟨g, 0, none⟩) n i 1 fun a => ld (.I kd) w a K := by
  refine ⟨h0, hn, ?_⟩
  show ld (.I kd) w (atOff ⟨g, 0, none⟩ i 1) K
  rw [atH]
  exact ldI0 h (by simpa using hi) k
theorem run_zeroV {P : Program} {e : TypeId} {z : Value} (h : (P.info? e).map (·.zero) = some (some z)) (w : World) : (zeroValue e).run P w = .ok z w := by
  obtain ⟨i, hi, hz⟩ := Option.map_eq_some_iff.1 h
  simp [zeroValue, typeInfo, hi, hz]
end Go.Fl
namespace Go.Fl

abbrev w32 (n : Int) : Int := IntKind.u32.wrap n
/-- A row of words that is there. -/
def Glob (w : World) (g : Nat) (l : List Int) : Prop := ∀ i (h : i < l.length), w.cell? ⟨g, i, none⟩ = some (.int .u32 l[i])
theorem Glob.fr {w w' : World} {g : Nat} {l : List Int} (h : Glob w g l) (hf : Fr w w') : Glob w' g l := fun i hi => by
  have hb := World.block_lt_of_cell? w _ (h i hi)
  have e : w'.heap[g]? = w.heap[g]? := hf.block g hb
  exact (World.cell?_of_block (w := w) (by exact e)).trans (h i hi)
theorem Glob.grown {w w' : World} {g q : Nat} {l : List Int} (h : Glob w q l) (hg : w.grownBy w' (some g)) (hne : g ≠ q) : Glob w' q l := fun i hi => by
  have hb := World.block_lt_of_cell? w _ (h i hi)
  have e : w'.heap[q]? = w.heap[q]? := hg.block q hb (by simp; omega)
  exact (World.cell?_of_block (w := w) (by exact e)).trans (h i hi)
/-- A row in a known block. -/
theorem ldRow {w : World} {g i n : Nat} {cs vs : List Value} {t : TypeId} {f : Nat × Nat} {K : {l : List Value // l.length = n} → Prop} (h : w.heap[g]? = some (.cells cs.toArray t f)) (hv : (cs.drop i).take n = vs) (hn : vs.length = n) (k : K ⟨vs, hn⟩) : ld (.row n) w ⟨g, i, none⟩ K := by
  refine ⟨⟨vs, hn⟩, fun j hj => ?_, k⟩
  rw [addOff, cell_of_row w g (i + j) cs.toArray t f h]
  have e : (cs.drop i)[j]? = some vs[j] := by
    have : ((cs.drop i).take n)[j]? = some vs[j] := by rw [hv]; exact List.getElem?_eq_getElem hj
    rw [List.getElem?_take] at this
    split at this
    · exact this
    · cases this
  rw [List.getElem?_drop] at e
  simpa using e
theorem ixGlob {w : World} {g n : Nat} {l : List Int} {i : Nat} {K : Int → Prop} (h : Glob w g l) (hi : i < l.length) (hn : l.length = n) (k : K (l.getD i 0)) : ixa (some ⟨g, 0, none⟩) n (i : Int) 1 fun a => ld (.I .u32) w a K := by
  refine ⟨by omega, by omega, ?_⟩
  show ld (.I .u32) w (atOff ⟨g, 0, none⟩ (i : Int) 1) K
  rw [atH, Int.toNat_natCast]
  refine ⟨_, h i hi, ?_⟩
  rw [List.getD_eq_getElem?_getD, List.getElem?_eq_getElem hi, Option.getD_some] at k
  exact k
def F0 : List Int := [1779033703, 3144134277, 1013904242, 2773480762, 1359893119, 2600822924, 528734635, 1541459225]
end Go.Fl
namespace Go.Fl

abbrev RecT := Int × Int × {l : List Value // l.length = 32} × Sl × Unit
abbrev slV (s : Sl) : Value := .slice s.a s.n s.c
/-- A row is stored, from a place on. -/
theorem stL_at {g o : Nat} {t : TypeId} : ∀ {vs : List Value} {cs : List Value} {i : Nat} {w : World} {K : World → Prop}, w.heap[g]? = some (.cells cs.toArray t (0, 0)) → o + i + vs.length ≤ cs.length → (∀ v ∈ vs, v.oneCell' = true) →
    (∀ w', w'.heap[g]? = some (.cells (cs.take (o + i) ++ vs ++ cs.drop (o + i + vs.length)).toArray t (0, 0)) → w.grownBy w' (some g) → w'.heap.size = w.heap.size → K w') → stL ⟨g, o, none⟩ w i vs K
  | [], cs, i, w, K, h, _, _, hk => by
    refine hk w ?_ (World.grownBy.refl _ _) rfl
    simpa using h
  | v :: vs, cs, i, w, K, h, hi, h1, hk => by
    simp only [List.length_cons] at hi
    refine ⟨h1 v (by simp), ?_⟩
    rw [addOff]
    refine st0 h (by simp; omega) fun w' hb hg hs => ?_
    refine stL_at (cs := cs.set (o + i) v) (i := i + 1) (by simpa using hb) (by simp; omega) (fun u hu => h1 u (by simp [hu])) fun w2 hb2 hg2 hs2 => hk w2 ?_ (hg.trans hg2) (hs2.trans hs)
    have e : (cs.set (o + i) v).take (o + (i + 1)) ++ vs ++ (cs.set (o + i) v).drop (o + (i + 1) + vs.length) = cs.take (o + i) ++ (v :: vs) ++ cs.drop (o + i + (v :: vs).length) := by
      rw [← Nat.add_assoc o i 1, List.take_set, List.drop_set_of_lt (by omega), List.take_succ_eq_append_getElem (by omega), List.set_append_right _ _ (by simp; omega), List.length_take, List.length_cons, Nat.min_eq_left (by omega), Nat.sub_self]
      simp [Nat.add_assoc, Nat.add_comm 1]
    rw [hb2, e]
end Go.Fl
