/- Contracts and plain laws that the claims of this seat lean on, put together. -/
import Derived.Test.YtkaombhkepopgaaDoorM0
import Derived.ArgAppend
import Derived.Laws.OwnMore
import Derived.Stop.BytesEq
import Derived.MapKept
set_option linter.unusedVariables false
set_option maxHeartbeats 4000000
namespace Go.Proofs.YtkaombhkepopgaaDoor
open Go.Fl
/-- (*flume/store.Store).Put -/
def an_store_Store_Put : Nat → LA
  | 11 => [] | 1000014 => [(0, .nil)] | 1000015 => [(0, .nil)] | 1000016 => [(0, .nil)] | _ => []
def store_Store_Put (p0 : Option Addr) (p1 : {l : List Value // l.length = 32}) (p2 : Sl) (Q : Int → World → Prop) (w : World) : Prop :=
 nw w (p1.1) t_api_Sum fun a1 w2 => cl Tryd.prog n_store_Store_made #[.pointer p0] .B w2 fun (x3 : Bool) w4 => bif (!x3) then
 (Q 6 w4)
 else nz p0 fun a5 => ld .M w4 (a5.add 4) fun (x6 : Option Nat) => ld (.row 32) w4 a1 fun (x7 : {l : List Value // l.length = 32}) => qn Tryd.prog (Instr.lookup t_map_api_Sum_int (.map x6) (.agg (x7.1).toArray) true) (.tup (.pair (.I .i64) (.pair .B .nil))) w4 fun (x8 : (Int × (Bool × Unit))) => dr w4 fun w9 => bif x8.2.1 then
 (nz p0 fun a10 => cl Tryd.prog n_store_row_unlink #[.pointer (some a10), .int .i64 x8.1] (.tup .nil) w9 fun (x11 : Unit) w12 => nz p0 fun a13 => cl Tryd.prog n_store_row_link #[.pointer (some a13), .int .i64 x8.1] (.tup .nil) w12 fun (x14 : Unit) w15 => Q 0 w15)
 else cl Tryd.prog n_store_Store_held #[.pointer p0] (.tup (.pair (.I .i64) (.pair (.I .i64) .nil))) w9 fun (x16 : (Int × (Int × Unit))) w17 => nz p0 fun a18 => ld (.I .i64) w17 (a18.add 5) fun (x19 : Int) => bif (decide (x16.1 ≥ x19)) then
 (Q 7 w17)
 else nz p0 fun a20 => ld (.I .i64) w17 (a20.add 6) fun (x21 : Int) => bif (decide ((p2.n : Int) > (IntKind.i64.wrap (x21 - x16.2.1)))) then
 (Q 7 w17)
 else lp (α := Unit) (fun K => K ()) w17 fun D24 J25 s22 w23 =>
 nz p0 fun a26 => ld .M w23 (a26.add 4) fun (x27 : Option Nat) => qn Tryd.prog (Builtin.len_ #[t_map_api_Sum_int] t_int #[.map x27]) (.I .i64) w23 fun (x28 : Int) => nz p0 fun a29 => ld (.I .i64) w23 (a29.add 5) fun (x30 : Int) => bif (decide (x28 ≥ x30)) then (dr w23 fun w31 => cl Tryd.prog n_store_Store_loose #[.pointer p0] (.I .i64) w31 fun (x37 : Int) w38 => cl Tryd.prog n_store_Store_remove #[.pointer p0, .int .i64 x37] (.tup .nil) w38 fun (x39 : Unit) w40 => J25 () w40) else nz p0 fun a32 => ld (.I .i64) w23 (a32.add 6) fun (x33 : Int) => nz p0 fun a34 => ld (.I .i64) w23 (a34.add 7) fun (x35 : Int) => dr w23 fun w36 => bif (decide ((p2.n : Int) > (IntKind.i64.wrap (x33 - x35)))) then
  (cl Tryd.prog n_store_Store_loose #[.pointer p0] (.I .i64) w36 fun (x41 : Int) w42 => cl Tryd.prog n_store_Store_remove #[.pointer p0, .int .i64 x41] (.tup .nil) w42 fun (x43 : Unit) w44 => J25 () w44)
  else nz p0 fun a45 => ld .L w36 (a45.add 1) fun (x46 : Sl) => nz p0 fun a47 => ld .L w36 (a47.add 1) fun (x48 : Sl) => ixa x46.a x46.n (IntKind.i64.wrap ((x48.n : Int) - 1)) 1 fun a49 => ld (.I .i64) w36 a49 fun (x50 : Int) => dr w36 fun w51 => dr w51 fun w52 => nz p0 fun a53 => ld .L w52 (a53.add 1) fun (x54 : Sl) => nz p0 fun a55 => ld .L w52 (a55.add 1) fun (x56 : Sl) => sls x54 0 (IntKind.i64.wrap ((x56.n : Int) - 1)) 1 fun r57 => nz p0 fun a58 => st1 w52 (a58.add 1) (.slice r57.a r57.n r57.c) fun w59 => dr w59 fun w60 => nz p0 fun a61 => ld .L w60 a61 fun (x62 : Sl) => ld (.row 32) w60 a1 fun (x63 : {l : List Value // l.length = 32}) => cl Tryd.prog n_slices_Clone_byte_byte #[.slice p2.a p2.n p2.c] .L w60 fun (x64 : Sl) w65 => Fr w60 w65 ∧ ixa x62.a x62.n x50 36 fun a66 => st w65 a66 (Kd.av k_store_slot (x63, (x64, (0, (0, (0, ())))))) fun w67 => dr w67 fun w68 => nz p0 fun a69 => ld .M w68 (a69.add 4) fun (x70 : Option Nat) => ld (.row 32) w68 a1 fun (x71 : {l : List Value // l.length = 32}) => ru Tryd.prog (Instr.mapUpdate t_map_api_Sum_int (.map x70) (.agg (x71.1).toArray) (.int .i64 x50)) w68 fun w72 => nz p0 fun a73 => ld (.I .i64) w72 (a73.add 7) fun (x74 : Int) => nz p0 fun a75 => st1 w72 (a75.add 7) (.int .i64 (IntKind.i64.wrap (x74 + (p2.n : Int)))) fun w76 => nz p0 fun a77 => cl Tryd.prog n_store_row_link #[.pointer (some a77), .int .i64 x50] (.tup .nil) w76 fun (x78 : Unit) w79 => Q 0 w79
theorem store_Store_Put.t (p0 : Option Addr) (p1 : {l : List Value // l.length = 32}) (p2 : Sl) (Q : Int → World → Prop) (w : World) : store_Store_Put p0 p1 p2 Q w = fvc Tryd.prog an_store_Store_Put Tryd.f37 (.I .i64) [Kd.av .P p0, Kd.av (.row 32) p1, Kd.av .L p2] w Q := by kernel_rfl
theorem store_Store_Put.k : fnOk Tryd.prog Tryd.f37 = true := by kernel_rfl
theorem store_Store_Put.cl {p0 : Option Addr} {p1 : {l : List Value // l.length = 32}} {p2 : Sl} {Q : Int → World → Prop} {w : World} (h : store_Store_Put p0 p1 p2 Q w) : cl Tryd.prog n_store_Store_Put #[.pointer p0, .agg (p1.1).toArray, .slice p2.a p2.n p2.c] (.I .i64) w Q :=
  cl_tie Tryd.func37 store_Store_Put.k (args := [Kd.av .P p0, Kd.av (.row 32) p1, Kd.av .L p2]) (store_Store_Put.t p0 p1 p2 Q w) h

/-- slices.Clone[[]flume/dedup.kept,flume/dedup.kept] -/
def slices_Clone_dedup_kept_dedup_kept (p0 : Sl) (Q : Sl → World → Prop) (w : World) : Prop :=
 bif p0.a.isNone then
 (Q ⟨none, 0, 0⟩ w)
 else nw w [] t_dedup_kept fun a1 w2 => app Tryd.prog t_s_dedup_kept t_s_dedup_kept ⟨(some a1), 0, 0⟩ p0 w2 fun r3 w4 => Q r3 w4
theorem slices_Clone_dedup_kept_dedup_kept.t (p0 : Sl) (Q : Sl → World → Prop) (w : World) : slices_Clone_dedup_kept_dedup_kept p0 Q w = fvc Tryd.prog (fun _ => []) Tryd.f38 .L [Kd.av .L p0] w Q := by kernel_rfl
theorem slices_Clone_dedup_kept_dedup_kept.k : fnOk Tryd.prog Tryd.f38 = true := by kernel_rfl
theorem slices_Clone_dedup_kept_dedup_kept.cl {p0 : Sl} {Q : Sl → World → Prop} {w : World} (h : slices_Clone_dedup_kept_dedup_kept p0 Q w) : cl Tryd.prog n_slices_Clone_dedup_kept_dedup_kept #[.slice p0.a p0.n p0.c] .L w Q :=
  cl_tie Tryd.func38 slices_Clone_dedup_kept_dedup_kept.k (args := [Kd.av .L p0]) (slices_Clone_dedup_kept_dedup_kept.t p0 Q w) h

/-- slices.Clone[[]byte,byte] -/
def slices_Clone_byte_byte (p0 : Sl) (Q : Sl → World → Prop) (w : World) : Prop :=
 bif p0.a.isNone then
 (Q ⟨none, 0, 0⟩ w)
 else nw w [] t_uint8 fun a1 w2 => app Tryd.prog t_s_uint8 t_s_uint8 ⟨(some a1), 0, 0⟩ p0 w2 fun r3 w4 => Q r3 w4
theorem slices_Clone_byte_byte.t (p0 : Sl) (Q : Sl → World → Prop) (w : World) : slices_Clone_byte_byte p0 Q w = fvc Tryd.prog (fun _ => []) Tryd.f39 .L [Kd.av .L p0] w Q := by kernel_rfl
theorem slices_Clone_byte_byte.k : fnOk Tryd.prog Tryd.f39 = true := by kernel_rfl
theorem slices_Clone_byte_byte.cl {p0 : Sl} {Q : Sl → World → Prop} {w : World} (h : slices_Clone_byte_byte p0 Q w) : cl Tryd.prog n_slices_Clone_byte_byte #[.slice p0.a p0.n p0.c] .L w Q :=
  cl_tie Tryd.func39 slices_Clone_byte_byte.k (args := [Kd.av .L p0]) (slices_Clone_byte_byte.t p0 Q w) h

/-- flume/digest.New -/
def digest_New  (Q : Option Addr → World → Prop) (w : World) : Prop :=
 ld (.row 8) w ⟨g_digest_first, 0, none⟩ fun (x1 : {l : List Value // l.length = 8}) => nw w ((x1.1 ++ ([.slice none 0 0, .int .i64 0, .bool true] : List Value))) t_digest_Hash fun a2 w3 => Q (some a2) w3
theorem digest_New.t  (Q : Option Addr → World → Prop) (w : World) : digest_New  Q w = fvc Tryd.prog (fun _ => []) Tryd.f41 .P [] w Q := by kernel_rfl
theorem digest_New.k : fnOk Tryd.prog Tryd.f41 = true := by kernel_rfl
theorem digest_New.cl  {Q : Option Addr → World → Prop} {w : World} (h : digest_New  Q w) : cl Tryd.prog n_digest_New #[] .P w Q :=
  cl_tie Tryd.func41 digest_New.k (args := []) (digest_New.t  Q w) h

/-- (*flume/digest.Hash).Write -/
def an_digest_Hash_Write : Nat → LA
  | 3 => [(4, .L)] | 1000002 => [(0, .nil)] | 1000004 => [(0, .nil)] | _ => []
def digest_Hash_Write (p0 : Option Addr) (p1 : Sl) (Q : Unit → World → Prop) (w : World) : Prop :=
 bif p0.isNone then
 (Q () w)
 else nz p0 fun a1 => ld .B w (a1.add 10) fun (x2 : Bool) => bif (!x2) then
 (Q () w)
 else nz p0 fun a3 => ld (.I .i64) w (a3.add 9) fun (x4 : Int) => nz p0 fun a5 => st1 w (a5.add 9) (.int .i64 (IntKind.i64.wrap (x4 + (p1.n : Int)))) fun w6 => dr w6 fun w7 => nz p0 fun a8 => ld .L w7 (a8.add 8) fun (x9 : Sl) => nz p0 fun a10 => ld .L w7 (a10.add 8) fun (x11 : Sl) => mks Tryd.prog t_s_uint8 0 (IntKind.i64.wrap ((x9.n : Int) + (p1.n : Int))) w7 fun r12 w13 => Fr w7 w13 ∧ app Tryd.prog t_s_uint8 t_s_uint8 r12 x11 w13 fun r14 w15 => app Tryd.prog t_s_uint8 t_s_uint8 r14 p1 w15 fun r16 w17 => lp (α := (Sl × Unit)) (fun K => K (r16, ())) w17 fun D20 J21 s18 w19 =>
 bif (decide ((s18.1.n : Int) ≥ 64)) then
  (dr w19 fun w22 => nz p0 fun a23 => sls s18.1 0 64 1 fun r24 => cl Tryd.prog n_digest_state_stir #[.pointer (some a23), .slice r24.a r24.n r24.c] (.tup .nil) w22 fun (x25 : Unit) w26 => sls s18.1 64 s18.1.n 1 fun r27 => J21 (r27, ()) w26)
  else nz p0 fun a28 => st1 w19 (a28.add 8) (.slice s18.1.a s18.1.n s18.1.c) fun w29 => Q () w29
theorem digest_Hash_Write.t (p0 : Option Addr) (p1 : Sl) (Q : Unit → World → Prop) (w : World) : digest_Hash_Write p0 p1 Q w = fvc Tryd.prog an_digest_Hash_Write Tryd.f42 (.tup .nil) [Kd.av .P p0, Kd.av .L p1] w Q := by kernel_rfl
theorem digest_Hash_Write.k : fnOk Tryd.prog Tryd.f42 = true := by kernel_rfl
theorem digest_Hash_Write.cl {p0 : Option Addr} {p1 : Sl} {Q : Unit → World → Prop} {w : World} (h : digest_Hash_Write p0 p1 Q w) : cl Tryd.prog n_digest_Hash_Write #[.pointer p0, .slice p1.a p1.n p1.c] (.tup .nil) w Q :=
  cl_tie Tryd.func42 digest_Hash_Write.k (args := [Kd.av .P p0, Kd.av .L p1]) (digest_Hash_Write.t p0 p1 Q w) h

/-- (*flume/digest.Hash).Sum -/
def an_digest_Hash_Sum : Nat → LA
  | 6 => [(4, .L)] | 9 => [(4, .L), (34, (.I .i64))] | 14 => [(4, .L)] | 18 => [(64, (.I .i64))] | _ => []
def digest_Hash_Sum (p0 : Option Addr) (Q : {l : List Value // l.length = 32} → World → Prop) (w : World) : Prop :=
 nw w ((zrow 32 (.int .u8 0)).1) t_api_Sum fun a1 w2 => nw w2 ((zrow 32 (.int .u8 0)).1) t_api_Sum fun a3 w4 => bif p0.isNone then
 (ld (.row 32) w4 a3 fun (x7 : {l : List Value // l.length = 32}) => stL a1 w4 0 x7.1 fun w8 => ld (.row 32) w8 a1 fun (r9 : {l : List Value // l.length = 32}) => Q r9 w8)
 else nz p0 fun a5 => ld .B w4 (a5.add 10) fun (x6 : Bool) => bif (!x6) then
 (ld (.row 32) w4 a3 fun (x10 : {l : List Value // l.length = 32}) => stL a1 w4 0 x10.1 fun w11 => ld (.row 32) w11 a1 fun (r12 : {l : List Value // l.length = 32}) => Q r12 w11)
 else nw w4 [] t_uint8 fun a13 w14 => nz p0 fun a15 => ld .L w14 (a15.add 8) fun (x16 : Sl) => app Tryd.prog t_s_uint8 t_s_uint8 ⟨(some a13), 0, 0⟩ x16 w14 fun r17 w18 => nw w18 [.int .u8 128] t_uint8 fun a19 w20 => app Tryd.prog t_s_uint8 t_s_uint8 r17 ⟨(some a19), 1, 1⟩ w20 fun r21 w22 => lp (α := (Sl × Unit)) (fun K => K (r21, ())) w22 fun D25 J26 s23 w24 =>
 bif ((Int.tmod (s23.1.n : Int) 64) != 56) then
  (nw w24 [.int .u8 0] t_uint8 fun a27 w28 => app Tryd.prog t_s_uint8 t_s_uint8 s23.1 ⟨(some a27), 1, 1⟩ w28 fun r29 w30 => J26 (r29, ()) w30)
  else lp (α := (Sl × (Int × Unit))) (fun K => K (s23.1, (0, ()))) w24 fun D33 J34 s31 w32 =>
 bif (decide (s31.2.1 < 8)) then
  (nz p0 fun a35 => ld (.I .i64) w32 (a35.add 9) fun (x36 : Int) => bif decide (0 ≤ (IntKind.i64.wrap (56 - (IntKind.i64.wrap (8 * s31.2.1))))) then (nw w32 [.int .u8 (IntKind.u8.wrap ((IntKind.u64.wrap ((IntKind.u64.wrap x36) * 8)) / 2 ^ (min (Int.toNat (IntKind.i64.wrap (56 - (IntKind.i64.wrap (8 * s31.2.1))))) 64)))] t_uint8 fun a37 w38 => app Tryd.prog t_s_uint8 t_s_uint8 s31.1 ⟨(some a37), 1, 1⟩ w38 fun r39 w40 => J34 (r39, ((IntKind.i64.wrap (s31.2.1 + 1)), ())) w40) else False)
  else nz p0 fun a41 => ld (.row 8) w32 a41 fun (x42 : {l : List Value // l.length = 8}) => nw w32 ((zrow 8 (.int .u32 0)).1) t_digest_state fun a43 w44 => stL a43 w44 0 x42.1 fun w45 => lp (α := (Sl × Unit)) (fun K => K (s31.1, ())) w45 fun D48 J49 s46 w47 =>
 bif (decide ((s46.1.n : Int) > 0)) then
  (sls s46.1 0 64 1 fun r50 => cl Tryd.prog n_digest_state_stir #[.pointer (some a43), .slice r50.a r50.n r50.c] (.tup .nil) w47 fun (x51 : Unit) w52 => sls s46.1 64 s46.1.n 1 fun r53 => J49 (r53, ()) w52)
  else lp (α := (Int × Unit)) (fun K => K (0, ())) w47 fun D56 J57 s54 w55 =>
 bif (decide (s54.1 < 32)) then
  (ixa (some a43) 8 (IntKind.i64.wrap (Int.tdiv s54.1 4)) 1 fun a58 => ld (.I .u32) w55 a58 fun (x59 : Int) => bif decide (0 ≤ (IntKind.i64.wrap (24 - (IntKind.i64.wrap (8 * (Int.tmod s54.1 4)))))) then (ixa (some a3) 32 s54.1 1 fun a60 => st1 w55 a60 (.int .u8 (IntKind.u8.wrap (x59 / 2 ^ (min (Int.toNat (IntKind.i64.wrap (24 - (IntKind.i64.wrap (8 * (Int.tmod s54.1 4)))))) 32)))) fun w61 => J57 ((IntKind.i64.wrap (s54.1 + 1)), ()) w61) else False)
  else ld (.row 32) w55 a3 fun (x62 : {l : List Value // l.length = 32}) => stL a1 w55 0 x62.1 fun w63 => ld (.row 32) w63 a1 fun (r64 : {l : List Value // l.length = 32}) => Q r64 w63
theorem digest_Hash_Sum.t (p0 : Option Addr) (Q : {l : List Value // l.length = 32} → World → Prop) (w : World) : digest_Hash_Sum p0 Q w = fvc Tryd.prog an_digest_Hash_Sum Tryd.f43 (.row 32) [Kd.av .P p0] w Q := by kernel_rfl
theorem digest_Hash_Sum.k : fnOk Tryd.prog Tryd.f43 = true := by kernel_rfl
theorem digest_Hash_Sum.cl {p0 : Option Addr} {Q : {l : List Value // l.length = 32} → World → Prop} {w : World} (h : digest_Hash_Sum p0 Q w) : cl Tryd.prog n_digest_Hash_Sum #[.pointer p0] (.row 32) w Q :=
  cl_tie Tryd.func43 digest_Hash_Sum.k (args := [Kd.av .P p0]) (digest_Hash_Sum.t p0 Q w) h

/-- (*flume/store.Store).find -/
def store_Store_find (p0 : Option Addr) (p1 : {l : List Value // l.length = 32}) (Q : (Int × (Int × Unit)) → World → Prop) (w : World) : Prop :=
 nw w (p1.1) t_api_Sum fun a1 w2 => cl Tryd.prog n_store_Store_made #[.pointer p0] .B w2 fun (x3 : Bool) w4 => bif (!x3) then
 (Q (0, (6, ())) w4)
 else nz p0 fun a5 => ld .M w4 (a5.add 4) fun (x6 : Option Nat) => ld (.row 32) w4 a1 fun (x7 : {l : List Value // l.length = 32}) => qn Tryd.prog (Instr.lookup t_map_api_Sum_int (.map x6) (.agg (x7.1).toArray) true) (.tup (.pair (.I .i64) (.pair .B .nil))) w4 fun (x8 : (Int × (Bool × Unit))) => dr w4 fun w9 => bif x8.2.1 then
 (Q (x8.1, (0, ())) w9)
 else Q (0, (90, ())) w9
theorem store_Store_find.t (p0 : Option Addr) (p1 : {l : List Value // l.length = 32}) (Q : (Int × (Int × Unit)) → World → Prop) (w : World) : store_Store_find p0 p1 Q w = fvc Tryd.prog (fun _ => []) Tryd.f40 (.tup (.pair (.I .i64) (.pair (.I .i64) .nil))) [Kd.av .P p0, Kd.av (.row 32) p1] w Q := by kernel_rfl
theorem store_Store_find.k : fnOk Tryd.prog Tryd.f40 = true := by kernel_rfl
theorem store_Store_find.cl {p0 : Option Addr} {p1 : {l : List Value // l.length = 32}} {Q : (Int × (Int × Unit)) → World → Prop} {w : World} (h : store_Store_find p0 p1 Q w) : cl Tryd.prog n_store_Store_find #[.pointer p0, .agg (p1.1).toArray] (.tup (.pair (.I .i64) (.pair (.I .i64) .nil))) w Q :=
  cl_tie Tryd.func40 store_Store_find.k (args := [Kd.av .P p0, Kd.av (.row 32) p1]) (store_Store_find.t p0 p1 Q w) h

/-- (*flume/store.Store).made -/
def store_Store_made (p0 : Option Addr) (Q : Bool → World → Prop) (w : World) : Prop :=
 bif (!p0.isNone) then
 (nz p0 fun a1 => ld .M w (a1.add 4) fun (x2 : Option Nat) => qn Tryd.prog (do eqGuard .neq t_map_api_Sum_int (.const .nilIface) (.const .nilIface) (.map x2) (.map none); binOp .neq t_map_api_Sum_int (.map x2) (.map none)) .B w fun (x3 : Bool) => Q x3 w)
 else Q false w
theorem store_Store_made.t (p0 : Option Addr) (Q : Bool → World → Prop) (w : World) : store_Store_made p0 Q w = fvc Tryd.prog (fun _ => []) Tryd.f44 .B [Kd.av .P p0] w Q := by kernel_rfl
theorem store_Store_made.k : fnOk Tryd.prog Tryd.f44 = true := by kernel_rfl
theorem store_Store_made.cl {p0 : Option Addr} {Q : Bool → World → Prop} {w : World} (h : store_Store_made p0 Q w) : cl Tryd.prog n_store_Store_made #[.pointer p0] .B w Q :=
  cl_tie Tryd.func44 store_Store_made.k (args := [Kd.av .P p0]) (store_Store_made.t p0 Q w) h

/-- (*flume/dedup.Decoder).made -/
def dedup_Decoder_made (p0 : Option Addr) (Q : Bool → World → Prop) (w : World) : Prop :=
 bif (!p0.isNone) then
 (nz p0 fun a1 => ld .P w a1 fun (x2 : Option Addr) => Q (!x2.isNone) w)
 else Q false w
theorem dedup_Decoder_made.t (p0 : Option Addr) (Q : Bool → World → Prop) (w : World) : dedup_Decoder_made p0 Q w = fvc Tryd.prog (fun _ => []) Tryd.f45 .B [Kd.av .P p0] w Q := by kernel_rfl
theorem dedup_Decoder_made.k : fnOk Tryd.prog Tryd.f45 = true := by kernel_rfl
theorem dedup_Decoder_made.cl {p0 : Option Addr} {Q : Bool → World → Prop} {w : World} (h : dedup_Decoder_made p0 Q w) : cl Tryd.prog n_dedup_Decoder_made #[.pointer p0] .B w Q :=
  cl_tie Tryd.func45 dedup_Decoder_made.k (args := [Kd.av .P p0]) (dedup_Decoder_made.t p0 Q w) h

/-- (*flume/dedup.Decoder).open -/
def an_dedup_Decoder_open : Nat → LA
  | 1000002 => [(0, .nil)] | 1000003 => [(0, .nil)] | 1000008 => [(0, .nil)] | _ => []
def dedup_Decoder_open (p0 : Option Addr) (p1 : y_api_Record) (Q : (Sl × (Int × Unit)) → World → Prop) (w : World) : Prop :=
 nw w ((Kd.av k_api_Record p1).cells) t_api_Record fun a1 w2 => let j2 := (fun  (w46 : World) =>
   ld k_api_Record w46 a1 fun (x47 : y_api_Record) => cl Tryd.prog n_record_Open #[(Kd.av k_api_Record x47).val] (.tup (.pair .L (.pair (.I .i64) .nil))) w46 fun (x48 : (Sl × (Int × Unit))) w49 => bif (x48.2.1 == 0) then
 (dr w49 fun w50 => nz p0 fun a51 => ld .P w50 a51 fun (x52 : Option Addr) => ld (.row 32) w50 (a1.add 2) fun (x53 : {l : List Value // l.length = 32}) => cl Tryd.prog n_store_Store_Put #[.pointer x52, .agg (x53.1).toArray, .slice x48.1.a x48.1.n x48.1.c] (.I .i64) w50 fun (x54 : Int) w55 => Q (x48.1, (x48.2.1, ())) w55)
 else Q (x48.1, (x48.2.1, ())) w49);
 let j1 := (fun (y21 : Bool) (w22 : World) =>
   bif y21 then
 (dr w22 fun w23 => nz p0 fun a24 => ld .P w23 a24 fun (x25 : Option Addr) => ld (.row 32) w23 (a1.add 2) fun (x26 : {l : List Value // l.length = 32}) => cl Tryd.prog n_store_Store_Get #[.pointer x25, .agg (x26.1).toArray] (.tup (.pair .L (.pair (.I .i64) .nil))) w23 fun (x27 : (Sl × (Int × Unit))) w28 => dr w28 fun w29 => bif (x27.2.1 != 0) then (Q (⟨none, 0, 0⟩, (110, ())) w29) else (ld (.I .i64) w29 (a1.add 1) fun (x30 : Int) => bif ((x27.1.n : Int) != x30) then (Q (⟨none, 0, 0⟩, (110, ())) w29) else (ld (.row 32) w29 (a1.add 2) fun (x31 : {l : List Value // l.length = 32}) => nw w29 [.slice x27.1.a x27.1.n x27.1.c] t_s_uint8 fun a32 w33 => Fr w29 w33 ∧ cl Tryd.prog n_digest_Of #[.slice (some a32) 1 1] (.row 32) w33 fun (x34 : {l : List Value // l.length = 32}) w35 => Fr w33 w35 ∧ qn Tryd.prog (do eqGuard .neq t_api_Sum (.const .nilIface) (.const .nilIface) (.agg (x34.1).toArray) (.agg (x31.1).toArray); binOp .neq t_api_Sum (.agg (x34.1).toArray) (.agg (x31.1).toArray)) .B w35 fun (x36 : Bool) => bif x36 then
  (Q (⟨none, 0, 0⟩, (110, ())) w35)
  else Q (x27.1, (0, ())) w35)))
 else j2 w22);
 ld (.I .i64) w2 a1 fun (x3 : Int) => bif (x3 == 1) then
 (ld k_api_Record w2 a1 fun (x4 : y_api_Record) => cl Tryd.prog n_record_Check #[(Kd.av k_api_Record x4).val] (.I .i64) w2 fun (x5 : Int) w6 => j1 (x5 == 0) w6)
 else j1 false w2
theorem dedup_Decoder_open.t (p0 : Option Addr) (p1 : y_api_Record) (Q : (Sl × (Int × Unit)) → World → Prop) (w : World) : dedup_Decoder_open p0 p1 Q w = fvc Tryd.prog an_dedup_Decoder_open Tryd.f46 (.tup (.pair .L (.pair (.I .i64) .nil))) [Kd.av .P p0, Kd.av k_api_Record p1] w Q := by kernel_rfl
theorem dedup_Decoder_open.k : fnOk Tryd.prog Tryd.f46 = true := by kernel_rfl
theorem dedup_Decoder_open.cl {p0 : Option Addr} {p1 : y_api_Record} {Q : (Sl × (Int × Unit)) → World → Prop} {w : World} (h : dedup_Decoder_open p0 p1 Q w) : cl Tryd.prog n_dedup_Decoder_open #[.pointer p0, (Kd.av k_api_Record p1).val] (.tup (.pair .L (.pair (.I .i64) .nil))) w Q :=
  cl_tie Tryd.func46 dedup_Decoder_open.k (args := [Kd.av .P p0, Kd.av k_api_Record p1]) (dedup_Decoder_open.t p0 p1 Q w) h
end Go.Proofs.YtkaombhkepopgaaDoor
set_option linter.unusedVariables false
set_option maxHeartbeats 4000000
namespace Go.Proofs.YtkaombhkepopgaaDoor
open Go.Fl
/-- slices.Clone[[]flume/dedup.held,flume/dedup.held] -/
def slices_Clone_dedup_held_dedup_held (p0 : Sl) (Q : Sl → World → Prop) (w : World) : Prop :=
 bif p0.a.isNone then
 (Q ⟨none, 0, 0⟩ w)
 else nw w [] t_dedup_held fun a1 w2 => app Tryd.prog t_s_dedup_held t_s_dedup_held ⟨(some a1), 0, 0⟩ p0 w2 fun r3 w4 => Q r3 w4
theorem slices_Clone_dedup_held_dedup_held.t (p0 : Sl) (Q : Sl → World → Prop) (w : World) : slices_Clone_dedup_held_dedup_held p0 Q w = fvc Tryd.prog (fun _ => []) Tryd.f47 .L [Kd.av .L p0] w Q := by kernel_rfl
theorem slices_Clone_dedup_held_dedup_held.k : fnOk Tryd.prog Tryd.f47 = true := by kernel_rfl
theorem slices_Clone_dedup_held_dedup_held.cl {p0 : Sl} {Q : Sl → World → Prop} {w : World} (h : slices_Clone_dedup_held_dedup_held p0 Q w) : cl Tryd.prog n_slices_Clone_dedup_held_dedup_held #[.slice p0.a p0.n p0.c] .L w Q :=
  cl_tie Tryd.func47 slices_Clone_dedup_held_dedup_held.k (args := [Kd.av .L p0]) (slices_Clone_dedup_held_dedup_held.t p0 Q w) h

/-- (*flume/store.Store).Made -/
def store_Store_Made (p0 : Option Addr) (Q : Bool → World → Prop) (w : World) : Prop :=
 cl Tryd.prog n_store_Store_made #[.pointer p0] .B w fun (x1 : Bool) w2 => Q x1 w2
theorem store_Store_Made.t (p0 : Option Addr) (Q : Bool → World → Prop) (w : World) : store_Store_Made p0 Q w = fvc Tryd.prog (fun _ => []) Tryd.f48 .B [Kd.av .P p0] w Q := by kernel_rfl
theorem store_Store_Made.k : fnOk Tryd.prog Tryd.f48 = true := by kernel_rfl
theorem store_Store_Made.cl {p0 : Option Addr} {Q : Bool → World → Prop} {w : World} (h : store_Store_Made p0 Q w) : cl Tryd.prog n_store_Store_Made #[.pointer p0] .B w Q :=
  cl_tie Tryd.func48 store_Store_Made.k (args := [Kd.av .P p0]) (store_Store_Made.t p0 Q w) h

/-- flume/lz.Shorten -/
def an_lz_Shorten : Nat → LA
  | 5 => [(4, .L), (5, (.I .i64)), (6, (.I .i64))] | 13 => [(6, (.I .i64)), (49, (.I .i64))] | _ => []
def lz_Shorten (p0 : Sl) (Q : Sl → World → Prop) (w : World) : Prop :=
 rn Tryd.prog (Instr.makeMap t_map_3_uint8_int none) .M w fun (m1 : Option Nat) w2 => mks Tryd.prog t_s_int (p0.n : Int) (p0.n : Int) w2 fun r3 w4 => nw w4 ([.slice p0.a p0.n p0.c, .map m1, .slice r3.a r3.n r3.c]) t_lz_chains fun a5 w6 => lp (α := (Sl × (Int × (Int × Unit)))) (fun K => K (⟨none, 0, 0⟩, (0, (0, ())))) w6 fun D9 J10 s7 w8 =>
 bif (decide (s7.2.2.1 < (p0.n : Int))) then
  (cl Tryd.prog n_lz_chains_best #[.pointer (some a5), .int .i64 s7.2.2.1] (.tup (.pair (.I .i64) (.pair (.I .i64) .nil))) w8 fun (x11 : (Int × (Int × Unit))) w12 => bif (decide (x11.2.1 < 3)) then
  (cl Tryd.prog n_lz_chains_put #[.pointer (some a5), .int .i64 s7.2.2.1] (.tup .nil) w12 fun (x13 : Unit) w14 => J10 (s7.1, (s7.2.1, ((IntKind.i64.wrap (s7.2.2.1 + 1)), ()))) w14)
  else sls p0 s7.2.1 s7.2.2.1 1 fun r15 => cl Tryd.prog n_lz_literals #[.slice s7.1.a s7.1.n s7.1.c, .slice r15.a r15.n r15.c] .L w12 fun (x16 : Sl) w17 => nw w17 [.int .u8 (IntKind.u8.wrap (IntKind.i64.wrap ((IntKind.i64.wrap (128 + x11.2.1)) - 3)))] t_uint8 fun a18 w19 => app Tryd.prog t_s_uint8 t_s_uint8 x16 ⟨(some a18), 1, 1⟩ w19 fun r20 w21 => cl Tryd.prog n_octet_Number #[.slice r20.a r20.n r20.c, .int .i64 x11.1] .L w21 fun (x22 : Sl) w23 => lp (α := (Int × (Int × Unit))) (fun K => K (s7.2.2.1, (0, ()))) w23 fun D26 J27 s24 w25 =>
  bif (decide (s24.2.1 < x11.2.1)) then
   (cl Tryd.prog n_lz_chains_put #[.pointer (some a5), .int .i64 s24.1] (.tup .nil) w25 fun (x28 : Unit) w29 => J27 ((IntKind.i64.wrap (s24.1 + 1)), ((IntKind.i64.wrap (s24.2.1 + 1)), ())) w29)
   else J10 (x22, (s24.1, (s24.1, ()))) w25)
  else sls p0 s7.2.1 p0.n 1 fun r30 => cl Tryd.prog n_lz_literals #[.slice s7.1.a s7.1.n s7.1.c, .slice r30.a r30.n r30.c] .L w8 fun (x31 : Sl) w32 => Q x31 w32
theorem lz_Shorten.t (p0 : Sl) (Q : Sl → World → Prop) (w : World) : lz_Shorten p0 Q w = fvc Tryd.prog an_lz_Shorten Tryd.f49 .L [Kd.av .L p0] w Q := by kernel_rfl
theorem lz_Shorten.k : fnOk Tryd.prog Tryd.f49 = true := by kernel_rfl
theorem lz_Shorten.cl {p0 : Sl} {Q : Sl → World → Prop} {w : World} (h : lz_Shorten p0 Q w) : cl Tryd.prog n_lz_Shorten #[.slice p0.a p0.n p0.c] .L w Q :=
  cl_tie Tryd.func49 lz_Shorten.k (args := [Kd.av .L p0]) (lz_Shorten.t p0 Q w) h

/-- (*flume/store.row).unlink -/
def an_store_row_unlink : Nat → LA
  | 1000002 => [(0, .nil)] | 1000005 => [(0, .nil)] | _ => []
def store_row_unlink (p0 : Option Addr) (p1 : Int) (Q : Unit → World → Prop) (w : World) : Prop :=
 nz p0 fun a1 => ld .L w a1 fun (x2 : Sl) => ixa x2.a x2.n p1 36 fun a3 => ld k_store_slot w a3 fun (x4 : y_store_slot) => nw w ((Kd.av k_store_slot z_store_slot).cells) t_store_slot fun a5 w6 => st w6 a5 (Kd.av k_store_slot x4) fun w7 => let j1 := (fun  (w30 : World) =>
   ld (.I .i64) w30 (a5.add 35) fun (x31 : Int) => bif (x31 != (-1)) then
 (dr w30 fun w32 => nz p0 fun a33 => ld .L w32 a33 fun (x34 : Sl) => ld (.I .i64) w32 (a5.add 35) fun (x35 : Int) => ld (.I .i64) w32 (a5.add 34) fun (x36 : Int) => ixa x34.a x34.n x35 36 fun a37 => st1 w32 (a37.add 34) (.int .i64 x36) fun w38 => Q () w38)
 else ld (.I .i64) w30 (a5.add 34) fun (x39 : Int) => nz p0 fun a40 => st1 w30 (a40.add 3) (.int .i64 x39) fun w41 => Q () w41);
 ld (.I .i64) w7 (a5.add 34) fun (x8 : Int) => bif (x8 != (-1)) then
 (dr w7 fun w9 => nz p0 fun a10 => ld .L w9 a10 fun (x11 : Sl) => ld (.I .i64) w9 (a5.add 34) fun (x12 : Int) => ld (.I .i64) w9 (a5.add 35) fun (x13 : Int) => ixa x11.a x11.n x12 36 fun a14 => st1 w9 (a14.add 35) (.int .i64 x13) fun w15 => j1 w15)
 else ld (.I .i64) w7 (a5.add 35) fun (x16 : Int) => nz p0 fun a17 => st1 w7 (a17.add 2) (.int .i64 x16) fun w18 => j1 w18
theorem store_row_unlink.t (p0 : Option Addr) (p1 : Int) (Q : Unit → World → Prop) (w : World) : store_row_unlink p0 p1 Q w = fvc Tryd.prog an_store_row_unlink Tryd.f50 (.tup .nil) [Kd.av .P p0, Kd.av (.I .i64) p1] w Q := by kernel_rfl
theorem store_row_unlink.k : fnOk Tryd.prog Tryd.f50 = true := by kernel_rfl
theorem store_row_unlink.cl {p0 : Option Addr} {p1 : Int} {Q : Unit → World → Prop} {w : World} (h : store_row_unlink p0 p1 Q w) : cl Tryd.prog n_store_row_unlink #[.pointer p0, .int .i64 p1] (.tup .nil) w Q :=
  cl_tie Tryd.func50 store_row_unlink.k (args := [Kd.av .P p0, Kd.av (.I .i64) p1]) (store_row_unlink.t p0 p1 Q w) h

/-- (*flume/store.row).link -/
def an_store_row_link : Nat → LA
  | 1000000 => [(0, .nil)] | 1000002 => [(0, .nil)] | _ => []
def store_row_link (p0 : Option Addr) (p1 : Int) (Q : Unit → World → Prop) (w : World) : Prop :=
 dr w fun w1 => nz p0 fun a2 => ld .L w1 a2 fun (x3 : Sl) => nz p0 fun a4 => ld .L w1 a4 fun (x5 : Sl) => nz p0 fun a6 => ld (.I .i64) w1 (a6.add 3) fun (x7 : Int) => ixa x3.a x3.n p1 36 fun a8 => st1 w1 (a8.add 34) (.int .i64 x7) fun w9 => ixa x5.a x5.n p1 36 fun a10 => st1 w9 (a10.add 35) (.int .i64 (-1)) fun w11 => nz p0 fun a12 => ld (.I .i64) w11 (a12.add 3) fun (x13 : Int) => bif (x13 != (-1)) then
 (dr w11 fun w14 => nz p0 fun a15 => ld .L w14 a15 fun (x16 : Sl) => nz p0 fun a17 => ld (.I .i64) w14 (a17.add 3) fun (x18 : Int) => ixa x16.a x16.n x18 36 fun a19 => st1 w14 (a19.add 35) (.int .i64 p1) fun w20 => nz p0 fun a23 => st1 w20 (a23.add 3) (.int .i64 p1) fun w24 => Q () w24)
 else nz p0 fun a21 => st1 w11 (a21.add 2) (.int .i64 p1) fun w22 => nz p0 fun a25 => st1 w22 (a25.add 3) (.int .i64 p1) fun w26 => Q () w26
theorem store_row_link.t (p0 : Option Addr) (p1 : Int) (Q : Unit → World → Prop) (w : World) : store_row_link p0 p1 Q w = fvc Tryd.prog an_store_row_link Tryd.f51 (.tup .nil) [Kd.av .P p0, Kd.av (.I .i64) p1] w Q := by kernel_rfl
theorem store_row_link.k : fnOk Tryd.prog Tryd.f51 = true := by kernel_rfl
theorem store_row_link.cl {p0 : Option Addr} {p1 : Int} {Q : Unit → World → Prop} {w : World} (h : store_row_link p0 p1 Q w) : cl Tryd.prog n_store_row_link #[.pointer p0, .int .i64 p1] (.tup .nil) w Q :=
  cl_tie Tryd.func51 store_row_link.k (args := [Kd.av .P p0, Kd.av (.I .i64) p1]) (store_row_link.t p0 p1 Q w) h

/-- (*flume/store.Store).held -/
def an_store_Store_held : Nat → LA
  | 2 => [(2, (.I .i64)), (3, (.I .i64)), (4, (.I .i64))] | _ => []
def store_Store_held (p0 : Option Addr) (Q : (Int × (Int × Unit)) → World → Prop) (w : World) : Prop :=
 nz p0 fun a1 => ld (.I .i64) w (a1.add 2) fun (x2 : Int) => lp (α := (Int × (Int × (Int × Unit)))) (fun K => K (0, (0, (x2, ())))) w fun D5 J6 s3 w4 =>
 bif (s3.2.2.1 != (-1)) then
  (nz p0 fun a7 => ld .L w4 a7 fun (x8 : Sl) => ixa x8.a x8.n s3.2.2.1 36 fun a9 => ld (.I .i64) w4 (a9.add 33) fun (x10 : Int) => bif (decide (x10 > 0)) then
  (nz p0 fun a11 => ld .L w4 a11 fun (x12 : Sl) => ixa x12.a x12.n s3.2.2.1 36 fun a13 => ld .L w4 (a13.add 32) fun (x14 : Sl) => nz p0 fun a15 => ld .L w4 a15 fun (x16 : Sl) => ixa x16.a x16.n s3.2.2.1 36 fun a17 => ld (.I .i64) w4 (a17.add 35) fun (x18 : Int) => J6 ((IntKind.i64.wrap (s3.1 + 1)), ((IntKind.i64.wrap (s3.2.1 + (x14.n : Int))), (x18, ()))) w4)
  else nz p0 fun a19 => ld .L w4 a19 fun (x20 : Sl) => ixa x20.a x20.n s3.2.2.1 36 fun a21 => ld (.I .i64) w4 (a21.add 35) fun (x22 : Int) => J6 (s3.1, (s3.2.1, (x22, ()))) w4)
  else Q (s3.1, (s3.2.1, ())) w4
theorem store_Store_held.t (p0 : Option Addr) (Q : (Int × (Int × Unit)) → World → Prop) (w : World) : store_Store_held p0 Q w = fvc Tryd.prog an_store_Store_held Tryd.f52 (.tup (.pair (.I .i64) (.pair (.I .i64) .nil))) [Kd.av .P p0] w Q := by kernel_rfl
theorem store_Store_held.k : fnOk Tryd.prog Tryd.f52 = true := by kernel_rfl
theorem store_Store_held.cl {p0 : Option Addr} {Q : (Int × (Int × Unit)) → World → Prop} {w : World} (h : store_Store_held p0 Q w) : cl Tryd.prog n_store_Store_held #[.pointer p0] (.tup (.pair (.I .i64) (.pair (.I .i64) .nil))) w Q :=
  cl_tie Tryd.func52 store_Store_held.k (args := [Kd.av .P p0]) (store_Store_held.t p0 Q w) h

/-- (*flume/store.Store).loose -/
def an_store_Store_loose : Nat → LA
  | 2 => [(3, (.I .i64))] | _ => []
def store_Store_loose (p0 : Option Addr) (Q : Int → World → Prop) (w : World) : Prop :=
 nz p0 fun a1 => ld (.I .i64) w (a1.add 2) fun (x2 : Int) => lp (α := (Int × Unit)) (fun K => K (x2, ())) w fun D5 J6 s3 w4 =>
 bif (s3.1 != (-1)) then
  (nz p0 fun a7 => ld .L w4 a7 fun (x8 : Sl) => ixa x8.a x8.n s3.1 36 fun a9 => ld (.I .i64) w4 (a9.add 33) fun (x10 : Int) => bif (decide (x10 > 0)) then
  (nz p0 fun a11 => ld .L w4 a11 fun (x12 : Sl) => ixa x12.a x12.n s3.1 36 fun a13 => ld (.I .i64) w4 (a13.add 35) fun (x14 : Int) => J6 (x14, ()) w4)
  else Q s3.1 w4)
  else Q s3.1 w4
theorem store_Store_loose.t (p0 : Option Addr) (Q : Int → World → Prop) (w : World) : store_Store_loose p0 Q w = fvc Tryd.prog an_store_Store_loose Tryd.f54 (.I .i64) [Kd.av .P p0] w Q := by kernel_rfl
theorem store_Store_loose.k : fnOk Tryd.prog Tryd.f54 = true := by kernel_rfl
theorem store_Store_loose.cl {p0 : Option Addr} {Q : Int → World → Prop} {w : World} (h : store_Store_loose p0 Q w) : cl Tryd.prog n_store_Store_loose #[.pointer p0] (.I .i64) w Q :=
  cl_tie Tryd.func54 store_Store_loose.k (args := [Kd.av .P p0]) (store_Store_loose.t p0 Q w) h

/-- (*flume/store.Store).remove -/
def an_store_Store_remove : Nat → LA
  | 1000001 => [(0, .nil)] | 1000002 => [(0, .nil)] | _ => []
def store_Store_remove (p0 : Option Addr) (p1 : Int) (Q : Unit → World → Prop) (w : World) : Prop :=
 nz p0 fun a1 => cl Tryd.prog n_store_row_unlink #[.pointer (some a1), .int .i64 p1] (.tup .nil) w fun (x2 : Unit) w3 => dr w3 fun w4 => nz p0 fun a5 => ld .M w4 (a5.add 4) fun (x6 : Option Nat) => nz p0 fun a7 => ld .L w4 a7 fun (x8 : Sl) => ixa x8.a x8.n p1 36 fun a9 => ld (.row 32) w4 a9 fun (x10 : {l : List Value // l.length = 32}) => rn Tryd.prog (Builtin.delete_ #[t_map_api_Sum_int, t_api_Sum] t_ #[.map x6, .agg (x10.1).toArray]) (.tup .nil) w4 fun (x11 : Unit) w12 => dr w12 fun w13 => nz p0 fun a14 => ld (.I .i64) w13 (a14.add 7) fun (x15 : Int) => nz p0 fun a16 => ld .L w13 a16 fun (x17 : Sl) => ixa x17.a x17.n p1 36 fun a18 => ld .L w13 (a18.add 32) fun (x19 : Sl) => nz p0 fun a20 => st1 w13 (a20.add 7) (.int .i64 (IntKind.i64.wrap (x15 - (x19.n : Int)))) fun w21 => nz p0 fun a22 => ld .L w21 a22 fun (x23 : Sl) => ixa x23.a x23.n p1 36 fun a24 => st w21 a24 (Kd.av k_store_slot ((zrow 32 (.int .u8 0)), (⟨none, 0, 0⟩, (0, (0, (0, ())))))) fun w25 => nz p0 fun a26 => ld .L w25 (a26.add 1) fun (x27 : Sl) => nw w25 [.int .i64 p1] t_int fun a28 w29 => app Tryd.prog t_s_int t_s_int x27 ⟨(some a28), 1, 1⟩ w29 fun r30 w31 => nz p0 fun a32 => st1 w31 (a32.add 1) (.slice r30.a r30.n r30.c) fun w33 => Q () w33
theorem store_Store_remove.t (p0 : Option Addr) (p1 : Int) (Q : Unit → World → Prop) (w : World) : store_Store_remove p0 p1 Q w = fvc Tryd.prog an_store_Store_remove Tryd.f53 (.tup .nil) [Kd.av .P p0, Kd.av (.I .i64) p1] w Q := by kernel_rfl
theorem store_Store_remove.k : fnOk Tryd.prog Tryd.f53 = true := by kernel_rfl
theorem store_Store_remove.cl {p0 : Option Addr} {p1 : Int} {Q : Unit → World → Prop} {w : World} (h : store_Store_remove p0 p1 Q w) : cl Tryd.prog n_store_Store_remove #[.pointer p0, .int .i64 p1] (.tup .nil) w Q :=
  cl_tie Tryd.func53 store_Store_remove.k (args := [Kd.av .P p0, Kd.av (.I .i64) p1]) (store_Store_remove.t p0 p1 Q w) h

/-- (*flume/digest.state).stir -/
def an_digest_state_stir : Nat → LA
  | 3 => [(18, (.I .i64))] | 13 => [(100, (.I .i64))] | 1000015 => [(0, .nil)] | _ => []
def digest_state_stir (p0 : Option Addr) (p1 : Sl) (Q : Unit → World → Prop) (w : World) : Prop :=
 cl Tryd.prog n_digest_spread #[.slice p1.a p1.n p1.c] (.row 64) w fun (x1 : {l : List Value // l.length = 64}) w2 => nw w2 ((zrow 64 (.int .u32 0)).1) t_64_uint32 fun a3 w4 => stL a3 w4 0 x1.1 fun w5 => nz p0 fun a6 => ld (.row 8) w5 a6 fun (x7 : {l : List Value // l.length = 8}) => nw w5 ((zrow 8 (.int .u32 0)).1) t_digest_state fun a8 w9 => stL a8 w9 0 x7.1 fun w10 => lp (α := (Int × Unit)) (fun K => K (0, ())) w10 fun D13 J14 s11 w12 =>
 bif (decide (s11.1 < 64)) then
  (ixa (some a8) 8 0 1 fun a15 => ld (.I .u32) w12 a15 fun (x16 : Int) => ixa (some a8) 8 4 1 fun a17 => ld (.I .u32) w12 a17 fun (x18 : Int) => dr w12 fun w19 => cl Tryd.prog n_math_bits_RotateLeft32 #[.int .u32 x18, .int .i64 (-6)] (.I .u32) w19 fun (x20 : Int) w21 => cl Tryd.prog n_math_bits_RotateLeft32 #[.int .u32 x18, .int .i64 (-11)] (.I .u32) w21 fun (x22 : Int) w23 => cl Tryd.prog n_math_bits_RotateLeft32 #[.int .u32 x18, .int .i64 (-25)] (.I .u32) w23 fun (x24 : Int) w25 => ixa (some a8) 8 7 1 fun a26 => ld (.I .u32) w25 a26 fun (x27 : Int) => ixa (some a8) 8 5 1 fun a28 => ld (.I .u32) w25 a28 fun (x29 : Int) => ixa (some a8) 8 6 1 fun a30 => ld (.I .u32) w25 a30 fun (x31 : Int) => ixa (some ⟨g_digest_rounds, 0, none⟩) 64 s11.1 1 fun a32 => ld (.I .u32) w25 a32 fun (x33 : Int) => ixa (some a3) 64 s11.1 1 fun a34 => ld (.I .u32) w25 a34 fun (x35 : Int) => dr w25 fun w36 => cl Tryd.prog n_math_bits_RotateLeft32 #[.int .u32 x16, .int .i64 (-2)] (.I .u32) w36 fun (x37 : Int) w38 => cl Tryd.prog n_math_bits_RotateLeft32 #[.int .u32 x16, .int .i64 (-13)] (.I .u32) w38 fun (x39 : Int) w40 => cl Tryd.prog n_math_bits_RotateLeft32 #[.int .u32 x16, .int .i64 (-22)] (.I .u32) w40 fun (x41 : Int) w42 => ixa (some a8) 8 1 1 fun a43 => ld (.I .u32) w42 a43 fun (x44 : Int) => ixa (some a8) 8 2 1 fun a45 => ld (.I .u32) w42 a45 fun (x46 : Int) => ixa (some a8) 8 1 1 fun a47 => ld (.I .u32) w42 a47 fun (x48 : Int) => ixa (some a8) 8 2 1 fun a49 => ld (.I .u32) w42 a49 fun (x50 : Int) => ixa (some a8) 8 1 1 fun a51 => ld (.I .u32) w42 a51 fun (x52 : Int) => ixa (some a8) 8 2 1 fun a53 => ld (.I .u32) w42 a53 fun (x54 : Int) => ixa (some a8) 8 3 1 fun a55 => ld (.I .u32) w42 a55 fun (x56 : Int) => ixa (some a8) 8 5 1 fun a57 => ld (.I .u32) w42 a57 fun (x58 : Int) => ixa (some a8) 8 6 1 fun a59 => ld (.I .u32) w42 a59 fun (x60 : Int) => qn Tryd.prog (Instr.build t_digest_state #[(0, .int .u32 (IntKind.u32.wrap ((IntKind.u32.wrap ((IntKind.u32.wrap ((IntKind.u32.wrap ((IntKind.u32.wrap (x27 + (bits .xor .u32 (bits .xor .u32 x20 x22) x24))) + (bits .xor .u32 (bits .and .u32 x18 x29) (bits .and .u32 (bits .xor .u32 4294967295 x18) x31)))) + x33)) + x35)) + (IntKind.u32.wrap ((bits .xor .u32 (bits .xor .u32 x37 x39) x41) + (bits .xor .u32 (bits .xor .u32 (bits .and .u32 x16 x44) (bits .and .u32 x16 x46)) (bits .and .u32 x48 x50))))))), (1, .int .u32 x16), (2, .int .u32 x52), (3, .int .u32 x54), (4, .int .u32 (IntKind.u32.wrap (x56 + (IntKind.u32.wrap ((IntKind.u32.wrap ((IntKind.u32.wrap ((IntKind.u32.wrap (x27 + (bits .xor .u32 (bits .xor .u32 x20 x22) x24))) + (bits .xor .u32 (bits .and .u32 x18 x29) (bits .and .u32 (bits .xor .u32 4294967295 x18) x31)))) + x33)) + x35))))), (5, .int .u32 x18), (6, .int .u32 x58), (7, .int .u32 x60)]) (.row 8) w42 fun (x61 : {l : List Value // l.length = 8}) => stL a8 w42 0 x61.1 fun w62 => J14 ((IntKind.i64.wrap (s11.1 + 1)), ()) w62)
  else lp (α := (Int × Unit)) (fun K => K (0, ())) w12 fun D65 J66 s63 w64 =>
 bif (decide (s63.1 < 8)) then
  (dr w64 fun w67 => nz p0 fun a68 => ixa (some a68) 8 s63.1 1 fun a69 => ld (.I .u32) w67 a69 fun (x70 : Int) => ixa (some a8) 8 s63.1 1 fun a71 => ld (.I .u32) w67 a71 fun (x72 : Int) => nz p0 fun a73 => ixa (some a73) 8 s63.1 1 fun a74 => st1 w67 a74 (.int .u32 (IntKind.u32.wrap (x70 + x72))) fun w75 => J66 ((IntKind.i64.wrap (s63.1 + 1)), ()) w75)
  else Q () w64
theorem digest_state_stir.t (p0 : Option Addr) (p1 : Sl) (Q : Unit → World → Prop) (w : World) : digest_state_stir p0 p1 Q w = fvc Tryd.prog an_digest_state_stir Tryd.f55 (.tup .nil) [Kd.av .P p0, Kd.av .L p1] w Q := by kernel_rfl
theorem digest_state_stir.k : fnOk Tryd.prog Tryd.f55 = true := by kernel_rfl
theorem digest_state_stir.cl {p0 : Option Addr} {p1 : Sl} {Q : Unit → World → Prop} {w : World} (h : digest_state_stir p0 p1 Q w) : cl Tryd.prog n_digest_state_stir #[.pointer p0, .slice p1.a p1.n p1.c] (.tup .nil) w Q :=
  cl_tie Tryd.func55 digest_state_stir.k (args := [Kd.av .P p0, Kd.av .L p1]) (digest_state_stir.t p0 p1 Q w) h

/-- flume/record.Check -/
def record_Check (p0 : (Int × (Int × ({l : List Value // l.length = 32} × (Sl × Unit))))) (Q : Int → World → Prop) (w : World) : Prop :=
 nw w ((([.int .i64 p0.1, .int .i64 p0.2.1] : List Value) ++ (p0.2.2.1.1 ++ ([.slice p0.2.2.2.1.a p0.2.2.2.1.n p0.2.2.2.1.c] : List Value)))) t_api_Record fun a1 w2 => ld .L w2 (a1.add 34) fun (x3 : Sl) => let j1 := (fun (y10 : Bool) (w11 : World) =>
   bif (!y10) then
 (Q 100 w11)
 else ld (.I .i64) w11 (a1.add 1) fun (x12 : Int) => bif (decide (x12 < 1)) then
 (Q 100 w11)
 else ld (.I .i64) w11 (a1.add 1) fun (x13 : Int) => bif (decide (x13 > 256)) then
 (Q 100 w11)
 else Q 0 w11);
 ld (.I .i64) w2 a1 fun (x4 : Int) => bif (x4 == 1) then
 (ld .L w2 (a1.add 34) fun (x5 : Sl) => j1 ((x5.n : Int) == 0) w2)
 else bif (x4 == 2) then
 (ld .L w2 (a1.add 34) fun (x6 : Sl) => ld (.I .i64) w2 (a1.add 1) fun (x7 : Int) => j1 ((x6.n : Int) == x7) w2)
 else bif (x4 == 3) then
 (j1 (decide ((x3.n : Int) ≤ 256)) w2)
 else j1 false w2
theorem record_Check.t (p0 : (Int × (Int × ({l : List Value // l.length = 32} × (Sl × Unit))))) (Q : Int → World → Prop) (w : World) : record_Check p0 Q w = fvc Tryd.prog (fun _ => []) Tryd.f56 (.I .i64) [Kd.av (.pair (.I .i64) (.pair (.I .i64) (.pair (.row 32) (.pair .L .nil)))) p0] w Q := by kernel_rfl
theorem record_Check.k : fnOk Tryd.prog Tryd.f56 = true := by kernel_rfl
theorem record_Check.cl {p0 : (Int × (Int × ({l : List Value // l.length = 32} × (Sl × Unit))))} {Q : Int → World → Prop} {w : World} (h : record_Check p0 Q w) : cl Tryd.prog n_record_Check #[.agg ((([.int .i64 p0.1, .int .i64 p0.2.1] : List Value) ++ (p0.2.2.1.1 ++ ([.slice p0.2.2.2.1.a p0.2.2.2.1.n p0.2.2.2.1.c] : List Value)))).toArray] (.I .i64) w Q :=
  cl_tie Tryd.func56 record_Check.k (args := [Kd.av (.pair (.I .i64) (.pair (.I .i64) (.pair (.row 32) (.pair .L .nil)))) p0]) (record_Check.t p0 Q w) h
end Go.Proofs.YtkaombhkepopgaaDoor
set_option linter.unusedVariables false
set_option maxHeartbeats 4000000
namespace Go.Proofs.YtkaombhkepopgaaDoor
open Go.Fl
/-- (*flume/store.Store).Get -/
def store_Store_Get (p0 : Option Addr) (p1 : {l : List Value // l.length = 32}) (Q : (Sl × (Int × Unit)) → World → Prop) (w : World) : Prop :=
 nw w (p1.1) t_api_Sum fun a1 w2 => ld (.row 32) w2 a1 fun (x3 : {l : List Value // l.length = 32}) => cl Tryd.prog n_store_Store_find #[.pointer p0, .agg (x3.1).toArray] (.tup (.pair (.I .i64) (.pair (.I .i64) .nil))) w2 fun (x4 : (Int × (Int × Unit))) w5 => bif (x4.2.1 != 0) then
 (Q (⟨none, 0, 0⟩, (x4.2.1, ())) w5)
 else nz p0 fun a6 => cl Tryd.prog n_store_row_unlink #[.pointer (some a6), .int .i64 x4.1] (.tup .nil) w5 fun (x7 : Unit) w8 => nz p0 fun a9 => cl Tryd.prog n_store_row_link #[.pointer (some a9), .int .i64 x4.1] (.tup .nil) w8 fun (x10 : Unit) w11 => nz p0 fun a12 => ld .L w11 a12 fun (x13 : Sl) => ixa x13.a x13.n x4.1 36 fun a14 => ld .L w11 (a14.add 32) fun (x15 : Sl) => cl Tryd.prog n_slices_Clone_byte_byte #[.slice x15.a x15.n x15.c] .L w11 fun (x16 : Sl) w17 => Q (x16, (0, ())) w17
theorem store_Store_Get.t (p0 : Option Addr) (p1 : {l : List Value // l.length = 32}) (Q : (Sl × (Int × Unit)) → World → Prop) (w : World) : store_Store_Get p0 p1 Q w = fvc Tryd.prog (fun _ => []) Tryd.f57 (.tup (.pair .L (.pair (.I .i64) .nil))) [Kd.av .P p0, Kd.av (.row 32) p1] w Q := by kernel_rfl
theorem store_Store_Get.k : fnOk Tryd.prog Tryd.f57 = true := by kernel_rfl
theorem store_Store_Get.cl {p0 : Option Addr} {p1 : {l : List Value // l.length = 32}} {Q : (Sl × (Int × Unit)) → World → Prop} {w : World} (h : store_Store_Get p0 p1 Q w) : cl Tryd.prog n_store_Store_Get #[.pointer p0, .agg (p1.1).toArray] (.tup (.pair .L (.pair (.I .i64) .nil))) w Q :=
  cl_tie Tryd.func57 store_Store_Get.k (args := [Kd.av .P p0, Kd.av (.row 32) p1]) (store_Store_Get.t p0 p1 Q w) h

/-- flume/record.Open -/
def an_record_Open : Nat → LA
  | 1000013 => [(0, .nil)] | _ => []
def record_Open (p0 : (Int × (Int × ({l : List Value // l.length = 32} × (Sl × Unit))))) (Q : (Sl × (Int × Unit)) → World → Prop) (w : World) : Prop :=
 nw w ((([.int .i64 p0.1, .int .i64 p0.2.1] : List Value) ++ (p0.2.2.1.1 ++ ([.slice p0.2.2.2.1.a p0.2.2.2.1.n p0.2.2.2.1.c] : List Value)))) t_api_Record fun a1 w2 => ld (.pair (.I .i64) (.pair (.I .i64) (.pair (.row 32) (.pair .L .nil)))) w2 a1 fun (x3 : (Int × (Int × ({l : List Value // l.length = 32} × (Sl × Unit))))) => cl Tryd.prog n_record_Check #[.agg ((([.int .i64 x3.1, .int .i64 x3.2.1] : List Value) ++ (x3.2.2.1.1 ++ ([.slice x3.2.2.2.1.a x3.2.2.2.1.n x3.2.2.2.1.c] : List Value)))).toArray] (.I .i64) w2 fun (x4 : Int) w5 => bif (x4 != 0) then
 (Q (⟨none, 0, 0⟩, (x4, ())) w5)
 else ld .L w5 (a1.add 34) fun (x6 : Sl) => cl Tryd.prog n_slices_Clone_byte_byte #[.slice x6.a x6.n x6.c] .L w5 fun (x7 : Sl) w8 => let j1 := (fun (y22 : Sl) (w23 : World) =>
   dr w23 fun w24 => ld (.row 32) w24 (a1.add 2) fun (x25 : {l : List Value // l.length = 32}) => nw w24 [.slice y22.a y22.n y22.c] t_s_uint8 fun a26 w27 => Fr w24 w27 ∧ cl Tryd.prog n_digest_Of #[.slice (some a26) 1 1] (.row 32) w27 fun (x28 : {l : List Value // l.length = 32}) w29 => Fr w27 w29 ∧ qn Tryd.prog (do eqGuard .neq t_api_Sum (.const .nilIface) (.const .nilIface) (.agg (x28.1).toArray) (.agg (x25.1).toArray); binOp .neq t_api_Sum (.agg (x28.1).toArray) (.agg (x25.1).toArray)) .B w29 fun (x30 : Bool) => bif x30 then
 (Q (⟨none, 0, 0⟩, (111, ())) w29)
 else Q (y22, (0, ())) w29);
 ld (.I .i64) w8 a1 fun (x9 : Int) => bif (x9 == 1) then
 (Q (⟨none, 0, 0⟩, (110, ())) w8)
 else bif (x9 == 3) then
 (ld .L w8 (a1.add 34) fun (x10 : Sl) => ld (.I .i64) w8 (a1.add 1) fun (x11 : Int) => cl Tryd.prog n_lz_Restore #[.slice x10.a x10.n x10.c, .int .i64 x11] (.tup (.pair .L (.pair (.I .i64) .nil))) w8 fun (x12 : (Sl × (Int × Unit))) w13 => bif (x12.2.1 != 0) then
  (Q (⟨none, 0, 0⟩, (100, ())) w13)
  else ld (.I .i64) w13 (a1.add 1) fun (x14 : Int) => bif ((x12.1.n : Int) != x14) then
  (Q (⟨none, 0, 0⟩, (100, ())) w13)
  else j1 x12.1 w13)
 else j1 x7 w8
theorem record_Open.t (p0 : (Int × (Int × ({l : List Value // l.length = 32} × (Sl × Unit))))) (Q : (Sl × (Int × Unit)) → World → Prop) (w : World) : record_Open p0 Q w = fvc Tryd.prog an_record_Open Tryd.f58 (.tup (.pair .L (.pair (.I .i64) .nil))) [Kd.av (.pair (.I .i64) (.pair (.I .i64) (.pair (.row 32) (.pair .L .nil)))) p0] w Q := by kernel_rfl
theorem record_Open.k : fnOk Tryd.prog Tryd.f58 = true := by kernel_rfl
theorem record_Open.cl {p0 : (Int × (Int × ({l : List Value // l.length = 32} × (Sl × Unit))))} {Q : (Sl × (Int × Unit)) → World → Prop} {w : World} (h : record_Open p0 Q w) : cl Tryd.prog n_record_Open #[.agg ((([.int .i64 p0.1, .int .i64 p0.2.1] : List Value) ++ (p0.2.2.1.1 ++ ([.slice p0.2.2.2.1.a p0.2.2.2.1.n p0.2.2.2.1.c] : List Value)))).toArray] (.tup (.pair .L (.pair (.I .i64) .nil))) w Q :=
  cl_tie Tryd.func58 record_Open.k (args := [Kd.av (.pair (.I .i64) (.pair (.I .i64) (.pair (.row 32) (.pair .L .nil)))) p0]) (record_Open.t p0 Q w) h

/-- (*flume/lz.chains).best -/
def an_lz_chains_best : Nat → LA
  | 4 => [(4, (.I .i64)), (5, (.I .i64)), (6, (.I .i64))] | 1000003 => [(0, .nil)] | _ => []
def lz_chains_best (p0 : Option Addr) (p1 : Int) (Q : (Int × (Int × Unit)) → World → Prop) (w : World) : Prop :=
 nz p0 fun a1 => ld .L w a1 fun (x2 : Sl) => bif (decide ((IntKind.i64.wrap (p1 + 3)) > (x2.n : Int))) then
 (Q (0, (0, ())) w)
 else dr w fun w3 => nz p0 fun a4 => ld .M w3 (a4.add 1) fun (x5 : Option Nat) => cl Tryd.prog n_lz_chains_at #[.pointer p0, .int .i64 p1] (.row 3) w3 fun (x6 : {l : List Value // l.length = 3}) w7 => Fr w3 w7 ∧ qn Tryd.prog (Instr.lookup t_map_3_uint8_int (.map x5) (.agg (x6.1).toArray) false) (.I .i64) w7 fun (x8 : Int) => lp (α := (Int × (Int × (Int × Unit)))) (fun K => K (0, (0, (x8, ())))) w7 fun D11 J12 s9 w10 =>
 bif (decide (s9.2.2.1 > 0)) then
  (bif (decide ((IntKind.i64.wrap (p1 - (IntKind.i64.wrap (s9.2.2.1 - 1)))) ≤ 512)) then
  (cl Tryd.prog n_lz_chains_alike #[.pointer p0, .int .i64 (IntKind.i64.wrap (s9.2.2.1 - 1)), .int .i64 p1] (.I .i64) w10 fun (x13 : Int) w14 => bif (decide (x13 > s9.2.1)) then
  (nz p0 fun a15 => ld .L w14 (a15.add 2) fun (x16 : Sl) => ixa x16.a x16.n (IntKind.i64.wrap (s9.2.2.1 - 1)) 1 fun a17 => ld (.I .i64) w14 a17 fun (x18 : Int) => J12 ((IntKind.i64.wrap (p1 - (IntKind.i64.wrap (s9.2.2.1 - 1)))), (x13, (x18, ()))) w14)
  else nz p0 fun a19 => ld .L w14 (a19.add 2) fun (x20 : Sl) => ixa x20.a x20.n (IntKind.i64.wrap (s9.2.2.1 - 1)) 1 fun a21 => ld (.I .i64) w14 a21 fun (x22 : Int) => J12 (s9.1, (s9.2.1, (x22, ()))) w14)
  else Q (s9.1, (s9.2.1, ())) w10)
  else Q (s9.1, (s9.2.1, ())) w10
theorem lz_chains_best.t (p0 : Option Addr) (p1 : Int) (Q : (Int × (Int × Unit)) → World → Prop) (w : World) : lz_chains_best p0 p1 Q w = fvc Tryd.prog an_lz_chains_best Tryd.f59 (.tup (.pair (.I .i64) (.pair (.I .i64) .nil))) [Kd.av .P p0, Kd.av (.I .i64) p1] w Q := by kernel_rfl
theorem lz_chains_best.k : fnOk Tryd.prog Tryd.f59 = true := by kernel_rfl
theorem lz_chains_best.cl {p0 : Option Addr} {p1 : Int} {Q : (Int × (Int × Unit)) → World → Prop} {w : World} (h : lz_chains_best p0 p1 Q w) : cl Tryd.prog n_lz_chains_best #[.pointer p0, .int .i64 p1] (.tup (.pair (.I .i64) (.pair (.I .i64) .nil))) w Q :=
  cl_tie Tryd.func59 lz_chains_best.k (args := [Kd.av .P p0, Kd.av (.I .i64) p1]) (lz_chains_best.t p0 p1 Q w) h

/-- (*flume/lz.chains).put -/
def an_lz_chains_put : Nat → LA
  | 1000002 => [(0, .nil)] | 1000003 => [(0, .nil)] | _ => []
def lz_chains_put (p0 : Option Addr) (p1 : Int) (Q : Unit → World → Prop) (w : World) : Prop :=
 nz p0 fun a1 => ld .L w a1 fun (x2 : Sl) => bif (decide ((IntKind.i64.wrap (p1 + 3)) ≤ (x2.n : Int))) then
 (cl Tryd.prog n_lz_chains_at #[.pointer p0, .int .i64 p1] (.row 3) w fun (x3 : {l : List Value // l.length = 3}) w4 => nw w4 ((zrow 3 (.int .u8 0)).1) t_3_uint8 fun a5 w6 => stL a5 w6 0 x3.1 fun w7 => dr w7 fun w8 => nz p0 fun a9 => ld .L w8 (a9.add 2) fun (x10 : Sl) => nz p0 fun a11 => ld .M w8 (a11.add 1) fun (x12 : Option Nat) => ld (.row 3) w8 a5 fun (x13 : {l : List Value // l.length = 3}) => qn Tryd.prog (Instr.lookup t_map_3_uint8_int (.map x12) (.agg (x13.1).toArray) false) (.I .i64) w8 fun (x14 : Int) => ixa x10.a x10.n p1 1 fun a15 => st1 w8 a15 (.int .i64 x14) fun w16 => dr w16 fun w17 => nz p0 fun a18 => ld .M w17 (a18.add 1) fun (x19 : Option Nat) => ld (.row 3) w17 a5 fun (x20 : {l : List Value // l.length = 3}) => ru Tryd.prog (Instr.mapUpdate t_map_3_uint8_int (.map x19) (.agg (x20.1).toArray) (.int .i64 (IntKind.i64.wrap (p1 + 1)))) w17 fun w21 => Q () w21)
 else Q () w
theorem lz_chains_put.t (p0 : Option Addr) (p1 : Int) (Q : Unit → World → Prop) (w : World) : lz_chains_put p0 p1 Q w = fvc Tryd.prog an_lz_chains_put Tryd.f60 (.tup .nil) [Kd.av .P p0, Kd.av (.I .i64) p1] w Q := by kernel_rfl
theorem lz_chains_put.k : fnOk Tryd.prog Tryd.f60 = true := by kernel_rfl
theorem lz_chains_put.cl {p0 : Option Addr} {p1 : Int} {Q : Unit → World → Prop} {w : World} (h : lz_chains_put p0 p1 Q w) : cl Tryd.prog n_lz_chains_put #[.pointer p0, .int .i64 p1] (.tup .nil) w Q :=
  cl_tie Tryd.func60 lz_chains_put.k (args := [Kd.av .P p0, Kd.av (.I .i64) p1]) (lz_chains_put.t p0 p1 Q w) h

/-- flume/octet.Number -/
def an_octet_Number : Nat → LA
  | 8 => [(8, .L), (9, (.I .i64))] | _ => []
def octet_Number (p0 : Sl) (p1 : Int) (Q : Sl → World → Prop) (w : World) : Prop :=
 cl Tryd.prog n_octet_more #[.int .u64 (IntKind.u64.wrap (max p1 0))] (.I .i64) w fun (x1 : Int) w2 => bif decide (0 ≤ (IntKind.i64.wrap (8 - x1))) then (let j1 := (fun (y19 : Int) (w20 : World) =>
   mks Tryd.prog t_s_uint8 0 (IntKind.i64.wrap ((p0.n : Int) + 9)) w20 fun r21 w22 => app Tryd.prog t_s_uint8 t_s_uint8 r21 p0 w22 fun r23 w24 => nw w24 [.int .u8 y19] t_uint8 fun a25 w26 => app Tryd.prog t_s_uint8 t_s_uint8 r23 ⟨(some a25), 1, 1⟩ w26 fun r27 w28 => lp (α := (Sl × (Int × Unit))) (fun K => K (r27, ((IntKind.i64.wrap (x1 - 1)), ()))) w28 fun D31 J32 s29 w30 =>
 bif (decide (s29.2.1 ≥ 0)) then
  (bif decide (0 ≤ (IntKind.i64.wrap (8 * s29.2.1))) then (nw w30 [.int .u8 (IntKind.u8.wrap ((IntKind.u64.wrap (max p1 0)) / 2 ^ (min (Int.toNat (IntKind.i64.wrap (8 * s29.2.1))) 64)))] t_uint8 fun a33 w34 => app Tryd.prog t_s_uint8 t_s_uint8 s29.1 ⟨(some a33), 1, 1⟩ w34 fun r35 w36 => J32 (r35, ((IntKind.i64.wrap (s29.2.1 - 1)), ())) w36) else False)
  else Q s29.1 w30);
 bif (decide (x1 < 8)) then
 (bif decide (0 ≤ (IntKind.i64.wrap (8 * x1))) then (j1 (bits .or .u8 (IntKind.u8.wrap (255 * 2 ^ (min (Int.toNat (IntKind.i64.wrap (8 - x1))) 8))) (IntKind.u8.wrap ((IntKind.u64.wrap (max p1 0)) / 2 ^ (min (Int.toNat (IntKind.i64.wrap (8 * x1))) 64)))) w2) else False)
 else j1 (IntKind.u8.wrap (255 * 2 ^ (min (Int.toNat (IntKind.i64.wrap (8 - x1))) 8))) w2) else False
theorem octet_Number.t (p0 : Sl) (p1 : Int) (Q : Sl → World → Prop) (w : World) : octet_Number p0 p1 Q w = fvc Tryd.prog an_octet_Number Tryd.f62 .L [Kd.av .L p0, Kd.av (.I .i64) p1] w Q := by kernel_rfl
theorem octet_Number.k : fnOk Tryd.prog Tryd.f62 = true := by kernel_rfl
theorem octet_Number.cl {p0 : Sl} {p1 : Int} {Q : Sl → World → Prop} {w : World} (h : octet_Number p0 p1 Q w) : cl Tryd.prog n_octet_Number #[.slice p0.a p0.n p0.c, .int .i64 p1] .L w Q :=
  cl_tie Tryd.func62 octet_Number.k (args := [Kd.av .L p0, Kd.av (.I .i64) p1]) (octet_Number.t p0 p1 Q w) h

/-- flume/digest.spread -/
def an_digest_spread : Nat → LA
  | 3 => [(10, (.I .i64))] | 8 => [(5, (.I .i64))] | 1000005 => [(0, .nil)] | 1000013 => [(0, .nil)] | _ => []
def digest_spread (p0 : Sl) (Q : {l : List Value // l.length = 64} → World → Prop) (w : World) : Prop :=
 nw w ((zrow 64 (.int .u32 0)).1) t_64_uint32 fun a1 w2 => nw w2 ((zrow 64 (.int .u32 0)).1) t_64_uint32 fun a3 w4 => lp (α := (Int × Unit)) (fun K => K (0, ())) w4 fun D7 J8 s5 w6 =>
 bif (decide (s5.1 < 16)) then
  (dr w6 fun w9 => ixa p0.a p0.n (IntKind.i64.wrap (4 * s5.1)) 1 fun a10 => ld (.I .u8) w9 a10 fun (x11 : Int) => ixa p0.a p0.n (IntKind.i64.wrap ((IntKind.i64.wrap (4 * s5.1)) + 1)) 1 fun a12 => ld (.I .u8) w9 a12 fun (x13 : Int) => ixa p0.a p0.n (IntKind.i64.wrap ((IntKind.i64.wrap (4 * s5.1)) + 2)) 1 fun a14 => ld (.I .u8) w9 a14 fun (x15 : Int) => ixa p0.a p0.n (IntKind.i64.wrap ((IntKind.i64.wrap (4 * s5.1)) + 3)) 1 fun a16 => ld (.I .u8) w9 a16 fun (x17 : Int) => ixa (some a3) 64 s5.1 1 fun a18 => st1 w9 a18 (.int .u32 (bits .or .u32 (bits .or .u32 (bits .or .u32 (IntKind.u32.wrap ((IntKind.u32.wrap x11) * 2 ^ (min 24 32))) (IntKind.u32.wrap ((IntKind.u32.wrap x13) * 2 ^ (min 16 32)))) (IntKind.u32.wrap ((IntKind.u32.wrap x15) * 2 ^ (min 8 32)))) (IntKind.u32.wrap x17))) fun w19 => J8 ((IntKind.i64.wrap (s5.1 + 1)), ()) w19)
  else lp (α := (Int × Unit)) (fun K => K (16, ())) w6 fun D22 J23 s20 w21 =>
 bif (decide (s20.1 < 64)) then
  (ixa (some a3) 64 (IntKind.i64.wrap (s20.1 - 15)) 1 fun a24 => ld (.I .u32) w21 a24 fun (x25 : Int) => ixa (some a3) 64 (IntKind.i64.wrap (s20.1 - 2)) 1 fun a26 => ld (.I .u32) w21 a26 fun (x27 : Int) => dr w21 fun w28 => cl Tryd.prog n_math_bits_RotateLeft32 #[.int .u32 x25, .int .i64 (-7)] (.I .u32) w28 fun (x29 : Int) w30 => cl Tryd.prog n_math_bits_RotateLeft32 #[.int .u32 x25, .int .i64 (-18)] (.I .u32) w30 fun (x31 : Int) w32 => cl Tryd.prog n_math_bits_RotateLeft32 #[.int .u32 x27, .int .i64 (-17)] (.I .u32) w32 fun (x33 : Int) w34 => cl Tryd.prog n_math_bits_RotateLeft32 #[.int .u32 x27, .int .i64 (-19)] (.I .u32) w34 fun (x35 : Int) w36 => dr w36 fun w37 => ixa (some a3) 64 (IntKind.i64.wrap (s20.1 - 16)) 1 fun a38 => ld (.I .u32) w37 a38 fun (x39 : Int) => ixa (some a3) 64 (IntKind.i64.wrap (s20.1 - 7)) 1 fun a40 => ld (.I .u32) w37 a40 fun (x41 : Int) => ixa (some a3) 64 s20.1 1 fun a42 => st1 w37 a42 (.int .u32 (IntKind.u32.wrap ((IntKind.u32.wrap ((IntKind.u32.wrap (x39 + (bits .xor .u32 (bits .xor .u32 x29 x31) (x25 / 2 ^ (min 3 32))))) + x41)) + (bits .xor .u32 (bits .xor .u32 x33 x35) (x27 / 2 ^ (min 10 32)))))) fun w43 => J23 ((IntKind.i64.wrap (s20.1 + 1)), ()) w43)
  else ld (.row 64) w21 a3 fun (x44 : {l : List Value // l.length = 64}) => stL a1 w21 0 x44.1 fun w45 => ld (.row 64) w45 a1 fun (r46 : {l : List Value // l.length = 64}) => Q r46 w45
theorem digest_spread.t (p0 : Sl) (Q : {l : List Value // l.length = 64} → World → Prop) (w : World) : digest_spread p0 Q w = fvc Tryd.prog an_digest_spread Tryd.f63 (.row 64) [Kd.av .L p0] w Q := by kernel_rfl
theorem digest_spread.k : fnOk Tryd.prog Tryd.f63 = true := by kernel_rfl
theorem digest_spread.cl {p0 : Sl} {Q : {l : List Value // l.length = 64} → World → Prop} {w : World} (h : digest_spread p0 Q w) : cl Tryd.prog n_digest_spread #[.slice p0.a p0.n p0.c] (.row 64) w Q :=
  cl_tie Tryd.func63 digest_spread.k (args := [Kd.av .L p0]) (digest_spread.t p0 Q w) h

/-- math/bits.RotateLeft32 -/
def math_bits_RotateLeft32 (p0 : Int) (p1 : Int) (Q : Int → World → Prop) (w : World) : Prop :=
 bif decide (0 ≤ (bits .and .u64 (IntKind.u64.wrap p1) 31)) then (bif decide (0 ≤ (IntKind.u64.wrap (32 - (bits .and .u64 (IntKind.u64.wrap p1) 31)))) then (Q (bits .or .u32 (IntKind.u32.wrap (p0 * 2 ^ (min (Int.toNat (bits .and .u64 (IntKind.u64.wrap p1) 31)) 32))) (p0 / 2 ^ (min (Int.toNat (IntKind.u64.wrap (32 - (bits .and .u64 (IntKind.u64.wrap p1) 31)))) 32))) w) else False) else False
theorem math_bits_RotateLeft32.t (p0 : Int) (p1 : Int) (Q : Int → World → Prop) (w : World) : math_bits_RotateLeft32 p0 p1 Q w = fvc Tryd.prog (fun _ => []) Tryd.f64 (.I .u32) [Kd.av (.I .u32) p0, Kd.av (.I .i64) p1] w Q := by kernel_rfl
theorem math_bits_RotateLeft32.k : fnOk Tryd.prog Tryd.f64 = true := by kernel_rfl
theorem math_bits_RotateLeft32.cl {p0 : Int} {p1 : Int} {Q : Int → World → Prop} {w : World} (h : math_bits_RotateLeft32 p0 p1 Q w) : cl Tryd.prog n_math_bits_RotateLeft32 #[.int .u32 p0, .int .i64 p1] (.I .u32) w Q :=
  cl_tie Tryd.func64 math_bits_RotateLeft32.k (args := [Kd.av (.I .u32) p0, Kd.av (.I .i64) p1]) (math_bits_RotateLeft32.t p0 p1 Q w) h

/-- flume/lz.Restore -/
def an_lz_Restore : Nat → LA
  | 2 => [(0, .L), (6, .L)] | _ => []
def lz_Restore (p0 : Sl) (p1 : Int) (Q : (Sl × (Int × Unit)) → World → Prop) (w : World) : Prop :=
 lp (α := (Sl × (Sl × Unit))) (fun K => K (p0, (⟨none, 0, 0⟩, ()))) w fun D3 J4 s1 w2 =>
 bif (decide ((s1.1.n : Int) > 0)) then
  (cl Tryd.prog n_lz_step #[.slice s1.2.1.a s1.2.1.n s1.2.1.c, .slice s1.1.a s1.1.n s1.1.c] (.tup (.pair .L (.pair (.I .i64) (.pair (.I .i64) .nil)))) w2 fun (x5 : (Sl × (Int × (Int × Unit)))) w6 => bif (x5.2.2.1 != 0) then
  (Q (⟨none, 0, 0⟩, (x5.2.2.1, ())) w6)
  else bif (decide ((x5.1.n : Int) > (IntKind.i64.wrap (p1 - (s1.2.1.n : Int))))) then
  (Q (⟨none, 0, 0⟩, (71, ())) w6)
  else app Tryd.prog t_s_uint8 t_s_uint8 s1.2.1 x5.1 w6 fun r7 w8 => sls s1.1 x5.2.1 s1.1.n 1 fun r9 => J4 (r9, (r7, ())) w8)
  else Q (s1.2.1, (0, ())) w2
theorem lz_Restore.t (p0 : Sl) (p1 : Int) (Q : (Sl × (Int × Unit)) → World → Prop) (w : World) : lz_Restore p0 p1 Q w = fvc Tryd.prog an_lz_Restore Tryd.f65 (.tup (.pair .L (.pair (.I .i64) .nil))) [Kd.av .L p0, Kd.av (.I .i64) p1] w Q := by kernel_rfl
theorem lz_Restore.k : fnOk Tryd.prog Tryd.f65 = true := by kernel_rfl
theorem lz_Restore.cl {p0 : Sl} {p1 : Int} {Q : (Sl × (Int × Unit)) → World → Prop} {w : World} (h : lz_Restore p0 p1 Q w) : cl Tryd.prog n_lz_Restore #[.slice p0.a p0.n p0.c, .int .i64 p1] (.tup (.pair .L (.pair (.I .i64) .nil))) w Q :=
  cl_tie Tryd.func65 lz_Restore.k (args := [Kd.av .L p0, Kd.av (.I .i64) p1]) (lz_Restore.t p0 p1 Q w) h

/-- (*flume/lz.chains).at -/
def lz_chains_at (p0 : Option Addr) (p1 : Int) (Q : {l : List Value // l.length = 3} → World → Prop) (w : World) : Prop :=
 nw w ((zrow 3 (.int .u8 0)).1) t_3_uint8 fun a1 w2 => nz p0 fun a3 => ld .L w2 a3 fun (x4 : Sl) => sls x4 p1 (IntKind.i64.wrap (p1 + 3)) 1 fun r5 => qn Tryd.prog (Instr.arrayAt t_3_uint8 (.slice r5.a r5.n r5.c)) .P w2 fun (x6 : Option Addr) => nz x6 fun a8 => ld (.row 3) w2 a8 fun (x7 : {l : List Value // l.length = 3}) => stL a1 w2 0 x7.1 fun w9 => ld (.row 3) w9 a1 fun (r10 : {l : List Value // l.length = 3}) => Q r10 w9
theorem lz_chains_at.t (p0 : Option Addr) (p1 : Int) (Q : {l : List Value // l.length = 3} → World → Prop) (w : World) : lz_chains_at p0 p1 Q w = fvc Tryd.prog (fun _ => []) Tryd.f66 (.row 3) [Kd.av .P p0, Kd.av (.I .i64) p1] w Q := by kernel_rfl
theorem lz_chains_at.k : fnOk Tryd.prog Tryd.f66 = true := by kernel_rfl
theorem lz_chains_at.cl {p0 : Option Addr} {p1 : Int} {Q : {l : List Value // l.length = 3} → World → Prop} {w : World} (h : lz_chains_at p0 p1 Q w) : cl Tryd.prog n_lz_chains_at #[.pointer p0, .int .i64 p1] (.row 3) w Q :=
  cl_tie Tryd.func66 lz_chains_at.k (args := [Kd.av .P p0, Kd.av (.I .i64) p1]) (lz_chains_at.t p0 p1 Q w) h
end Go.Proofs.YtkaombhkepopgaaDoor
set_option linter.unusedVariables false
set_option maxHeartbeats 4000000
namespace Go.Proofs.YtkaombhkepopgaaDoor
open Go.Fl
/-- (*flume/lz.chains).alike -/
def an_lz_chains_alike : Nat → LA
  | 2 => [(7, (.I .i64))] | _ => []
def lz_chains_alike (p0 : Option Addr) (p1 : Int) (p2 : Int) (Q : Int → World → Prop) (w : World) : Prop :=
 lp (α := (Int × Unit)) (fun K => K (0, ())) w fun D3 J4 s1 w2 =>
 bif (decide (s1.1 < 66)) then (nz p0 fun a5 => ld .L w2 a5 fun (x6 : Sl) => bif (decide ((IntKind.i64.wrap (p2 + s1.1)) < (x6.n : Int))) then (nz p0 fun a7 => ld .L w2 a7 fun (x8 : Sl) => ixa x8.a x8.n (IntKind.i64.wrap (p1 + s1.1)) 1 fun a9 => ld (.I .u8) w2 a9 fun (x10 : Int) => nz p0 fun a11 => ld .L w2 a11 fun (x12 : Sl) => ixa x12.a x12.n (IntKind.i64.wrap (p2 + s1.1)) 1 fun a13 => ld (.I .u8) w2 a13 fun (x14 : Int) => dr w2 fun w15 => bif (x10 == x14) then
  (J4 ((IntKind.i64.wrap (s1.1 + 1)), ()) w15)
  else Q s1.1 w15) else dr w2 fun w16 => Q s1.1 w16) else dr w2 fun w17 => Q s1.1 w17
theorem lz_chains_alike.t (p0 : Option Addr) (p1 : Int) (p2 : Int) (Q : Int → World → Prop) (w : World) : lz_chains_alike p0 p1 p2 Q w = fvc Tryd.prog an_lz_chains_alike Tryd.f67 (.I .i64) [Kd.av .P p0, Kd.av (.I .i64) p1, Kd.av (.I .i64) p2] w Q := by kernel_rfl
theorem lz_chains_alike.k : fnOk Tryd.prog Tryd.f67 = true := by kernel_rfl
theorem lz_chains_alike.cl {p0 : Option Addr} {p1 : Int} {p2 : Int} {Q : Int → World → Prop} {w : World} (h : lz_chains_alike p0 p1 p2 Q w) : cl Tryd.prog n_lz_chains_alike #[.pointer p0, .int .i64 p1, .int .i64 p2] (.I .i64) w Q :=
  cl_tie Tryd.func67 lz_chains_alike.k (args := [Kd.av .P p0, Kd.av (.I .i64) p1, Kd.av (.I .i64) p2]) (lz_chains_alike.t p0 p1 p2 Q w) h

/-- slices.Chunk[[]byte,byte] -/
def slices_Chunk_byte_byte (p0 : Sl) (p1 : Int) (Q : Value → World → Prop) (w : World) : Prop :=
 nw w ([.slice p0.a p0.n p0.c]) t_s_uint8 fun a1 w2 => nw w2 ([.int .i64 p1]) t_int fun a3 w4 => ld (.I .i64) w4 a3 fun (x5 : Int) => bif (decide (x5 < 1)) then
 (False)
 else Q (.func (.func n_slices_Chunk_byte_byte_1) #[] #[.pointer (some a1), .pointer (some a3)]) w4
theorem slices_Chunk_byte_byte.t (p0 : Sl) (p1 : Int) (Q : Value → World → Prop) (w : World) : slices_Chunk_byte_byte p0 p1 Q w = fvc Tryd.prog (fun _ => []) Tryd.f68 .U [Kd.av .L p0, Kd.av (.I .i64) p1] w Q := by kernel_rfl
theorem slices_Chunk_byte_byte.k : fnOk Tryd.prog Tryd.f68 = true := by kernel_rfl
theorem slices_Chunk_byte_byte.cl {p0 : Sl} {p1 : Int} {Q : Value → World → Prop} {w : World} (h : slices_Chunk_byte_byte p0 p1 Q w) : cl Tryd.prog n_slices_Chunk_byte_byte #[.slice p0.a p0.n p0.c, .int .i64 p1] .U w Q :=
  cl_tie Tryd.func68 slices_Chunk_byte_byte.k (args := [Kd.av .L p0, Kd.av (.I .i64) p1]) (slices_Chunk_byte_byte.t p0 p1 Q w) h

/-- flume/octet.more -/
def an_octet_more : Nat → LA
  | 2 => [(4, (.I .i64))] | _ => []
def octet_more (p0 : Int) (Q : Int → World → Prop) (w : World) : Prop :=
 lp (α := (Int × Unit)) (fun K => K (0, ())) w fun D3 J4 s1 w2 =>
 bif (decide (s1.1 < 8)) then
  (bif decide (0 ≤ (IntKind.i64.wrap (7 * (IntKind.i64.wrap (s1.1 + 1))))) then (bif (decide (p0 < (IntKind.u64.wrap (1 * 2 ^ (min (Int.toNat (IntKind.i64.wrap (7 * (IntKind.i64.wrap (s1.1 + 1))))) 64))))) then
  (Q s1.1 w2)
  else J4 ((IntKind.i64.wrap (s1.1 + 1)), ()) w2) else False)
  else Q 8 w2
theorem octet_more.t (p0 : Int) (Q : Int → World → Prop) (w : World) : octet_more p0 Q w = fvc Tryd.prog an_octet_more Tryd.f69 (.I .i64) [Kd.av (.I .u64) p0] w Q := by kernel_rfl
theorem octet_more.k : fnOk Tryd.prog Tryd.f69 = true := by kernel_rfl
theorem octet_more.cl {p0 : Int} {Q : Int → World → Prop} {w : World} (h : octet_more p0 Q w) : cl Tryd.prog n_octet_more #[.int .u64 p0] (.I .i64) w Q :=
  cl_tie Tryd.func69 octet_more.k (args := [Kd.av (.I .u64) p0]) (octet_more.t p0 Q w) h

/-- flume/lz.step -/
def an_lz_step : Nat → LA
  | 15 => [(67, (.I .i64))] | _ => []
def lz_step (p0 : Sl) (p1 : Sl) (Q : (Sl × (Int × (Int × Unit))) → World → Prop) (w : World) : Prop :=
 ixa p1.a p1.n 0 1 fun a1 => ld (.I .u8) w a1 fun (x2 : Int) => bif (decide (x2 < 128)) then
 (ixa p1.a p1.n 0 1 fun a3 => ld (.I .u8) w a3 fun (x4 : Int) => bif (decide ((p1.n : Int) ≤ (IntKind.i64.wrap ((IntKind.i64.wrap x4) + 1)))) then
  (Q (⟨none, 0, 0⟩, (0, (2, ()))) w)
  else qn Tryd.prog (Instr.sliceAt t_s_uint8 (.slice p1.a p1.n p1.c) (some (.int .i64 1)) (some (.int .i64 (IntKind.i64.wrap ((IntKind.i64.wrap ((IntKind.i64.wrap x4) + 1)) + 1)))) (some (.int .i64 (IntKind.i64.wrap ((IntKind.i64.wrap ((IntKind.i64.wrap x4) + 1)) + 1))))) .L w fun (r5 : Sl) => Q (r5, ((IntKind.i64.wrap ((IntKind.i64.wrap ((IntKind.i64.wrap x4) + 1)) + 1)), (0, ()))) w)
 else ixa p1.a p1.n 0 1 fun a6 => ld (.I .u8) w a6 fun (x7 : Int) => sls p1 1 p1.n 1 fun r8 => cl Tryd.prog n_octet_Read #[.slice r8.a r8.n r8.c] .P w fun (x9 : Option Addr) w10 => cl Tryd.prog n_octet_Reader_Within #[.pointer x9, .int .i64 1, .int .i64 (min 512 (p0.n : Int))] (.tup (.pair (.I .i64) (.pair (.I .i64) .nil))) w10 fun (x11 : (Int × (Int × Unit))) w12 => bif (x11.2.1 == 2) then
 (Q (⟨none, 0, 0⟩, (0, (x11.2.1, ()))) w12)
 else bif (x11.2.1 != 0) then
 (Q (⟨none, 0, 0⟩, (0, (70, ()))) w12)
 else bif (decide ((IntKind.i64.wrap ((IntKind.i64.wrap ((IntKind.i64.wrap x7) - 128)) + 3)) > 66)) then
 (Q (⟨none, 0, 0⟩, (0, (70, ()))) w12)
 else mks Tryd.prog t_s_uint8 (IntKind.i64.wrap ((IntKind.i64.wrap ((IntKind.i64.wrap x7) - 128)) + 3)) (IntKind.i64.wrap ((IntKind.i64.wrap ((IntKind.i64.wrap x7) - 128)) + 3)) w12 fun r13 w14 => lp (α := (Int × Unit)) (fun K => K (0, ())) w14 fun D17 J18 s15 w16 =>
 bif (decide (s15.1 < (r13.n : Int))) then
  (bif (decide (s15.1 < x11.1)) then
  (ixa p0.a p0.n (IntKind.i64.wrap ((IntKind.i64.wrap ((p0.n : Int) - x11.1)) + s15.1)) 1 fun a19 => ld (.I .u8) w16 a19 fun (x20 : Int) => ixa r13.a r13.n s15.1 1 fun a21 => st1 w16 a21 (.int .u8 x20) fun w22 => J18 ((IntKind.i64.wrap (s15.1 + 1)), ()) w22)
  else ixa r13.a r13.n (IntKind.i64.wrap (s15.1 - x11.1)) 1 fun a23 => ld (.I .u8) w16 a23 fun (x24 : Int) => ixa r13.a r13.n s15.1 1 fun a25 => st1 w16 a25 (.int .u8 x24) fun w26 => J18 ((IntKind.i64.wrap (s15.1 + 1)), ()) w26)
  else cl Tryd.prog n_octet_Reader_Left #[.pointer x9] (.I .i64) w16 fun (x27 : Int) w28 => Q (r13, ((IntKind.i64.wrap ((p1.n : Int) - x27)), (0, ()))) w28
theorem lz_step.t (p0 : Sl) (p1 : Sl) (Q : (Sl × (Int × (Int × Unit))) → World → Prop) (w : World) : lz_step p0 p1 Q w = fvc Tryd.prog an_lz_step Tryd.f70 (.tup (.pair .L (.pair (.I .i64) (.pair (.I .i64) .nil)))) [Kd.av .L p0, Kd.av .L p1] w Q := by kernel_rfl
theorem lz_step.k : fnOk Tryd.prog Tryd.f70 = true := by kernel_rfl
theorem lz_step.cl {p0 : Sl} {p1 : Sl} {Q : (Sl × (Int × (Int × Unit))) → World → Prop} {w : World} (h : lz_step p0 p1 Q w) : cl Tryd.prog n_lz_step #[.slice p0.a p0.n p0.c, .slice p1.a p1.n p1.c] (.tup (.pair .L (.pair (.I .i64) (.pair (.I .i64) .nil)))) w Q :=
  cl_tie Tryd.func70 lz_step.k (args := [Kd.av .L p0, Kd.av .L p1]) (lz_step.t p0 p1 Q w) h

/-- slices.Chunk[[]byte,byte]$1 -/
def an_slices_Chunk_byte_byte_1 : Nat → LA
  | 1 => [(4, (.I .i64))] | _ => []
def slices_Chunk_byte_byte_1 (p0 : Value) (p1 : Option Addr) (p2 : Option Addr) (Q : Unit → World → Prop) (w : World) : Prop :=
 lp (α := (Int × Unit)) (fun K => K (0, ())) w fun D3 J4 s1 w2 =>
 nz p1 fun a6 => ld .L w2 a6 fun (x5 : Sl) => bif (decide (s1.1 < (x5.n : Int))) then
  (nz p2 fun a8 => ld (.I .i64) w2 a8 fun (x7 : Int) => nz p1 fun a10 => ld .L w2 a10 fun (x9 : Sl) => sls x9 s1.1 x9.n 1 fun r11 => dr w2 fun w12 => nz p1 fun a14 => ld .L w12 a14 fun (x13 : Sl) => qn Tryd.prog (Instr.sliceAt t_s_uint8 (.slice x13.a x13.n x13.c) (some (.int .i64 s1.1)) (some (.int .i64 (IntKind.i64.wrap (s1.1 + (min x7 (r11.n : Int)))))) (some (.int .i64 (IntKind.i64.wrap (s1.1 + (min x7 (r11.n : Int))))))) .L w12 fun (r15 : Sl) => clv Tryd.prog (p0) #[.slice r15.a r15.n r15.c] .B w12 fun (x16 : Bool) w17 => bif (!x16) then
  (Q () w17)
  else nz p2 fun a19 => ld (.I .i64) w17 a19 fun (x18 : Int) => J4 ((IntKind.i64.wrap (s1.1 + x18)), ()) w17)
  else Q () w2
theorem slices_Chunk_byte_byte_1.t (p0 : Value) (p1 : Option Addr) (p2 : Option Addr) (Q : Unit → World → Prop) (w : World) : slices_Chunk_byte_byte_1 p0 p1 p2 Q w = fvc Tryd.prog an_slices_Chunk_byte_byte_1 Tryd.f71 (.tup .nil) [Kd.av .U p0, Kd.av .P p1, Kd.av .P p2] w Q := by kernel_rfl
theorem slices_Chunk_byte_byte_1.k : fnOk Tryd.prog Tryd.f71 = true := by kernel_rfl
theorem slices_Chunk_byte_byte_1.cl {p0 : Value} {p1 : Option Addr} {p2 : Option Addr} {Q : Unit → World → Prop} {w : World} (h : slices_Chunk_byte_byte_1 p0 p1 p2 Q w) : cl Tryd.prog n_slices_Chunk_byte_byte_1 #[p0, .pointer p1, .pointer p2] (.tup .nil) w Q :=
  cl_tie Tryd.func71 slices_Chunk_byte_byte_1.k (args := [Kd.av .U p0, Kd.av .P p1, Kd.av .P p2]) (slices_Chunk_byte_byte_1.t p0 p1 p2 Q w) h

/-- flume/octet.Read -/
def octet_Read (p0 : Sl) (Q : Option Addr → World → Prop) (w : World) : Prop :=
 nw w [] t_uint8 fun a1 w2 => app Tryd.prog t_s_uint8 t_s_uint8 ⟨(some a1), 0, 0⟩ p0 w2 fun r3 w4 => nw w4 ([.slice r3.a r3.n r3.c, .bool true]) t_octet_Reader fun a5 w6 => Q (some a5) w6
theorem octet_Read.t (p0 : Sl) (Q : Option Addr → World → Prop) (w : World) : octet_Read p0 Q w = fvc Tryd.prog (fun _ => []) Tryd.f72 .P [Kd.av .L p0] w Q := by kernel_rfl
theorem octet_Read.k : fnOk Tryd.prog Tryd.f72 = true := by kernel_rfl
theorem octet_Read.cl {p0 : Sl} {Q : Option Addr → World → Prop} {w : World} (h : octet_Read p0 Q w) : cl Tryd.prog n_octet_Read #[.slice p0.a p0.n p0.c] .P w Q :=
  cl_tie Tryd.func72 octet_Read.k (args := [Kd.av .L p0]) (octet_Read.t p0 Q w) h

/-- (*flume/octet.Reader).Within -/
def octet_Reader_Within (p0 : Option Addr) (p1 : Int) (p2 : Int) (Q : (Int × (Int × Unit)) → World → Prop) (w : World) : Prop :=
 bif p0.isNone then
 (Q (0, (6, ())) w)
 else nz p0 fun a1 => ld .B w (a1.add 1) fun (x2 : Bool) => bif (!x2) then
 (Q (0, (6, ())) w)
 else nz p0 fun a3 => ld .L w a3 fun (x4 : Sl) => cl Tryd.prog n_octet_look #[.slice x4.a x4.n x4.c] (.tup (.pair (.I .i64) (.pair (.I .i64) (.pair (.I .i64) .nil)))) w fun (x5 : (Int × (Int × (Int × Unit)))) w6 => bif (x5.2.2.1 != 0) then
 (Q (0, (x5.2.2.1, ())) w6)
 else bif (decide (x5.1 < p1)) then
 (Q (0, (5, ())) w6)
 else bif (decide (x5.1 > p2)) then
 (Q (0, (5, ())) w6)
 else nz p0 fun a7 => ld .L w6 a7 fun (x8 : Sl) => sls x8 x5.2.1 x8.n 1 fun r9 => nz p0 fun a10 => st1 w6 a10 (.slice r9.a r9.n r9.c) fun w11 => Q (x5.1, (0, ())) w11
theorem octet_Reader_Within.t (p0 : Option Addr) (p1 : Int) (p2 : Int) (Q : (Int × (Int × Unit)) → World → Prop) (w : World) : octet_Reader_Within p0 p1 p2 Q w = fvc Tryd.prog (fun _ => []) Tryd.f73 (.tup (.pair (.I .i64) (.pair (.I .i64) .nil))) [Kd.av .P p0, Kd.av (.I .i64) p1, Kd.av (.I .i64) p2] w Q := by kernel_rfl
theorem octet_Reader_Within.k : fnOk Tryd.prog Tryd.f73 = true := by kernel_rfl
theorem octet_Reader_Within.cl {p0 : Option Addr} {p1 : Int} {p2 : Int} {Q : (Int × (Int × Unit)) → World → Prop} {w : World} (h : octet_Reader_Within p0 p1 p2 Q w) : cl Tryd.prog n_octet_Reader_Within #[.pointer p0, .int .i64 p1, .int .i64 p2] (.tup (.pair (.I .i64) (.pair (.I .i64) .nil))) w Q :=
  cl_tie Tryd.func73 octet_Reader_Within.k (args := [Kd.av .P p0, Kd.av (.I .i64) p1, Kd.av (.I .i64) p2]) (octet_Reader_Within.t p0 p1 p2 Q w) h

/-- (*flume/octet.Reader).Left -/
def octet_Reader_Left (p0 : Option Addr) (Q : Int → World → Prop) (w : World) : Prop :=
 bif p0.isNone then
 (Q 0 w)
 else nz p0 fun a1 => ld .L w a1 fun (x2 : Sl) => Q (x2.n : Int) w
theorem octet_Reader_Left.t (p0 : Option Addr) (Q : Int → World → Prop) (w : World) : octet_Reader_Left p0 Q w = fvc Tryd.prog (fun _ => []) Tryd.f74 (.I .i64) [Kd.av .P p0] w Q := by kernel_rfl
theorem octet_Reader_Left.k : fnOk Tryd.prog Tryd.f74 = true := by kernel_rfl
theorem octet_Reader_Left.cl {p0 : Option Addr} {Q : Int → World → Prop} {w : World} (h : octet_Reader_Left p0 Q w) : cl Tryd.prog n_octet_Reader_Left #[.pointer p0] (.I .i64) w Q :=
  cl_tie Tryd.func74 octet_Reader_Left.k (args := [Kd.av .P p0]) (octet_Reader_Left.t p0 Q w) h

/-- flume/octet.look -/
def an_octet_look : Nat → LA
  | 11 => [(6, (.I .u64)), (36, (.I .i64))] | _ => []
def octet_look (p0 : Sl) (Q : (Int × (Int × (Int × Unit))) → World → Prop) (w : World) : Prop :=
 bif ((p0.n : Int) == 0) then
 (Q (0, (0, (2, ()))) w)
 else ixa p0.a p0.n 0 1 fun a1 => ld (.I .u8) w a1 fun (x2 : Int) => cl Tryd.prog n_math_bits_LeadingZeros8 #[.int .u8 (bits .xor .u8 255 x2)] (.I .i64) w fun (x3 : Int) w4 => bif (decide ((p0.n : Int) ≤ x3)) then
 (Q (0, (0, (2, ()))) w4)
 else ixa p0.a p0.n 0 1 fun a5 => ld (.I .u8) w4 a5 fun (x6 : Int) => let j1 := (fun (y16 : Int) (w17 : World) =>
   sls p0 1 (IntKind.i64.wrap (x3 + 1)) 1 fun r18 => lp (α := (Int × (Int × Unit))) (fun K => K (y16, (0, ()))) w17 fun D21 J22 s19 w20 =>
 bif (decide (s19.2.1 < (r18.n : Int))) then
  (ixa r18.a r18.n s19.2.1 1 fun a23 => ld (.I .u8) w20 a23 fun (x24 : Int) => J22 ((bits .or .u64 (IntKind.u64.wrap (s19.1 * 2 ^ (min 8 64))) (IntKind.u64.wrap x24)), ((IntKind.i64.wrap (s19.2.1 + 1)), ())) w20)
  else bif (decide (s19.1 > 9223372036854775807)) then
 (Q (0, (0, (5, ()))) w20)
 else cl Tryd.prog n_octet_more #[.int .u64 s19.1] (.I .i64) w20 fun (x25 : Int) w26 => bif (x25 != x3) then
 (Q (0, (0, (20, ()))) w26)
 else Q ((IntKind.i64.wrap s19.1), ((IntKind.i64.wrap (x3 + 1)), (0, ()))) w26);
 bif (decide (x3 < 8)) then
 (bif decide (0 ≤ x3) then (j1 (bits .and .u64 (IntKind.u64.wrap x6) (127 / 2 ^ (min (Int.toNat x3) 64))) w4) else False)
 else j1 0 w4
theorem octet_look.t (p0 : Sl) (Q : (Int × (Int × (Int × Unit))) → World → Prop) (w : World) : octet_look p0 Q w = fvc Tryd.prog an_octet_look Tryd.f75 (.tup (.pair (.I .i64) (.pair (.I .i64) (.pair (.I .i64) .nil)))) [Kd.av .L p0] w Q := by kernel_rfl
theorem octet_look.k : fnOk Tryd.prog Tryd.f75 = true := by kernel_rfl
theorem octet_look.cl {p0 : Sl} {Q : (Int × (Int × (Int × Unit))) → World → Prop} {w : World} (h : octet_look p0 Q w) : cl Tryd.prog n_octet_look #[.slice p0.a p0.n p0.c] (.tup (.pair (.I .i64) (.pair (.I .i64) (.pair (.I .i64) .nil)))) w Q :=
  cl_tie Tryd.func75 octet_look.k (args := [Kd.av .L p0]) (octet_look.t p0 Q w) h

/-- math/bits.LeadingZeros8 -/
def math_bits_LeadingZeros8 (p0 : Int) (Q : Int → World → Prop) (w : World) : Prop :=
 cl Tryd.prog n_math_bits_Len8 #[.int .u8 p0] (.I .i64) w fun (x1 : Int) w2 => Q (IntKind.i64.wrap (8 - x1)) w2
theorem math_bits_LeadingZeros8.t (p0 : Int) (Q : Int → World → Prop) (w : World) : math_bits_LeadingZeros8 p0 Q w = fvc Tryd.prog (fun _ => []) Tryd.f76 (.I .i64) [Kd.av (.I .u8) p0] w Q := by kernel_rfl
theorem math_bits_LeadingZeros8.k : fnOk Tryd.prog Tryd.f76 = true := by kernel_rfl
theorem math_bits_LeadingZeros8.cl {p0 : Int} {Q : Int → World → Prop} {w : World} (h : math_bits_LeadingZeros8 p0 Q w) : cl Tryd.prog n_math_bits_LeadingZeros8 #[.int .u8 p0] (.I .i64) w Q :=
  cl_tie Tryd.func76 math_bits_LeadingZeros8.k (args := [Kd.av (.I .u8) p0]) (math_bits_LeadingZeros8.t p0 Q w) h

/-- math/bits.Len8 -/
def math_bits_Len8 (p0 : Int) (Q : Int → World → Prop) (w : World) : Prop :=
 0 ≤ p0 ∧ p0 < ((⟨#[0, 1, 2, 2, 3, 3, 3, 3, 4, 4, 4, 4, 4, 4, 4, 4, 5, 5, 5, 5, 5, 5, 5, 5, 5, 5, 5, 5, 5, 5, 5, 5, 6, 6, 6, 6, 6, 6, 6, 6, 6, 6, 6, 6, 6, 6, 6, 6, 6, 6, 6, 6, 6, 6, 6, 6, 6, 6, 6, 6, 6, 6, 6, 6, 7, 7, 7, 7, 7, 7, 7, 7, 7, 7, 7, 7, 7, 7, 7, 7, 7, 7, 7, 7, 7, 7, 7, 7, 7, 7, 7, 7, 7, 7, 7, 7, 7, 7, 7, 7, 7, 7, 7, 7, 7, 7, 7, 7, 7, 7, 7, 7, 7, 7, 7, 7, 7, 7, 7, 7, 7, 7, 7, 7, 7, 7, 7, 7, 8, 8, 8, 8, 8, 8, 8, 8, 8, 8, 8, 8, 8, 8, 8, 8, 8, 8, 8, 8, 8, 8, 8, 8, 8, 8, 8, 8, 8, 8, 8, 8, 8, 8, 8, 8, 8, 8, 8, 8, 8, 8, 8, 8, 8, 8, 8, 8, 8, 8, 8, 8, 8, 8, 8, 8, 8, 8, 8, 8, 8, 8, 8, 8, 8, 8, 8, 8, 8, 8, 8, 8, 8, 8, 8, 8, 8, 8, 8, 8, 8, 8, 8, 8, 8, 8, 8, 8, 8, 8, 8, 8, 8, 8, 8, 8, 8, 8, 8, 8, 8, 8, 8, 8, 8, 8, 8, 8, 8, 8, 8, 8, 8, 8, 8, 8, 8, 8, 8, 8, 8, 8, 8, 8, 8, 8, 8, 8]⟩ : ByteArray).size : Int) ∧ (Q (IntKind.i64.wrap (((⟨#[0, 1, 2, 2, 3, 3, 3, 3, 4, 4, 4, 4, 4, 4, 4, 4, 5, 5, 5, 5, 5, 5, 5, 5, 5, 5, 5, 5, 5, 5, 5, 5, 6, 6, 6, 6, 6, 6, 6, 6, 6, 6, 6, 6, 6, 6, 6, 6, 6, 6, 6, 6, 6, 6, 6, 6, 6, 6, 6, 6, 6, 6, 6, 6, 7, 7, 7, 7, 7, 7, 7, 7, 7, 7, 7, 7, 7, 7, 7, 7, 7, 7, 7, 7, 7, 7, 7, 7, 7, 7, 7, 7, 7, 7, 7, 7, 7, 7, 7, 7, 7, 7, 7, 7, 7, 7, 7, 7, 7, 7, 7, 7, 7, 7, 7, 7, 7, 7, 7, 7, 7, 7, 7, 7, 7, 7, 7, 7, 8, 8, 8, 8, 8, 8, 8, 8, 8, 8, 8, 8, 8, 8, 8, 8, 8, 8, 8, 8, 8, 8, 8, 8, 8, 8, 8, 8, 8, 8, 8, 8, 8, 8, 8, 8, 8, 8, 8, 8, 8, 8, 8, 8, 8, 8, 8, 8, 8, 8, 8, 8, 8, 8, 8, 8, 8, 8, 8, 8, 8, 8, 8, 8, 8, 8, 8, 8, 8, 8, 8, 8, 8, 8, 8, 8, 8, 8, 8, 8, 8, 8, 8, 8, 8, 8, 8, 8, 8, 8, 8, 8, 8, 8, 8, 8, 8, 8, 8, 8, 8, 8, 8, 8, 8, 8, 8, 8, 8, 8, 8, 8, 8, 8, 8, 8, 8, 8, 8, 8, 8, 8, 8, 8, 8, 8, 8, 8]⟩ : ByteArray).data.toList.getD (Int.toNat p0) 0).toNat : Int)) w)
theorem math_bits_Len8.t (p0 : Int) (Q : Int → World → Prop) (w : World) : math_bits_Len8 p0 Q w = fvc Tryd.prog (fun _ => []) Tryd.f77 (.I .i64) [Kd.av (.I .u8) p0] w Q := by kernel_rfl
theorem math_bits_Len8.k : fnOk Tryd.prog Tryd.f77 = true := by kernel_rfl
theorem math_bits_Len8.cl {p0 : Int} {Q : Int → World → Prop} {w : World} (h : math_bits_Len8 p0 Q w) : cl Tryd.prog n_math_bits_Len8 #[.int .u8 p0] (.I .i64) w Q :=
  cl_tie Tryd.func77 math_bits_Len8.k (args := [Kd.av (.I .u8) p0]) (math_bits_Len8.t p0 Q w) h
end Go.Proofs.YtkaombhkepopgaaDoor

namespace Go.Fl
open Go.RowKit

theorem bP {p : Prop} [Decidable p] {X Y : Prop} (h : p) (k : X) : bif decide p then X else Y := by rw [decide_eq_true h]; exact k
theorem bN {p : Prop} [Decidable p] {X Y : Prop} (h : ¬p) (k : Y) : bif decide p then X else Y := by rw [decide_eq_false h]; exact k
theorem bD {p : Prop} [Decidable p] {X Y : Prop} (ht : p → X) (hf : ¬p → Y) : bif decide p then X else Y := by
  by_cases h : p
  · exact bP h (ht h)
  · exact bN h (hf h)
theorem bT {b : Bool} {X Y : Prop} (h : b = true) (k : X) : bif b then X else Y := by rw [h]; exact k
theorem bF {b : Bool} {X Y : Prop} (h : b = false) (k : Y) : bif b then X else Y := by rw [h]; exact k
theorem bB {b : Bool} {X Y : Prop} (ht : b = true → X) (hf : b = false → Y) : bif b then X else Y := by cases b; exact hf rfl; exact ht rfl
theorem bE {a b : Int} {X Y : Prop} (ht : a = b → X) (hf : a ≠ b → Y) : bif a == b then X else Y := by
  by_cases h : a = b
  · exact bT (by simpa using h) (ht h)
  · exact bF (by simpa using h) (hf h)
theorem bNe {a b : Int} {X Y : Prop} (ht : a ≠ b → X) (hf : a = b → Y) : bif a != b then X else Y := by
  by_cases h : a = b
  · exact bF (by simpa using h) (hf h)
  · exact bT (by simpa using h) (ht h)

theorem i64w {n : Int} (h : -9223372036854775808 ≤ n) (h' : n ≤ 9223372036854775807) : IntKind.i64.wrap n = n := by rw [IntKind.wrap_i64]; omega
theorem u64w {n : Int} (h : 0 ≤ n) (h' : n ≤ 18446744073709551615) : IntKind.u64.wrap n = n := by simp only [IntKind.wrap, IntKind.bits, IntKind.signed]; simp; omega
theorem u8w (n : Int) : IntKind.u8.wrap n = n % 256 := IntKind.wrap_u8 n
theorem u32w (n : Int) : IntKind.u32.wrap n = n % 4294967296 := IntKind.wrap_u32 n

/-- A loop: an invariant, and what every round lowers. -/
theorem lpI {α : Type} {init : (α → Prop) → Prop} {w : World} {body : (Nat → AV) → (α → World → Prop) → α → World → Prop} (J : α → World → Prop) (μ : α → World → Nat)
    (h0 : init fun s => J s w) (h : ∀ D s w', J s w' → body D (fun s' w'' => J s' w'' ∧ μ s' w'' < μ s w') s w') : lp init w body := ⟨J, μ, h0, h⟩

theorem Fr.on {a b c : World} (h : Fr a b) (k : Below a.heap.size b c) : Fr a c := Below.trans h k
theorem Fr.alloc (w : World) (o : Obj) : Fr w (w.alloc o) := (Below.refl _ w).alloc (Nat.le_refl _) o
theorem Fr.drewN (w : World) (n : Nat) : Fr w (w.drewN n) := ⟨rfl, rfl, rfl, Nat.le_refl _, fun _ _ => rfl⟩

theorem own_kept {w w' : World} {base : Nat} {e : TypeId} {size : Nat} {v : Value} {n : Nat} {xs : List Value} (h : w.ownsRow base e size v n xs) (hf : Fr w w') : w'.ownsRow base e size v n xs := by
  refine ⟨h.1, ?_⟩
  rcases h.2 with hn | ⟨g, cap, cur, rfl, hb, hgg, rest⟩
  · exact .inl hn
  · exact .inr ⟨g, cap, cur, rfl, hb, (hf.block g (Array.getElem?_eq_some_iff.1 hgg).1).trans hgg, rest⟩

/-- A slice of the call's own that holds bytes. -/
def OwB (w : World) (base : Nat) (e : TypeId) (s : Sl) (l : List UInt8) : Prop := w.ownsRow base e 1 (.slice s.a s.n s.c) s.n (u8s l)
theorem OwB.len {w : World} {base : Nat} {e : TypeId} {s : Sl} {l : List UInt8} (h : OwB w base e s l) : s.n = l.length := by
  have := h.1; rw [u8s_length] at this; omega
theorem OwB.rd {w : World} {base : Nat} {e : TypeId} {s : Sl} {l : List UInt8} (h : OwB w base e s l) : Rd w s.a (u8s l) := Rd.of_own h
theorem OwB.fr {w w' : World} {base : Nat} {e : TypeId} {s : Sl} {l : List UInt8} (h : OwB w base e s l) (hf : Fr w w') : OwB w' base e s l := own_kept h hf
theorem OwB.nil (w : World) (base : Nat) (e : TypeId) : OwB w base e ⟨none, 0, 0⟩ [] := World.ownsRow_nil w base e 1
theorem OwB.cap {w : World} {base : Nat} {e : TypeId} {s : Sl} {l : List UInt8} (h : OwB w base e s l) : s.n ≤ s.c := by
  rcases h.2 with ⟨hv, hn⟩ | ⟨g, cap, cur, hv, _, _, hc, _⟩
  · injection hv with _ h1 h2; omega
  · injection hv with _ h1 h2; omega
theorem OwB.block {w : World} {base : Nat} {e : TypeId} {s : Sl} {l : List UInt8} (h : OwB w base e s l) : ∀ k, (Value.slice s.a s.n s.c).ownBlock = some k → base ≤ k ∧ k < w.heap.size := h.lt

/-- A slice that reads as bytes. -/
structure Bs (w : World) (s : Sl) (l : List UInt8) : Prop where
  rd : Rd w s.a (u8s l)
  len : s.n = l.length
  cap : s.n ≤ s.c
theorem Bs.fr {w w' : World} {s : Sl} {l : List UInt8} (h : Bs w s l) (hf : Fr w w') : Bs w' s l := ⟨h.rd.below hf, h.len, h.cap⟩
theorem OwB.bs {w : World} {base : Nat} {e : TypeId} {s : Sl} {l : List UInt8} (h : OwB w base e s l) : Bs w s l := ⟨h.rd, h.len, h.cap⟩

theorem sl_of_own {w : World} {base : Nat} {e : TypeId} {size : Nat} {v : Value} {n : Nat} {xs : List Value} (h : w.ownsRow base e size v n xs) : ∃ s : Sl, v = .slice s.a s.n s.c ∧ s.n = n := by
  rcases h.2 with ⟨rfl, rfl⟩ | ⟨g, cap, cur, rfl, _⟩
  · exact ⟨⟨none, 0, 0⟩, rfl, rfl⟩
  · exact ⟨⟨some ⟨g, 0, none⟩, n, cap⟩, rfl, rfl⟩

/-- append onto a row of the call's own. -/
theorem app_own {P : Program} {t ty e : TypeId} {size bytes : Nat} (hT : SlT P t e size bytes) {base : Nat} {s x : Sl} {w : World} {K : Sl → World → Prop} {xs news : List Value}
    (hown : w.ownsRow base e size (.slice s.a s.n s.c) s.n xs) (hr : Rd w x.a news) (hl : news.length = x.n * size) (h1 : ∀ u ∈ news, u.oneCell' = true)
    (hb : (s.n + x.n) * bytes ≤ 140737488355328) (h63 : s.n + x.n ≤ 140737488355328) (hbase : base ≤ w.heap.size)
    (h : ∀ (r : Sl) w', r.n = s.n + x.n → w'.ownsRow base e size (.slice r.a r.n r.c) r.n (xs ++ news) → w.grownBy w' (Value.slice s.a s.n s.c).ownBlock →
      ((Value.slice r.a r.n r.c).ownBlock = (Value.slice s.a s.n s.c).ownBlock ∨ (Value.slice r.a r.n r.c).ownBlock = some w.heap.size) → K r w') : app P t ty s x w K := by
  obtain ⟨v', w', hrun, h2, h3, h4⟩ := run_append_rd (P := P) (ty := ty) hT base hown (c := x.c) hr hl h1 hb h63 hbase
  obtain ⟨r, rfl, hn⟩ := sl_of_own h2
  exact ⟨r, w', hrun, h r w' hn (hn ▸ h2) h3 h4⟩

/-- append of bytes. -/
theorem app_B {P : Program} {t ty e : TypeId} (hT : SlT P t e 1 1) {base : Nat} {s x : Sl} {w : World} {K : Sl → World → Prop} {l m : List UInt8}
    (hs : OwB w base e s l) (hx : Rd w x.a (u8s m)) (hm : m.length = x.n) (hl : l.length + m.length ≤ 140737488355328) (hbase : base ≤ w.heap.size)
    (h : ∀ (r : Sl) w', OwB w' base e r (l ++ m) → Below base w w' → (∀ k, k < w.heap.size → (Value.slice s.a s.n s.c).ownBlock ≠ some k → w'.heap[k]? = w.heap[k]?) → 
      ((Value.slice r.a r.n r.c).ownBlock = (Value.slice s.a s.n s.c).ownBlock ∨ (Value.slice r.a r.n r.c).ownBlock = some w.heap.size) → K r w') : app P t ty s x w K := by
  have hn := hs.len
  refine app_own hT hs hx (by simp [u8s_length, hm]) (u8s_one m) (by omega) (by omega) hbase fun r w' hr ho hg hat => h r w' ?_ ?_ ?_ hat
  · unfold OwB; rw [u8s_append]; exact ho
  · exact (Below.refl base w).grown hg hbase fun k hk => (hs.block k hk).1
  · exact fun k hk hne => hg.block k hk fun e => hne e.symm

/-- make([]T, 0, n). -/
theorem mks0 {P : Program} {t e : TypeId} {size bytes : Nat} (hT : SlT P t e size bytes) (base : Nat) {C : Int} {w : World} {K : Sl → World → Prop} (n : Nat) (hC : C = (n : Int)) (hb : bytes * n ≤ 140737488355328) (h63 : n ≤ 140737488355328) (hbase : base ≤ w.heap.size)
    (h : ∀ w', w'.ownsRow base e size (.slice (some ⟨w.heap.size, 0, none⟩) 0 n) 0 [] → Fr w w' → K ⟨some ⟨w.heap.size, 0, none⟩, 0, n⟩ w') : mks P t 0 C w K := by
  obtain ⟨i, z, hi, hz, hsize, hby, hzs⟩ := hT.info
  subst hC
  obtain ⟨w', hrun, r1, r2⟩ := run_make_own (P := P) w base t e i z size hT.under hi hz hsize .i64 .i64 n (by rw [hby]; omega) (by simp only [maxLen]; omega) hbase
  exact ⟨⟨some ⟨w.heap.size, 0, none⟩, 0, n⟩, w', hrun, h w' r1 ((Below.refl _ w).grown r2 (Nat.le_refl _) (by simp))⟩

/-- A new block. -/
theorem nwI {w : World} {cs : List Value} {t : TypeId} {K : Addr → World → Prop}
    (h : ∀ b w', b = w.heap.size → w'.heap.size = w.heap.size + 1 → Fr w w' → w'.heap[b]? = some (.cells cs.toArray t (0, 0)) → Rd w' (some ⟨b, 0, none⟩) cs → K ⟨b, 0, none⟩ w') : nw w cs t K := by
  refine h w.heap.size _ rfl (by simp) (Fr.alloc _ _) (heap_alloc_new w _) ?_
  intro j u hu
  refine ⟨_, rfl, ?_⟩
  have hadd : (⟨w.heap.size, 0, none⟩ : Addr).add j = ⟨w.heap.size, j, none⟩ := by unfold Addr.add; split <;> simp_all
  rw [hadd, cell_of_row (w.alloc (.cells cs.toArray t)) w.heap.size j cs.toArray t (0, 0) (heap_alloc_new w _)]
  simpa using hu

theorem Rd.u8 {w : World} {A : Option Addr} {l : List UInt8} (h : Rd w A (u8s l)) {i : Nat} (hi : i < l.length) : ∃ ad, A = some ad ∧ w.cell? (ad.add i) = some (.int .u8 (l[i].toNat)) := by
  have := h.at i (by rw [u8s_length]; exact hi)
  simpa [u8s] using this
/-- A byte of a slice is read. -/
theorem ixB {w w' : World} {s : Sl} {l : List UInt8} {i : Int} {K : Int → Prop} (hs : Rd w s.a (u8s l)) (hl : s.n = l.length) (h0 : 0 ≤ i) (hi : i.toNat < l.length) (hw : Fr w w')
    (h : K (l[i.toNat].toNat)) : ixa s.a s.n i 1 fun a => ld (.I .u8) w' a K := by
  obtain ⟨ad, ha, hc⟩ := (hs.below hw).u8 hi
  refine ⟨h0, by omega, ?_⟩
  rw [ha]
  exact ⟨_, hc, h⟩
theorem ixB0 {w w' : World} {s : Sl} {b : UInt8} {t : List UInt8} {K : Int → Prop} (hs : Rd w s.a (u8s (b :: t))) (hl : s.n = (b :: t).length) (hw : Fr w w')
    (h : K (b.toNat)) : ixa s.a s.n 0 1 fun a => ld (.I .u8) w' a K := ixB hs hl (by decide) (by simp) hw h
theorem bstrI {w w' : World} {x : Sl} {l : List UInt8} {K : List UInt8 → Prop} (h : Rd w x.a (u8s l)) (hl : l.length = x.n) (hw : Fr w w') (hk : K l) : bstr w' x K := ⟨l, hl, h.below hw, hk⟩
theorem beqB_eq (a b : List UInt8) : beqB ⟨a.toArray⟩ ⟨b.toArray⟩ = decide (a = b) := by
  unfold beqB
  rw [ByteArray.toList_eq, ByteArray.toList_eq]
  simp [Bool.beq_eq_decide_eq]
/-- A law's call, as its row wants it. -/
theorem lawE {P : Program} {f : FuncId} {args : Array Value} {w : World} (h : cl P f args .B w fun r w' => r = true ∧ Fr w w') : Calls P f args w fun e w' => e = .returned (.bool true) ∧ Below w.heap.size w w' := by
  refine Calls.mono h ?_
  rintro e w' ⟨x, rfl, rfl, hf⟩
  exact ⟨rfl, hf⟩

/-- A part of a slice. -/
theorem Bs.cut {w : World} {s : Sl} {l : List UInt8} (h : Bs w s l) {i j : Nat} (hij : i ≤ j) (hj : j ≤ l.length) : Bs w (cut s i j 1) ((l.take j).drop i) := by
  have hl := h.len
  have hc := h.cap
  refine ⟨?_, by simp [Fl.cut, List.length_take]; omega, by simp [Fl.cut]; omega⟩
  have hr : Rd w s.a (u8s (l.take j)) := by
    have := h.rd.take j
    rwa [show (u8s l).take j = u8s (l.take j) from by simp [u8s, List.map_take]] at this
  have hd := hr.drop i
  rw [show (u8s (l.take j)).drop i = u8s ((l.take j).drop i) from by simp [u8s, List.map_drop]] at hd
  unfold Fl.cut
  by_cases hci : s.c = i
  · simp only [hci, if_true]
    have : (l.take j).drop i = [] := by rw [List.drop_eq_nil_iff, List.length_take]; omega
    rw [this]; exact Rd.nil _ _
  · rw [if_neg hci]
    rw [show (fun x => atOff x (i : Int) 1) = fun x : Addr => x.add i from rfl]
    exact hd
theorem slsB {w : World} {s : Sl} {l : List UInt8} {i j : Int} {K : Sl → Prop} (h : Bs w s l) (h0 : 0 ≤ i) (hij : i ≤ j) (hj : j ≤ l.length)
    (hk : ∀ r : Sl, Bs w r ((l.take j.toNat).drop i.toNat) → (∀ ad, r.a = some ad → ∃ ad', s.a = some ad' ∧ ad.block = ad'.block) → r.c ≤ s.c → K r) : sls s i j 1 K := by
  have hl := h.len
  have hc := h.cap
  refine ⟨h0, hij, by omega, hk _ (h.cut (by omega) (by omega)) (fun ad ha => ?_) (by simp [Fl.cut])⟩
  unfold Fl.cut at ha
  split at ha
  · exact ⟨ad, ha, rfl⟩
  · cases hs : s.a with
    | none => rw [hs] at ha; cases ha
    | some ad' =>
      rw [hs] at ha
      simp only [Option.map_some, Option.some.injEq] at ha
      refine ⟨ad', rfl, ?_⟩
      rw [← ha, atOff_eq, add_block]
theorem Bs.nil (w : World) (c : Nat) : Bs w ⟨none, 0, c⟩ [] := ⟨Rd.nil _ _, rfl, Nat.zero_le _⟩
theorem OwB.new {w : World} {base : Nat} {e : TypeId} {b : Nat} (h : w.heap[b]? = some (.cells #[] e (0, 0))) (hb : base ≤ b) : OwB w base e ⟨some ⟨b, 0, none⟩, 0, 0⟩ [] :=
  ⟨rfl, .inr ⟨b, 0, #[], rfl, hb, h, Nat.le_refl _, Nat.zero_le _, rfl, rfl⟩⟩
theorem OwB.mono {w : World} {base base' : Nat} {e : TypeId} {s : Sl} {l : List UInt8} (h : OwB w base e s l) (hb : base' ≤ base) : OwB w base' e s l := by
  refine ⟨h.1, ?_⟩
  rcases h.2 with hn | ⟨g, cap, cur, hv, hg, rest⟩
  · exact .inl hn
  · exact .inr ⟨g, cap, cur, hv, Nat.le_trans hb hg, rest⟩
/-- append to a new empty slice. -/
theorem copyB {P : Program} {t ty e : TypeId} (hT : SlT P t e 1 1) {x : Sl} {l : List UInt8} {w : World} {K : Sl → World → Prop} (hx : Bs w x l) (hl : l.length ≤ 140737488355328)
    (h : ∀ (r : Sl) w', OwB w' w.heap.size e r l → Fr w w' → K r w') : nw w [] e fun a w2 => app P t ty ⟨some a, 0, 0⟩ x w2 K := by
  refine nwI fun b w2 hb hsz hf hblk _ => ?_
  refine app_B hT (base := w.heap.size) (l := []) (OwB.new hblk (by omega)) (hx.fr hf).rd hx.len.symm (by simpa using hl) hf.size fun r w3 ho hb3 _ _ => h r w3 ?_ (hf.on hb3)
  simpa using ho

/-- A slice that reads as numbers. -/
structure Is (w : World) (s : Sl) (l : List Int) : Prop where
  rd : Rd w s.a (l.map (Value.int .i64))
  len : s.n = l.length
  cap : s.n ≤ s.c
theorem Is.fr {w w' : World} {s : Sl} {l : List Int} (h : Is w s l) (hf : Fr w w') : Is w' s l := ⟨h.rd.below hf, h.len, h.cap⟩
theorem ixI {w w' : World} {s : Sl} {l : List Int} {i : Int} {K : Int → Prop} (hs : Is w s l) (h0 : 0 ≤ i) (hi : i.toNat < l.length) (hw : Fr w w')
    (h : K l[i.toNat]) : ixa s.a s.n i 1 fun a => ld (.I .i64) w' a K := by
  have := (hs.rd.below hw).at i.toNat (by simpa using hi)
  obtain ⟨ad, ha, hc⟩ := this
  rw [List.getElem_map] at hc
  refine ⟨h0, by have := hs.len; omega, ?_⟩
  rw [ha]
  exact ⟨_, hc, h⟩
theorem wfI64 {n : Int} (h : (Lit.int .i64 n).wf = true) : -9223372036854775808 ≤ n ∧ n ≤ 9223372036854775807 := by
  simp only [Lit.wf, IntKind.min, IntKind.max, IntKind.signed, IntKind.bits, Bool.and_eq_true, decide_eq_true_eq, if_true] at h
  omega
/-- A slice of numbers that came in. -/
abbrev RowK (k : IntKind) (w : World) (a : Option Addr) (len cap : Nat) (zs : List Int) : Prop :=
  (a = none ∧ len = 0 ∧ cap = 0 ∧ zs = []) ∨
  ∃ x, a = some x ∧ len ≤ cap ∧ cap ≤ maxLen ∧ zs.length = cap ∧ (∀ i, i < zs.length → w.cell? (x.add i) = some (.int k (zs.getD i 0))) ∧ ∀ n ∈ zs, (Lit.int k n).wf = true
theorem rowRd {k : IntKind} {w : World} {a : Option Addr} {len cap : Nat} {zs : List Int} (h : RowK k w a len cap zs) :
    Rd w a ((zs.take len).map (Value.int k)) ∧ len = (zs.take len).length ∧ len ≤ cap ∧ ∀ n ∈ zs.take len, (Lit.int k n).wf = true := by
  rcases h with ⟨rfl, rfl, rfl, rfl⟩ | ⟨x, rfl, hc, hm, hl, hcell, hw⟩
  · exact ⟨Rd.nil _ _, rfl, Nat.le_refl _, by simp⟩
  · refine ⟨fun j u hu => ⟨x, rfl, ?_⟩, by simp [List.length_take]; omega, hc, fun n hn => hw n (List.mem_of_mem_take hn)⟩
    rw [List.getElem?_map, List.getElem?_take] at hu
    split at hu
    case isTrue hj =>
      rw [hcell j (by omega)]
      rw [List.getD_eq_getElem?_getD]
      cases hz : zs[j]? with
      | none => simp [hz] at hu
      | some z => simpa [hz] using hu
    case isFalse => simp at hu
theorem rowB {w : World} {a : Option Addr} {len cap : Nat} {zs : List Int} (h : RowK .u8 w a len cap zs) : ∃ l : List UInt8, Bs w ⟨a, len, cap⟩ l := by
  obtain ⟨h1, h2, h3, h4⟩ := rowRd h
  refine ⟨(zs.take len).map fun n => UInt8.ofNat n.toNat, ?_, by simpa using h2, h3⟩
  unfold u8s
  rw [List.map_map]
  rwa [List.map_congr_left (g := Value.int .u8)]
  intro n hn
  have := h4 n hn
  simp only [Lit.wf, IntKind.min, IntKind.max, IntKind.signed, IntKind.bits, Bool.and_eq_true] at this
  simp only [Function.comp, UInt8.toNat_ofNat']
  congr 1
  simp at this
  omega
theorem rowI {w : World} {a : Option Addr} {len cap : Nat} {zs : List Int} (h : RowK .i64 w a len cap zs) : ∃ l : List Int, Is w ⟨a, len, cap⟩ l ∧ ∀ n ∈ l, -9223372036854775808 ≤ n ∧ n ≤ 9223372036854775807 := by
  obtain ⟨h1, h2, h3, h4⟩ := rowRd h
  exact ⟨_, ⟨h1, h2, h3⟩, fun n hn => wfI64 (h4 n hn)⟩
end Go.Fl
namespace Go.Fl

def moreF : Nat → Nat → Nat
  | 0, _ => 0
  | f + 1, x => if x < 128 then 0 else moreF f (x / 128) + 1
/-- How many bytes follow a number's first one. -/
def moreN (x : Nat) : Nat := moreF 8 x
theorem moreF_le : ∀ f x, moreF f x ≤ f
  | 0, _ => Nat.le_refl _
  | f + 1, x => by unfold moreF; split; omega; have := moreF_le f (x / 128); omega
theorem moreN_le (x : Nat) : moreN x ≤ 8 := moreF_le 8 x
theorem moreF_of : ∀ {f k x : Nat}, k < f → x < 128 ^ (k + 1) → (∀ j, j < k → 128 ^ (j + 1) ≤ x) → moreF f x = k
  | f + 1, 0, x, _, h, _ => by unfold moreF; rw [if_pos (by simpa using h)]
  | f + 1, k + 1, x, hk, h, hl => by
    have h0 : 128 ≤ x := by simpa using hl 0 (by omega)
    unfold moreF
    rw [if_neg (by omega), moreF_of (k := k) (by omega) (by rw [Nat.div_lt_iff_lt_mul (by decide)]; simpa [Nat.pow_succ] using h)
      (fun j hj => by rw [Nat.le_div_iff_mul_le (by decide)]; have := hl (j + 1) (by omega); simpa [Nat.pow_succ] using this)]
theorem moreF_top : ∀ {f x : Nat}, (∀ j, j < f → 128 ^ (j + 1) ≤ x) → moreF f x = f
  | 0, _, _ => rfl
  | f + 1, x, hl => by
    have h0 : 128 ≤ x := by simpa using hl 0 (by omega)
    unfold moreF
    rw [if_neg (by omega), moreF_top (fun j hj => by rw [Nat.le_div_iff_mul_le (by decide)]; have := hl (j + 1) (by omega); simpa [Nat.pow_succ] using this)]
/-- Where it stops, and what stands ahead. -/
theorem moreF_spec : ∀ {f x : Nat}, (moreF f x < f → x < 128 ^ (moreF f x + 1)) ∧ ∀ j, j < moreF f x → 128 ^ (j + 1) ≤ x
  | 0, x => ⟨fun h => by simp [moreF] at h, fun j h => by simp [moreF] at h⟩
  | f + 1, x => by
    unfold moreF
    split
    · rename_i h; exact ⟨fun _ => by simpa using h, fun j hj => by omega⟩
    · rename_i h
      obtain ⟨h1, h2⟩ := moreF_spec (f := f) (x := x / 128)
      refine ⟨fun hlt => ?_, fun j hj => ?_⟩
      · have := h1 (by omega)
        rw [Nat.div_lt_iff_lt_mul (by decide)] at this
        rw [Nat.pow_succ]; exact this
      · cases j with
        | zero => simp; omega
        | succ j =>
          have := h2 j (by omega)
          rw [Nat.le_div_iff_mul_le (by decide)] at this
          rw [Nat.pow_succ]; exact this

/-- The k lowest bytes of a number, the highest one first. -/
def lowB (x : Nat) : Nat → List UInt8
  | 0 => []
  | k + 1 => UInt8.ofNat (x / 256 ^ k) :: lowB x k
theorem lowB_length (x : Nat) : ∀ k, (lowB x k).length = k
  | 0 => rfl
  | k + 1 => by simp [lowB, lowB_length x k]
/-- What stands in the first byte: as many ones as bytes follow, and what is left of the number. -/
def leadB (x k : Nat) : Nat := 256 - 2 ^ (8 - k) + if k < 8 then x / 256 ^ k else 0
def numB (x : Nat) : List UInt8 := UInt8.ofNat (leadB x (moreN x)) :: lowB x (moreN x)
theorem numB_length (x : Nat) : (numB x).length = moreN x + 1 := by simp [numB, lowB_length]

theorem lowB_succ (x k : Nat) : lowB x (k + 1) = UInt8.ofNat (x / 256 ^ k) :: lowB x k := rfl
/-- Laid from the highest one on: the first m of k. -/
theorem lowB_take {x : Nat} : ∀ {k m : Nat}, m < k → (lowB x k).take (m + 1) = (lowB x k).take m ++ [UInt8.ofNat (x / 256 ^ (k - 1 - m))]
  | k + 1, 0, _ => by simp [lowB]
  | k + 1, m + 1, h => by
    simp only [lowB, List.take_succ_cons, List.cons_append]
    rw [lowB_take (by omega), show k + 1 - 1 - (m + 1) = k - 1 - m from by omega]

theorem lead_small {x k : Nat} (hk : k < 8) (hx : x < 128 ^ (k + 1)) : x / 256 ^ k < 2 ^ (7 - k) := by
  rw [Nat.div_lt_iff_lt_mul (Nat.pow_pos (by decide))]
  refine Nat.lt_of_lt_of_le hx (Nat.le_of_eq ?_)
  match k, hk with
  | 0, _ => rfl
  | 1, _ => rfl
  | 2, _ => rfl
  | 3, _ => rfl
  | 4, _ => rfl
  | 5, _ => rfl
  | 6, _ => rfl
  | 7, _ => rfl
theorem ones_eq {k : Nat} (hk : k ≤ 8) : 255 * 2 ^ (8 - k) % 256 = 256 - 2 ^ (8 - k) := by
  match k, hk with
  | 0, _ => rfl
  | 1, _ => rfl
  | 2, _ => rfl
  | 3, _ => rfl
  | 4, _ => rfl
  | 5, _ => rfl
  | 6, _ => rfl
  | 7, _ => rfl
  | 8, _ => rfl
theorem leadB_lt {x k : Nat} (hx : k < 8 → x < 128 ^ (k + 1)) (hk : k ≤ 8) : leadB x k < 256 := by
  unfold leadB
  by_cases h : k < 8
  · rw [if_pos h]
    have := lead_small h (hx h)
    have h2 : 2 ^ (8 - k) = 2 * 2 ^ (7 - k) := by rw [show 8 - k = 7 - k + 1 from by omega, Nat.pow_succ, Nat.mul_comm]
    have h3 : 2 ^ (8 - k) ≤ 2 ^ 8 := Nat.pow_le_pow_right (by decide) (by omega)
    have h4 : 0 < 2 ^ (7 - k) := Nat.pow_pos (by decide)
    omega
  · rw [if_neg h]
    have : 0 < 2 ^ (8 - k) := Nat.pow_pos (by decide)
    omega
theorem or_lead {x k : Nat} (hk : k < 8) (hx : x < 128 ^ (k + 1)) : (255 * 2 ^ (8 - k) % 256) ||| (x / 256 ^ k) = leadB x k := by
  have hs := lead_small hk hx
  rw [ones_eq (by omega), leadB, if_pos hk]
  have h2 : 2 ^ (8 - k) = 2 * 2 ^ (7 - k) := by rw [show 8 - k = 7 - k + 1 from by omega, Nat.pow_succ, Nat.mul_comm]
  have hd : 256 - 2 ^ (8 - k) = 2 ^ (7 - k) * (2 ^ (k + 1) - 2) := by
    rw [Nat.mul_sub, ← Nat.pow_add, show 7 - k + (k + 1) = 8 from by omega]
    omega
  rw [hd, ← Nat.two_pow_add_eq_or_of_lt hs]

/-! ### Reading -/
/-- How many ones a byte begins with. -/
def ones (b : Nat) : Nat := if b < 128 then 0 else if b < 192 then 1 else if b < 224 then 2 else if b < 240 then 3 else if b < 248 then 4 else if b < 252 then 5 else if b < 254 then 6 else if b < 255 then 7 else 8
theorem ones_le (b : Nat) : ones b ≤ 8 := by unfold ones; (repeat' split) <;> omega
theorem ones_of {b k : Nat} (hk : k < 8) (h1 : 256 - 2 ^ (8 - k) ≤ b) (h2 : b < 256 - 2 ^ (7 - k)) : ones b = k := by
  match k, hk with
  | 0, _ | 1, _ | 2, _ | 3, _ | 4, _ | 5, _ | 6, _ | 7, _ => simp at h1 h2; unfold ones; (repeat' split) <;> omega
theorem ones_spec {b : Nat} (hb : b < 256) : 256 - 2 ^ (8 - ones b) ≤ b ∧ (ones b < 8 → b < 256 - 2 ^ (7 - ones b)) := by
  unfold ones
  (repeat' split) <;> simp <;> omega

/-- Digits to the base 256 behind a first one. -/
def beN (a : Nat) (l : List UInt8) : Nat := l.foldl (fun x c => x * 256 + c.toNat) a
theorem beN_cons (a : Nat) (c : UInt8) (l : List UInt8) : beN a (c :: l) = beN (a * 256 + c.toNat) l := rfl
theorem beN_append (a : Nat) (l m : List UInt8) : beN a (l ++ m) = beN (beN a l) m := by simp [beN]
theorem beN_lt {a B : Nat} : ∀ {l : List UInt8}, a < B → beN a l < B * 256 ^ l.length
  | [], h => by simpa [beN] using h
  | c :: l, h => by
    rw [beN_cons]
    have hc := c.toNat_lt
    have := beN_lt (a := a * 256 + c.toNat) (B := B * 256) (l := l) (by omega)
    rwa [Nat.mul_assoc, ← Nat.pow_succ'] at this
theorem beN_ge (a : Nat) : ∀ l : List UInt8, a ≤ beN a l
  | [] => Nat.le_refl _
  | c :: l => by rw [beN_cons]; have := beN_ge (a * 256 + c.toNat) l; omega
/-- The digits of a number, put together again. -/
theorem beN_low (x : Nat) : ∀ k, beN (x / 256 ^ k) (lowB x k) = x
  | 0 => by simp [lowB, beN]
  | k + 1 => by
    rw [lowB_succ, beN_cons]
    have : x / 256 ^ (k + 1) * 256 + (UInt8.ofNat (x / 256 ^ k)).toNat = x / 256 ^ k := by
      rw [Nat.pow_succ, ← Nat.div_div_eq_div_mul]
      simp
      omega
    rw [this, beN_low x k]
theorem low_beN : ∀ {k : Nat} {a : Nat} {l : List UInt8}, l.length = k → lowB (beN a l) k = l ∧ beN a l / 256 ^ k = a
  | 0, a, l, h => by
    have : l = [] := List.eq_nil_of_length_eq_zero h
    subst this; simp [lowB, beN]
  | k + 1, a, c :: l, h => by
    obtain ⟨h1, h2⟩ := low_beN (k := k) (a := a * 256 + c.toNat) (l := l) (by simpa using h)
    have hc := c.toNat_lt
    rw [beN_cons, lowB_succ, h2, h1]
    refine ⟨?_, ?_⟩
    · congr 1
      apply UInt8.toNat_inj.1
      simp
    · rw [Nat.pow_succ, ← Nat.div_div_eq_div_mul, h2]; omega

/-- The number with which bytes begin, how many it has, and the error. -/
def lookS : List UInt8 → Nat × Nat × Nat
  | [] => (0, 0, 2)
  | b :: t =>
    if t.length < ones b.toNat then (0, 0, 2) else
    let x := beN (if ones b.toNat < 8 then b.toNat % 2 ^ (7 - ones b.toNat) else 0) (t.take (ones b.toNat))
    if x > 9223372036854775807 then (0, 0, 5) else if moreN x ≠ ones b.toNat then (0, 0, 20) else (x, ones b.toNat + 1, 0)

theorem lookS_cons (b : UInt8) (t : List UInt8) : lookS (b :: t) = if t.length < ones b.toNat then (0, 0, 2) else
    if beN (if ones b.toNat < 8 then b.toNat % 2 ^ (7 - ones b.toNat) else 0) (t.take (ones b.toNat)) > 9223372036854775807 then (0, 0, 5) else
    if moreN (beN (if ones b.toNat < 8 then b.toNat % 2 ^ (7 - ones b.toNat) else 0) (t.take (ones b.toNat))) ≠ ones b.toNat then (0, 0, 20) else (beN (if ones b.toNat < 8 then b.toNat % 2 ^ (7 - ones b.toNat) else 0) (t.take (ones b.toNat)), ones b.toNat + 1, 0) := rfl

theorem ones_lead {x : Nat} : ones (leadB x (moreN x)) = moreN x := by
  have hsp := (moreF_spec (f := 8) (x := x)).1
  change moreN x < 8 → x < 128 ^ (moreN x + 1) at hsp
  have hk8 := moreN_le x
  by_cases h : moreN x < 8
  · have hs := lead_small h (hsp h)
    have h2 : 2 ^ (8 - moreN x) = 2 * 2 ^ (7 - moreN x) := by rw [show 8 - moreN x = 7 - moreN x + 1 from by omega, Nat.pow_succ, Nat.mul_comm]
    have h3 : 2 ^ (8 - moreN x) ≤ 2 ^ 8 := Nat.pow_le_pow_right (by decide) (by omega)
    generalize hq : x / 256 ^ moreN x = q at hs
    refine ones_of h ?_ ?_ <;> unfold leadB <;> rw [if_pos h, hq] <;> omega
  · have : moreN x = 8 := by omega
    rw [this]; rfl

/-- What was put is read, whatever stands behind. -/
theorem look_num {x : Nat} (hx : x ≤ 9223372036854775807) (rest : List UInt8) : lookS (numB x ++ rest) = (x, moreN x + 1, 0) := by
  have hsp := (moreF_spec (f := 8) (x := x)).1
  change moreN x < 8 → x < 128 ^ (moreN x + 1) at hsp
  have hk8 := moreN_le x
  have hlt := leadB_lt hsp hk8
  have hb : (UInt8.ofNat (leadB x (moreN x))).toNat = leadB x (moreN x) := by simp; omega
  have hx' : beN (if moreN x < 8 then leadB x (moreN x) % 2 ^ (7 - moreN x) else 0) (lowB x (moreN x)) = x := by
    have : (if moreN x < 8 then leadB x (moreN x) % 2 ^ (7 - moreN x) else 0) = x / 256 ^ moreN x := by
      split
      · rename_i h
        have hs := lead_small h (hsp h)
        unfold leadB
        rw [if_pos h]
        have h2 : 2 ^ (8 - moreN x) = 2 * 2 ^ (7 - moreN x) := by rw [show 8 - moreN x = 7 - moreN x + 1 from by omega, Nat.pow_succ, Nat.mul_comm]
        have hd : 256 - 2 ^ (8 - moreN x) = 2 ^ (7 - moreN x) * (2 ^ (moreN x + 1) - 2) := by
          rw [Nat.mul_sub, ← Nat.pow_add, show 7 - moreN x + (moreN x + 1) = 8 from by omega]
          omega
        rw [hd, Nat.mul_add_mod]
        exact Nat.mod_eq_of_lt hs
      · rename_i h
        have : moreN x = 8 := by omega
        rw [this]
        exact (Nat.div_eq_of_lt (by omega)).symm
    rw [this, beN_low]
  rw [numB, List.cons_append, lookS, hb, ones_lead, if_neg (by simp [lowB_length]), List.take_append_of_le_length (by simp [lowB_length]), List.take_of_length_le (by simp [lowB_length])]
  simp only [hx']
  rw [if_neg (by omega), if_neg (by simp)]

theorem lead_mod {b k : Nat} (hk : k < 8) (h1 : 256 - 2 ^ (8 - k) ≤ b) (h2 : b < 256 - 2 ^ (7 - k)) : b % 2 ^ (7 - k) = b - (256 - 2 ^ (8 - k)) := by
  have e2 : 2 ^ (8 - k) = 2 * 2 ^ (7 - k) := by rw [show 8 - k = 7 - k + 1 from by omega, Nat.pow_succ, Nat.mul_comm]
  have e3 : 2 ^ (8 - k) ≤ 2 ^ 8 := Nat.pow_le_pow_right (by decide) (by omega)
  have hd : 256 - 2 ^ (8 - k) = 2 ^ (7 - k) * (2 ^ (k + 1) - 2) := by
    rw [Nat.mul_sub, ← Nat.pow_add, show 7 - k + (k + 1) = 8 from by omega]
    omega
  obtain ⟨r, rfl⟩ : ∃ r, b = (256 - 2 ^ (8 - k)) + r := ⟨b - (256 - 2 ^ (8 - k)), by omega⟩
  conv => lhs; rw [hd, Nat.mul_add_mod]
  rw [Nat.add_sub_cancel_left]
  exact Nat.mod_eq_of_lt (by omega)

/-- What is read, put again, is the bytes that were read. -/
theorem look_back {l : List UInt8} {n k : Nat} (h : lookS l = (n, k, 0)) : k = moreN n + 1 ∧ k ≤ l.length ∧ l.take k = numB n ∧ n ≤ 9223372036854775807 := by
  cases l with
  | nil => simp [lookS] at h
  | cons b t =>
    rw [lookS_cons] at h
    split at h
    · simp at h
    · rename_i hlen
      generalize hX : beN (if ones b.toNat < 8 then b.toNat % 2 ^ (7 - ones b.toNat) else 0) (t.take (ones b.toNat)) = X at h
      split at h
      · simp at h
      · rename_i hbig
        split at h
        · simp at h
        · rename_i hmore
          simp only [Prod.mk.injEq] at h
          obtain ⟨rfl, rfl, _⟩ := h
          have hmore : moreN X = ones b.toNat := Decidable.not_not.1 hmore
          have hb := b.toNat_lt
          have hsp := ones_spec (b := b.toNat) hb
          have ho8 := ones_le b.toNat
          obtain ⟨h1, h2⟩ := low_beN (k := ones b.toNat) (a := if ones b.toNat < 8 then b.toNat % 2 ^ (7 - ones b.toNat) else 0) (l := t.take (ones b.toNat)) (by rw [List.length_take]; omega)
          rw [hX] at h1 h2
          refine ⟨by omega, by simp; omega, ?_, by omega⟩
          rw [List.take_succ_cons, numB, hmore, h1]
          congr 1
          apply UInt8.toNat_inj.1
          have hl : leadB X (ones b.toNat) = b.toNat := by
            unfold leadB
            split
            · rename_i h
              rw [h2, if_pos h]
              obtain ⟨g1, g2⟩ := hsp
              have g2 := g2 h
              have e2 : 2 ^ (8 - ones b.toNat) = 2 * 2 ^ (7 - ones b.toNat) := by rw [show 8 - ones b.toNat = 7 - ones b.toNat + 1 from by omega, Nat.pow_succ, Nat.mul_comm]
              have e3 : 2 ^ (8 - ones b.toNat) ≤ 2 ^ 8 := Nat.pow_le_pow_right (by decide) (by omega)
              have hd : 256 - 2 ^ (8 - ones b.toNat) = 2 ^ (7 - ones b.toNat) * (2 ^ (ones b.toNat + 1) - 2) := by
                rw [Nat.mul_sub, ← Nat.pow_add, show 7 - ones b.toNat + (ones b.toNat + 1) = 8 from by omega]
                omega
              have e5 := lead_mod h g1 g2
              omega
            · rename_i h
              have h8 : ones b.toNat = 8 := by omega
              rw [h8] at hsp ⊢
              simp at hsp ⊢
              omega
          rw [hl]
          simp
/-- Numbers, one behind the other. -/
def numsB (ns : List Int) : List UInt8 := ns.flatMap fun n => numB n.toNat
theorem numsB_nil : numsB [] = [] := rfl
theorem numsB_cons (n : Int) (ns : List Int) : numsB (n :: ns) = numB n.toNat ++ numsB ns := by simp [numsB]
theorem numsB_append (a b : List Int) : numsB (a ++ b) = numsB a ++ numsB b := by simp [numsB]
theorem numB_le (x : Nat) : (numB x).length ≤ 9 := by rw [numB_length]; have := moreN_le x; omega
theorem numsB_le : ∀ ns : List Int, (numsB ns).length ≤ 9 * ns.length
  | [] => by simp [numsB]
  | n :: ns => by
    rw [numsB_cons, List.length_append, List.length_cons]
    have := numsB_le ns
    have := numB_le n.toNat
    omega
theorem numsB_take {ns : List Int} {k : Nat} (hk : k < ns.length) : numsB (ns.take (k + 1)) = numsB (ns.take k) ++ numB (ns[k]).toNat := by
  rw [List.take_succ_eq_append_getElem hk, numsB_append]
  simp [numsB]
theorem ones_y {b : Nat} (hb : b < 256) : (if ones b < 8 then b % 2 ^ (7 - ones b) else 0) = b - (256 - 2 ^ (8 - ones b)) := by
  obtain ⟨h1, h2⟩ := ones_spec hb
  split
  · rename_i h; exact lead_mod h h1 (h2 h)
  · rename_i h
    have := ones_le b
    have h8 : ones b = 8 := by omega
    rw [h8] at h1 ⊢
    simp at h1 ⊢
    omega
/-- The bytes of a number just if it has as many as its first byte tells. -/
theorem num_iff {b : UInt8} {t : List UInt8} {X : Nat} (hX : X = beN (b.toNat - (256 - 2 ^ (8 - ones b.toNat))) (t.take (ones b.toNat))) (hl : ones b.toNat ≤ t.length) (h63 : X ≤ 9223372036854775807) :
    numB X = b :: t.take (ones b.toNat) ↔ moreN X = ones b.toNat := by
  constructor
  · intro h
    have := congrArg List.length h
    rw [numB_length, List.length_cons, List.length_take, Nat.min_eq_left hl] at this
    omega
  · intro h
    have hk : lookS (b :: t) = (X, ones b.toNat + 1, 0) := by
      rw [lookS_cons, ones_y b.toNat_lt, ← hX, if_neg (by omega), if_neg (by omega), if_neg (by omega)]
    obtain ⟨_, _, ht, _⟩ := look_back hk
    rw [← ht, List.take_succ_cons]
theorem beN_far {a : Nat} {l : List UInt8} {k : Nat} (h : a ≥ 36028797018963968) (hk : k < l.length) : beN a (l.drop k) > 9223372036854775807 := by
  have hl : (l.drop k).length = l.length - k := List.length_drop
  cases hd : l.drop k with
  | nil => rw [hd] at hl; simp at hl; omega
  | cons c m =>
    rw [beN_cons]
    have := beN_ge (a * 256 + c.toNat) m
    omega
end Go.Fl
namespace Go.Proofs.YtkaombhkepopgaaDoor
open Go.RowKit Go.Fl
theorem slB : SlT Tryd.prog t_s_uint8 t_uint8 1 1 := SlT.mk' (z := .int .u8 0) (by kernel_rfl) (by kernel_rfl) rfl (by decide)

theorem pow7 (k : Nat) : (2 : Nat) ^ (7 * k) = 128 ^ k := by rw [Nat.pow_mul]
theorem pow7i (k : Nat) : (2 : Int) ^ (7 * k) = ((128 ^ k : Nat) : Int) := by rw [← pow7]; simp
theorem octet_more_ok {x : Int} {w : World} (h0 : 0 ≤ x) (h1 : x ≤ 18446744073709551615) : cl Tryd.prog n_octet_more #[.int .u64 x] (.I .i64) w fun r w' => r = moreN x.toNat ∧ w = w' := by
  refine octet_more.cl ?_
  unfold octet_more
  refine lpI (fun s w' => w = w' ∧ ∃ k : Nat, k ≤ 8 ∧ s.1 = k ∧ ∀ j, j < k → 128 ^ (j + 1) ≤ x.toNat) (fun s _ => (8 - s.1).toNat) ⟨rfl, 0, by omega, rfl, fun j h => by omega⟩ ?_
  rintro _ ⟨s, ⟨⟩⟩ w' ⟨rfl, k, hk, rfl, hn⟩
  dsimp only
  rw [i64w (n := (k : Int) + 1) (by omega) (by omega), i64w (n := 7 * ((k : Int) + 1)) (by omega) (by omega)]
  have e : min (7 * ((k : Int) + 1)).toNat 64 = 7 * (k + 1) ∨ k = 8 := by omega
  refine bD (fun h8 => bP (by omega) ?_) (fun h8 => ⟨?_, rfl⟩)
  · rw [e.resolve_right (by omega), Int.one_mul, pow7i]
    have hp : (128 : Nat) ^ (k + 1) ≤ 72057594037927936 := Nat.pow_le_pow_right (n := 128) (i := k + 1) (j := 8) (by decide) (by omega)
    have hM := moreF_of (f := 8) (k := k) (x := x.toNat) (by omega)
    obtain ⟨B, hB⟩ : ∃ B, (128 : Nat) ^ (k + 1) = B := ⟨_, rfl⟩
    rw [hB] at hp hM ⊢
    rw [u64w (by omega) (by omega)]
    refine bD (fun hx => ⟨?_, rfl⟩) (fun hx => ⟨⟨rfl, k + 1, by omega, rfl, fun j hj => ?_⟩, by omega⟩)
    · rw [moreN, hM (by omega) hn]
    · by_cases hjk : j = k
      · subst hjk; rw [hB]; omega
      · exact hn j (by omega)
  · obtain rfl : k = 8 := by omega
    rw [moreN, moreF_top hn]; rfl

theorem u8_ofNat (n : Nat) : (((UInt8.ofNat n).toNat : Nat) : Int) = (n : Int) % 256 := by simp
theorem pow256i (k : Nat) : (2 : Int) ^ (8 * k) = ((256 ^ k : Nat) : Int) := by
  have : (2 : Nat) ^ (8 * k) = 256 ^ k := by rw [Nat.pow_mul]
  rw [← this]; simp
theorem u8s_single (x : UInt8) : u8s [x] = [.int .u8 x.toNat] := rfl

theorem octet_Number_ok {s : Sl} {n : Int} {l : List UInt8} {w : World} (hs : Bs w s l) (hl : l.length ≤ 1099511627776) (hn : n ≤ 9223372036854775807) :
    cl Tryd.prog n_octet_Number #[.slice s.a s.n s.c, .int .i64 n] .L w fun (r : Sl) w' => OwB w' w.heap.size t_uint8 r (l ++ numB n.toNat) ∧ Fr w w' := by
  refine octet_Number.cl ?_
  unfold octet_Number
  have hx : max n 0 = (n.toNat : Int) := by omega
  rw [hx, u64w (by omega) (by omega)]
  generalize hxx : n.toNat = x
  refine (octet_more_ok (by omega) (by omega)).mono ?_
  rintro k w' ⟨rfl, rfl⟩
  rw [Int.toNat_natCast]
  have hk8 := moreN_le x
  have hsp := (moreF_spec (f := 8) (x := x)).1
  change moreN x < 8 → x < 128 ^ (moreN x + 1) at hsp
  have hnum : numB x = UInt8.ofNat (leadB x (moreN x)) :: lowB x (moreN x) := rfl
  generalize moreN x = k at hk8 hsp hnum
  rw [i64w (n := 8 - (k : Int)) (by omega) (by omega)]
  refine bP (by omega) ?_
  intro j1
  have hln := hs.len
  have hj : ∀ (y : Int) (w' : World), y = ((UInt8.ofNat (leadB x k)).toNat : Int) → w = w' → j1 y w' := by
    rintro y w' rfl rfl
    show mks _ _ _ _ _ _
    rw [i64w (by omega) (by omega)]
    refine mks0 slB w.heap.size (s.n + 9) (by omega) (by omega) (by omega) (Nat.le_refl _) fun w1 ho1 hf1 => ?_
    refine app_B slB (base := w.heap.size) (l := []) (m := l) ho1 (hs.fr hf1).rd hs.len.symm (by simp; omega) hf1.size fun r w2 ho2 hb2 _ _ => ?_
    have hf2 : Fr w w2 := hf1.on hb2
    refine nwI fun b w3 hb hsz hf3 hblk hrd => ?_
    refine app_B slB (base := w.heap.size) (m := [UInt8.ofNat (leadB x k)]) (ho2.fr hf3) hrd rfl (by simp; omega) (by have := hf2.size; have := hf3.size; omega) fun r w4 ho4 hb4 _ _ => ?_
    have hf4 : Below w.heap.size w w4 := (hf2.trans hf3).on hb4
    rw [i64w (n := (k : Int) - 1) (by omega) (by omega)]
    refine lpI (fun s w'' => ∃ m : Nat, m ≤ k ∧ s.2.1 = (k : Int) - 1 - m ∧ OwB w'' w.heap.size t_uint8 s.1 (l ++ (UInt8.ofNat (leadB x k) :: (lowB x k).take m)) ∧ Fr w w'') (fun s _ => (s.2.1 + 1).toNat)
      ⟨0, by omega, by simp, by simpa using ho4, hf4⟩ ?_
    rintro _ ⟨s', i, ⟨⟩⟩ w5 ⟨m, hm, hi, ho5, hf5⟩
    simp only at hi ho5
    subst hi
    dsimp only
    refine bD (fun h0 => bP ?_ ?_) (fun h0 => ⟨?_, hf5⟩)
    · rw [i64w (by omega) (by omega)]; omega
    · rw [i64w (n := 8 * _) (by omega) (by omega), i64w (by omega) (by omega)]
      have e : min (8 * ((k : Int) - 1 - m)).toNat 64 = 8 * (k - 1 - m) := by omega
      rw [e, pow256i, u8w]
      have hcell : (x : Int) / ((256 ^ (k - 1 - m) : Nat) : Int) % 256 = ((UInt8.ofNat (x / 256 ^ (k - 1 - m))).toNat : Int) := by rw [u8_ofNat]; simp
      rw [hcell]
      refine nwI fun b w6 hb hsz hf6 hblk hrd => ?_
      refine app_B slB (base := w.heap.size) (m := [UInt8.ofNat (x / 256 ^ (k - 1 - m))]) (ho5.fr hf6) hrd rfl ?_ (by have := hf5.size; have := hf6.size; omega) fun r w7 ho7 hb7 _ _ => ?_
      · simp [lowB_length]; omega
      · refine ⟨⟨m + 1, by omega, by simp; omega, ?_, (hf5.trans hf6).on hb7⟩, by simp; omega⟩
        rw [lowB_take (by omega)]
        simpa using ho7
    · obtain rfl : m = k := by omega
      rw [hnum]
      rwa [List.take_of_length_le (by rw [lowB_length]; exact Nat.le_refl _)] at ho5
  refine bD ?_ ?_ <;> intro h8
  · rw [i64w (n := 8 * (k : Int)) (by omega) (by omega)]
    refine bP (by omega) ?_
    refine hj _ _ ?_ rfl
    rw [show min (8 * (k : Int)).toNat 64 = 8 * k from by omega, pow256i, u8w, u8w, show min (8 - (k : Int)).toNat 8 = 8 - k from by omega]
    have ho := or_lead (x := x) (k := k) (by omega) (hsp (by omega))
    have hlt := lead_small (x := x) (k := k) (by omega) (hsp (by omega))
    have h7 : (2 : Nat) ^ (7 - k) ≤ 2 ^ 7 := Nat.pow_le_pow_right (by decide) (by omega)
    have e1 : (255 : Int) * 2 ^ (8 - k) % 256 = ((255 * 2 ^ (8 - k) % 256 : Nat) : Int) := by simp
    have e2 : (x : Int) / ((256 ^ k : Nat) : Int) % 256 = ((x / 256 ^ k : Nat) : Int) := by
      rw [← Int.natCast_ediv]
      generalize x / 256 ^ k = q at hlt
      omega
    rw [e1, e2, u8_or_nat _ _ (by omega) (by generalize x / 256 ^ k = q at hlt; omega), ho, u8_ofNat]
    have := leadB_lt hsp hk8
    omega
  · obtain rfl : k = 8 := by omega
    refine hj _ _ ?_ rfl
    simp [leadB, u8w]

theorem Lz8_ok {x : Int} {w : World} (h0 : 0 ≤ x) (h1 : x < 256) : cl Tryd.prog n_math_bits_LeadingZeros8 #[.int .u8 x] (.I .i64) w fun (r : Int) w' => r = ones (255 - x.toNat) ∧ w = w' := by
  refine math_bits_LeadingZeros8.cl ?_
  unfold math_bits_LeadingZeros8
  obtain ⟨n, rfl⟩ : ∃ n : Nat, x = n := ⟨x.toNat, by omega⟩
  refine cl.mono (K := fun (r : Int) w' => r = (8 : Int) - (ones (255 - n) : Int) ∧ w = w') (math_bits_Len8.cl ?_) ?_
  · unfold math_bits_Len8
    refine ⟨h0, (by refine Eq.mp ?_ h1; kernel_rfl), ?_, rfl⟩
    have h1' : n < 256 := by omega
    rw [Int.toNat_natCast]
    clear h0 h1
    revert n
    decide +kernel
  · rintro r w' ⟨rfl, rfl⟩
    have := ones_le (255 - n)
    rw [i64w (by omega) (by omega)]
    exact ⟨by simp; omega, rfl⟩

theorem xor255 {x : Nat} (h : x < 256) : bits .xor .u8 255 (x : Int) = ((255 - x : Nat) : Int) := by
  have := u8_xor_nat 255 x (by decide) h
  rw [show ((255 : Nat) : Int) = 255 from rfl] at this
  rw [this]
  congr 1
  revert x
  decide +kernel

/-- look. -/
theorem octet_look_ok {s : Sl} {l : List UInt8} {w : World} (hs : Bs w s l) (hl : l.length ≤ 140737488351232) :
    cl Tryd.prog n_octet_look #[.slice s.a s.n s.c] (.tup (.pair (.I .i64) (.pair (.I .i64) (.pair (.I .i64) .nil)))) w
      fun (r : Int × Int × Int × Unit) w' => r = (((lookS l).1 : Int), ((lookS l).2.1 : Int), ((lookS l).2.2 : Int), ()) ∧ w = w' := by
  refine octet_look.cl ?_
  unfold octet_look
  have hn := hs.len
  cases l with
  | nil => exact bT (by simp [hn]) ⟨rfl, rfl⟩
  | cons b t =>
    refine bF (by simp [hn]; omega) ?_
    have hb := b.toNat_lt
    have ho := ones_le b.toNat
    refine ixB0 hs.rd hs.len (Fr.refl w) ?_
    rw [xor255 (by omega)]
    refine (Lz8_ok (by omega) (by omega)).mono ?_
    rintro k w' ⟨rfl, rfl⟩
    rw [Int.toNat_natCast, show 255 - (255 - b.toNat) = b.toNat from by omega]
    generalize hk : ones b.toNat = k at ho
    rw [lookS_cons, hk]
    refine bD ?_ ?_ <;> intro hlen
    · rw [if_pos (by simp [hn] at hlen; omega)]; exact ⟨rfl, rfl⟩
    · have hlen' : k ≤ t.length := by simp [hn] at hlen; omega
      rw [if_neg (by omega)]
      refine ixB0 hs.rd hs.len (Fr.refl w) ?_
      intro j1
      have hj : ∀ (y : Nat) (w' : World), (y < 2 ^ (7 - k) ∧ k < 8 ∨ y = 0) → y = (if k < 8 then b.toNat % 2 ^ (7 - k) else 0) → w = w' → j1 y w' := by
        rintro y w' hy hyk rfl
        show sls _ _ _ _ _
        rw [i64w (n := (k : Int) + 1) (by omega) (by omega)]
        refine slsB hs (by decide) (by omega) (by simp; omega) fun r hr _ _ => ?_
        simp only [Int.toNat_one, show ((k : Int) + 1).toNat = k + 1 from by omega, List.take_succ_cons, List.drop_succ_cons, List.drop_zero] at hr
        have hrl := hr.len
        rw [List.length_take, Nat.min_eq_left hlen'] at hrl
        have hBk : beN y (t.take k) < 18446744073709551616 := by
          rcases hy with ⟨hy, hk8⟩ | rfl
          · have h1 := beN_lt (l := t.take k) hy
            rw [List.length_take, Nat.min_eq_left hlen'] at h1
            refine Nat.lt_of_lt_of_le h1 ?_
            match k, hk8 with
            | 0, _ | 1, _ | 2, _ | 3, _ | 4, _ | 5, _ | 6, _ | 7, _ => decide
          · have h1 := beN_lt (a := 0) (B := 1) (l := t.take k) (by decide)
            rw [List.length_take, Nat.min_eq_left hlen', Nat.one_mul] at h1
            refine Nat.lt_of_lt_of_le h1 ?_
            exact Nat.pow_le_pow_right (n := 256) (i := k) (j := 8) (by decide) ho
        refine lpI (fun s w' => w = w' ∧ ∃ i : Nat, i ≤ k ∧ s.2.1 = i ∧ s.1 = (beN y (t.take i) : Nat)) (fun s _ => (k - s.2.1).toNat) ⟨rfl, 0, by omega, rfl, by simp [beN]⟩ ?_
        rintro _ ⟨z, i, ⟨⟩⟩ w' ⟨rfl, i, hik, rfl, rfl⟩
        dsimp only
        refine bD ?_ ?_ <;> intro hi
        · have hik' : i < k := by omega
          refine ixB hr.rd hr.len (by omega) (by simp [List.length_take]; omega) (Fr.refl w) ?_
          have hlt' : beN y (t.take (i + 1)) ≤ beN y (t.take k) := by
            have hsp := List.take_append_drop (i + 1) (t.take k)
            rw [List.take_take, Nat.min_eq_left (by omega)] at hsp
            rw [← hsp, beN_append]
            exact beN_ge _ _
          have hst : t.take (i + 1) = t.take i ++ [t[i]] := by rw [List.take_succ_eq_append_getElem (by omega)]
          have hstep : beN y (t.take (i + 1)) = beN y (t.take i) * 256 + t[i].toNat := by rw [hst, beN_append]; rfl
          have hc := t[i].toNat_lt
          simp only [Int.toNat_natCast, List.getElem_take]
          rw [show min 8 64 = 8 from rfl, u64w (n := _ * 2 ^ 8) (by omega) (by omega), u64w (n := ((t[i].toNat : Nat) : Int)) (by omega) (by omega)]
          have e1 : ((beN y (t.take i) : Nat) : Int) * 2 ^ 8 = ((beN y (t.take i) * 256 : Nat) : Int) := by simp
          rw [e1, u64_or_nat _ _ (by omega) (by omega), i64w (by omega) (by omega)]
          refine ⟨⟨trivial, i + 1, by omega, rfl, ?_⟩, by omega⟩

          rw [hstep]
          congr 1
          rw [show beN y (t.take i) * 256 = 2 ^ 8 * beN y (t.take i) from by omega, ← Nat.two_pow_add_eq_or_of_lt (by omega)]
        · obtain rfl : i = k := by omega
          simp only [← hyk]
          generalize beN y (t.take i) = X at hBk
          refine bD ?_ ?_ <;> intro hX
          · rw [if_pos (by omega)]; exact ⟨rfl, trivial⟩
          · rw [if_neg (by omega)]
            refine (octet_more_ok (by omega) (by omega)).mono ?_
            rintro m w' ⟨rfl, rfl⟩
            rw [Int.toNat_natCast]
            refine bNe ?_ ?_ <;> intro hm
            · rw [if_pos (by omega)]; exact ⟨rfl, rfl⟩
            · rw [if_neg (by omega), i64w (by omega) (by omega)]; exact ⟨by simp, rfl⟩
      refine bD ?_ ?_ <;> intro h8
      · refine bP (by omega) ?_
        have h7 : (2 : Nat) ^ (7 - k) ≤ 2 ^ 7 := Nat.pow_le_pow_right (by decide) (by omega)
        have hm : b.toNat % 2 ^ (7 - k) < 2 ^ (7 - k) := Nat.mod_lt _ (Nat.pow_pos (by decide))
        have e : bits .and .u64 (IntKind.u64.wrap (b.toNat : Int)) (127 / 2 ^ min ((k : Int)).toNat 64) = ((b.toNat % 2 ^ (7 - k) : Nat) : Int) := by
          rw [u64w (by omega) (by omega), show min ((k : Int)).toNat 64 = k from by omega]
          have e2 : (127 : Int) / 2 ^ k = ((2 ^ (7 - k) - 1 : Nat) : Int) := by
            match k, (show k < 8 by omega) with
            | 0, _ | 1, _ | 2, _ | 3, _ | 4, _ | 5, _ | 6, _ | 7, _ => decide
          rw [e2, u64_and_nat _ _ (by omega) (by omega), Nat.and_two_pow_sub_one_eq_mod]
        rw [e]
        exact hj _ _ (.inl ⟨hm, by omega⟩) (by rw [if_pos (by omega)]) rfl
      · exact hj 0 _ (.inr rfl) (by rw [if_neg (by omega)]) rfl
end Go.Proofs.YtkaombhkepopgaaDoor
namespace Go.Proofs.YtkaombhkepopgaaDoor
open Go.RowKit Go.Fl
theorem Clone_byte_ok {s : Sl} {l : List UInt8} {w : World} (hs : Bs w s l) (hl : l.length ≤ 140737488351232) :
    cl Tryd.prog n_slices_Clone_byte_byte #[.slice s.a s.n s.c] .L w fun (r : Sl) w' => OwB w' w.heap.size t_uint8 r l ∧ Fr w w' := by
  refine slices_Clone_byte_byte.cl ?_
  unfold slices_Clone_byte_byte
  refine bB ?_ ?_ <;> intro h
  · have : l = [] := by
      rcases l with _ | ⟨b, t⟩
      · rfl
      · obtain ⟨ad, ha, _⟩ := hs.rd.u8 (l := b :: t) (i := 0) (by simp)
        rw [ha] at h
        cases h
    subst this
    exact ⟨OwB.nil _ _ _, Fr.refl w⟩
  · exact copyB slB hs (by omega) fun r w' ho hf => ⟨ho, hf⟩

theorem aw1 : [] ++ numB (Int.toNat 16384) = [192, 64, 0] := by decide +kernel
theorem aw2 : [] ++ numsB [128, 0] = [128, 128, 0] := by decide +kernel
end Go.Proofs.YtkaombhkepopgaaDoor
namespace Go.Fl
open Go.RowKit

theorem ldB0 {w : World} {g i : Nat} {cs : Array Value} {t : TypeId} {f : Nat × Nat} {b : Bool} {K : Bool → Prop} (h : w.heap[g]? = some (.cells cs t f)) (hi : cs[i]? = some (.bool b)) (k : K b) : ld .B w ⟨g, i, none⟩ K :=
  ⟨b, (cell_of_row w g i cs t f h).trans hi, k⟩
theorem ldL0 {w : World} {g i : Nat} {cs : Array Value} {t : TypeId} {f : Nat × Nat} {s : Sl} {K : Sl → Prop} (h : w.heap[g]? = some (.cells cs t f)) (hi : cs[i]? = some (.slice s.a s.n s.c)) (k : K s) : ld .L w ⟨g, i, none⟩ K :=
  ⟨s, (cell_of_row w g i cs t f h).trans hi, k⟩
theorem ldI0 {w : World} {g i : Nat} {cs : Array Value} {t : TypeId} {f : Nat × Nat} {kd : IntKind} {n : Int} {K : Int → Prop} (h : w.heap[g]? = some (.cells cs t f)) (hi : cs[i]? = some (.int kd n)) (k : K n) : ld (.I kd) w ⟨g, i, none⟩ K :=
  ⟨n, (cell_of_row w g i cs t f h).trans hi, k⟩
theorem ldP0 {w : World} {g i : Nat} {cs : Array Value} {t : TypeId} {f : Nat × Nat} {p : Option Addr} {K : Option Addr → Prop} (h : w.heap[g]? = some (.cells cs t f)) (hi : cs[i]? = some (.pointer p)) (k : K p) : ld .P w ⟨g, i, none⟩ K :=
  ⟨p, (cell_of_row w g i cs t f h).trans hi, k⟩

theorem st0 {w : World} {g i : Nat} {cs : Array Value} {t : TypeId} {v : Value} {K : World → Prop} (h : w.heap[g]? = some (.cells cs t (0, 0))) (hi : i < cs.size)
    (hk : ∀ w', w'.heap[g]? = some (.cells (cs.setIfInBounds i v) t (0, 0)) → w.grownBy w' (some g) → w'.heap.size = w.heap.size → K w') : st1 w ⟨g, i, none⟩ v K := by
  refine ⟨⟨cs[i], by rw [cell_of_row w g i cs t _ h]; exact Array.getElem?_eq_getElem hi⟩, by simp [World.frozen?, h], hk _ ?_ ⟨rfl, rfl, rfl, by simp [World.setCell], fun k _ hk => Below.heap_setCell _ _ _ _ (fun e => hk (by rw [e]))⟩ (by simp [World.setCell])⟩
  simp [World.setCell, Array.getElem?_modify, h]

theorem Fr.heap {w w' : World} (h : Fr w w') {g : Nat} {o : Obj} (hg : w.heap[g]? = some o) : w'.heap[g]? = some o :=
  (h.block g (Array.getElem?_eq_some_iff.1 hg).1).trans hg

/-- A part of memory stays. -/
def Kp (S : Nat → Prop) (w w' : World) : Prop := ∀ k, k < w.heap.size → S k → w'.heap[k]? = w.heap[k]?
theorem Kp.rd {S : Nat → Prop} {w w' : World} {A : Option Addr} {xs : List Value} (h : Rd w A xs) (hk : Kp S w w') (hS : ∀ ad, A = some ad → S ad.block) : Rd w' A xs :=
  h.keep fun ad e j hlt => World.cell?_of_block (w := w) (by rw [add_block]; exact hk _ hlt (hS ad e))
theorem Bs.kp {S : Nat → Prop} {w w' : World} {s : Sl} {l : List UInt8} (h : Bs w s l) (hk : Kp S w w') (hS : ∀ ad, s.a = some ad → S ad.block) : Bs w' s l := ⟨Kp.rd h.rd hk hS, h.len, h.cap⟩
theorem Bs.kpn {S : Nat → Prop} {w w' : World} {s : Sl} {l : List UInt8} (h : Bs w s l) (hk : Kp S w w') (hS : l ≠ [] → ∀ ad, s.a = some ad → S ad.block) : Bs w' s l := by
  cases l with
  | nil => exact ⟨Rd.nil _ _, h.len, h.cap⟩
  | cons b t => exact h.kp hk (hS (by simp))
theorem Bs.lt {w : World} {s : Sl} {l : List UInt8} (h : Bs w s l) (hl : l ≠ []) : ∀ ad, s.a = some ad → ad.block < w.heap.size := fun ad ha => by
  cases l with
  | nil => exact absurd rfl hl
  | cons b t =>
    obtain ⟨ad', ha', hc⟩ := h.rd.u8 (l := b :: t) (i := 0) (by simp)
    rw [ha] at ha'
    cases ha'
    have := World.block_lt_of_cell? w _ hc
    rwa [add_block] at this
theorem kp_grown {w w' : World} {g : Nat} (h : w.grownBy w' (some g)) : Kp (· ≠ g) w w' := fun k hk hne => h.block k hk (fun e => hne (Option.some.inj e))
theorem OwB.own {w : World} {base : Nat} {e : TypeId} {s : Sl} {l : List UInt8} (h : OwB w base e s l) : ∀ ad, s.a = some ad → base ≤ ad.block ∧ ad.block < w.heap.size := fun ad ha => h.block ad.block (by rw [ha]; rfl)
theorem OwB.kp {S : Nat → Prop} {w w' : World} {base : Nat} {e : TypeId} {s : Sl} {l : List UInt8} (h : OwB w base e s l) (hk : Kp S w w') (hS : ∀ ad, s.a = some ad → S ad.block) : OwB w' base e s l := by
  refine ⟨h.1, ?_⟩
  rcases h.2 with hn | ⟨g, cap, cur, hv, hb, hgg, rest⟩
  · exact .inl hn
  · have ha : s.a = some ⟨g, 0, none⟩ := by injection hv
    exact .inr ⟨g, cap, cur, hv, hb, (hk g (Array.getElem?_eq_some_iff.1 hgg).1 (hS _ ha)).trans hgg, rest⟩
theorem grown_below {w w' : World} {g base : Nat} (h : w.grownBy w' (some g)) (hb : base ≤ g) (hs : base ≤ w.heap.size) : Below base w w' :=
  (Below.refl base w).grown h hs fun k hk => by cases hk; exact hb
theorem fr_grown {w w' : World} {g : Nat} (h : Fr w w') : w.grownBy w' (some g) := ⟨h.os, h.tape, h.output, h.size, fun k hk _ => h.block k hk⟩
/-- A byte of an own slice is written. -/
theorem stB {w : World} {base : Nat} {e : TypeId} {s : Sl} {l : List UInt8} {i : Int} {v : Value} {K : World → Prop} (h : OwB w base e s l) (h0 : 0 ≤ i) (hi : i.toNat < l.length) (b : UInt8) (hv : v = .int .u8 b.toNat)
    (hk : ∀ w', OwB w' base e s (l.set i.toNat b) → Below base w w' → (∀ k, some k ≠ (Value.slice s.a s.n s.c).ownBlock → w'.heap[k]? = w.heap[k]?) → w'.heap.size = w.heap.size → K w') : ixa s.a s.n i 1 fun a => st1 w a v K := by
  have hl := h.len
  obtain ⟨h1, h2⟩ := h
  rcases h2 with ⟨_, hn⟩ | ⟨g, cap, cur, hs, hb, hg, hnc, hcm, hsz, ht⟩
  · omega
  · have ha : s.a = some ⟨g, 0, none⟩ := by injection hs
    refine ⟨h0, by omega, ?_⟩
    rw [ha]
    have he : atOff ⟨g, 0, none⟩ i 1 = ⟨g, i.toNat, none⟩ := by
      show Addr.add _ _ = _
      unfold Addr.add
      split <;> simp_all
    show st1 w (atOff ⟨g, 0, none⟩ i 1) v K
    rw [he]
    refine st0 hg (by omega) fun w' hb' hgr hsz' => hk w' ⟨?_, .inr ⟨g, cap, _, hs, hb, hb', hnc, hcm, by simpa using hsz, ?_⟩⟩ ⟨hgr.os, hgr.tape, hgr.output, hgr.size, fun k hk => ?_⟩ (fun k hk => ?_) hsz'
    · simpa [u8s] using h1
    · rw [Array.toList_setIfInBounds, List.take_set, ht, hv]
      simp [u8s, List.map_set]
    · by_cases hkl : k < w.heap.size
      · exact hgr.block k hkl (fun e => by cases e; omega)
      · rw [Array.getElem?_eq_none (by omega), Array.getElem?_eq_none (by omega)]
    · rw [ha] at hk
      by_cases hkl : k < w.heap.size
      · exact hgr.block k hkl hk
      · rw [Array.getElem?_eq_none (by omega), Array.getElem?_eq_none (by omega)]
theorem run_append_none {P : Program} (w : World) {t ty e : TypeId} {i : TypeInfo} (ht : P.underlying t = some (.slice e)) (hi : P.info? e = some i) (A B : Option Addr) {n c d : Nat} (hle : n ≤ c) :
    (Builtin.append_ #[t, t] ty #[.slice A n c, .slice B 0 d]).run P w = .ok (.slice A n c) w := by
  cases A <;> cases B <;> simp [Builtin.append_, run_underlying ht, sizeOf, typeInfo, hi, Builtin.lenOf, Builtin.firstCells, loadCells, loadCellsFrom, hle, storeCells]
/-- append to a new empty slice: no block that was there turns. -/
theorem app0B {P : Program} {t ty e : TypeId} (hT : SlT P t e 1 1) {base b : Nat} {x : Sl} {w : World} {K : Sl → World → Prop} {m : List UInt8} (hb : w.heap[b]? = some (.cells #[] e (0, 0))) (hbb : base ≤ b) (hx : Bs w x m) (hl : m.length ≤ 140737488355328) (hbase : base ≤ w.heap.size)
    (h : ∀ (r : Sl) w', OwB w' base e r m → Fr w w' → K r w') : app P t ty ⟨some ⟨b, 0, none⟩, 0, 0⟩ x w K := by
  obtain ⟨i, z, hi, hz, hsize, hby, hzs⟩ := hT.info
  have hn := hx.len
  cases m with
  | nil =>
    obtain ⟨A, n, c⟩ := x
    obtain rfl : n = 0 := hn
    exact ⟨_, w, run_append_none w hT.under hi _ _ (Nat.le_refl _), h _ _ (OwB.new hb hbb) (Fr.refl w)⟩
  | cons u m =>
    obtain ⟨ad, ha, _⟩ := hx.rd.u8 (l := u :: m) (i := 0) (by simp)
    obtain ⟨v', w', hrun, ho, hg⟩ := run_append_arg_grows (P := P) w t ty e i z 1 1 hT.under hi hz hsize hby hzs (by decide) ⟨b, 0, none⟩ 0 0 [] rfl (fun j u hu => by simp at hu) ad x.n x.c (u8s (u :: m)) (by rw [u8s_length, hn]; simp)
      (fun j u' hu => by obtain ⟨ad', ha', hc⟩ := hx.rd j u' hu; rw [ha] at ha'; cases ha'; exact hc) (by rw [hn]; simp) (by simp only [maxLen]; rw [hn]; simp at hl ⊢; omega) (by rw [hn]; simp at hl ⊢; omega)
    rw [Nat.zero_add, List.nil_append] at ho
    obtain ⟨r, rfl, hrn⟩ := sl_of_own ho
    refine ⟨r, w', by rw [ha]; exact hrun, h r w' ?_ ⟨hg.os, hg.tape, hg.output, hg.size, fun k hk => hg.block k hk (by simp)⟩⟩
    have : OwB w' w.heap.size e r (u :: m) := by unfold OwB; rw [← hrn] at ho; exact ho
    exact this.mono hbase
end Go.Fl
namespace Go.Fl
open Go.RowKit

/-- A byte of a slice is read, by its value. -/
theorem ixBc {w w' : World} {s : Sl} {l : List UInt8} {i : Int} {c : UInt8} {K : Int → Prop} (hs : Rd w s.a (u8s l)) (hl : s.n = l.length) (h0 : 0 ≤ i) (hc : l[i.toNat]? = some c) (hw : Fr w w')
    (h : K (c.toNat)) : ixa s.a s.n i 1 fun a => ld (.I .u8) w' a K := by
  obtain ⟨hi, rfl⟩ := List.getElem?_eq_some_iff.1 hc
  exact ixB hs hl h0 hi hw h
/-- make([]T, n): a row of n zeros, T of one cell. -/
theorem mksN {P : Program} {t e : TypeId} {bytes : Nat} {z : Value} (hu : P.underlying t = some (.slice e)) (hinfo : (P.info? e).map (fun i => (i.zero, i.size, i.bytes)) = some (some z, 1, bytes)) (hz1 : z.cells = #[z]) (base : Nat) {C : Int} {w : World} {K : Sl → World → Prop} (n : Nat) (hC : C = (n : Int)) (hb : bytes * n ≤ 140737488355328) (h63 : n ≤ 140737488355328) (hbase : base ≤ w.heap.size)
    (h : ∀ w', w'.ownsRow base e 1 (.slice (some ⟨w.heap.size, 0, none⟩) n n) n (List.replicate n z) → w'.heap[w.heap.size]? = some (.cells (List.replicate n z).toArray e (0, 0)) → w'.heap.size = w.heap.size + 1 → Fr w w' → K ⟨some ⟨w.heap.size, 0, none⟩, n, n⟩ w') : mks P t C C w K := by
  subst hC
  have hrun := run_make_row' (P := P) t e z bytes hu hinfo hz1 .i64 .i64 n (by omega) (by omega) w
  have hm : madeCells #[z] n = (List.replicate n z).toArray := by
    apply Array.toList_inj.1
    rw [toList_madeCells_one]
  rw [hm] at hrun
  refine ⟨⟨some ⟨w.heap.size, 0, none⟩, n, n⟩, _, hrun, h _ ?_ (heap_alloc_new w _) (by simp) (Fr.alloc _ _)⟩
  exact World.ownsRow_lit w (List.replicate n z).toArray n hbase (by simp only [maxLen]; omega) (by simp)
/-- A slice of a slice with a bound of its room. -/
theorem run_sls3 {P : Program} {t e : TypeId} (hT : SlT P t e 1 1) (w : World) (s : Sl) {lo : Option Value} {l h : Int} (hlo : (lo = none ∧ l = 0) ∨ lo = some (.int .i64 l)) (h0 : 0 ≤ l) (h1 : l ≤ h) (h2 : h ≤ s.c) :
    (Instr.sliceAt t (.slice s.a s.n s.c) lo (some (.int .i64 h)) (some (.int .i64 h))).run P w = .ok (.slice (if h.toNat = l.toNat then s.a else s.a.map (·.add l.toNat)) (h.toNat - l.toNat) (h.toNat - l.toNat)) w := by
  obtain ⟨i, z, hi, hz, hsize, hby, hzs⟩ := hT.info
  have em : (h.toNat : Int) = h := Int.toNat_of_nonneg (by omega)
  have h03 : (0 : Int) ≤ h := by omega
  rcases hlo with ⟨rfl, rfl⟩ | rfl <;>
    simp [Instr.sliceAt, Instr.slice, Instr.sliceBounds, Instr.sliceBound, run_underlying hT.under, sizeOf, typeInfo, hi, asIntOf, h0, h1, h2, em, h03, hsize]
theorem sls3B {P : Program} {t e : TypeId} (hT : SlT P t e 1 1) {w : World} {s : Sl} {l : List UInt8} {lo : Option Value} {i j : Int} {K : Sl → Prop} (h : Bs w s l) (hlo : (lo = none ∧ i = 0) ∨ lo = some (.int .i64 i)) (h0 : 0 ≤ i) (hij : i ≤ j) (hj : j ≤ l.length)
    (hk : ∀ r : Sl, Bs w r ((l.take j.toNat).drop i.toNat) → (∀ ad, r.a = some ad → ∃ ad', s.a = some ad' ∧ ad.block = ad'.block) → (i = 0 → 0 < j → r = ⟨s.a, j.toNat, j.toNat⟩) → K r) :
    qn P (Instr.sliceAt t (.slice s.a s.n s.c) lo (some (.int .i64 j)) (some (.int .i64 j))) .L w K := by
  have hl := h.len
  have hc := h.cap
  refine ⟨⟨if j.toNat = i.toNat then s.a else s.a.map (·.add i.toNat), j.toNat - i.toNat, j.toNat - i.toNat⟩, fun w' _ => run_sls3 hT w' s hlo h0 hij (by omega), hk _ ?_ ?_ ?_⟩
  · have hcut := h.cut (i := i.toNat) (j := j.toNat) (by omega) (by omega)
    by_cases he : j.toNat = i.toNat
    · have : (l.take j.toNat).drop i.toNat = [] := by rw [List.drop_eq_nil_iff, List.length_take]; omega
      rw [this]
      exact ⟨Rd.nil _ _, by simp; omega, Nat.le_refl _⟩
    · rw [if_neg he]
      obtain ⟨hr, hcl, _⟩ := hcut
      refine ⟨?_, hcl, Nat.le_refl _⟩
      unfold Fl.cut at hr
      rw [if_neg (by omega)] at hr
      exact hr
  · intro ad ha
    dsimp only at ha
    split at ha
    · exact ⟨ad, ha, rfl⟩
    · cases hs : s.a with
      | none => rw [hs] at ha; cases ha
      | some ad' =>
        rw [hs] at ha
        simp only [Option.map_some, Option.some.injEq] at ha
        exact ⟨ad', rfl, by rw [← ha, add_block]⟩
  · rintro rfl hj0
    rw [if_neg (by omega)]
    cases s.a <;> simp [Addr.add]
theorem Addr.add0 (a : Addr) : a.add 0 = a := by simp [Addr.add]
/-- []byte of a new row of bytes: the row is marked, and reads as it did. -/
theorem nwConv {P : Program} {t e : TypeId} {cs : List Value} {n : Nat} {l : List UInt8} {w : World} {K : Sl → World → Prop} (ht : P.underlying t = some (.slice e)) (he : P.underlying e = some (.int .u8)) (hcs : cs = u8s l) (hn : n = l.length)
    (h : ∀ r w', Bs w' r l → Fr w w' → K r w') : nw w cs e fun a w2 => rn P (convert t t (.slice (some a) n n)) .L w2 K := by
  subst hcs hn
  refine nwI fun b w2 hb hsz hf hblk hrd => ?_
  have hrun : (convert t t (.slice (some ⟨b, 0, none⟩) l.length l.length)).run P w2 = .ok (.slice (some ⟨b, 0, none⟩) l.length l.length) (w2.freeze ⟨b, (u8s l).toArray.size, none⟩ 1) := by
    simp [convert, run_underlying ht, run_underlying he, markStringish, World.shape?, hblk]
  refine ⟨⟨some ⟨b, 0, none⟩, l.length, l.length⟩, _, hrun, h _ _ ?_ ?_⟩
  · refine ⟨fun j u hu => ?_, rfl, Nat.le_refl _⟩
    obtain ⟨ad, ha, hc⟩ := hrd j u hu
    refine ⟨ad, ha, ?_⟩
    rw [← hc]
    cases ha
    have e1 : ((⟨b, 0, none⟩ : Addr).add j).block = b := add_block _ _
    unfold World.cell? World.freeze
    simp only [Nat.one_ne_zero, if_false, Array.getElem?_modify, e1, hblk, if_true, Option.map_some]
  · have hs := hf.size
    refine ⟨hf.os, hf.tape, hf.output, by simpa [World.freeze] using hs, fun k hk => ?_⟩
    rw [← hf.block k hk]
    simp only [World.freeze, Nat.one_ne_zero, if_false, Array.getElem?_modify]
    rw [if_neg (by omega)]
theorem addOff (g i j : Nat) : (⟨g, i, none⟩ : Addr).add j = ⟨g, i + j, none⟩ := by unfold Addr.add; split <;> simp_all
/-- A row is stored. -/
theorem stL_row {g : Nat} {t : TypeId} : ∀ {vs : List Value} {cs : List Value} {i : Nat} {w : World} {K : World → Prop}, w.heap[g]? = some (.cells cs.toArray t (0, 0)) → i + vs.length ≤ cs.length → (∀ v ∈ vs, v.oneCell' = true) →
    (∀ w', w'.heap[g]? = some (.cells (cs.take i ++ vs ++ cs.drop (i + vs.length)).toArray t (0, 0)) → w.grownBy w' (some g) → w'.heap.size = w.heap.size → K w') → stL ⟨g, 0, none⟩ w i vs K
  | [], cs, i, w, K, h, _, _, hk => by
    refine hk w ?_ (World.grownBy.refl _ _) rfl
    simpa using h
  | v :: vs, cs, i, w, K, h, hi, h1, hk => by
    simp only [List.length_cons] at hi
    refine ⟨h1 v (by simp), ?_⟩
    rw [addOff, Nat.zero_add]
    refine st0 h (by simp; omega) fun w' hb hg hs => ?_
    refine stL_row (cs := cs.set i v) (i := i + 1) (by simpa using hb) (by simp; omega) (fun u hu => h1 u (by simp [hu])) fun w2 hb2 hg2 hs2 => hk w2 ?_ (hg.trans hg2) (hs2.trans hs)
    have e : (cs.set i v).take (i + 1) ++ vs ++ (cs.set i v).drop (i + 1 + vs.length) = cs.take i ++ (v :: vs) ++ cs.drop (i + (v :: vs).length) := by
      rw [List.take_set, List.drop_set_of_lt (by omega), List.take_succ_eq_append_getElem (by omega), List.set_append_right _ _ (by simp; omega), List.length_take, List.length_cons, Nat.min_eq_left (by omega), Nat.sub_self]
      simp [Nat.add_assoc, Nat.add_comm 1]
    rw [hb2, e]
theorem ldR0 {w : World} {g n : Nat} {vs : List Value} {t : TypeId} {f : Nat × Nat} {K : {l : List Value // l.length = n} → Prop} (h : w.heap[g]? = some (.cells vs.toArray t f)) (hn : vs.length = n) (k : K ⟨vs, hn⟩) : ld (.row n) w ⟨g, 0, none⟩ K := by
  refine ⟨⟨vs, hn⟩, fun i hi => ?_, k⟩
  rw [addOff, Nat.zero_add]
  exact (cell_of_row w g i vs.toArray t f h).trans (by simp [List.getElem?_eq_getElem hi])
theorem ldRd {w : World} {A : Option Addr} {n : Nat} {vs : List Value} {K : {l : List Value // l.length = n} → Prop} (h : Rd w A vs) (hn : vs.length = n) (hp : 0 < n) (k : K ⟨vs, hn⟩) : nz A fun a => ld (.row n) w a K := by
  obtain ⟨ad, ha, _⟩ := h.at 0 (by omega)
  rw [ha]
  refine ⟨⟨vs, hn⟩, fun i hi => ?_, k⟩
  obtain ⟨ad', ha', hc⟩ := h.at i hi
  rw [ha] at ha'
  cases ha'
  exact hc
theorem ldM0 {w : World} {g i : Nat} {cs : Array Value} {t : TypeId} {f : Nat × Nat} {r : Option Nat} {K : Option Nat → Prop} (h : w.heap[g]? = some (.cells cs t f)) (hi : cs[i]? = some (.map r)) (k : K r) : ld .M w ⟨g, i, none⟩ K :=
  ⟨r, (cell_of_row w g i cs t f h).trans hi, k⟩
/-- A slice as an array. -/
theorem qnArr {P : Program} {t e : TypeId} {n : Nat} (ht : P.underlying t = some (.array n e)) {w : World} {s : Sl} (hn : n ≤ s.n) {K : Option Addr → Prop} (k : K s.a) : qn P (Instr.arrayAt t (.slice s.a s.n s.c)) .P w K :=
  ⟨s.a, fun w' _ => by
    have : ¬s.n < n := by omega
    simp [Instr.arrayAt, run_underlying ht, this]
    rfl, k⟩
theorem atH (g : Nat) (i : Int) : atOff ⟨g, 0, none⟩ i 1 = ⟨g, i.toNat, none⟩ := by
  show Addr.add _ _ = _
  rw [addOff, Nat.zero_add]
/-- A number of a known block is read; one is written. -/
theorem ixH {w : World} {g n : Nat} {cs : List Value} {t : TypeId} {f : Nat × Nat} {i : Int} {kd : IntKind} {v : Int} {K : Int → Prop} (h : w.heap[g]? = some (.cells cs.toArray t f)) (h0 : 0 ≤ i) (hn : i < n) (hi : cs[i.toNat]? = some (.int kd v)) (k : K v) :
    ixa (some ⟨g, 0, none⟩) n i 1 fun a => ld (.I kd) w a K := by
  refine ⟨h0, hn, ?_⟩
  show ld (.I kd) w (atOff ⟨g, 0, none⟩ i 1) K
  rw [atH]
  exact ldI0 h (by simpa using hi) k
theorem ixSt {w : World} {g n : Nat} {cs : List Value} {t : TypeId} {i : Int} {v : Value} {K : World → Prop} (h : w.heap[g]? = some (.cells cs.toArray t (0, 0))) (h0 : 0 ≤ i) (hn : i < n) (hi : i.toNat < cs.length)
    (hk : ∀ w', w'.heap[g]? = some (.cells (cs.set i.toNat v).toArray t (0, 0)) → w.grownBy w' (some g) → w'.heap.size = w.heap.size → K w') : ixa (some ⟨g, 0, none⟩) n i 1 fun a => st1 w a v K := by
  refine ⟨h0, hn, ?_⟩
  show st1 w (atOff ⟨g, 0, none⟩ i 1) v K
  rw [atH]
  exact st0 h (by simpa using hi) fun w' hb hg hs => hk w' (by simpa using hb) hg hs
theorem run_zeroV {P : Program} {e : TypeId} {z : Value} (h : (P.info? e).map (·.zero) = some (some z)) (w : World) : (zeroValue e).run P w = .ok z w := by
  obtain ⟨i, hi, hz⟩ := Option.map_eq_some_iff.1 h
  simp [zeroValue, typeInfo, hi, hz]
end Go.Fl
namespace Go.Fl

abbrev w32 (n : Int) : Int := IntKind.u32.wrap n
/-- A word turned to the right. -/
def rotS (x : Int) (k : Nat) : Int := bits .or .u32 (w32 (x * 2 ^ (32 - k))) (x / 2 ^ k)
def byteS (b : List UInt8) (i : Nat) : Int := ((b.getD i 0).toNat : Int)
def w16S (b : List UInt8) (i : Nat) : Int :=
  bits .or .u32 (bits .or .u32 (bits .or .u32 (w32 (w32 (byteS b (4 * i)) * 2 ^ 24)) (w32 (w32 (byteS b (4 * i + 1)) * 2 ^ 16))) (w32 (w32 (byteS b (4 * i + 2)) * 2 ^ 8))) (w32 (byteS b (4 * i + 3)))
def nextS (l : List Int) (n : Nat) : Int :=
  w32 (w32 (w32 (l.getD (n - 16) 0 + bits .xor .u32 (bits .xor .u32 (rotS (l.getD (n - 15) 0) 7) (rotS (l.getD (n - 15) 0) 18)) (l.getD (n - 15) 0 / 2 ^ 3)) + l.getD (n - 7) 0)
    + bits .xor .u32 (bits .xor .u32 (rotS (l.getD (n - 2) 0) 17) (rotS (l.getD (n - 2) 0) 19)) (l.getD (n - 2) 0 / 2 ^ 10))
/-- The words of a block, so many of them. -/
def spreadS (b : List UInt8) : Nat → List Int
  | 0 => []
  | n + 1 => spreadS b n ++ [if n < 16 then w16S b n else nextS (spreadS b n) n]
theorem spreadS_length (b : List UInt8) : ∀ n, (spreadS b n).length = n
  | 0 => rfl
  | n + 1 => by rw [spreadS, List.length_append, spreadS_length b n]; rfl
def tS (x : List Int) (k w : Int) : Int :=
  w32 (w32 (w32 (w32 (x.getD 7 0 + bits .xor .u32 (bits .xor .u32 (rotS (x.getD 4 0) 6) (rotS (x.getD 4 0) 11)) (rotS (x.getD 4 0) 25))
    + bits .xor .u32 (bits .and .u32 (x.getD 4 0) (x.getD 5 0)) (bits .and .u32 (bits .xor .u32 4294967295 (x.getD 4 0)) (x.getD 6 0))) + k) + w)
def uS (x : List Int) : Int :=
  w32 (bits .xor .u32 (bits .xor .u32 (rotS (x.getD 0 0) 2) (rotS (x.getD 0 0) 13)) (rotS (x.getD 0 0) 22)
    + bits .xor .u32 (bits .xor .u32 (bits .and .u32 (x.getD 0 0) (x.getD 1 0)) (bits .and .u32 (x.getD 0 0) (x.getD 2 0))) (bits .and .u32 (x.getD 1 0) (x.getD 2 0)))
def roundS (x : List Int) (k w : Int) : List Int :=
  [w32 (tS x k w + uS x), x.getD 0 0, x.getD 1 0, x.getD 2 0, w32 (x.getD 3 0 + tS x k w), x.getD 4 0, x.getD 5 0, x.getD 6 0]
def roundsS (K ws : List Int) (h : List Int) : Nat → List Int
  | 0 => h
  | n + 1 => roundS (roundsS K ws h n) (K.getD n 0) (ws.getD n 0)
theorem roundsS_length {K ws h : List Int} (hh : h.length = 8) : ∀ n, (roundsS K ws h n).length = 8
  | 0 => hh
  | _n + 1 => rfl
/-- A block is taken in. -/
def stirS (K h : List Int) (b : List UInt8) : List Int := (List.range 8).map fun i => w32 (h.getD i 0 + (roundsS K (spreadS b 64) h 64).getD i 0)
theorem stirS_length (K h : List Int) (b : List UInt8) : (stirS K h b).length = 8 := by simp [stirS]
/-- All whole blocks are taken in: the state, and what is left. -/
def allS (K : List Int) : Nat → List Int → List UInt8 → List Int × List UInt8
  | 0, h, l => (h, l)
  | f + 1, h, l => if l.length < 64 then (h, l) else allS K f (stirS K h (l.take 64)) (l.drop 64)
def zerosS : Nat → List UInt8 → List UInt8
  | 0, l => l
  | f + 1, l => if l.length % 64 = 56 then l else zerosS f (l ++ [0])
def lenS (n : Nat) : List UInt8 := (List.range 8).map fun i => UInt8.ofNat (n * 8 / 2 ^ (56 - 8 * i))
def outS (h : List Int) : List UInt8 := (List.range 32).map fun i => UInt8.ofNat ((h.getD (i / 4) 0).toNat / 2 ^ (24 - 8 * (i % 4)))
/-- The digest of bytes. -/
def digS (F K : List Int) (b : List UInt8) : List UInt8 :=
  let s := allS K (b.length + 1) F b
  let e := zerosS 64 (s.2 ++ [128]) ++ lenS b.length
  outS (allS K (e.length + 1) s.1 e).1
/-- A row of words that is there. -/
def Glob (w : World) (g : Nat) (l : List Int) : Prop := ∀ i (h : i < l.length), w.cell? ⟨g, i, none⟩ = some (.int .u32 l[i])
theorem Glob.fr {w w' : World} {g : Nat} {l : List Int} (h : Glob w g l) (hf : Fr w w') : Glob w' g l := fun i hi => by
  have hb := World.block_lt_of_cell? w _ (h i hi)
  have e : w'.heap[g]? = w.heap[g]? := hf.block g hb
  exact (World.cell?_of_block (w := w) (by exact e)).trans (h i hi)
theorem Glob.grown {w w' : World} {g q : Nat} {l : List Int} (h : Glob w q l) (hg : w.grownBy w' (some g)) (hne : g ≠ q) : Glob w' q l := fun i hi => by
  have hb := World.block_lt_of_cell? w _ (h i hi)
  have e : w'.heap[q]? = w.heap[q]? := hg.block q hb (by simp; omega)
  exact (World.cell?_of_block (w := w) (by exact e)).trans (h i hi)
theorem nzI {a : Addr} {K : Addr → Prop} (h : K a) : nz (some a) K := h
def ints (l : List Int) : List Value := l.map (Value.int .u32)
theorem ints_length (l : List Int) : (ints l).length = l.length := by simp [ints]
/-- A row in a known block. -/
theorem ldRow {w : World} {g i n : Nat} {cs vs : List Value} {t : TypeId} {f : Nat × Nat} {K : {l : List Value // l.length = n} → Prop} (h : w.heap[g]? = some (.cells cs.toArray t f)) (hv : (cs.drop i).take n = vs) (hn : vs.length = n) (k : K ⟨vs, hn⟩) : ld (.row n) w ⟨g, i, none⟩ K := by
  refine ⟨⟨vs, hn⟩, fun j hj => ?_, k⟩
  rw [addOff, cell_of_row w g (i + j) cs.toArray t f h]
  have e : (cs.drop i)[j]? = some vs[j] := by
    have : ((cs.drop i).take n)[j]? = some vs[j] := by rw [hv]; exact List.getElem?_eq_getElem hj
    rw [List.getElem?_take] at this
    split at this
    · exact this
    · cases this
  rw [List.getElem?_drop] at e
  simpa using e
theorem ldGlob {w : World} {g n : Nat} {l : List Int} {K : {l : List Value // l.length = n} → Prop} (h : Glob w g l) (hn : l.length = n) (k : K ⟨ints l, by rw [ints_length, hn]⟩) : ld (.row n) w ⟨g, 0, none⟩ K := by
  refine ⟨⟨ints l, by rw [ints_length, hn]⟩, fun j hj => ?_, k⟩
  rw [addOff, Nat.zero_add]
  have := h j (by rw [← ints_length]; exact hj)
  simpa [ints] using this
theorem ixGlob {w : World} {g n : Nat} {l : List Int} {i : Nat} {K : Int → Prop} (h : Glob w g l) (hi : i < l.length) (hn : l.length = n) (k : K (l.getD i 0)) : ixa (some ⟨g, 0, none⟩) n (i : Int) 1 fun a => ld (.I .u32) w a K := by
  refine ⟨by omega, by omega, ?_⟩
  show ld (.I .u32) w (atOff ⟨g, 0, none⟩ (i : Int) 1) K
  rw [atH, Int.toNat_natCast]
  refine ⟨_, h i hi, ?_⟩
  rw [List.getD_eq_getElem?_getD, List.getElem?_eq_getElem hi, Option.getD_some] at k
  exact k
/-- A word of a row of a known block. -/
theorem ixW {w : World} {g n : Nat} {l : List Int} {t : TypeId} {f : Nat × Nat} {i : Nat} {K : Int → Prop} (h : w.heap[g]? = some (.cells (ints l).toArray t f)) (hi : i < l.length) (hn : i < n) (k : K (l.getD i 0)) : ixa (some ⟨g, 0, none⟩) n (i : Int) 1 fun a => ld (.I .u32) w a K :=
  ixH h (by omega) (by omega) (by
    rw [Int.toNat_natCast, ints, List.getElem?_map, List.getElem?_eq_getElem hi]
    simp [List.getD_eq_getElem?_getD, List.getElem?_eq_getElem hi]) k
def F0 : List Int := [1779033703, 3144134277, 1013904242, 2773480762, 1359893119, 2600822924, 528734635, 1541459225]
def K0 : List Int := [1116352408, 1899447441, 3049323471, 3921009573, 961987163, 1508970993, 2453635748, 2870763221, 3624381080, 310598401, 607225278, 1426881987, 1925078388, 2162078206, 2614888103, 3248222580, 3835390401, 4022224774, 264347078, 604807628, 770255983, 1249150122, 1555081692, 1996064986, 2554220882, 2821834349, 2952996808, 3210313671, 3336571891, 3584528711, 113926993, 338241895, 666307205, 773529912, 1294757372, 1396182291, 1695183700, 1986661051, 2177026350, 2456956037, 2730485921, 2820302411, 3259730800, 3345764771, 3516065817, 3600352804, 4094571909, 275423344, 430227734, 506948616, 659060556, 883997877, 958139571, 1322822218, 1537002063, 1747873779, 1955562222, 2024104815, 2227730452, 2361852424, 2428436474, 2756734187, 3204031479, 3329325298]
abbrev dig (b : List UInt8) : List UInt8 := digS F0 K0 b
theorem w32_nn (n : Int) : 0 ≤ w32 n := by unfold w32; rw [u32w]; omega
theorem stirS_nn (K h : List Int) (b : List UInt8) : ∀ x ∈ stirS K h b, 0 ≤ x := fun x hx => by
  obtain ⟨i, _, rfl⟩ := List.mem_map.1 hx
  exact w32_nn _
theorem allS_nn {K : List Int} : ∀ {f : Nat} {h : List Int} {l : List UInt8}, (∀ x ∈ h, 0 ≤ x) → ∀ x ∈ (allS K f h l).1, 0 ≤ x
  | 0, h, l, hh => hh
  | f + 1, h, l, hh => by
    unfold allS
    split
    · exact hh
    · exact allS_nn (stirS_nn _ _ _)
theorem allS_length {K : List Int} : ∀ {f : Nat} {h : List Int} {l : List UInt8}, h.length = 8 → (allS K f h l).1.length = 8
  | 0, h, l, hh => hh
  | f + 1, h, l, hh => by
    unfold allS
    split
    · exact hh
    · exact allS_length (stirS_length _ _ _)
theorem allS_any {K : List Int} : ∀ {f g : Nat} {h : List Int} {l : List UInt8}, l.length < f → l.length < g → allS K f h l = allS K g h l
  | 0, g, h, l, hf, _ => by omega
  | f + 1, 0, h, l, _, hg => by omega
  | f + 1, g + 1, h, l, hf, hg => by
    rw [allS, allS]
    split
    · rfl
    · exact allS_any (by rw [List.length_drop]; omega) (by rw [List.length_drop]; omega)
theorem allS_rest {K : List Int} : ∀ {f : Nat} {h : List Int} {l : List UInt8}, l.length < f → (allS K f h l).2.length < 64 ∧ (allS K f h l).2.length ≤ l.length
  | 0, h, l, hf => by omega
  | f + 1, h, l, hf => by
    rw [allS]
    split
    · exact ⟨by assumption, Nat.le_refl _⟩
    · have := allS_rest (K := K) (f := f) (h := stirS K h (l.take 64)) (l := l.drop 64) (by rw [List.length_drop]; omega)
      rw [List.length_drop] at this
      omega
theorem zerosS_len : ∀ {f : Nat} {l : List UInt8}, (120 - l.length % 64) % 64 ≤ f → (zerosS f l).length = l.length + (120 - l.length % 64) % 64
  | 0, l, h => by unfold zerosS; omega
  | f + 1, l, h => by
    unfold zerosS
    split
    · omega
    · have e : (l ++ [(0 : UInt8)]).length = l.length + 1 := by simp
      have := zerosS_len (f := f) (l := l ++ [0]) (by rw [e]; omega)
      rw [this, e]
      omega
theorem lenS_length (n : Nat) : (lenS n).length = 8 := by simp [lenS]
theorem outS_length (h : List Int) : (outS h).length = 32 := by simp [outS]
theorem dig_length (b : List UInt8) : (dig b).length = 32 := outS_length _
end Go.Fl
namespace Go.Fl

/-- Whole values may be read, or stored, so. -/
def AV.okLd : AV → Bool
  | .v x => x.oneCell'
  | .nil => true
  | .pair a b => a.okLd && b.okLd
  | .row _ _ => true
  | .tup _ => false
def AV.okSt : AV → Bool
  | .v x => x.oneCell'
  | .nil => true
  | .pair a b => a.okSt && b.okSt
  | .row _ l => l.1.all (·.oneCell')
  | .tup _ => false
theorem one_cells {x : Value} (h : x.oneCell' = true) : x.cells = #[x] := by cases x <;> first | rfl | simp [Value.oneCell'] at h
/-- A value is stored into a part of a block. -/
theorem st_all : ∀ (x : AV), x.okSt = true → ∀ {w : World} {g : Nat} {pre q post : List Value} {t : TypeId} {K : World → Prop}, w.heap[g]? = some (.cells (pre ++ q ++ post).toArray t (0, 0)) → q.length = x.size →
    (∀ w', w'.heap[g]? = some (.cells (pre ++ x.cells ++ post).toArray t (0, 0)) → w.grownBy w' (some g) → w'.heap.size = w.heap.size → K w') → st w ⟨g, pre.length, none⟩ x K
  | .nil, _, w, g, pre, q, post, t, K, h, hq, hk => by
    have : q = [] := List.eq_nil_of_length_eq_zero hq
    subst this
    exact hk w h (World.grownBy.refl _ _) rfl
  | .v x, hx, w, g, pre, q, post, t, K, h, hq, hk => by
    have hx' : x.oneCell' = true := hx
    have hc := one_cells hx'
    simp only [AV.size, hc] at hq
    obtain ⟨u, rfl⟩ : ∃ u, q = [u] := by
      match q, hq with
      | [u], _ => exact ⟨u, rfl⟩
    show bif x.oneCell' then st1 w ⟨g, pre.length, none⟩ x K else False
    rw [hx']
    refine st0 h (by simp) fun w' hb hg hs => hk w' ?_ hg hs
    rw [hb, List.setIfInBounds_toArray, List.append_assoc, List.set_append_right _ _ (Nat.le_refl _), Nat.sub_self]
    simp [AV.cells, hc]
  | .pair a b, hx, w, g, pre, q, post, t, K, h, hq, hk => by
    simp only [AV.okSt, Bool.and_eq_true] at hx
    simp only [AV.size] at hq
    refine st_all a hx.1 (pre := pre) (q := q.take a.size) (post := q.drop a.size ++ post) (t := t) ?_ (by rw [List.length_take]; omega) fun w1 h1 g1 s1 => ?_
    · have e : pre ++ q ++ post = pre ++ q.take a.size ++ (q.drop a.size ++ post) := by rw [List.append_assoc, List.append_assoc, ← List.append_assoc (q.take a.size), List.take_append_drop]
      rw [h, e]
    · rw [addOff]
      have hl : (pre ++ a.cells).length = pre.length + a.size := by rw [List.length_append, AV.cells_length]
      rw [← hl]
      refine st_all b hx.2 (pre := pre ++ a.cells) (q := q.drop a.size) (post := post) (t := t) ?_ (by rw [List.length_drop]; omega) fun w2 h2 g2 s2 => hk w2 ?_ (g1.trans g2) (s2.trans s1)
      · rw [h1]; simp
      · rw [h2]; simp [AV.cells]
  | .row n l, hx, w, g, pre, q, post, t, K, h, hq, hk => by
    simp only [AV.okSt, List.all_eq_true] at hx
    have : q.length = l.1.length := by rw [l.2]; exact hq
    suffices H : ∀ (vs : List Value), (∀ v ∈ vs, v.oneCell' = true) → ∀ (i : Nat) (pre q : List Value) {w : World} {K : World → Prop}, q.length = vs.length → w.heap[g]? = some (.cells (pre ++ q ++ post).toArray t (0, 0)) → (∀ w', w'.heap[g]? = some (.cells (pre ++ vs ++ post).toArray t (0, 0)) → w.grownBy w' (some g) → w'.heap.size = w.heap.size → K w') → ∀ o, o + i = pre.length → stL ⟨g, o, none⟩ w i vs K from
      H l.1 hx 0 pre q this h hk pre.length rfl
    intro vs
    induction vs with
    | nil =>
      intro _ i pre q w K hq h hk o ho
      have : q = [] := List.eq_nil_of_length_eq_zero hq
      subst this
      exact hk w h (World.grownBy.refl _ _) rfl
    | cons v vs ih =>
      intro hv i pre q w K hq h hk o ho
      match q, hq with
      | u :: q, hq =>
        refine ⟨hv v (by simp), ?_⟩
        rw [addOff, ho]
        refine st0 h (by simp) fun w' hb hg hs => ?_
        refine ih (fun x hx => hv x (by simp [hx])) (i + 1) (pre ++ [v]) q (by simpa using hq) ?_ (fun w2 h2 g2 s2 => hk w2 (by rw [h2]; simp) (hg.trans g2) (s2.trans hs)) o (by simp; omega)
        rw [hb, List.setIfInBounds_toArray, List.append_assoc, List.set_append_right _ _ (Nat.le_refl _), Nat.sub_self]
        simp
  | .tup _, hx, _, _, _, _, _, _, _, _, _, _ => by cases hx
/-- A whole block is stored anew. -/
theorem stW {w : World} {g : Nat} {q : List Value} {t : TypeId} (x : AV) (hx : x.okSt = true) {K : World → Prop} (h : w.heap[g]? = some (.cells q.toArray t (0, 0))) (hq : q.length = x.size)
    (hk : ∀ w', w'.heap[g]? = some (.cells x.cells.toArray t (0, 0)) → w.grownBy w' (some g) → w'.heap.size = w.heap.size → K w') : st w ⟨g, 0, none⟩ x K :=
  st_all x hx (pre := []) (post := []) (q := q) (by rw [List.nil_append, List.append_nil]; exact h) hq fun w' h' g' s' => hk w' (by rw [List.nil_append, List.append_nil] at h'; exact h') g' s'
/-- A value is read. -/
theorem ld_all : ∀ (k : Kd) (x : k.T), (k.av x).okLd = true → ∀ {w : World} {g : Nat} {pre post : List Value} {t : TypeId} {f : Nat × Nat} {K : k.T → Prop}, w.heap[g]? = some (.cells (pre ++ (k.av x).cells ++ post).toArray t f) → K x → ld k w ⟨g, pre.length, none⟩ K
  | .nil, (), _, _, _, _, _, _, _, _, _, hk => hk
  | .pair k1 k2, (x, y), hx, w, g, pre, post, t, f, K, h, hk => by
    simp only [Kd.av, AV.okLd, Bool.and_eq_true] at hx
    simp only [Kd.av, AV.cells] at h
    have hl : (k1.av x).cells.length = k1.size := kd_size k1 x hx.1
    refine ld_all k1 x hx.1 (pre := pre) (post := (k2.av y).cells ++ post) (t := t) (f := f) (by rw [h]; simp) ?_
    show ld k2 w ((⟨g, pre.length, none⟩ : Addr).add k1.size) _
    rw [addOff]
    have : (pre ++ (k1.av x).cells).length = pre.length + k1.size := by rw [List.length_append, hl]
    rw [← this]
    exact ld_all k2 y hx.2 (pre := pre ++ (k1.av x).cells) (post := post) (t := t) (f := f) (by rw [h]; simp) hk
  | .row n, l, _, w, g, pre, post, t, f, K, h, hk => by
    refine ldRow (vs := l.1) h ?_ l.2 hk
    show ((pre ++ l.1 ++ post).drop pre.length).take n = l.1
    rw [List.append_assoc, List.drop_left' rfl, List.take_left' l.2]
  | .B, b, _, w, g, pre, post, t, f, K, h, hk => ⟨b, by rw [cell_of_row w g _ _ t f h]; simp [Kd.av, AV.cells, Value.cells], hk⟩
  | .I k, b, _, w, g, pre, post, t, f, K, h, hk => ⟨b, by rw [cell_of_row w g _ _ t f h]; simp [Kd.av, AV.cells, Value.cells], hk⟩
  | .S, b, _, w, g, pre, post, t, f, K, h, hk => ⟨b, by rw [cell_of_row w g _ _ t f h]; simp [Kd.av, AV.cells, Value.cells], hk⟩
  | .P, b, _, w, g, pre, post, t, f, K, h, hk => ⟨b, by rw [cell_of_row w g _ _ t f h]; simp [Kd.av, AV.cells, Value.cells], hk⟩
  | .L, b, _, w, g, pre, post, t, f, K, h, hk => ⟨b, by rw [cell_of_row w g _ _ t f h]; simp [Kd.av, AV.cells, Value.cells], hk⟩
  | .M, b, _, w, g, pre, post, t, f, K, h, hk => ⟨b, by rw [cell_of_row w g _ _ t f h]; simp [Kd.av, AV.cells, Value.cells], hk⟩
  | .U, b, hx, w, g, pre, post, t, f, K, h, hk => ⟨b, by rw [cell_of_row w g _ _ t f h]; simp [Kd.av, AV.cells, one_cells hx], hk, hx⟩
  | .tup _, _, hx, _, _, _, _, _, _, _, _, _ => by cases hx
where
  kd_size : ∀ (k : Kd) (x : k.T), (k.av x).okLd = true → (k.av x).cells.length = k.size
  | .nil, (), _ => rfl
  | .pair k1 k2, (x, y), hx => by
    simp only [Kd.av, AV.okLd, Bool.and_eq_true] at hx
    simp only [Kd.av, AV.cells, List.length_append, Kd.size, kd_size k1 x hx.1, kd_size k2 y hx.2]
  | .row n, l, _ => l.2
  | .B, _, _ | .I _, _, _ | .S, _, _ | .P, _, _ | .L, _, _ | .M, _, _ => rfl
  | .U, x, hx => by simp [Kd.av, AV.cells, one_cells hx, Kd.size]
  | .tup _, _, hx => by cases hx
/-- A whole block is read. -/
theorem ldW {k : Kd} {x : k.T} {w : World} {g : Nat} {t : TypeId} {f : Nat × Nat} {K : k.T → Prop} (h : w.heap[g]? = some (.cells (k.av x).cells.toArray t f)) (hx : (k.av x).okLd = true) (hk : K x) : ld k w ⟨g, 0, none⟩ K :=
  ld_all k x hx (pre := []) (post := []) (by rw [List.nil_append, List.append_nil]; exact h) hk
end Go.Fl
namespace Go.Fl
open Go.RowKit

/-- What is asked of a type of keys. -/
structure KeyM (P : Program) (kt : TypeId) {κ : Type} (key : κ → Value) : Prop where
  inj : ∀ a b, key a = key b → a = b
  check : ∀ em w k, (Instr.checkKey em 10000 kt (key k)).run P w = .ok () w
  find : ∀ w k (es : List MapEntry), (∀ e ∈ es, ∃ k', e.key = key k') →
    ((Instr.findKey kt (key k) es).run P w = .ok none w ∧ ∀ e ∈ es, e.key ≠ key k) ∨ ∃ j e, (Instr.findKey kt (key k) es).run P w = .ok (some (j, e.val)) w ∧ es[j]? = some e ∧ e.key = key k
  same : ∀ k, Instr.sameBits 10000 (key k) (key k) = true

theorem findAsking_of {P : Program} {kt : TypeId} {κ : Type} {key : κ → Value} (w : World) (heq : ∀ a b, ∃ r : Bool, (Op.equal kt (key a) (key b)).run P w = .ok r w ∧ (r = true ↔ a = b)) (k : κ) :
    ∀ (es : List MapEntry) (i : Nat), (∀ e ∈ es, ∃ k', e.key = key k') →
      ((Instr.findAsking kt (key k) es i).run P w = .ok none w ∧ ∀ e ∈ es, ∀ k', e.key = key k' → k ≠ k') ∨
      ∃ j e, (Instr.findAsking kt (key k) es i).run P w = .ok (some (i + j, e.val)) w ∧ es[j]? = some e ∧ e.key = key k
  | [], i, _ => Or.inl ⟨by simp [Instr.findAsking], by simp⟩
  | e :: es, i, hall => by
    obtain ⟨k', hk'⟩ := hall e (by simp)
    obtain ⟨r, hr, hiff⟩ := heq k k'
    rw [← hk'] at hr
    cases r
    · rcases findAsking_of w heq k es (i + 1) (fun y hy => hall y (by simp [hy])) with ⟨h1, h2⟩ | ⟨j, e', h1, h2, h3⟩
      · left
        refine ⟨by simp [Instr.findAsking, hr, h1], fun y hy k2 hk2 he => ?_⟩
        rcases List.mem_cons.1 hy with rfl | hy
        · obtain ⟨r2, hr2, hiff2⟩ := heq k k2
          rw [hk2, hr2] at hr
          cases hr
          exact absurd (hiff2.2 he) (by decide)
        · exact h2 y hy k2 hk2 he
      · right
        exact ⟨j + 1, e', by simp [Instr.findAsking, hr, h1, Nat.add_assoc, Nat.add_comm 1 j], by simpa using h2, h3⟩
    · right
      exact ⟨0, e, by simp [Instr.findAsking, hr], rfl, by rw [hk', hiff.1 rfl]⟩

/-- Rows of bytes as keys. -/
def keyB {n : Nat} (l : {l : List UInt8 // l.length = n}) : Value := .agg (u8s l.1).toArray
theorem u8s_inj : ∀ {a b : List UInt8}, u8s a = u8s b → a = b
  | [], [], _ => rfl
  | [], _ :: _, h => by simp [u8s] at h
  | _ :: _, [], h => by simp [u8s] at h
  | x :: a, y :: b, h => by
    simp only [u8s, List.map_cons, List.cons.injEq, Value.int.injEq, true_and] at h
    have := u8s_inj (a := a) (b := b) h.2
    have e : x = y := UInt8.toNat_inj.1 (by omega)
    rw [this, e]
theorem sameBits_u8s (n : Nat) : ∀ l : List UInt8, ((u8s l).zip (u8s l)).all (fun (x, y) => Instr.sameBits n x y) = true
  | [] => rfl
  | x :: l => by
    have := sameBits_u8s n l
    simp only [u8s, List.map_cons, List.zip_cons_cons, List.all_cons, Bool.and_eq_true] at this ⊢
    exact ⟨by cases n <;> simp [Instr.sameBits], this⟩
theorem run_checkKey_bytes {P : Program} (em : Bool) (d : Nat) (t e : TypeId) (n : Nat) (ht : P.underlying t = some (.array n e)) (he : P.underlying e = some (.int .u8)) (hsz : ∀ w, (sizeOf e).run P w = .ok 1 w) (xs : List UInt8) (hx : xs.length = n) (w : World) :
    (Instr.checkKey em (d + 2) t (.agg (u8s xs).toArray)).run P w = .ok () w := by
  rw [Instr.checkKey]
  simp only [Sem.run_bind, run_underlying ht, Result.andThen_ok, Std.Legacy.Range.forIn_eq_forIn_range', Std.Legacy.Range.size, Nat.sub_zero, Nat.add_sub_cancel, Nat.div_one]
  have hl : ∀ i ∈ List.range' 0 n 1, i < n := fun i hi => by simpa using (List.mem_range'_1.1 hi).2
  generalize List.range' 0 n 1 = l at hl ⊢
  induction l with
  | nil => simp
  | cons i l ih =>
    have hi : i < n := hl i (by simp)
    have px : (part e (u8s xs).toArray (i * 1)).run P w = .ok (.int .u8 (xs.getD i 0).toNat) w := by
      simp [part, isAgg, run_underlying he, u8s, List.getD, List.getElem?_eq_getElem (show i < xs.length by omega)]
    have pc : (Instr.checkKey em (d + 1) e (.int .u8 (xs.getD i 0).toNat)).run P w = .ok () w := by
      rw [Instr.checkKey]
      simp [run_underlying he]
    simp only [List.forIn_cons, Sem.run_bind, hsz, px, pc, Result.andThen_ok, Sem.run_pure] at ih ⊢
    exact ih fun j hj => hl j (by simp [hj])
theorem keyM_bytes {P : Program} {t e : TypeId} {n : Nat} (ht : P.underlying t = some (.array n e)) (he : P.underlying e = some (.int .u8)) (hsz : ∀ w, (sizeOf e).run P w = .ok 1 w) : KeyM P t (keyB (n := n)) where
  inj a b h := by
    unfold keyB at h
    rw [Value.agg.injEq] at h
    exact Subtype.ext (u8s_inj (by simpa using h))
  check em w k := run_checkKey_bytes em 9998 t e n ht he hsz k.1 k.2 w
  find w k es hes := by
    have heq : ∀ a b : {l : List UInt8 // l.length = n}, ∃ r : Bool, (Op.equal t (keyB a) (keyB b)).run P w = .ok r w ∧ (r = true ↔ a = b) := fun a b =>
      ⟨a.1 == b.1, run_equalIn_bytes w 9998 t e n ht he hsz a.1 b.1 a.2 b.2, by rw [beq_iff_eq]; exact Subtype.ext_iff.symm⟩
    have hfind : (Instr.findKey t (keyB k) es).run P w = (Instr.findAsking t (keyB k) es 0).run P w := by
      cases es with
      | nil => simp [Instr.findKey, run_underlying ht, Instr.findNow, Instr.findAsking]
      | cons x es => simp [Instr.findKey, run_underlying ht, Instr.findNow, Instr.sameNow]
    rw [hfind]
    rcases findAsking_of w heq k es 0 hes with ⟨h1, h2⟩ | ⟨j, x, h1, h2, h3⟩
    · exact .inl ⟨h1, fun x hx h => h2 x hx k h rfl⟩
    · exact .inr ⟨j, x, by simpa using h1, h2, h3⟩
  same k := by
    unfold keyB
    simp only [Instr.sameBits, BEq.rfl, Bool.true_and]
    exact sameBits_u8s _ _
/-- Integers as keys. -/
theorem keyM_int {P : Program} {t : TypeId} {q : IntKind} (ht : P.underlying t = some (.int q)) : KeyM P t (Value.int q) where
  inj a b h := by injection h
  check em w k := by rw [Instr.checkKey]; simp [run_underlying ht]
  find w k es hes := by
    have key : ∀ (es : List MapEntry) (i : Nat), (∀ e ∈ es, ∃ k', e.key = Value.int q k') →
        (Instr.findNow (.int q) (.int q k) es i = some none ∧ ∀ e ∈ es, e.key ≠ .int q k) ∨ ∃ j e, Instr.findNow (.int q) (.int q k) es i = some (some (i + j, e.val)) ∧ es[j]? = some e ∧ e.key = .int q k := by
      intro es
      induction es with
      | nil => exact fun i _ => .inl ⟨rfl, by simp⟩
      | cons e es ih =>
        intro i hall
        obtain ⟨k', hk'⟩ := hall e (by simp)
        by_cases h : k = k'
        · exact .inr ⟨0, e, by simp [Instr.findNow, Instr.sameNow, hk', h], rfl, by rw [hk', h]⟩
        · have hb : (k == k') = false := by simpa using h
          rcases ih (i + 1) (fun y hy => hall y (by simp [hy])) with ⟨h1, h2⟩ | ⟨j, e', h1, h2, h3⟩
          · refine .inl ⟨by simp only [Instr.findNow, Instr.sameNow, hk', if_true, hb]; exact h1, fun y hy => ?_⟩
            rcases List.mem_cons.1 hy with rfl | hy
            · rw [hk']; intro e; injection e with _ e; exact h e.symm
            · exact h2 y hy
          · exact .inr ⟨j + 1, e', by simp only [Instr.findNow, Instr.sameNow, hk', if_true, hb]; rw [h1]; simp [Nat.add_assoc, Nat.add_comm 1 j], by simpa using h2, h3⟩
    rcases key es 0 hes with ⟨h1, h2⟩ | ⟨j, x, h1, h2, h3⟩
    · exact .inl ⟨by simp [Instr.findKey, run_underlying ht, h1], h2⟩
    · exact .inr ⟨j, x, by simp [Instr.findKey, run_underlying ht, h1], h2, h3⟩
  same k := by simp [Instr.sameBits]

/-- A map's block, as a function. -/
structure MapF {κ : Type} (key : κ → Value) (w : World) (r : Nat) (f : κ → Option Value) : Prop where
  mk ::
  ex : ∃ es clock, w.heap[r]? = some (.map es clock) ∧ (∀ e ∈ es.toList, ∃ k, e.key = key k ∧ f k = some e.val) ∧ (es.toList.map (·.key)).Nodup ∧ ∀ k v, f k = some v → ∃ e ∈ es.toList, e.key = key k ∧ e.val = v
section
variable {κ : Type} {key : κ → Value} {w : World} {r : Nat} {f : κ → Option Value} {P : Program} {t kt et : TypeId}
theorem MapF.sub {w' : World} (h : MapF key w r f) (hb : w'.heap[r]? = w.heap[r]?) : MapF key w' r f := by
  obtain ⟨es, clock, h1, h2⟩ := h.ex
  exact ⟨es, clock, hb.trans h1, h2⟩
theorem MapF.lt (h : MapF key w r f) : r < w.heap.size := by
  obtain ⟨es, clock, h1, _⟩ := h.ex
  exact (Array.getElem?_eq_some_iff.1 h1).1
theorem MapF.new (w : World) (key : κ → Value) : MapF key (w.alloc (.map #[] 0)) w.heap.size (fun _ => none) :=
  ⟨#[], 0, heap_alloc_new w _, by simp, by simp, by simp⟩
theorem run_lookM (K : KeyM P kt key) (ht : P.underlying t = some (.map kt et)) {z : Value} (hz : ∀ w, (zeroValue et).run P w = .ok z w) (h : MapF key w r f) (k : κ) (ok : Bool) :
    (Instr.lookup t (.map (some r)) (key k) ok).run P w = .ok (if ok then .tuple #[(f k).getD z, .bool (f k).isSome] else (f k).getD z) w := by
  obtain ⟨es, clock, h1, h2, h3, h4⟩ := h.ex
  rcases K.find w k es.toList (fun e he => (h2 e he).imp fun k h => h.1) with ⟨hf, hn⟩ | ⟨j, e, hf, hj, hk⟩
  · have hfk : f k = none := by
      cases hfk : f k with
      | none => rfl
      | some v =>
        obtain ⟨e, he, hek, _⟩ := h4 k v hfk
        exact absurd hek (hn e he)
    cases ok <;> simp [Instr.lookup, run_underlying ht, Go.MapKept.run_getObj_map h1, K.check, hf, hz, hfk]
  · have hfk : f k = some e.val := by
      obtain ⟨k', hk', hv⟩ := h2 e (List.mem_of_getElem? hj)
      rw [hk] at hk'
      rw [K.inj _ _ hk']; exact hv
    cases ok <;> simp [Instr.lookup, run_underlying ht, Go.MapKept.run_getObj_map h1, K.check, hf, hfk]
/-- A key is looked up. -/
theorem qnM (K : KeyM P kt key) (ht : P.underlying t = some (.map kt et)) {z : Value} (hz : ∀ w, (zeroValue et).run P w = .ok z w) (h : MapF key w r f) (k : κ) {ok : Bool} {kd : Kd} {Q : kd.T → Prop} (x : kd.T)
    (hx : (kd.av x).val = if ok then .tuple #[(f k).getD z, .bool (f k).isSome] else (f k).getD z) (hQ : Q x) : qn P (Instr.lookup t (.map (some r)) (key k) ok) kd w Q :=
  ⟨x, fun w' hw' => by rw [hx]; exact run_lookM K ht hz (h.sub (hw' r h.lt)) k ok, hQ⟩
/-- A key is put. -/
theorem ruM [DecidableEq κ] (K : KeyM P kt key) (ht : P.underlying t = some (.map kt et)) (h : MapF key w r f) (k : κ) (v : Value) {Q : World → Prop}
    (hQ : ∀ w', MapF key w' r (fun k' => if k' = k then some v else f k') → w.grownBy w' (some r) → w'.heap.size = w.heap.size → Q w') : ru P (Instr.mapUpdate t (.map (some r)) (key k) v) w Q := by
  obtain ⟨es, clock, h1, h2, h3, h4⟩ := h.ex
  have hr := h.lt
  have hgrow : ∀ o : Obj, w.grownBy { w with heap := w.heap.setIfInBounds r o } (some r) := fun o =>
    ⟨rfl, rfl, rfl, by simp, fun k _ hk => by
      have : r ≠ k := fun e => hk (by rw [e])
      simp [this]⟩
  rcases K.find w k es.toList (fun e he => (h2 e he).imp fun k h => h.1) with ⟨hf, hn⟩ | ⟨j, e, hf, hj, hk⟩
  · refine ⟨{ w with heap := w.heap.setIfInBounds r (.map (es.push { key := key k, val := v, born := clock }) (clock + 1)) }, ?_, hQ _ ⟨es.push { key := key k, val := v, born := clock }, clock + 1, ?_, ?_, ?_, ?_⟩ (hgrow _) (by simp)⟩
    · simp [Instr.mapUpdate, run_underlying ht, Go.MapKept.run_getObj_map h1, K.check, hf, Go.MapKept.run_setObj_map _ h1]
    · simp [hr]
    · intro x hx
      rw [Array.toList_push, List.mem_append, List.mem_singleton] at hx
      rcases hx with hx | rfl
      · obtain ⟨k', hk', hv⟩ := h2 x hx
        refine ⟨k', hk', ?_⟩
        rw [if_neg fun e => hn x hx (by rw [hk', e])]; exact hv
      · exact ⟨k, rfl, if_pos rfl⟩
    · rw [Array.toList_push, List.map_append, List.nodup_append]
      refine ⟨h3, by simp, ?_⟩
      intro a ha b hb
      simp only [List.map_cons, List.map_nil, List.mem_singleton] at hb
      obtain ⟨x, hx, rfl⟩ := List.mem_map.1 ha
      rw [hb]; exact hn x hx
    · intro k' v' hv'
      rw [Array.toList_push]
      by_cases e : k' = k
      · rw [if_pos e] at hv'
        exact ⟨_, List.mem_append_right _ (List.mem_singleton.2 rfl), by rw [e], Option.some.inj hv'⟩
      · rw [if_neg e] at hv'
        obtain ⟨x, hx, h5⟩ := h4 k' v' hv'
        exact ⟨x, List.mem_append_left _ hx, h5⟩
  · have hjl : j < es.toList.length := (List.getElem?_eq_some_iff.1 hj).1
    have hjs : j < es.size := by simpa using hjl
    have hj' : es[j]? = some e := by simpa using hj
    refine ⟨{ w with heap := w.heap.setIfInBounds r (.map (es.modify j fun x => { x with key := key k, val := v }) clock) }, ?_, hQ _ ⟨es.modify j fun x => { x with key := key k, val := v }, clock, ?_, ?_, ?_, ?_⟩ (hgrow _) (by simp)⟩
    · have hs : (Instr.keyThatStays e.key (key k)).run P w = .ok (key k) w := by
        rw [hk]; simp [Instr.keyThatStays, K.same]
      simp [Instr.mapUpdate, run_underlying ht, Go.MapKept.run_getObj_map h1, K.check, hf, hj', hs, Go.MapKept.run_setObj_map _ h1]
    · simp [hr]
    all_goals rw [show (es.modify j fun x => { x with key := key k, val := v }).toList = es.toList.set j { e with key := key k, val := v } from by
      apply List.ext_getElem?
      intro i
      rw [Array.toList_modify, List.getElem?_modify, List.getElem?_set]
      by_cases h : j = i
      · subst h
        rw [hj]
        simp only [if_true]
        rw [if_pos hjl]
        rfl
      · simp [h]]
    · intro x hx
      obtain ⟨i, hi⟩ := List.mem_iff_getElem?.1 hx
      rw [List.getElem?_set] at hi
      by_cases h : j = i
      · subst h
        rw [if_pos rfl, if_pos hjl, Option.some.injEq] at hi
        subst hi
        exact ⟨k, rfl, if_pos rfl⟩
      · rw [if_neg h] at hi
        obtain ⟨k', hk', hv⟩ := h2 x (List.mem_of_getElem? hi)
        refine ⟨k', hk', ?_⟩
        rw [if_neg]
        · exact hv
        · rintro rfl
          have e1 : (es.toList.map (·.key))[i]? = some (key k') := by rw [List.getElem?_map, hi]; simp [hk']
          have e2 : (es.toList.map (·.key))[j]? = some (key k') := by rw [List.getElem?_map, hj]; simp [hk]
          have hil : i < (es.toList.map (·.key)).length := (List.getElem?_eq_some_iff.1 e1).1
          exact h (((List.getElem?_inj hil h3).1 (e1.trans e2.symm)).symm)
    · rw [List.map_set]
      have : (es.toList.map (·.key)).set j (key k) = es.toList.map (·.key) := by
        apply List.ext_getElem?
        intro i
        rw [List.getElem?_set]
        split
        · rename_i h
          subst h
          rw [List.getElem?_map, hj]
          simp [hk, hjs]
        · rfl
      rw [this]; exact h3
    · intro k' v' hv'
      by_cases hkk : k' = k
      · rw [if_pos hkk] at hv'
        exact ⟨_, List.mem_iff_getElem?.2 ⟨j, by rw [List.getElem?_set, if_pos rfl, if_pos hjl]⟩, by rw [hkk], Option.some.inj hv'⟩
      · rw [if_neg hkk] at hv'
        obtain ⟨x, hx, h5, h6⟩ := h4 k' v' hv'
        obtain ⟨i, hi⟩ := List.mem_iff_getElem?.1 hx
        refine ⟨x, List.mem_iff_getElem?.2 ⟨i, ?_⟩, h5, h6⟩
        rw [List.getElem?_set, if_neg]
        · exact hi
        · rintro rfl
          rw [hj] at hi
          cases hi
          exact hkk (K.inj _ _ (h5.symm.trans hk))
/-- A key is taken out. -/
theorem rnD [DecidableEq κ] {ty : TypeId} (K : KeyM P kt key) (ht : P.underlying t = some (.map kt et)) (h : MapF key w r f) (k : κ) {Q : Unit → World → Prop}
    (hQ : ∀ w', MapF key w' r (fun k' => if k' = k then none else f k') → w.grownBy w' (some r) → w'.heap.size = w.heap.size → Q () w') : rn P (Builtin.delete_ #[t, kt] ty #[.map (some r), key k]) (.tup .nil) w Q := by
  obtain ⟨es, clock, h1, h2, h3, h4⟩ := h.ex
  have hr := h.lt
  have hgrow : ∀ o : Obj, w.grownBy { w with heap := w.heap.setIfInBounds r o } (some r) := fun o =>
    ⟨rfl, rfl, rfl, by simp, fun k _ hk => by
      have : r ≠ k := fun e => hk (by rw [e])
      simp [this]⟩
  rcases K.find w k es.toList (fun e he => (h2 e he).imp fun k h => h.1) with ⟨hf, hn⟩ | ⟨j, e, hf, hj, hk⟩
  · refine ⟨(), { w with heap := w.heap.setIfInBounds r (.map es clock) }, ?_, hQ _ ⟨es, clock, ?_, ?_, h3, ?_⟩ (hgrow _) (by simp)⟩
    · simp [Builtin.delete_, run_underlying ht, Go.MapKept.run_getObj_map h1, K.check, hf, Go.MapKept.run_setObj_map _ h1]
      rfl
    · simp [hr]
    · intro x hx
      obtain ⟨k', hk', hv⟩ := h2 x hx
      refine ⟨k', hk', ?_⟩
      rw [if_neg fun e => hn x hx (by rw [hk', e])]; exact hv
    · intro k' v' hv'
      by_cases e : k' = k
      · rw [if_pos e] at hv'; cases hv'
      · rw [if_neg e] at hv'; exact h4 k' v' hv'
  · have hjl : j < es.toList.length := (List.getElem?_eq_some_iff.1 hj).1
    refine ⟨(), { w with heap := w.heap.setIfInBounds r (.map (es.eraseIdxIfInBounds j) clock) }, ?_, hQ _ ⟨es.eraseIdxIfInBounds j, clock, ?_, ?_, ?_, ?_⟩ (hgrow _) (by simp)⟩
    · simp [Builtin.delete_, run_underlying ht, Go.MapKept.run_getObj_map h1, K.check, hf, Go.MapKept.run_setObj_map _ h1]
      rfl
    · simp [hr]
    all_goals rw [show (es.eraseIdxIfInBounds j).toList = es.toList.eraseIdx j from by simp [Array.eraseIdxIfInBounds]; split <;> simp_all]
    · intro x hx
      obtain ⟨i, hij, hi⟩ := List.mem_eraseIdx_iff_getElem?.1 hx
      obtain ⟨k', hk', hv⟩ := h2 x (List.mem_of_getElem? hi)
      refine ⟨k', hk', ?_⟩
      rw [if_neg]
      · exact hv
      · rintro rfl
        have e1 : (es.toList.map (·.key))[i]? = some (key k') := by rw [List.getElem?_map, hi]; simp [hk']
        have e2 : (es.toList.map (·.key))[j]? = some (key k') := by rw [List.getElem?_map, hj]; simp [hk]
        have hil : i < (es.toList.map (·.key)).length := (List.getElem?_eq_some_iff.1 e1).1
        exact hij (((List.getElem?_inj hil h3).1 (e1.trans e2.symm)))
    · exact h3.sublist ((List.eraseIdx_sublist _ _).map _)
    · intro k' v' hv'
      by_cases hkk : k' = k
      · rw [if_pos hkk] at hv'; cases hv'
      · rw [if_neg hkk] at hv'
        obtain ⟨x, hx, h5, h6⟩ := h4 k' v' hv'
        obtain ⟨i, hi⟩ := List.mem_iff_getElem?.1 hx
        refine ⟨x, List.mem_eraseIdx_iff_getElem?.2 ⟨i, ?_, hi⟩, h5, h6⟩
        rintro rfl
        rw [hj] at hi
        cases hi
        exact hkk (K.inj _ _ (h5.symm.trans hk))
end
/-- A new map. -/
theorem rnNewM {P : Program} {t : TypeId} {κ : Type} {key : κ → Value} {w : World} {Q : Option Nat → World → Prop} (hQ : ∀ m w', m = w.heap.size → MapF key w' m (fun _ => none) → Fr w w' → w'.heap.size = w.heap.size + 1 → Q (some m) w') : rn P (Instr.makeMap t none) .M w Q :=
  ⟨some w.heap.size, w.alloc (.map #[] 0), run_makeMap _ _, hQ _ _ rfl (MapF.new w key) (Fr.alloc _ _) (by simp)⟩
end Go.Fl
namespace Go.Fl

abbrev RecT := Int × Int × {l : List Value // l.length = 32} × Sl × Unit
abbrev slV (s : Sl) : Value := .slice s.a s.n s.c
/-- A record's cells, ahead of others. -/
def rcL (p : RecT) (post : List Value) : List Value := .int .i64 p.1 :: .int .i64 p.2.1 :: (p.2.2.1.1 ++ (slV p.2.2.2.1 :: post))
theorem rcL_nil (p : RecT) : (([.int .i64 p.1, .int .i64 p.2.1] : List Value) ++ (p.2.2.1.1 ++ ([.slice p.2.2.2.1.a p.2.2.2.1.n p.2.2.2.1.c] : List Value))) = rcL p [] := rfl
theorem rcL_length (p : RecT) (post : List Value) : (rcL p post).length = 35 + post.length := by
  simp only [rcL, List.length_cons, List.length_append, p.2.2.1.2]; omega
/-- A row is stored, from a place on. -/
theorem stL_at {g o : Nat} {t : TypeId} : ∀ {vs : List Value} {cs : List Value} {i : Nat} {w : World} {K : World → Prop}, w.heap[g]? = some (.cells cs.toArray t (0, 0)) → o + i + vs.length ≤ cs.length → (∀ v ∈ vs, v.oneCell' = true) →
    (∀ w', w'.heap[g]? = some (.cells (cs.take (o + i) ++ vs ++ cs.drop (o + i + vs.length)).toArray t (0, 0)) → w.grownBy w' (some g) → w'.heap.size = w.heap.size → K w') → stL ⟨g, o, none⟩ w i vs K
  | [], cs, i, w, K, h, _, _, hk => by
    refine hk w ?_ (World.grownBy.refl _ _) rfl
    simpa using h
  | v :: vs, cs, i, w, K, h, hi, h1, hk => by
    simp only [List.length_cons] at hi
    refine ⟨h1 v (by simp), ?_⟩
    rw [addOff]
    refine st0 h (by simp; omega) fun w' hb hg hs => ?_
    refine stL_at (cs := cs.set (o + i) v) (i := i + 1) (by simpa using hb) (by simp; omega) (fun u hu => h1 u (by simp [hu])) fun w2 hb2 hg2 hs2 => hk w2 ?_ (hg.trans hg2) (hs2.trans hs)
    have e : (cs.set (o + i) v).take (o + (i + 1)) ++ vs ++ (cs.set (o + i) v).drop (o + (i + 1) + vs.length) = cs.take (o + i) ++ (v :: vs) ++ cs.drop (o + i + (v :: vs).length) := by
      rw [← Nat.add_assoc o i 1, List.take_set, List.drop_set_of_lt (by omega), List.take_succ_eq_append_getElem (by omega), List.set_append_right _ _ (by simp; omega), List.length_take, List.length_cons, Nat.min_eq_left (by omega), Nat.sub_self]
      simp [Nat.add_assoc, Nat.add_comm 1]
    rw [hb2, e]
theorem set_mid (pre rest : List Value) (x v : Value) : (pre ++ x :: rest).set pre.length v = pre ++ v :: rest := by
  rw [List.set_append_right _ _ (Nat.le_refl _), Nat.sub_self, List.set_cons_zero]
theorem mid3 (A R R' X : List Value) {o m : Nat} (ho : A.length = o) (hm : R.length = m) (hR : R'.length = m) : (A ++ (R' ++ X)).take o ++ R ++ (A ++ (R' ++ X)).drop (o + m) = A ++ R ++ X := by
  subst ho hm
  rw [List.take_left' rfl, ← hR, List.drop_append, List.drop_eq_nil_of_le (by omega), Nat.add_sub_cancel_left, List.drop_left' rfl]
  simp
/-- A record is stored into a block. -/
theorem stRec {w : World} {g : Nat} {pre post : List Value} {q : RecT} {t : TypeId} (hg : w.heap[g]? = some (.cells (pre ++ rcL q post).toArray t (0, 0))) (p : RecT) (hone : ∀ v ∈ p.2.2.1.1, v.oneCell' = true) {K : World → Prop}
    (hk : ∀ w', w'.heap[g]? = some (.cells (pre ++ rcL p post).toArray t (0, 0)) → w.grownBy w' (some g) → w'.heap.size = w.heap.size → K w') :
    st1 w ⟨g, pre.length, none⟩ (.int .i64 p.1) fun w1 => st1 w1 ((⟨g, pre.length, none⟩ : Addr).add 1) (.int .i64 p.2.1) fun w2 => stL (((⟨g, pre.length, none⟩ : Addr).add 1).add 1) w2 0 p.2.2.1.1 fun w3 => st1 w3 ((((⟨g, pre.length, none⟩ : Addr).add 1).add 1).add 32) (.slice p.2.2.2.1.a p.2.2.2.1.n p.2.2.2.1.c) K := by
  have hp := p.2.2.1.2
  have hq := q.2.2.1.2
  refine st0 hg (by simp [rcL]) fun w1 h1 g1 s1 => ?_
  rw [List.setIfInBounds_toArray, rcL, set_mid] at h1
  rw [addOff]
  refine st0 h1 (by simp) fun w2 h2 g2 s2 => ?_
  have e2 : (pre ++ .int .i64 p.1 :: .int .i64 q.2.1 :: (q.2.2.1.1 ++ (slV q.2.2.2.1 :: post))) = (pre ++ [.int .i64 p.1]) ++ .int .i64 q.2.1 :: (q.2.2.1.1 ++ (slV q.2.2.2.1 :: post)) := by simp
  rw [List.setIfInBounds_toArray, e2, show pre.length + 1 = (pre ++ [Value.int .i64 p.1]).length from by simp, set_mid] at h2
  rw [addOff, show pre.length + 1 + 1 = pre.length + 2 from rfl]
  refine stL_at h2 (by simp [hp, hq]; omega) hone fun w3 h3 g3 s3 => ?_
  have e3 : ((pre ++ [Value.int .i64 p.1]) ++ .int .i64 p.2.1 :: (q.2.2.1.1 ++ (slV q.2.2.2.1 :: post))).take (pre.length + 2 + 0) ++ p.2.2.1.1 ++ ((pre ++ [Value.int .i64 p.1]) ++ .int .i64 p.2.1 :: (q.2.2.1.1 ++ (slV q.2.2.2.1 :: post))).drop (pre.length + 2 + 0 + p.2.2.1.1.length) =
      (pre ++ [Value.int .i64 p.1, .int .i64 p.2.1] ++ p.2.2.1.1) ++ slV q.2.2.2.1 :: post := by
    have e : ((pre ++ [Value.int .i64 p.1]) ++ .int .i64 p.2.1 :: (q.2.2.1.1 ++ (slV q.2.2.2.1 :: post))) = (pre ++ [Value.int .i64 p.1, .int .i64 p.2.1]) ++ (q.2.2.1.1 ++ (slV q.2.2.2.1 :: post)) := by simp
    rw [e, Nat.add_zero]
    exact (mid3 _ _ _ _ (by simp) rfl (hq.trans hp.symm)).trans (by simp)
  rw [e3] at h3
  rw [addOff]
  refine st0 h3 (by simp [hp]; omega) fun w4 h4 g4 s4 => hk w4 ?_ (((g1.trans g2).trans g3).trans g4) (by omega)
  rw [List.setIfInBounds_toArray, show pre.length + 2 + 32 = (pre ++ [Value.int .i64 p.1, .int .i64 p.2.1] ++ p.2.2.1.1).length from by simp [hp], set_mid] at h4
  rw [h4]
  simp [rcL]
/-- A record's kind and data are written. -/
theorem stKD {w : World} {g : Nat} {p : RecT} {t : TypeId} {k : Int} {s : Sl} {K : World → Prop} (hg : w.heap[g]? = some (.cells (rcL p []).toArray t (0, 0)))
    (hk : ∀ w', w'.heap[g]? = some (.cells (rcL (k, p.2.1, p.2.2.1, s, ()) []).toArray t (0, 0)) → w.grownBy w' (some g) → w'.heap.size = w.heap.size → K w') :
    st1 w ⟨g, 0, none⟩ (.int .i64 k) fun w1 => st1 w1 ((⟨g, 0, none⟩ : Addr).add 34) (.slice s.a s.n s.c) K := by
  have hp := p.2.2.1.2
  refine st0 hg (by simp [rcL]) fun w1 h1 g1 s1 => ?_
  rw [addOff]
  have e1 : (rcL p []).toArray.setIfInBounds 0 (.int .i64 k) = ((Value.int .i64 k :: .int .i64 p.2.1 :: p.2.2.1.1) ++ (slV p.2.2.2.1 :: [])).toArray := by
    rw [List.setIfInBounds_toArray]; simp [rcL]
  rw [e1] at h1
  refine st0 h1 (by simp [hp]) fun w2 h2 g2 s2 => hk w2 ?_ (g1.trans g2) (by omega)
  rw [List.setIfInBounds_toArray, show 0 + 34 = (Value.int .i64 k :: .int .i64 p.2.1 :: p.2.2.1.1).length from by simp [hp], set_mid] at h2
  rw [h2]
  simp [rcL]
/-- A record is read. -/
theorem ldRec {w : World} {g : Nat} {pre post : List Value} {p : RecT} {t : TypeId} {f : Nat × Nat} (hg : w.heap[g]? = some (.cells (pre ++ rcL p post).toArray t f)) {K : RecT → Prop} (hk : K p) :
    ld (.pair (.I .i64) (.pair (.I .i64) (.pair (.row 32) (.pair .L .nil)))) w ⟨g, pre.length, none⟩ K := by
  obtain ⟨k, s, r, sl, ⟨⟩⟩ := p
  have hr := r.2
  refine ⟨k, ?_, s, ?_, ?_⟩
  · rw [cell_of_row w g _ _ t f hg]; simp [rcL]
  · show w.cell? ((⟨g, pre.length, none⟩ : Addr).add 1) = _
    rw [addOff, cell_of_row w g _ _ t f hg]; simp [rcL]
  · show ld (.row 32) w (((⟨g, pre.length, none⟩ : Addr).add 1).add 1) _
    rw [addOff, addOff]
    refine ldRow (vs := r.1) hg ?_ hr ?_
    · have e : pre ++ rcL (k, s, r, sl, ()) post = (pre ++ [.int .i64 k, .int .i64 s]) ++ (r.1 ++ (slV sl :: post)) := by simp [rcL]
      rw [e, List.drop_left' (by simp), List.take_left' hr]
    · refine ⟨sl, ?_, hk⟩
      show w.cell? (Addr.add ⟨g, pre.length + 1 + 1, none⟩ 32) = _
      rw [addOff, cell_of_row w g _ _ t f hg]
      have e : pre ++ rcL (k, s, r, sl, ()) post = (pre ++ [.int .i64 k, .int .i64 s] ++ r.1) ++ (slV sl :: post) := by simp [rcL]
      have hl : (pre ++ [Value.int .i64 k, .int .i64 s] ++ r.1).length = pre.length + 1 + 1 + 32 := by simp [hr]
      rw [show (pre ++ rcL (k, s, r, sl, PUnit.unit) post) = (pre ++ [.int .i64 k, .int .i64 s] ++ r.1) ++ (slV sl :: post) from e, List.getElem?_toArray, List.getElem?_append_right (by omega), hl, Nat.sub_self]
      rfl
end Go.Fl
namespace Go.Fl

/-- No block turns but those of F. -/
structure Mv (F : Nat → Prop) (w w' : World) : Prop where
  os : w'.os = w.os
  tape : w'.tape = w.tape
  output : w'.output = w.output
  size : w.heap.size ≤ w'.heap.size
  block : ∀ k, k < w.heap.size → ¬F k → w'.heap[k]? = w.heap[k]?
theorem Mv.refl (F : Nat → Prop) (w : World) : Mv F w w := ⟨rfl, rfl, rfl, Nat.le_refl _, fun _ _ _ => rfl⟩
theorem Mv.of_fr {F : Nat → Prop} {w w' : World} (h : Fr w w') : Mv F w w' := ⟨h.os, h.tape, h.output, h.size, fun k hk _ => h.block k hk⟩
theorem Mv.of_grown {F : Nat → Prop} {w w' : World} {g : Nat} (h : w.grownBy w' (some g)) (hF : F g) : Mv F w w' := ⟨h.os, h.tape, h.output, h.size, fun k hk hn => h.block k hk fun e => hn (by cases e; exact hF)⟩
theorem Mv.trans {F G : Nat → Prop} {a b c : World} (h : Mv F a b) (k : Mv G b c) (hG : ∀ j, G j → F j ∨ a.heap.size ≤ j) : Mv F a c :=
  ⟨k.os.trans h.os, k.tape.trans h.tape, k.output.trans h.output, Nat.le_trans h.size k.size, fun j hj hn => (k.block j (Nat.lt_of_lt_of_le hj h.size) fun hg => by rcases hG j hg with h1 | h1; exact hn h1; omega).trans (h.block j hj hn)⟩
theorem Mv.mono {F G : Nat → Prop} {a b : World} (h : Mv F a b) (hG : ∀ j, F j → G j ∨ a.heap.size ≤ j) : Mv G a b :=
  ⟨h.os, h.tape, h.output, h.size, fun j hj hn => h.block j hj fun hf => by rcases hG j hf with h1 | h1; exact hn h1; omega⟩
theorem Mv.fr {F : Nat → Prop} {a b : World} (h : Mv F a b) (hF : ∀ j, F j → a.heap.size ≤ j) : Fr a b := ⟨h.os, h.tape, h.output, h.size, fun j hj => h.block j hj fun hf => by have := hF j hf; omega⟩
/-- From a later world: what turns is newer. -/
theorem Mv.on {F : Nat → Prop} {a b c : World} (h : Fr a b) (k : Mv F b c) (hF : ∀ j, F j → a.heap.size ≤ j) : Fr a c :=
  ((Mv.of_fr (F := fun _ => False) h).trans k fun j hj => .inr (hF j hj)).fr fun _ h => h.elim
theorem Mv.heap {F : Nat → Prop} {w w' : World} (h : Mv F w w') {g : Nat} {o : Obj} (hg : w.heap[g]? = some o) (hF : ¬F g) : w'.heap[g]? = some o :=
  (h.block g (Array.getElem?_eq_some_iff.1 hg).1 hF).trans hg
theorem Mv.kp {F : Nat → Prop} {w w' : World} (h : Mv F w w') : Kp (fun k => ¬F k) w w' := fun k hk hn => h.block k hk hn
/-- One thing, cell by cell with another one. -/
def All2 {α β : Type} (R : α → β → Prop) : List α → List β → Prop
  | [], [] => True
  | a :: l, b :: m => R a b ∧ All2 R l m
  | _, _ => False
theorem All2.length {α β : Type} {R : α → β → Prop} : ∀ {l : List α} {m : List β}, All2 R l m → l.length = m.length
  | [], [], _ => rfl
  | _ :: _, _ :: _, h => by simp [All2.length h.2]
  | [], _ :: _, h => h.elim
  | _ :: _, [], h => h.elim
theorem All2.mono {α β : Type} {R S : α → β → Prop} : ∀ {l : List α} {m : List β}, All2 R l m → (∀ a b, a ∈ l → b ∈ m → R a b → S a b) → All2 S l m
  | [], [], _, _ => trivial
  | _ :: _, _ :: _, h, hk => ⟨hk _ _ (by simp) (by simp) h.1, All2.mono h.2 fun a b ha hb hr => hk a b (by simp [ha]) (by simp [hb]) hr⟩
  | [], _ :: _, h, _ => h.elim
  | _ :: _, [], h, _ => h.elim
theorem All2.append {α β : Type} {R : α → β → Prop} : ∀ {l : List α} {m : List β} {l' : List α} {m' : List β}, All2 R l m → All2 R l' m' → All2 R (l ++ l') (m ++ m')
  | [], [], _, _, _, h' => h'
  | _ :: _, _ :: _, _, _, h, h' => ⟨h.1, All2.append h.2 h'⟩
  | [], _ :: _, _, _, h, _ => h.elim
  | _ :: _, [], _, _, h, _ => h.elim
theorem All2.get {α β : Type} {R : α → β → Prop} : ∀ {l : List α} {m : List β}, All2 R l m → ∀ {i : Nat} (h1 : i < l.length) (h2 : i < m.length), R l[i] m[i]
  | _ :: _, _ :: _, h, 0, _, _ => h.1
  | _ :: _, _ :: _, h, _ + 1, h1, h2 => All2.get h.2 (by simpa using h1) (by simpa using h2)
theorem All2.drop {α β : Type} {R : α → β → Prop} : ∀ {l : List α} {m : List β}, All2 R l m → ∀ (i : Nat), All2 R (l.drop i) (m.drop i)
  | [], [], _, i => by cases i <;> trivial
  | _ :: _, _ :: _, h, 0 => h
  | _ :: _, _ :: _, h, i + 1 => All2.drop h.2 i
  | [], _ :: _, h, _ => h.elim
  | _ :: _, [], h, _ => h.elim
theorem All2.take {α β : Type} {R : α → β → Prop} : ∀ {l : List α} {m : List β}, All2 R l m → ∀ (i : Nat), All2 R (l.take i) (m.take i)
  | [], [], _, i => by cases i <;> trivial
  | _ :: _, _ :: _, _, 0 => trivial
  | _ :: _, _ :: _, h, i + 1 => ⟨h.1, All2.take h.2 i⟩
  | [], _ :: _, h, _ => h.elim
  | _ :: _, [], h, _ => h.elim
theorem All2.of_get {α β : Type} {R : α → β → Prop} : ∀ {l : List α} {m : List β}, l.length = m.length → (∀ i (h1 : i < l.length) (h2 : i < m.length), R l[i] m[i]) → All2 R l m
  | [], [], _, _ => trivial
  | a :: l, b :: m, hl, h => ⟨h 0 (by simp) (by simp), All2.of_get (by simpa using hl) fun i h1 h2 => h (i + 1) (by simpa using h1) (by simpa using h2)⟩
  | [], _ :: _, hl, _ => by simp at hl
  | _ :: _, [], hl, _ => by simp at hl
/-- Cells that stay, apart from what may turn. -/
theorem Rd.mv {F : Nat → Prop} {w w' : World} {A : Option Addr} {xs : List Value} (h : Rd w A xs) (hm : Mv F w w') (hF : xs ≠ [] → ∀ ad, A = some ad → ¬F ad.block) : Rd w' A xs := by
  cases xs with
  | nil => exact Rd.nil _ _
  | cons x xs => exact Kp.rd h hm.kp (hF (by simp))
theorem Rd.lt {w : World} {A : Option Addr} {xs : List Value} (h : Rd w A xs) (hx : xs ≠ []) : ∀ ad, A = some ad → ad.block < w.heap.size := fun ad ha => by
  cases xs with
  | nil => exact absurd rfl hx
  | cons x xs =>
    obtain ⟨ad', ha', hc⟩ := h 0 x rfl
    rw [ha] at ha'
    cases ha'
    have := World.block_lt_of_cell? w _ hc
    rwa [add_block] at this
/-- Bytes that nobody turns. -/
structure Cb (w : World) (Z : Nat → Prop) (s : Sl) (l : List UInt8) : Prop where
  bs : Bs w s l
  cold : l ≠ [] → ∀ ad, s.a = some ad → ¬Z ad.block
theorem Cb.mv {F Z Z' : Nat → Prop} {w w' : World} {s : Sl} {l : List UInt8} (h : Cb w Z s l) (hm : Mv F w w') (hF : ∀ k, F k → Z k ∨ w.heap.size ≤ k) (hZ : ∀ k, Z' k → Z k ∨ w.heap.size ≤ k) : Cb w' Z' s l := by
  have hlt : l ≠ [] → ∀ ad, s.a = some ad → ad.block < w.heap.size := fun hl => h.bs.lt hl
  refine ⟨h.bs.kpn hm.kp fun hl ad ha hf => ?_, fun hl ad ha hz => ?_⟩
  · rcases hF _ hf with h1 | h1
    · exact h.cold hl ad ha h1
    · have := hlt hl ad ha; omega
  · rcases hZ _ hz with h1 | h1
    · exact h.cold hl ad ha h1
    · have := hlt hl ad ha; omega
theorem Cb.anti {Z Z' : Nat → Prop} {w : World} {s : Sl} {l : List UInt8} (h : Cb w Z s l) (hZ : ∀ k, Z' k → Z k) : Cb w Z' s l := ⟨h.bs, fun hl ad ha hz => h.cold hl ad ha (hZ _ hz)⟩
theorem Cb.nil (w : World) (Z : Nat → Prop) (c : Nat) : Cb w Z ⟨none, 0, c⟩ [] := ⟨Bs.nil _ _, fun h => absurd rfl h⟩
theorem Cb.own {w : World} {Z : Nat → Prop} {base : Nat} {e : TypeId} {s : Sl} {l : List UInt8} (h : OwB w base e s l) (hZ : ∀ k, Z k → k < base) : Cb w Z s l := ⟨h.bs, fun _ ad ha hz => by have := (h.own ad ha).1; have := hZ _ hz; omega⟩
abbrev slsV (hs : List Sl) : List Value := hs.map slV
theorem slsV_one (hs : List Sl) : ∀ v ∈ slsV hs, v.oneCell' = true := fun v hv => by
  obtain ⟨s, _, rfl⟩ := List.mem_map.1 hv
  rfl
/-- A row of slices of bytes that nobody turns. -/
structure RwB (w : World) (Z : Nat → Prop) (s : Sl) (hs : List Sl) (ls : List (List UInt8)) : Prop where
  rd : Rd w s.a (slsV hs)
  len : s.n = hs.length
  cap : s.n ≤ s.c
  cold : hs ≠ [] → ∀ ad, s.a = some ad → ¬Z ad.block
  all : All2 (Cb w Z) hs ls
theorem RwB.mv {F Z Z' : Nat → Prop} {w w' : World} {s : Sl} {hs : List Sl} {ls : List (List UInt8)} (h : RwB w Z s hs ls) (hm : Mv F w w') (hF : ∀ k, F k → Z k ∨ w.heap.size ≤ k) (hZ : ∀ k, Z' k → Z k ∨ w.heap.size ≤ k) : RwB w' Z' s hs ls := by
  have hne : slsV hs ≠ [] → hs ≠ [] := fun h e => h (by rw [e]; rfl)
  have hlt : hs ≠ [] → ∀ ad, s.a = some ad → ad.block < w.heap.size := fun hl => h.rd.lt fun e => hl (List.map_eq_nil_iff.1 e)
  refine ⟨h.rd.mv hm fun hx ad ha hf => ?_, h.len, h.cap, fun hl ad ha hz => ?_, h.all.mono fun a b _ _ hr => hr.mv hm hF hZ⟩
  · rcases hF _ hf with h1 | h1
    · exact h.cold (hne hx) ad ha h1
    · have := hlt (hne hx) ad ha; omega
  · rcases hZ _ hz with h1 | h1
    · exact h.cold hl ad ha h1
    · have := hlt hl ad ha; omega
theorem RwB.nil (w : World) (Z : Nat → Prop) (c : Nat) : RwB w Z ⟨none, 0, c⟩ [] [] := ⟨Rd.nil _ _, rfl, Nat.zero_le _, fun h => absurd rfl h, trivial⟩
theorem RwB.count {w : World} {Z : Nat → Prop} {s : Sl} {hs : List Sl} {ls : List (List UInt8)} (h : RwB w Z s hs ls) : s.n = ls.length := by rw [h.len, h.all.length]
/-- A row of slices of the call's own. -/
def OwS (w : World) (base : Nat) (e : TypeId) (s : Sl) (hs : List Sl) : Prop := w.ownsRow base e 1 (.slice s.a s.n s.c) s.n (slsV hs)
theorem OwS.len {w : World} {base : Nat} {e : TypeId} {s : Sl} {hs : List Sl} (h : OwS w base e s hs) : s.n = hs.length := by
  have := h.1; rw [List.length_map] at this; omega
theorem OwS.cap {w : World} {base : Nat} {e : TypeId} {s : Sl} {hs : List Sl} (h : OwS w base e s hs) : s.n ≤ s.c := by
  rcases h.2 with ⟨hv, hn⟩ | ⟨g, cap, cur, hv, _, _, hc, _⟩
  · injection hv with _ h1 h2; omega
  · injection hv with _ h1 h2; omega
theorem OwS.rd {w : World} {base : Nat} {e : TypeId} {s : Sl} {hs : List Sl} (h : OwS w base e s hs) : Rd w s.a (slsV hs) := Rd.of_own h
theorem OwS.nil (w : World) (base : Nat) (e : TypeId) : OwS w base e ⟨none, 0, 0⟩ [] := World.ownsRow_nil w base e 1
theorem OwS.fr {w w' : World} {base : Nat} {e : TypeId} {s : Sl} {hs : List Sl} (h : OwS w base e s hs) (hf : Fr w w') : OwS w' base e s hs := own_kept h hf
theorem OwS.own {w : World} {base : Nat} {e : TypeId} {s : Sl} {hs : List Sl} (h : OwS w base e s hs) : ∀ ad, s.a = some ad → base ≤ ad.block ∧ ad.block < w.heap.size := fun ad ha => World.ownsRow.lt h ad.block (by rw [ha]; rfl)
theorem OwS.mono {w : World} {base base' : Nat} {e : TypeId} {s : Sl} {hs : List Sl} (h : OwS w base e s hs) (hb : base' ≤ base) : OwS w base' e s hs := by
  refine ⟨h.1, ?_⟩
  rcases h.2 with hn | ⟨g, cap, cur, hv, hg, rest⟩
  · exact .inl hn
  · exact .inr ⟨g, cap, cur, hv, Nat.le_trans hb hg, rest⟩
theorem own_kp {S : Nat → Prop} {w w' : World} {base size n c : Nat} {e : TypeId} {A : Option Addr} {xs : List Value} {m : Nat} (h : w.ownsRow base e size (.slice A n c) m xs) (hk : Kp S w w') (hS : ∀ ad, A = some ad → S ad.block) : w'.ownsRow base e size (.slice A n c) m xs := by
  refine ⟨h.1, ?_⟩
  rcases h.2 with hn | ⟨g, cap, cur, hv, hb, hgg, rest⟩
  · exact .inl hn
  · have ha : A = some ⟨g, 0, none⟩ := by injection hv
    exact .inr ⟨g, cap, cur, hv, hb, (hk g (Array.getElem?_eq_some_iff.1 hgg).1 (hS _ ha)).trans hgg, rest⟩
theorem OwS.mv {F : Nat → Prop} {w w' : World} {base : Nat} {e : TypeId} {s : Sl} {hs : List Sl} (h : OwS w base e s hs) (hm : Mv F w w') (hF : ∀ ad, s.a = some ad → ¬F ad.block) : OwS w' base e s hs := own_kp h hm.kp hF
theorem OwB.mv {F : Nat → Prop} {w w' : World} {base : Nat} {e : TypeId} {s : Sl} {l : List UInt8} (h : OwB w base e s l) (hm : Mv F w w') (hF : ∀ ad, s.a = some ad → ¬F ad.block) : OwB w' base e s l := own_kp h hm.kp hF
/-- One more slice behind an own row. -/
theorem app_S {P : Program} {t ty e : TypeId} {bytes : Nat} (hT : SlT P t e 1 bytes) (hb24 : bytes ≤ 24) {base : Nat} {s x : Sl} {w : World} {K : Sl → World → Prop} {hs ms : List Sl}
    (ho : OwS w base e s hs) (hx : Rd w x.a (slsV ms)) (hm : ms.length = x.n) (hl : hs.length + ms.length ≤ 1099511627776) (hbase : base ≤ w.heap.size)
    (h : ∀ (r : Sl) w', OwS w' base e r (hs ++ ms) → w.grownBy w' (Value.slice s.a s.n s.c).ownBlock → ((Value.slice r.a r.n r.c).ownBlock = (Value.slice s.a s.n s.c).ownBlock ∨ (Value.slice r.a r.n r.c).ownBlock = some w.heap.size) → K r w') : app P t ty s x w K := by
  have hn := ho.len
  refine app_own hT ho hx (by rw [List.length_map, hm, Nat.mul_one]) (slsV_one ms) ?_ (by omega) hbase fun r w' hr ho' hg hat => h r w' ?_ hg hat
  · have : (s.n + x.n) * bytes ≤ 1099511627776 * 24 := Nat.mul_le_mul (by omega) hb24
    omega
  · unfold OwS
    have e : slsV (hs ++ ms) = slsV hs ++ slsV ms := by simp [slsV]
    rw [e]; exact ho'
theorem ownB_slice' (s : Sl) : (Value.slice s.a s.n s.c).ownBlock = s.a.map (·.block) := by cases h : s.a <;> simp [Value.ownBlock]
theorem OwS.own' {w : World} {base : Nat} {e : TypeId} {s : Sl} {hs : List Sl} (h : OwS w base e s hs) : ∀ k, (Value.slice s.a s.n s.c).ownBlock = some k → base ≤ k ∧ k < w.heap.size := fun k hk => World.ownsRow.lt h k hk
theorem ownB_slice (s : Sl) : (Value.slice s.a s.n s.c).ownBlock = s.a.map (·.block) := by cases h : s.a <;> simp [Value.ownBlock]
/-- A slice of a row of slices. -/
theorem ixS {w w' : World} {s : Sl} {hs : List Sl} {i : Int} {j : Nat} {K : Sl → Prop} (hr : Rd w s.a (slsV hs)) (hl : s.n = hs.length) (hij : i = (j : Int)) (hj : j < hs.length) (hw : Fr w w') (h : K hs[j]) : ixa s.a s.n i 1 fun a => ld .L w' a K := by
  subst hij
  obtain ⟨ad, ha, hc⟩ := (hr.below hw).at j (by simpa using hj)
  refine ⟨by omega, by omega, ?_⟩
  rw [ha]
  rw [List.getElem_map] at hc
  exact ⟨hs[j], hc, h⟩
/-- A part of a row of slices. -/
theorem RwB.cut {w : World} {Z : Nat → Prop} {s : Sl} {hs : List Sl} {ls : List (List UInt8)} (h : RwB w Z s hs ls) {i j : Nat} (hij : i ≤ j) (hj : j ≤ hs.length) : RwB w Z (cut s i j 1) ((hs.take j).drop i) ((ls.take j).drop i) := by
  have hl := h.len
  have hc := h.cap
  have hr : Rd w s.a (slsV (hs.take j)) := by
    have := h.rd.take j
    rwa [show (slsV hs).take j = slsV (hs.take j) from by simp [slsV, List.map_take]] at this
  have hd := hr.drop i
  rw [show (slsV (hs.take j)).drop i = slsV ((hs.take j).drop i) from by simp [slsV, List.map_drop]] at hd
  have hne : (hs.take j).drop i ≠ [] → hs ≠ [] := fun h e => h (by rw [e]; simp)
  refine ⟨?_, by simp [Fl.cut, List.length_take]; omega, by simp [Fl.cut]; omega, fun hx ad ha => ?_, (h.all.take j).drop i⟩
  · unfold Fl.cut
    by_cases hci : s.c = i
    · simp only [hci, if_true]
      have : (hs.take j).drop i = [] := by rw [List.drop_eq_nil_iff, List.length_take]; omega
      rw [this]; exact Rd.nil _ _
    · rw [if_neg hci, show (fun x => atOff x (i : Int) 1) = fun x : Addr => x.add i from rfl]
      exact hd
  · unfold Fl.cut at ha
    split at ha
    · exact h.cold (hne hx) ad ha
    · cases hs' : s.a with
      | none => rw [hs'] at ha; cases ha
      | some ad' =>
        rw [hs'] at ha
        simp only [Option.map_some, Option.some.injEq] at ha
        rw [← ha, atOff_eq, add_block]
        exact h.cold (hne hx) ad' hs'
/-- append to a new empty slice: no block that was there turns. -/
theorem app0V {P : Program} {t ty e : TypeId} {size bytes : Nat} (hT : SlT P t e size bytes) {base b : Nat} {x : Sl} {w : World} {K : Sl → World → Prop} {ms : List Value} (hb : w.heap[b]? = some (.cells #[] e (0, 0))) (hbb : base ≤ b) (hx : Rd w x.a ms) (hn : ms.length = x.n * size) (h1 : ∀ u ∈ ms, u.oneCell' = true)
    (hby8 : x.n * bytes ≤ 140737488355328) (hl : x.n ≤ 140737488355328) (hbase : base ≤ w.heap.size)
    (h : ∀ (r : Sl) w', r.n = x.n → w'.ownsRow base e size (.slice r.a r.n r.c) r.n ms → Fr w w' → K r w') : app P t ty ⟨some ⟨b, 0, none⟩, 0, 0⟩ x w K := by
  obtain ⟨i, z, hi, hz, hsize, hby, hzs⟩ := hT.info
  have hpos := hT.pos
  cases ms with
  | nil =>
    obtain ⟨A, n, c⟩ := x
    have hn0 : n = 0 := by
      rcases Nat.eq_zero_or_pos n with h0 | h0
      · exact h0
      · have := Nat.mul_pos h0 hpos
        simp at hn; omega
    subst hn0
    exact ⟨_, w, run_append_none w hT.under hi _ _ (Nat.le_refl _), h _ _ rfl ⟨by simp, .inr ⟨b, 0, #[], rfl, hbb, hb, Nat.le_refl _, Nat.zero_le _, by simp, by simp⟩⟩ (Fr.refl w)⟩
  | cons u m =>
    obtain ⟨ad, ha, _⟩ := hx 0 u rfl
    have hxn : 0 < x.n := by
      rcases Nat.eq_zero_or_pos x.n with h0 | h0
      · rw [h0] at hn; simp at hn
      · exact h0
    obtain ⟨v', w', hrun, ho, hg⟩ := run_append_arg_grows (P := P) w t ty e i z size bytes hT.under hi hz hsize hby hzs hpos ⟨b, 0, none⟩ 0 0 [] (by simp) (fun j u hu => by simp at hu) ad x.n x.c (u :: m) hn
      (fun j u' hu => by obtain ⟨ad', ha', hc⟩ := hx j u' hu; rw [ha] at ha'; cases ha'; exact hc) (by omega) (by simp only [maxLen]; omega) (by rw [Nat.zero_add]; exact hby8)
    rw [Nat.zero_add, List.nil_append] at ho
    obtain ⟨r, rfl, hrn⟩ := sl_of_own ho
    refine ⟨r, w', by rw [ha]; exact hrun, h r w' hrn ?_ ⟨hg.os, hg.tape, hg.output, hg.size, fun k hk => hg.block k hk (by simp)⟩⟩
    refine ⟨by rw [hrn]; exact ho.1, ?_⟩
    rcases ho.2 with ⟨hv, h0⟩ | ⟨g, cap, cur, hv, hgb, hgg, hnc, hcm, hsz, ht⟩
    · exact .inl ⟨hv, by omega⟩
    · exact .inr ⟨g, cap, cur, by rw [hv, hrn], by omega, hgg, by omega, hcm, hsz, by rw [hrn]; exact ht⟩
/-- clear of a part of a known block. -/
theorem rnClear {P : Program} {t e ty : TypeId} {z : Value} {sz : Nat} {w : World} {s : Sl} {K : Unit → World → Prop} (ht : P.underlying t = some (.slice e)) (hz : ∀ w, (zeroValue e).run P w = .ok z w) (hzs : z.cells.size = sz) (h1 : ∀ v ∈ z.cells.toList, v.oneCell' = true)
    (h0 : s.n = 0 → K () w)
    (h : s.n ≠ 0 → ∃ (g o : Nat) (cs : List Value) (tt : TypeId), s.a = some ⟨g, o, none⟩ ∧ w.heap[g]? = some (.cells cs.toArray tt (0, 0)) ∧ o + s.n * sz ≤ cs.length ∧
      ∀ w' cs', w'.heap[g]? = some (.cells (cs' : List Value).toArray tt (0, 0)) → cs'.length = cs.length → cs'.take o = cs.take o → w.grownBy w' (some g) → w'.heap.size = w.heap.size → K () w') : rn P (Builtin.clear_ #[t] ty #[.slice s.a s.n s.c]) (.tup .nil) w K := by
  by_cases hn : s.n = 0
  · refine ⟨(), w, ?_, h0 hn⟩
    rw [hn]
    cases s.a <;> (simp [Builtin.clear_, run_underlying ht]; rfl)
  · obtain ⟨g, o, cs, tt, ha, hb, hl, hk⟩ := h hn
    have hzl : (Builtin.zeroCells z.cells s.n).toList.length = s.n * sz := by rw [Array.length_toList, size_zeroCells, hzs]
    have hz1 : ∀ v ∈ (Builtin.zeroCells z.cells s.n).toList, v.oneCell' = true := by
      intro v hv
      rcases Nat.eq_zero_or_pos sz with h0 | hp
      · rw [h0, Nat.mul_zero] at hzl
        rw [List.eq_nil_of_length_eq_zero hzl] at hv; cases hv
      · simp only [Builtin.zeroCells, Array.toList_map, List.mem_map] at hv
        obtain ⟨i, _, rfl⟩ := hv
        have hlt : i % z.cells.size < z.cells.size := Nat.mod_lt _ (by omega)
        rw [getElem!_pos z.cells _ hlt]
        exact h1 _ (by simp)
    have hst : stL ⟨g, o, none⟩ w 0 (Builtin.zeroCells z.cells s.n).toList fun w' => K () w' := by
      refine stL_at hb (by rw [hzl]; omega) hz1 fun w' hb' hg' hs' => hk w' _ hb' ?_ ?_ hg' hs'
      · rw [List.length_append, List.length_append, List.length_take, List.length_drop, hzl]
        generalize s.n * sz = q at *
        omega
      · rw [Nat.add_zero, List.append_assoc]
        exact List.take_left' (by rw [List.length_take]; generalize s.n * sz = q at *; omega)
    obtain ⟨w', hr, hk'⟩ := run_stL (P := P) hst
    refine ⟨(), w', ?_, hk'⟩
    obtain ⟨m, hm⟩ : ∃ m, s.n = m + 1 := ⟨s.n - 1, by omega⟩
    rw [ha]
    rw [hm] at hr ⊢
    simp [Builtin.clear_, run_underlying ht, hz, hr]
    rfl
end Go.Fl
namespace Go.Fl

/-- A slot. -/
structure SV where
  sum : List UInt8
  data : Sl
  pins : Int
  prev : Int
  next : Int
abbrev Slots := Nat → SV
def upS (f : Slots) (i : Nat) (v : SV) : Slots := fun j => if j = i then v else f j
theorem up_same (f : Slots) (i : Nat) (v : SV) : upS f i v i = v := if_pos rfl
theorem up_ne (f : Slots) {i j : Nat} (v : SV) (h : j ≠ i) : upS f i v j = f j := if_neg h
/-- Who stands ahead of the k-th, and behind it. -/
def pv (ids : List Nat) : Nat → Int
  | 0 => -1
  | k + 1 => match ids[k]? with
    | some j => (j : Int)
    | none => -1
def nx (ids : List Nat) (k : Nat) : Int := match ids[k]? with
  | some j => (j : Int)
  | none => -1
/-- The slots are linked in this order. -/
structure Chain (f : Slots) (ids : List Nat) (old young : Int) : Prop where
  nd : ids.Nodup
  old : old = nx ids 0
  young : young = pv ids ids.length
  prev : ∀ k i, ids[k]? = some i → (f i).prev = pv ids k
  next : ∀ k i, ids[k]? = some i → (f i).next = nx ids (k + 1)
/-- A slot at the young end. -/
def linkF (f : Slots) (old young : Int) (i : Nat) : Slots × Int × Int :=
  let f1 := upS f i { f i with prev := young, next := -1 }
  if young ≠ -1 then (upS f1 young.toNat { f1 young.toNat with next := (i : Int) }, old, (i : Int)) else (f1, (i : Int), (i : Int))
/-- A slot goes out. -/
def unlinkF (f : Slots) (old young : Int) (i : Nat) : Slots × Int × Int :=
  let s := f i
  let a : Slots × Int := if s.prev ≠ -1 then (upS f s.prev.toNat { f s.prev.toNat with next := s.next }, old) else (f, s.next)
  if s.next ≠ -1 then (upS a.1 s.next.toNat { a.1 s.next.toNat with prev := s.prev }, a.2, young) else (a.1, a.2, s.prev)
/-- Sums, data and pins are the same. -/
structure SameD (f g : Slots) : Prop where
  sum : ∀ j, (g j).sum = (f j).sum
  data : ∀ j, (g j).data = (f j).data
  pins : ∀ j, (g j).pins = (f j).pins
theorem SameD.refl (f : Slots) : SameD f f := ⟨fun _ => rfl, fun _ => rfl, fun _ => rfl⟩
theorem SameD.upS {f g : Slots} (h : SameD f g) {i : Nat} {v : SV} (h1 : v.sum = (g i).sum) (h2 : v.data = (g i).data) (h3 : v.pins = (g i).pins) : SameD f (upS g i v) := by
  refine ⟨fun j => ?_, fun j => ?_, fun j => ?_⟩ <;> by_cases e : j = i
  · subst e; rw [up_same, h1]; exact h.sum j
  · rw [up_ne _ _ e]; exact h.sum j
  · subst e; rw [up_same, h2]; exact h.data j
  · rw [up_ne _ _ e]; exact h.data j
  · subst e; rw [up_same, h3]; exact h.pins j
  · rw [up_ne _ _ e]; exact h.pins j
theorem SameD.eq {f g : Slots} (h : SameD f g) (j : Nat) : g j = { f j with prev := (g j).prev, next := (g j).next } := by
  have key : ∀ s t : SV, s.sum = t.sum → s.data = t.data → s.pins = t.pins → s = { t with prev := s.prev, next := s.next } := by
    rintro ⟨_, _, _, _, _⟩ ⟨_, _, _, _, _⟩ h1 h2 h3
    dsimp only at h1 h2 h3
    subst h1 h2 h3
    rfl
  exact key _ _ (h.sum j) (h.data j) (h.pins j)
theorem unlink_keep (f : Slots) (old young : Int) (i : Nat) : SameD f (unlinkF f old young i).1 := by
  unfold unlinkF
  dsimp only
  split <;> split
  · refine SameD.upS ?_ rfl rfl rfl
    exact SameD.upS (SameD.refl f) rfl rfl rfl
  · exact SameD.upS (SameD.refl f) rfl rfl rfl
  · exact SameD.upS (SameD.refl f) rfl rfl rfl
  · exact SameD.refl f
theorem link_keep (f : Slots) (old young : Int) (i : Nat) : SameD f (linkF f old young i).1 := by
  unfold linkF
  dsimp only
  split
  · refine SameD.upS ?_ rfl rfl rfl
    exact SameD.upS (SameD.refl f) rfl rfl rfl
  · exact SameD.upS (SameD.refl f) rfl rfl rfl
section
variable {f : Slots} {ids : List Nat} {old young : Int}
theorem pv_ge (ids : List Nat) (k : Nat) : -1 ≤ pv ids k := by
  cases k with
  | zero => exact Int.le_refl _
  | succ k => simp only [pv]; split <;> omega
theorem nx_ge (ids : List Nat) (k : Nat) : -1 ≤ nx ids k := by
  unfold nx; split <;> omega
theorem nx_some {k i : Nat} (h : ids[k]? = some i) : nx ids k = (i : Int) := by unfold nx; rw [h]
theorem nx_none {k : Nat} (h : ids.length ≤ k) : nx ids k = -1 := by unfold nx; rw [List.getElem?_eq_none h]
theorem pv_some {k i : Nat} (h : ids[k]? = some i) : pv ids (k + 1) = (i : Int) := by
  show (match ids[k]? with | some j => (j : Int) | none => -1) = _
  rw [h]
theorem nd_get (h : ids.Nodup) {k j i : Nat} (h1 : ids[k]? = some i) (h2 : ids[j]? = some i) : k = j :=
  (List.getElem?_inj (List.getElem?_eq_some_iff.1 h1).1 h).1 (h1.trans h2.symm)
/-- The k-th goes out. -/
theorem Chain.unlink (h : Chain f ids old young) {k i : Nat} (hk : ids[k]? = some i) : Chain (unlinkF f old young i).1 (ids.eraseIdx k) (unlinkF f old young i).2.1 (unlinkF f old young i).2.2 ∧
    (∀ j, (unlinkF f old young i).1 j = { f j with prev := ((unlinkF f old young i).1 j).prev, next := ((unlinkF f old young i).1 j).next }) := by
  have hkl := (List.getElem?_eq_some_iff.1 hk).1
  have hp := h.prev k i hk
  have hn := h.next k i hk
  have hget : ∀ m, (ids.eraseIdx k)[m]? = if m < k then ids[m]? else ids[m + 1]? := fun m => List.getElem?_eraseIdx
  have hlen : (ids.eraseIdx k).length = ids.length - 1 := by rw [List.length_eraseIdx, if_pos hkl]
  -- the links as a function of the place
  have epv : ∀ m, m ≤ ids.length - 1 → pv (ids.eraseIdx k) m = if m ≤ k then pv ids m else pv ids (m + 1) := by
    intro m hm
    cases m with
    | zero => rw [if_pos (Nat.zero_le _)]; rfl
    | succ m =>
      show (match (ids.eraseIdx k)[m]? with | some j => (j : Int) | none => -1) = _
      rw [hget]
      by_cases h1 : m < k
      · rw [if_pos h1, if_pos (by omega)]; rfl
      · rw [if_neg h1, if_neg (by omega)]; rfl
  have enx : ∀ m, nx (ids.eraseIdx k) m = if m < k then nx ids m else nx ids (m + 1) := by
    intro m
    unfold nx
    rw [hget]
    by_cases h1 : m < k
    · rw [if_pos h1, if_pos h1]
    · rw [if_neg h1, if_neg h1]
  -- what the function does at a place
  have hprevI : ∀ {q : Nat}, k = q + 1 → ∃ a, ids[q]? = some a ∧ (f i).prev = (a : Int) := fun {q} e => by
    have : q < ids.length := by omega
    refine ⟨ids[q], List.getElem?_eq_getElem this, ?_⟩
    rw [hp, e]
    exact pv_some (List.getElem?_eq_getElem this)
  have hnextI : k + 1 < ids.length → ∃ b, ids[k + 1]? = some b ∧ (f i).next = (b : Int) := fun hl => ⟨ids[k + 1], List.getElem?_eq_getElem hl, by rw [hn]; exact nx_some (List.getElem?_eq_getElem hl)⟩
  have hval : ∀ m j, ids[m]? = some j → m ≠ k → ((unlinkF f old young i).1 j).prev = (if m = k + 1 then (f i).prev else (f j).prev) ∧ ((unlinkF f old young i).1 j).next = (if m + 1 = k then (f i).next else (f j).next) := by
    intro m j hm hmk
    have key : ∀ a : Slots × Int, a = (if (f i).prev ≠ -1 then (upS f (f i).prev.toNat { f (f i).prev.toNat with next := (f i).next }, old) else (f, (f i).next)) →
        (a.1 j).prev = (f j).prev ∧ (a.1 j).next = if m + 1 = k then (f i).next else (f j).next := by
      rintro a rfl
      split
      · rename_i hne
        cases hk0 : k with
        | zero => rw [hk0] at hp; exact absurd hp hne
        | succ q =>
          obtain ⟨b, hb, hbe⟩ := hprevI hk0
          by_cases hjb : j = b
          · subst hjb
            have : m = q := nd_get h.nd hm hb
            rw [if_pos (by omega), hbe, Int.toNat_natCast]
            show (upS f j _ j).prev = _ ∧ (upS f j _ j).next = _
            rw [up_same]
            exact ⟨rfl, rfl⟩
          · rw [if_neg (fun e => hjb (by have : m = q := by omega
                                         subst this
                                         rw [hb] at hm; exact (Option.some.inj hm).symm)), hbe, Int.toNat_natCast]
            show (upS f b _ j).prev = _ ∧ (upS f b _ j).next = _
            rw [up_ne _ _ hjb]
            exact ⟨rfl, rfl⟩
      · rename_i hne
        refine ⟨rfl, ?_⟩
        rw [if_neg]
        intro e
        obtain ⟨b, _, hbe⟩ := hprevI (q := m) e.symm
        omega
    unfold unlinkF
    dsimp only
    generalize ha : (if (f i).prev ≠ -1 then (upS f (f i).prev.toNat { f (f i).prev.toNat with next := (f i).next }, old) else (f, (f i).next)) = a
    obtain ⟨k1, k2⟩ := key a ha.symm
    split
    · rename_i hne
      have hl : k + 1 < ids.length := by
        apply Classical.byContradiction
        intro hh
        rw [nx_none (by omega)] at hn
        exact hne hn
      obtain ⟨b, hb, hbe⟩ := hnextI hl
      by_cases hjb : j = b
      · subst hjb
        have : m = k + 1 := nd_get h.nd hm hb
        rw [if_pos this, hbe, Int.toNat_natCast]
        show (upS a.1 j _ j).prev = _ ∧ (upS a.1 j _ j).next = _
        rw [up_same]
        rw [hbe] at k2
        exact ⟨rfl, k2⟩
      · rw [if_neg (fun e => hjb (by subst e; rw [hb] at hm; exact (Option.some.inj hm).symm)), hbe, Int.toNat_natCast]
        show (upS a.1 b _ j).prev = _ ∧ (upS a.1 b _ j).next = _
        rw [up_ne _ _ hjb]
        rw [hbe] at k2
        exact ⟨k1, k2⟩
    · rename_i hne
      refine ⟨?_, k2⟩
      rw [if_neg]
      · exact k1
      · intro e
        obtain ⟨b, _, hbe⟩ := hnextI (by have := (List.getElem?_eq_some_iff.1 hm).1; omega)
        omega
  refine ⟨⟨h.nd.sublist (List.eraseIdx_sublist ..), ?_, ?_, fun m j hm => ?_, fun m j hm => ?_⟩, fun j => ?_⟩
  · rw [enx]
    have : (unlinkF f old young i).2.1 = if (f i).prev ≠ -1 then old else (f i).next := by
      unfold unlinkF; dsimp only
      split <;> split <;> rfl
    rw [this]
    cases hk0 : k with
    | zero =>
      rw [hk0] at hp hn
      have hp : (f i).prev = -1 := hp
      rw [if_neg (by omega), if_neg (by omega)]
      exact hn
    | succ q =>
      obtain ⟨b, _, hbe⟩ := hprevI hk0
      rw [if_pos (by omega), if_pos (by omega)]
      exact h.old
  · have : (unlinkF f old young i).2.2 = if (f i).next ≠ -1 then young else (f i).prev := by
      unfold unlinkF; dsimp only
      split <;> split <;> rfl
    rw [this, hlen, epv _ (Nat.le_refl _)]
    by_cases hl : k + 1 < ids.length
    · obtain ⟨b, _, hbe⟩ := hnextI hl
      rw [if_pos (by omega), if_neg (by omega), h.young, Nat.sub_add_cancel (by omega)]
    · rw [nx_none (by omega)] at hn
      have hk1 : ids.length - 1 = k := by clear hnextI hprevI hval; omega
      rw [if_neg (by omega), hk1, if_pos (Nat.le_refl _), hp]
  · rw [hget] at hm
    have hml : m < (ids.eraseIdx k).length := by
      apply Classical.byContradiction
      intro hh
      rw [← hget, List.getElem?_eq_none (by omega)] at hm
      cases hm
    rw [hlen] at hml
    rw [epv m (by omega)]
    by_cases h1 : m < k
    · rw [if_pos h1] at hm
      rw [(hval m j hm (by omega)).1, if_neg (by omega), if_pos (by omega)]
      exact h.prev m j hm
    · rw [if_neg h1] at hm
      rw [(hval (m + 1) j hm (by omega)).1]
      by_cases h2 : m = k
      · rw [if_pos (by omega), if_pos (by omega), hp, h2]
      · rw [if_neg (by omega), if_neg (by omega)]
        exact h.prev (m + 1) j hm
  · rw [hget] at hm
    rw [enx]
    by_cases h1 : m < k
    · rw [if_pos h1] at hm
      rw [(hval m j hm (by omega)).2]
      by_cases h2 : m + 1 = k
      · rw [if_pos h2, if_neg (by omega), hn, h2]
      · rw [if_neg h2, if_pos (by omega)]
        exact h.next m j hm
    · rw [if_neg h1] at hm
      rw [(hval (m + 1) j hm (by omega)).2, if_neg (by omega), if_neg (by omega)]
      exact h.next (m + 1) j hm
  · exact ((unlink_keep f old young i).eq j)
/-- A slot that is not there goes to the young end. -/
theorem Chain.link (h : Chain f ids old young) {i : Nat} (hi : i ∉ ids) : Chain (linkF f old young i).1 (ids ++ [i]) (linkF f old young i).2.1 (linkF f old young i).2.2 := by
  have hnl : ∀ {m : Nat}, m < ids.length → (ids ++ [i])[m]? = ids[m]? := fun hm => List.getElem?_append_left hm
  have hat : (ids ++ [i])[ids.length]? = some i := by simp
  have epv : ∀ m, m ≤ ids.length → pv (ids ++ [i]) m = pv ids m := by
    intro m hm
    cases m with
    | zero => rfl
    | succ m =>
      show (match (ids ++ [i])[m]? with | some j => (j : Int) | none => -1) = _
      rw [hnl (by omega)]; rfl
  have enx : ∀ m, m < ids.length → nx (ids ++ [i]) m = nx ids m := by
    intro m hm
    unfold nx
    rw [hnl hm]
  have hcase : ∀ {m j : Nat}, (ids ++ [i])[m]? = some j → (m < ids.length ∧ ids[m]? = some j ∧ j ≠ i) ∨ (m = ids.length ∧ j = i) := fun {m j} hm => by
    by_cases h1 : m < ids.length
    · rw [hnl h1] at hm
      exact .inl ⟨h1, hm, fun e => hi (by rw [← e]; exact List.mem_of_getElem? hm)⟩
    · right
      have : m < (ids ++ [i]).length := (List.getElem?_eq_some_iff.1 hm).1
      rw [List.length_append, List.length_singleton] at this
      have e : m = ids.length := by omega
      subst e
      rw [hat] at hm
      exact ⟨rfl, (Option.some.inj hm).symm⟩
  have hy := h.young
  have hnd : (ids ++ [i]).Nodup := List.nodup_append.2 ⟨h.nd, by simp, fun a ha b hb => by rw [List.mem_singleton] at hb; rw [hb]; intro e; exact hi (by rw [← e]; exact ha)⟩
  cases hlen : ids.length with
  | zero =>
    have he : ids = [] := List.eq_nil_of_length_eq_zero hlen
    have hym : young = -1 := by rw [hy, hlen]; rfl
    have e1 : linkF f old young i = (upS f i { f i with prev := young, next := -1 }, (i : Int), (i : Int)) := by
      unfold linkF; dsimp only; rw [if_neg (by omega)]
    rw [e1]
    refine ⟨hnd, by rw [he]; rfl, by rw [he]; rfl, fun m j hm => ?_, fun m j hm => ?_⟩
    · rcases hcase hm with ⟨h1, _, _⟩ | ⟨h1, h2⟩
      · omega
      · subst h2
        show (upS f j _ j).prev = _
        rw [up_same, h1, hlen]
        exact hym
    · rcases hcase hm with ⟨h1, _, _⟩ | ⟨h1, h2⟩
      · omega
      · subst h2
        show (upS f j _ j).next = _
        rw [up_same, nx_none (by simp; omega)]
  | succ q =>
    obtain ⟨b, hb⟩ : ∃ b, ids[q]? = some b := ⟨ids[q], List.getElem?_eq_getElem (by omega)⟩
    have hyb : young = (b : Int) := by rw [hy, hlen]; exact pv_some hb
    have hbi : b ≠ i := fun e => hi (by rw [← e]; exact List.mem_of_getElem? hb)
    have e1 : linkF f old young i = (upS (upS f i { f i with prev := young, next := -1 }) b { f b with next := (i : Int) }, old, (i : Int)) := by
      unfold linkF; dsimp only
      rw [if_pos (by omega), hyb, Int.toNat_natCast, up_ne _ _ hbi]
    rw [e1]
    refine ⟨hnd, ?_, ?_, fun m j hm => ?_, fun m j hm => ?_⟩
    · rw [enx 0 (by omega)]; exact h.old
    · rw [List.length_append, List.length_singleton, pv_some hat]
    · rcases hcase hm with ⟨h1, h2, h3⟩ | ⟨h1, h2⟩
      · rw [epv m (by omega)]
        by_cases hjb : j = b
        · subst hjb
          show (upS (upS f i _) j _ j).prev = _
          rw [up_same]
          exact h.prev m j h2
        · show (upS (upS f i _) b _ j).prev = _
          rw [up_ne _ _ hjb, up_ne _ _ h3]
          exact h.prev m j h2
      · subst h2
        show (upS (upS f j _) b _ j).prev = _
        rw [up_ne _ _ (Ne.symm hbi), up_same, h1, epv _ (Nat.le_refl _)]
        exact hy
    · rcases hcase hm with ⟨h1, h2, h3⟩ | ⟨h1, h2⟩
      · by_cases hjb : j = b
        · subst hjb
          have : m = q := nd_get h.nd h2 hb
          show (upS (upS f i _) j _ j).next = _
          rw [up_same, this, show q + 1 = ids.length from by omega, nx_some hat]
        · have hmq : m ≠ q := fun e => hjb (by subst e; rw [hb] at h2; exact (Option.some.inj h2).symm)
          show (upS (upS f i _) b _ j).next = _
          rw [up_ne _ _ hjb, up_ne _ _ h3, enx (m + 1) (by omega)]
          exact h.next m j h2
      · subst h2
        show (upS (upS f j _) b _ j).next = _
        rw [up_ne _ _ (Ne.symm hbi), up_same, nx_none (by simp; omega)]
/-- What is not in the order may be anything; and a slot's sum, data and pins too. -/
theorem Chain.other (h : Chain f ids old young) {g : Slots} (hg : ∀ i ∈ ids, (g i).prev = (f i).prev ∧ (g i).next = (f i).next) : Chain g ids old young :=
  ⟨h.nd, h.old, h.young, fun k i hk => ((hg i (List.mem_of_getElem? hk)).1).trans (h.prev k i hk), fun k i hk => ((hg i (List.mem_of_getElem? hk)).2).trans (h.next k i hk)⟩
end
end Go.Fl
namespace Go.Fl

def slotV (s : SV) : List Value := u8s s.sum ++ [slV s.data, .int .i64 s.pins, .int .i64 s.prev, .int .i64 s.next]
theorem slotV_length {s : SV} (h : s.sum.length = 32) : (slotV s).length = 36 := by simp [slotV, u8s_length, h]
def slotsV (f : Slots) : Nat → List Value
  | 0 => []
  | n + 1 => slotsV f n ++ slotV (f n)
abbrev F32 (f : Slots) : Prop := ∀ i, (f i).sum.length = 32
theorem F32.upS {f : Slots} (h : F32 f) {i : Nat} {v : SV} (hv : v.sum.length = 32) : F32 (upS f i v) := fun j => by
  by_cases e : j = i
  · subst e; rw [up_same]; exact hv
  · rw [up_ne _ _ e]; exact h j
theorem slotsV_length {f : Slots} (h : F32 f) : ∀ n, (slotsV f n).length = 36 * n
  | 0 => rfl
  | n + 1 => by rw [slotsV, List.length_append, slotsV_length h n, slotV_length (h n)]; omega
theorem slotsV_up {f : Slots} {i : Nat} (v : SV) : ∀ {n}, n ≤ i → slotsV (upS f i v) n = slotsV f n
  | 0, _ => rfl
  | n + 1, hn => by rw [slotsV, slotsV, slotsV_up v (by omega), up_ne _ _ (by omega)]
theorem slotsV_congr {f g : Slots} : ∀ {n}, (∀ i, i < n → f i = g i) → slotsV f n = slotsV g n
  | 0, _ => rfl
  | n + 1, h => by rw [slotsV, slotsV, slotsV_congr fun i hi => h i (by omega), h n (by omega)]
theorem slotsV_split {f : Slots} (h : F32 f) {i : Nat} : ∀ {n}, i < n → ∃ post, slotsV f n = slotsV f i ++ slotV (f i) ++ post ∧ ∀ v, slotsV (upS f i v) n = slotsV f i ++ slotV v ++ post
  | n + 1, hn => by
    by_cases e : i = n
    · subst e
      refine ⟨[], by rw [List.append_nil]; rfl, fun v => ?_⟩
      rw [List.append_nil, slotsV, slotsV_up v (Nat.le_refl _), up_same]
    · obtain ⟨post, h1, h2⟩ := slotsV_split h (i := i) (n := n) (by omega)
      refine ⟨post ++ slotV (f n), by rw [slotsV, h1, List.append_assoc], fun v => ?_⟩
      rw [slotsV, h2 v, up_ne _ _ (by omega), List.append_assoc]
/-- The rows of slots in memory. -/
def SlR (w : World) (b : Nat) (f : Slots) (n : Nat) (t : TypeId) (post : List Value) : Prop := w.heap[b]? = some (.cells (slotsV f n ++ post).toArray t (0, 0))
theorem ixSl {b n : Nat} {p : Int} {i : Nat} {K : Addr → Prop} (hp : p = (i : Int)) (hi : i < n) (h : K ⟨b, 36 * i, none⟩) : ixa (some ⟨b, 0, none⟩) n p 36 K := by
  refine ⟨by omega, by omega, ?_⟩
  show K (Addr.add _ _)
  rw [addOff, hp, Int.toNat_natCast, Nat.zero_add, Nat.mul_comm]
  exact h
section
variable {w : World} {b n : Nat} {f : Slots} {t : TypeId} {post : List Value} {i : Nat}
theorem SlR.at (_h : SlR w b f n t post) (h32 : F32 f) (hi : i < n) {o : Nat} (ho : o < 36) : (slotsV f n ++ post).toArray[36 * i + o]? = (slotV (f i))[o]? := by
  obtain ⟨q, h1, _⟩ := slotsV_split h32 hi
  rw [h1, List.getElem?_toArray, List.append_assoc, List.append_assoc, List.getElem?_append_right (by rw [slotsV_length h32]; omega), slotsV_length h32, Nat.add_sub_cancel_left,
    List.getElem?_append_left (by rw [slotV_length (h32 i)]; exact ho)]
theorem slot_tail (s : SV) (h : s.sum.length = 32) (o : Nat) : (slotV s)[32 + o]? = ([slV s.data, .int .i64 s.pins, .int .i64 s.prev, .int .i64 s.next] : List Value)[o]? := by
  unfold slotV
  rw [List.getElem?_append_right (by rw [u8s_length, h]; omega), u8s_length, h, Nat.add_sub_cancel_left]
theorem SlR.data (h : SlR w b f n t post) (h32 : F32 f) (hi : i < n) {K : Sl → Prop} (k : K (f i).data) : ld .L w ⟨b, 36 * i + 32, none⟩ K :=
  ldL0 h ((h.at h32 hi (by decide)).trans (slot_tail _ (h32 i) 0)) k
theorem SlR.pins (h : SlR w b f n t post) (h32 : F32 f) (hi : i < n) {K : Int → Prop} (k : K (f i).pins) : ld (.I .i64) w ⟨b, 36 * i + 33, none⟩ K :=
  ldI0 h ((h.at h32 hi (by decide)).trans (slot_tail _ (h32 i) 1)) k
theorem SlR.prev (h : SlR w b f n t post) (h32 : F32 f) (hi : i < n) {K : Int → Prop} (k : K (f i).prev) : ld (.I .i64) w ⟨b, 36 * i + 34, none⟩ K :=
  ldI0 h ((h.at h32 hi (by decide)).trans (slot_tail _ (h32 i) 2)) k
theorem SlR.next (h : SlR w b f n t post) (h32 : F32 f) (hi : i < n) {K : Int → Prop} (k : K (f i).next) : ld (.I .i64) w ⟨b, 36 * i + 35, none⟩ K :=
  ldI0 h ((h.at h32 hi (by decide)).trans (slot_tail _ (h32 i) 3)) k
theorem SlR.sum (h : SlR w b f n t post) (h32 : F32 f) (hi : i < n) {K : {l : List Value // l.length = 32} → Prop} (k : ∀ hh, K ⟨u8s (f i).sum, hh⟩) : ld (.row 32) w ⟨b, 36 * i, none⟩ K := by
  obtain ⟨q, h1, _⟩ := slotsV_split h32 hi
  refine ldRow (vs := u8s (f i).sum) h ?_ (by rw [u8s_length, h32 i]) (k _)
  rw [h1, ← slotsV_length h32 i, List.append_assoc, List.append_assoc, List.drop_left' rfl]
  unfold slotV
  rw [List.append_assoc, List.take_left' (by rw [u8s_length, h32 i])]
/-- A slot is another one now. -/
theorem SlR.setAt (h : SlR w b f n t post) (h32 : F32 f) (hi : i < n) {o : Nat} (ho : o < 36) {v : Value} {s : SV} (hs : (slotV (f i)).set o v = slotV s) {K : World → Prop}
    (hk : ∀ w', SlR w' b (upS f i s) n t post → w.grownBy w' (some b) → w'.heap.size = w.heap.size → K w') : st1 w ⟨b, 36 * i + o, none⟩ v K := by
  obtain ⟨q, h1, h2⟩ := slotsV_split h32 hi
  have hlen := slotsV_length h32 n
  refine st0 h (by simp; omega) fun w' hb hg hz => hk w' ?_ hg hz
  unfold SlR
  rw [hb, h2 s, h1, ← hs, List.setIfInBounds_toArray]
  congr 3
  have e : 36 * i + o = (slotsV f i).length + o := by rw [slotsV_length h32]
  rw [e, List.append_assoc, List.append_assoc, List.set_append_right _ _ (by omega), Nat.add_sub_cancel_left, List.set_append_left _ _ (by rw [slotV_length (h32 i)]; exact ho)]
  simp
theorem slot_set (s : SV) (h : s.sum.length = 32) (o : Nat) (v : Value) : (slotV s).set (32 + o) v = u8s s.sum ++ ([slV s.data, .int .i64 s.pins, .int .i64 s.prev, .int .i64 s.next] : List Value).set o v := by
  unfold slotV
  rw [List.set_append_right _ _ (by rw [u8s_length, h]; omega), u8s_length, h, Nat.add_sub_cancel_left]
theorem SlR.setPins (h : SlR w b f n t post) (h32 : F32 f) (hi : i < n) (v : Int) {K : World → Prop}
    (hk : ∀ w', SlR w' b (upS f i { f i with pins := v }) n t post → w.grownBy w' (some b) → w'.heap.size = w.heap.size → K w') : st1 w ⟨b, 36 * i + 33, none⟩ (.int .i64 v) K :=
  h.setAt (s := { f i with pins := v }) h32 hi (by decide) (slot_set _ (h32 i) 1 _) hk
theorem SlR.setPrev (h : SlR w b f n t post) (h32 : F32 f) (hi : i < n) (v : Int) {K : World → Prop}
    (hk : ∀ w', SlR w' b (upS f i { f i with prev := v }) n t post → w.grownBy w' (some b) → w'.heap.size = w.heap.size → K w') : st1 w ⟨b, 36 * i + 34, none⟩ (.int .i64 v) K :=
  h.setAt (s := { f i with prev := v }) h32 hi (by decide) (slot_set _ (h32 i) 2 _) hk
theorem SlR.setNext (h : SlR w b f n t post) (h32 : F32 f) (hi : i < n) (v : Int) {K : World → Prop}
    (hk : ∀ w', SlR w' b (upS f i { f i with next := v }) n t post → w.grownBy w' (some b) → w'.heap.size = w.heap.size → K w') : st1 w ⟨b, 36 * i + 35, none⟩ (.int .i64 v) K :=
  h.setAt (s := { f i with next := v }) h32 hi (by decide) (slot_set _ (h32 i) 3 _) hk
abbrev kSlot : Kd := .pair (.row 32) (.pair .L (.pair (.I .i64) (.pair (.I .i64) (.pair (.I .i64) .nil))))
/-- A slot as a value. -/
def slotT (s : SV) (h : s.sum.length = 32) : kSlot.T := (⟨u8s s.sum, by rw [u8s_length, h]⟩, s.data, s.pins, s.prev, s.next, ())
theorem slotT_cells (s : SV) (h : s.sum.length = 32) : (kSlot.av (slotT s h)).cells = slotV s := by
  simp [slotT, Kd.av, AV.cells, slotV, Value.cells]
/-- A slot as a whole: read, written. -/
theorem SlR.get (h : SlR w b f n t post) (h32 : F32 f) (hi : i < n) {K : kSlot.T → Prop} (k : K (slotT (f i) (h32 i))) : ld kSlot w ⟨b, 36 * i, none⟩ K := by
  obtain ⟨q, h1, _⟩ := slotsV_split h32 hi
  rw [← slotsV_length h32 i]
  refine ld_all kSlot (slotT (f i) (h32 i)) rfl (post := q ++ post) (t := t) (f := (0, 0)) ?_ k
  rw [slotT_cells, h, h1]
  simp
theorem SlR.put (h : SlR w b f n t post) (h32 : F32 f) (hi : i < n) (s : SV) (hs : s.sum.length = 32) {x : AV} (hx : x = kSlot.av (slotT s hs)) {K : World → Prop}
    (hk : ∀ w', SlR w' b (upS f i s) n t post → w.grownBy w' (some b) → w'.heap.size = w.heap.size → K w') : st w ⟨b, 36 * i, none⟩ x K := by
  obtain ⟨q, h1, h2⟩ := slotsV_split h32 hi
  rw [← slotsV_length h32 i]
  subst hx
  refine st_all _ ?_ (pre := slotsV f i) (q := slotV (f i)) (post := q ++ post) (t := t) ?_ (by rw [← AV.cells_length, slotT_cells, slotV_length hs, slotV_length (h32 i)]) fun w' hb hg hz => hk w' ?_ hg hz
  · simp only [slotT, Kd.av, AV.okSt, Bool.and_true, Bool.and_eq_true, List.all_eq_true]
    exact ⟨fun v hv => u8s_one _ v hv, rfl, rfl, rfl, rfl⟩
  · rw [h, h1]; simp
  · unfold SlR
    rw [hb, h2 s, slotT_cells]; simp
end
end Go.Fl
namespace Go.Proofs.YtkaombhkepopgaaDoor
open Go.RowKit Go.Fl

/-- A store's memory. -/
structure M9 where
  sb : Nat
  sc : Nat
  n : Nat
  f : Slots
  post : List Value
  free : Sl
  old : Int
  young : Int
  m : Option Nat
  most : Int
  room : Int
  bytes : Int
def stC (x : M9) : y_store_Store := ((⟨some ⟨x.sb, 0, none⟩, x.n, x.sc⟩, x.free, x.old, x.young, ()), x.m, x.most, x.room, x.bytes, ())
abbrev stL9 (x : M9) : List Value := (Kd.av k_store_Store (stC x)).cells
theorem stL9_size (x : M9) : (stL9 x).toArray.size = 8 := rfl
structure Mem9 (w : World) (g : Nat) (x : M9) : Prop where
  st : w.heap[g]? = some (.cells (stL9 x).toArray t_store_Store (0, 0))
  row : SlR w x.sb x.f x.n t_store_slot x.post
  f32 : F32 x.f
section
variable {w : World} {g : Nat} {x : M9}
theorem Mem9.ne (h : Mem9 w g x) : g ≠ x.sb := by
  intro e
  have h1 := h.st
  rw [e] at h1
  have h2 := h.row
  unfold SlR at h2
  rw [h1] at h2
  simp only [Option.some.injEq, Obj.cells.injEq] at h2
  exact absurd h2.2.1 (by decide)
theorem Mem9.mv (h : Mem9 w g x) {F : Nat → Prop} {w' : World} (hm : Mv F w w') (hg : ¬F g) (hs : ¬F x.sb) : Mem9 w' g x := ⟨hm.heap h.st hg, hm.heap h.row hs, h.f32⟩
theorem Mem9.fr (h : Mem9 w g x) {w' : World} (hf : Fr w w') : Mem9 w' g x := ⟨hf.heap h.st, hf.heap h.row, h.f32⟩
/-- The slots turned. -/
theorem Mem9.setRow (h : Mem9 w g x) {w' : World} {f : Slots} (hr : SlR w' x.sb f x.n t_store_slot x.post) (hf : F32 f) (hg : w.grownBy w' (some x.sb)) : Mem9 w' g { x with f := f } :=
  ⟨(hg.block g (Array.getElem?_eq_some_iff.1 h.st).1 fun e => h.ne (Option.some.inj e)).trans h.st, hr, hf⟩
/-- The store's own cells turned. -/
theorem Mem9.setSt (h : Mem9 w g x) {w' : World} {x' : M9} (hc : w'.heap[g]? = some (.cells (stL9 x').toArray t_store_Store (0, 0))) (hg : w.grownBy w' (some g)) (h1 : x'.sb = x.sb) (h2 : x'.f = x.f) (h3 : x'.n = x.n) (h4 : x'.post = x.post) : Mem9 w' g x' := by
  refine ⟨hc, ?_, by rw [h2]; exact h.f32⟩
  unfold SlR
  rw [h1, h2, h3, h4]
  exact (hg.block _ (Array.getElem?_eq_some_iff.1 h.row).1 fun e => h.ne (Option.some.inj e).symm).trans h.row
abbrev own9 (g : Nat) (x : M9) : Nat → Prop := fun k => k = g ∨ k = x.sb
theorem mvG {w' : World} {x : M9} (h : w.grownBy w' (some g)) : Mv (own9 g x) w w' := Mv.of_grown h (.inl rfl)
theorem mvS {w' : World} {x : M9} (h : w.grownBy w' (some x.sb)) : Mv (own9 g x) w w' := Mv.of_grown h (.inr rfl)
theorem on9 {a b c : World} {F : Nat → Prop} (h : Mv F a b) (k : Mv F b c) : Mv F a c := h.trans k fun _ h => .inl h
theorem up_up (f : Slots) (i : Nat) (a b : SV) : upS (upS f i a) i b = upS f i b := by
  funext j
  unfold upS
  split <;> rfl
theorem link_ok {i : Nat} (h : Mem9 w g x) (hi : i < x.n) (hy : x.young = -1 ∨ (0 ≤ x.young ∧ x.young.toNat < x.n)) :
    cl Tryd.prog n_store_row_link #[.pointer (some ⟨g, 0, none⟩), .int .i64 i] (.tup .nil) w fun (_ : Unit) w' =>
      Mem9 w' g { x with f := (linkF x.f x.old x.young i).1, old := (linkF x.f x.old x.young i).2.1, young := (linkF x.f x.old x.young i).2.2 } ∧ Mv (own9 g x) w w' := by
  refine store_row_link.cl ?_
  unfold store_row_link
  intro n1
  have hf1 := Fr.drewN w n1
  have h1 := h.fr hf1
  generalize w.drewN n1 = w1 at *
  dsimp -zeta only [nz]
  refine ldL0 (s := ⟨some ⟨x.sb, 0, none⟩, x.n, x.sc⟩) h1.st rfl ?_
  refine ldL0 (s := ⟨some ⟨x.sb, 0, none⟩, x.n, x.sc⟩) h1.st rfl ?_
  rw [addOff]
  refine ldI0 (n := x.young) h1.st rfl ?_
  dsimp -zeta only
  refine ixSl rfl hi ?_
  rw [addOff]
  refine h1.row.setPrev h1.f32 hi x.young fun w9 r9 g9 s9 => ?_
  have h9 := h1.setRow r9 (h1.f32.upS (h1.f32 i)) g9
  refine ixSl rfl hi ?_
  rw [addOff]
  refine h9.row.setNext h9.f32 hi (-1) fun w11 r11 g11 s11 => ?_
  have h11 := h9.setRow r11 (h9.f32.upS (h9.f32 i)) g11
  have e11 : upS (upS x.f i { x.f i with prev := x.young }) i { (upS x.f i { x.f i with prev := x.young }) i with next := -1 } = upS x.f i { x.f i with prev := x.young, next := -1 } := by
    rw [up_up, up_same]
  dsimp only at h11
  rw [e11] at h11
  have hm : Mv (own9 g x) w w11 := on9 (Mv.of_fr hf1) (on9 (mvS g9) (mvS g11))
  rw [addOff]
  refine ldI0 (n := x.young) h11.st rfl ?_
  refine bNe ?_ ?_ <;> intro hyy
  · intro n2
    have hf14 := Fr.drewN w11 n2
    have h14 := h11.fr hf14
    generalize w11.drewN n2 = w14 at *
    refine ldL0 (s := ⟨some ⟨x.sb, 0, none⟩, x.n, x.sc⟩) h14.st rfl ?_
    refine ldI0 (n := x.young) h14.st rfl ?_
    have hy' : 0 ≤ x.young ∧ x.young.toNat < x.n := hy.resolve_left hyy
    refine ixSl (i := x.young.toNat) (by omega) hy'.2 ?_
    rw [addOff]
    refine h14.row.setNext h14.f32 hy'.2 i fun w20 r20 g20 s20 => ?_
    have h20 := h14.setRow r20 (h14.f32.upS (h14.f32 _)) g20
    refine st0 h20.st (by rw [stL9_size]; show _ < 8; simp) fun w24 hb24 g24 s24 => ?_
    have e : linkF x.f x.old x.young i = (upS (upS x.f i { x.f i with prev := x.young, next := -1 }) x.young.toNat { upS x.f i { x.f i with prev := x.young, next := -1 } x.young.toNat with next := (i : Int) }, x.old, (i : Int)) := by
      unfold linkF; dsimp only; rw [if_pos hyy]
    rw [e]
    exact ⟨h20.setSt (x' := { x with f := _, old := x.old, young := (i : Int) }) hb24 g24 rfl rfl rfl rfl, on9 hm (on9 (Mv.of_fr hf14) (on9 (mvS g20) (mvG g24)))⟩
  · refine st0 h11.st (by rw [stL9_size]; show _ < 8; simp) fun w22 hb22 g22 s22 => ?_
    have h22 := h11.setSt (x' := { x with f := _, old := (i : Int) }) hb22 g22 rfl rfl rfl rfl
    refine st0 h22.st (by rw [stL9_size]; show _ < 8; simp) fun w26 hb26 g26 s26 => ?_
    have e : linkF x.f x.old x.young i = (upS x.f i { x.f i with prev := x.young, next := -1 }, (i : Int), (i : Int)) := by
      unfold linkF; dsimp only; rw [if_neg (by omega)]
    rw [e]
    exact ⟨h22.setSt (x' := { x with f := _, old := (i : Int), young := (i : Int) }) hb26 g26 rfl rfl rfl rfl, on9 hm (on9 (mvG g22) (mvG g26))⟩
theorem unlink_ok {i : Nat} (h : Mem9 w g x) (hi : i < x.n) (hp : (x.f i).prev = -1 ∨ (0 ≤ (x.f i).prev ∧ (x.f i).prev.toNat < x.n)) (hn : (x.f i).next = -1 ∨ (0 ≤ (x.f i).next ∧ (x.f i).next.toNat < x.n)) :
    cl Tryd.prog n_store_row_unlink #[.pointer (some ⟨g, 0, none⟩), .int .i64 i] (.tup .nil) w fun (_ : Unit) w' =>
      Mem9 w' g { x with f := (unlinkF x.f x.old x.young i).1, old := (unlinkF x.f x.old x.young i).2.1, young := (unlinkF x.f x.old x.young i).2.2 } ∧ Mv (own9 g x) w w' := by
  refine store_row_unlink.cl ?_
  unfold store_row_unlink
  dsimp -zeta only [nz]
  refine ldL0 (s := ⟨some ⟨x.sb, 0, none⟩, x.n, x.sc⟩) h.st rfl ?_
  refine ixSl rfl hi ?_
  refine h.row.get h.f32 hi ?_
  refine nwI fun b5 w6 hb5 hs6 hf6 hblk _ => ?_
  have h6 := h.fr hf6
  refine stW (Kd.av kSlot (slotT (x.f i) (h.f32 i))) ?_ hblk (by rfl) fun w7 hc7 g7 s7 => ?_
  · simp only [slotT, Kd.av, AV.okSt, Bool.and_true, Bool.and_eq_true, List.all_eq_true]
    exact ⟨fun v hv => u8s_one _ v hv, rfl, rfl, rfl, rfl⟩
  rw [slotT_cells] at hc7
  have hgl := (Array.getElem?_eq_some_iff.1 h.st).1
  have hsl := (Array.getElem?_eq_some_iff.1 h.row).1
  have hb5g : b5 ≠ g := by omega
  have hb5s : b5 ≠ x.sb := by omega
  have m7 : Mv (fun k => k = b5) w6 w7 := Mv.of_grown g7 rfl
  have h7 := h6.mv m7 (fun e => hb5g e.symm) (fun e => hb5s e.symm)
  have hm7 : Mv (own9 g x) w w7 := (Mv.of_fr hf6).trans m7 fun k hk => .inr (by omega)
  have pre : (x.f i).prev = -1 ∨ (0 ≤ (x.f i).prev ∧ (x.f i).prev.toNat < x.n) := hp
  have hL : ∀ {u : World} {o : Nat} {v : Int} {K : Int → Prop}, u.heap[b5]? = some (.cells (slotV (x.f i)).toArray t_store_slot (0, 0)) → (slotV (x.f i))[32 + o]? = some (.int .i64 v) → K v → ld (.I .i64) u ⟨b5, 32 + o, none⟩ K :=
    fun hu hv hk => ldI0 hu (by rw [List.getElem?_toArray]; exact hv) hk
  have hP := slot_tail (x.f i) (h.f32 i) 2
  have hN := slot_tail (x.f i) (h.f32 i) 3
  intro j1
  have J1 : ∀ (u : World) (a : Slots × Int), a = (if (x.f i).prev ≠ -1 then (upS x.f (x.f i).prev.toNat { x.f (x.f i).prev.toNat with next := (x.f i).next }, x.old) else (x.f, (x.f i).next)) →
      Mem9 u g { x with f := a.1, old := a.2 } → u.heap[b5]? = some (.cells (slotV (x.f i)).toArray t_store_slot (0, 0)) → Mv (own9 g x) w u → j1 u := by
    intro u a ha hu hcu hmu
    have e : unlinkF x.f x.old x.young i = if (x.f i).next ≠ -1 then (upS a.1 (x.f i).next.toNat { a.1 (x.f i).next.toNat with prev := (x.f i).prev }, a.2, x.young) else (a.1, a.2, (x.f i).prev) := by
      unfold unlinkF; rw [ha]
    unfold j1
    rw [addOff]
    refine hL (o := 3) hcu hN ?_
    refine bNe ?_ ?_ <;> intro hnn
    · intro n2
      have hf2 := Fr.drewN u n2
      have h2 := hu.fr hf2
      have hc2 := hf2.heap hcu
      have hm2 := on9 hmu (Mv.of_fr hf2)
      generalize u.drewN n2 = u2 at *
      refine ldL0 (s := ⟨some ⟨x.sb, 0, none⟩, x.n, x.sc⟩) h2.st rfl ?_
      refine hL (o := 3) hc2 hN ?_
      rw [addOff]
      refine hL (o := 2) hc2 hP ?_
      have hr := hn.resolve_left hnn
      refine ixSl (i := (x.f i).next.toNat) (by omega) hr.2 ?_
      rw [addOff]
      refine h2.row.setPrev h2.f32 hr.2 (x.f i).prev fun w4 r4 g4 s4 => ?_
      rw [e, if_pos hnn]
      exact ⟨h2.setRow r4 (h2.f32.upS (h2.f32 _)) g4, on9 hm2 (mvS g4)⟩
    · rw [addOff]
      refine hL (o := 2) hcu hP ?_
      refine st0 hu.st (by rw [stL9_size]; show _ < 8; simp) fun w4 hb4 g4 s4 => ?_
      rw [e, if_neg (by omega)]
      exact ⟨hu.setSt (x' := { x with f := a.1, old := a.2, young := (x.f i).prev }) hb4 g4 rfl rfl rfl rfl, on9 hmu (mvG g4)⟩
  clear_value j1
  rw [addOff]
  refine hL (o := 2) hc7 hP ?_
  refine bNe ?_ ?_ <;> intro hpp
  · intro n2
    have hf2 := Fr.drewN w7 n2
    have h2 := h7.fr hf2
    have hc2 := hf2.heap hc7
    have hm2 := on9 hm7 (Mv.of_fr hf2)
    generalize w7.drewN n2 = u2 at *
    refine ldL0 (s := ⟨some ⟨x.sb, 0, none⟩, x.n, x.sc⟩) h2.st rfl ?_
    refine hL (o := 2) hc2 hP ?_
    rw [addOff]
    refine hL (o := 3) hc2 hN ?_
    have hr := hp.resolve_left hpp
    refine ixSl (i := (x.f i).prev.toNat) (by omega) hr.2 ?_
    rw [addOff]
    refine h2.row.setNext h2.f32 hr.2 (x.f i).next fun w4 r4 g4 s4 => ?_
    refine J1 w4 _ rfl ?_ ?_ (on9 hm2 (mvS g4))
    · rw [if_pos hpp]
      exact h2.setRow r4 (h2.f32.upS (h2.f32 _)) g4
    · exact (g4.block b5 (Array.getElem?_eq_some_iff.1 hc2).1 fun e => hb5s (Option.some.inj e)).trans hc2
  · rw [addOff]
    refine hL (o := 3) hc7 hN ?_
    refine st0 h7.st (by rw [stL9_size]; show _ < 8; simp) fun w4 hb4 g4 s4 => ?_
    refine J1 w4 _ rfl ?_ ?_ (on9 hm7 (mvG g4))
    · rw [if_neg (by omega)]
      exact h7.setSt (x' := { x with old := (x.f i).next }) hb4 g4 rfl rfl rfl rfl
    · exact (g4.block b5 (Array.getElem?_eq_some_iff.1 hc7).1 fun e => hb5g (Option.some.inj e)).trans hc7
end
end Go.Proofs.YtkaombhkepopgaaDoor
set_option linter.unusedVariables false
set_option maxHeartbeats 4000000
namespace Go.Proofs.YtkaombhkepopgaaDoor
open Go.Fl
theorem u_ : type_of% @Tryd.underlying0 := @Tryd.underlying0
theorem u_int : type_of% @Tryd.underlying3 := @Tryd.underlying3
theorem u_uint8 : type_of% @Tryd.underlying5 := @Tryd.underlying5
theorem u_s_s_uint8 : type_of% @Tryd.underlying22 := @Tryd.underlying22
theorem u_s_uint8 : type_of% @Tryd.underlying23 := @Tryd.underlying23
theorem u_p_dedup_Encoder : type_of% @Tryd.underlying27 := @Tryd.underlying27
theorem u_p_dedup_Decoder : type_of% @Tryd.underlying28 := @Tryd.underlying28
theorem u_api_Sum : type_of% @Tryd.underlying32 := @Tryd.underlying32
theorem u_api_Record : type_of% @Tryd.underlying34 := @Tryd.underlying34
theorem u_s_api_Sum : type_of% @Tryd.underlying42 := @Tryd.underlying42
theorem u_flumelaw11_Do : type_of% @Tryd.underlying49 := @Tryd.underlying49
theorem u_s_dedup_kept : type_of% @Tryd.underlying57 := @Tryd.underlying57
theorem u_dedup_Encoder : type_of% @Tryd.underlying59 := @Tryd.underlying59
theorem u_s_dedup_held : type_of% @Tryd.underlying62 := @Tryd.underlying62
theorem u_dedup_Decoder : type_of% @Tryd.underlying64 := @Tryd.underlying64
theorem u_s_store_slot : type_of% @Tryd.underlying68 := @Tryd.underlying68
theorem u_s_int : type_of% @Tryd.underlying69 := @Tryd.underlying69
theorem u_map_api_Sum_int : type_of% @Tryd.underlying72 := @Tryd.underlying72
theorem u_store_Store : type_of% @Tryd.underlying74 := @Tryd.underlying74
theorem u_dedup_kept : type_of% @Tryd.underlying85 := @Tryd.underlying85
theorem u_store_slot : type_of% @Tryd.underlying94 := @Tryd.underlying94
theorem u_dedup_held : type_of% @Tryd.underlying96 := @Tryd.underlying96
theorem u_digest_state : type_of% @Tryd.underlying106 := @Tryd.underlying106
theorem u_digest_Hash : type_of% @Tryd.underlying108 := @Tryd.underlying108
theorem u_map_3_uint8_int : type_of% @Tryd.underlying113 := @Tryd.underlying113
theorem u_lz_chains : type_of% @Tryd.underlying115 := @Tryd.underlying115
theorem u_64_uint32 : type_of% @Tryd.underlying121 := @Tryd.underlying121
theorem u_3_uint8 : type_of% @Tryd.underlying125 := @Tryd.underlying125
theorem u_octet_Reader : type_of% @Tryd.underlying139 := @Tryd.underlying139
abbrev t_s_flumelaw11_Do : TypeId := 46
theorem u_s_flumelaw11_Do : type_of% @Tryd.underlying46 := @Tryd.underlying46
end Go.Proofs.YtkaombhkepopgaaDoor
