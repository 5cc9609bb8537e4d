/- Contracts: lz.literals, a range over slices.Chunk. -/
import Derived.Test.YtkojpppnjloikaaDoorC8
import Derived.Test.YtkojpppnjloikaaDoorFlRf
namespace Go.Proofs.YtkojpppnjloikaaDoor
open Go.RowKit Go.Fl

def cA : Code → Code
  | .seq a _ => a
  | c => c
def cB : Code → Code
  | .seq _ b => b
  | c => c
def cK : Code → Code
  | .block _ c => c
  | .loop c => c
  | .rangeFunc _ _ _ c => c
  | c => c
def cAsg : Code → Code
  | .rangeFunc _ _ c _ => c
  | c => c
noncomputable def code24 : Code := Tryd.f46.body.getD .skip
noncomputable def code45 : Code := Tryd.f76.body.getD .skip
abbrev na : Nat → LA := fun _ => []
abbrev uU : AV := .v undef

theorem lit0 (out b : Sl) (Q : Exit → List AV → World → Prop) (w : World) :
    vc Tryd.prog na (cA code24) Q [.v (.slice out.a out.n out.c), .v (.slice b.a b.n b.c), uU, uU, uU, uU, uU, uU, uU, uU, uU, uU, uU, uU, uU, uU, uU, uU, uU] w =
    nw w [.slice out.a out.n out.c] t_s_uint8 fun a2 w' => Q .normal [.v (.slice out.a out.n out.c), .v (.slice b.a b.n b.c), .v (.pointer (some a2)), uU, .v (.slice none 0 0), uU, uU, uU, uU, uU, uU, uU, uU, uU, uU, uU, uU, uU, uU] w' := by kernel_rfl
theorem lit1 (out b : Sl) (a2 : Addr) (Q : Exit → List AV → World → Prop) (w : World) :
    vc Tryd.prog na (cA (cA (cB code24))) Q [.v (.slice out.a out.n out.c), .v (.slice b.a b.n b.c), .v (.pointer (some a2)), uU, .v (.slice none 0 0), uU, uU, uU, uU, uU, uU, uU, uU, uU, uU, uU, uU, uU, uU] w =
    cl Tryd.prog n_slices_Chunk_byte_byte #[.slice b.a b.n b.c, .int .i64 128] .U w fun x7 w' => Q .normal [.v (.slice out.a out.n out.c), .v (.slice b.a b.n b.c), .v (.pointer (some a2)), uU, .v (.slice none 0 0), uU, .v (.slice b.a b.n b.c), .v x7, uU, uU, uU, uU, uU, uU, uU, uU, uU, uU, uU] w' := by kernel_rfl
noncomputable def rf24 : Code := cK (cB (cA (cB code24)))
noncomputable def opsL : Code → List Oper
  | .region _ ops _ => ops.toList
  | _ => []
noncomputable def opsB : List Oper := opsL (cK (cK rf24))
noncomputable def opsA : List Oper := opsL (cAsg rf24)
noncomputable def opsE : List Oper := opsL (cA (cB (cB code24)))
theorem k24 : Tryd.f46.body = some code24 := by kernel_rfl
theorem k24a : code24 = .seq (cA code24) (.seq (.seq (cA (cA (cB code24))) (.block 0 (.rangeFunc (.tmp 7) #[8] (.region 2 opsA.toArray false) (.block 1 (.region 3 opsB.toArray false))))) (.seq (.region 4 opsE.toArray false) .ret)) := by kernel_rfl
theorem nd24B : noDefer opsB = true := by kernel_rfl
theorem nd24A : noDefer opsA = true := by kernel_rfl
theorem res24 : Tryd.f46.results = #[.tmp 4] := by kernel_rfl
/-- The body of a round. -/
theorem litB (a2 : Addr) (p : Sl) (e0 e1 e3 e4 e6 e7 e8 e9 e10 e11 e12 e13 e14 e15 e16 e17 e18 : AV) (Q : World → Prop) (w : World) :
    opsVC Tryd.prog opsB (fun _ w' => Q w') opsB [e0, e1, .v (.pointer (some a2)), e3, e4, .v (.slice p.a p.n p.c), e6, e7, e8, e9, e10, e11, e12, e13, e14, e15, e16, e17, e18] w =
    ld .L w a2 fun (x9 : Sl) => nw w [.int .u8 (IntKind.u8.wrap (IntKind.i64.wrap ((p.n : Int) - 1)))] t_uint8 fun a14 w1 => app Tryd.prog t_s_uint8 t_s_uint8 x9 ⟨some a14, 1, 1⟩ w1 fun r15 w2 => app Tryd.prog t_s_uint8 t_s_uint8 r15 p w2 fun r17 w3 => st1 w3 a2 (.slice r17.a r17.n r17.c) fun w4 => Q w4 := by kernel_rfl
/-- The variables at a round. -/
def t24 (out b : Sl) (a2 : Addr) (f : Value) (p p8 : AV) : List AV := [.v (.slice out.a out.n out.c), .v (.slice b.a b.n b.c), .v (.pointer (some a2)), uU, .v (.slice none 0 0), p, .v (.slice b.a b.n b.c), .v f, p8, uU, uU, uU, uU, uU, uU, uU, uU, uU, uU]
theorem litA (out b : Sl) (a2 : Addr) (f : Value) (p : Sl) (Q : List AV → World → Prop) (w : World) :
    opsVC Tryd.prog opsA Q opsA (t24 out b a2 f uU (.v (.slice p.a p.n p.c))) w = Q (t24 out b a2 f (.v (.slice p.a p.n p.c)) (.v (.slice p.a p.n p.c))) w := by kernel_rfl
theorem actA (out b : Sl) (a2 : Addr) (f v : Value) : ({ tmps := ((#[8] : Array Tmp).zip #[v]).foldl (fun t (p, v) => t.setIfInBounds p v) (acts [.v (.slice out.a out.n out.c), .v (.slice b.a b.n b.c), .v (.pointer (some a2)), uU, .v (.slice none 0 0), uU, .v (.slice b.a b.n b.c), .v f, uU, uU, uU, uU, uU, uU, uU, uU, uU, uU, uU]).tmps, defers := [] } : Act) =
    acts (t24 out b a2 f uU (.v v)) := by kernel_rfl
theorem ndE : noDefer opsE = true := by kernel_rfl
theorem litE (out b : Sl) (a2 : Addr) (f : Value) (Q : List AV → World → Prop) (w : World) :
    opsVC Tryd.prog opsE Q opsE [.v (.slice out.a out.n out.c), .v (.slice b.a b.n b.c), .v (.pointer (some a2)), uU, .v (.slice none 0 0), uU, .v (.slice b.a b.n b.c), .v f, uU, uU, uU, uU, uU, uU, uU, uU, uU, uU, uU] w =
    ld .L w a2 fun (x : Sl) => Q [.v (.slice out.a out.n out.c), .v (.slice b.a b.n b.c), .v (.pointer (some a2)), uU, .v (.slice x.a x.n x.c), uU, .v (.slice b.a b.n b.c), .v f, uU, uU, uU, uU, uU, uU, uU, uU, uU, uU, .v (.slice x.a x.n x.c)] w := by kernel_rfl
theorem act24 (out b : Value) : ({ tmps := #[out, b] ++ Array.replicate (Tryd.f46.ntmps - #[out, b].size) undef, defers := [] } : Act) = acts [.v out, .v b, uU, uU, uU, uU, uU, uU, uU, uU, uU, uU, uU, uU, uU, uU, uU, uU, uU] := by kernel_rfl
theorem ch0 (y a1 a3 : AV) (Q : Exit → List AV → World → Prop) (w : World) :
    vc Tryd.prog na (cA code45) Q [y, a1, a3, uU, uU, uU, uU, uU, uU, uU, uU, uU, uU, uU, uU, uU, uU, uU, uU, uU, uU, uU, uU, uU, uU, uU, uU, uU, uU, uU, uU] w =
    Q .normal [y, a1, a3, uU, .v (.int .i64 0), uU, uU, uU, uU, uU, uU, uU, uU, uU, uU, uU, uU, uU, uU, uU, uU, uU, uU, uU, uU, uU, uU, uU, uU, uU, uU] w := by kernel_rfl
/-- The closure's variables. -/
def t45 (y : AV) (a1 a3 : Addr) (i : Int) (e : Nat → AV) : List AV := [y, .v (.pointer (some a1)), .v (.pointer (some a3)), e 3, .v (.int .i64 i), e 5, e 6, e 7, e 8, e 9, e 10, e 11, e 12, e 13, e 14, e 15, e 16, e 17, e 18, e 19, e 20, e 21, e 22, e 23, e 24, e 25, e 26, e 27, e 28, e 29, e 30]
noncomputable def loop45 : Code := cK (cK (cB code45))
theorem ch1 (y : AV) (a1 a3 : Addr) (i : Int) (e : Nat → AV) (Q : Exit → List AV → World → Prop) (w : World) :
    vc Tryd.prog na (cA (cA loop45)) Q (t45 y a1 a3 i e) w = ld .L w a1 fun (x7 : Sl) => Q .normal (t45 y a1 a3 i (up e [(6, .v (.int .i64 i)), (7, .v (.slice x7.a x7.n x7.c)), (8, .v (.int .i64 (x7.n : Int))), (9, .v (.bool (decide (i < (x7.n : Int)))))])) w := by kernel_rfl
theorem ch3 (y : AV) (a1 a3 : Addr) (i : Int) (e : Nat → AV) (Q : Exit → List AV → World → Prop) (w : World) :
    vc Tryd.prog na (cA (cK (cA (cB loop45)))) Q (t45 y a1 a3 i e) w = ld (.I .i64) w a3 fun (x13 : Int) => ld .L w a1 fun (x14 : Sl) => sls x14 i x14.n 1 fun r16 => dr w fun w2 => Q .normal (t45 y a1 a3 i (up e [(5, .v (.int .i64 (min x13 (r16.n : Int)))), (13, .v (.int .i64 x13)), (14, .v (.slice x14.a x14.n x14.c)), (15, .v (.int .i64 i)), (16, .v (.slice r16.a r16.n r16.c)), (17, .v (.int .i64 (r16.n : Int))), (18, .v (.int .i64 (min x13 (r16.n : Int))))])) w2 := by kernel_rfl
noncomputable def ops45 : List Oper := match cA (cB (cK (cA (cB loop45)))) with | .region _ ops _ => ops.toList | _ => []
theorem ch4 (y : AV) (a1 a3 : Addr) (i j : Int) (e : Nat → AV) (Q : List AV → World → Prop) (w : World) :
    opsVC Tryd.prog ops45 Q (ops45.take 10) (t45 y a1 a3 i (up e [(5, .v (.int .i64 j))])) w = ld .L w a1 fun (x20 : Sl) => qn Tryd.prog (Instr.sliceAt t_s_uint8 (.slice x20.a x20.n x20.c) (some (.int .i64 i)) (some (.int .i64 (IntKind.i64.wrap (i + j)))) (some (.int .i64 (IntKind.i64.wrap (i + j))))) .L w fun (r28 : Sl) => Q (t45 y a1 a3 i (up e [(5, .v (.int .i64 j)), (19, y), (20, .v (.slice x20.a x20.n x20.c)), (21, .v (.int .i64 i)), (22, .v (.int .i64 i)), (23, .v (.int .i64 j)), (24, .v (.int .i64 (IntKind.i64.wrap (i + j)))), (25, .v (.int .i64 i)), (26, .v (.int .i64 j)), (27, .v (.int .i64 (IntKind.i64.wrap (i + j)))), (28, .v (.slice r28.a r28.n r28.c))])) w := by kernel_rfl
theorem ch5 (y : AV) (a1 a3 : Addr) (i j : Int) (e : Nat → AV) (x20 r28 : Sl) (b : Bool) (Q : List AV → World → Prop) (w : World) :
    opsVC Tryd.prog ops45 Q (ops45.drop 11) (t45 y a1 a3 i (up e [(5, .v (.int .i64 j)), (19, y), (20, .v (.slice x20.a x20.n x20.c)), (21, .v (.int .i64 i)), (22, .v (.int .i64 i)), (23, .v (.int .i64 j)), (24, .v (.int .i64 (IntKind.i64.wrap (i + j)))), (25, .v (.int .i64 i)), (26, .v (.int .i64 j)), (27, .v (.int .i64 (IntKind.i64.wrap (i + j)))), (28, .v (.slice r28.a r28.n r28.c)), (29, .v (.bool b))])) w = Q (t45 y a1 a3 i (up e [(5, .v (.int .i64 j)), (19, y), (20, .v (.slice x20.a x20.n x20.c)), (21, .v (.int .i64 i)), (22, .v (.int .i64 i)), (23, .v (.int .i64 j)), (24, .v (.int .i64 (IntKind.i64.wrap (i + j)))), (25, .v (.int .i64 i)), (26, .v (.int .i64 j)), (27, .v (.int .i64 (IntKind.i64.wrap (i + j)))), (28, .v (.slice r28.a r28.n r28.c)), (29, .v (.bool b)), (30, .v (.bool (!b)))])) w := by kernel_rfl
theorem chP (y : AV) (a1 a3 : Addr) (i j : Int) (e : Nat → AV) (x20 r28 : Sl) (b : Bool) : (acts (t45 y a1 a3 i (up e [(5, .v (.int .i64 j)), (19, y), (20, .v (.slice x20.a x20.n x20.c)), (21, .v (.int .i64 i)), (22, .v (.int .i64 i)), (23, .v (.int .i64 j)), (24, .v (.int .i64 (IntKind.i64.wrap (i + j)))), (25, .v (.int .i64 i)), (26, .v (.int .i64 j)), (27, .v (.int .i64 (IntKind.i64.wrap (i + j)))), (28, .v (.slice r28.a r28.n r28.c))]))).put (some 29) (.bool b) = acts (t45 y a1 a3 i (up e [(5, .v (.int .i64 j)), (19, y), (20, .v (.slice x20.a x20.n x20.c)), (21, .v (.int .i64 i)), (22, .v (.int .i64 i)), (23, .v (.int .i64 j)), (24, .v (.int .i64 (IntKind.i64.wrap (i + j)))), (25, .v (.int .i64 i)), (26, .v (.int .i64 j)), (27, .v (.int .i64 (IntKind.i64.wrap (i + j)))), (28, .v (.slice r28.a r28.n r28.c)), (29, .v (.bool b))])) := by kernel_rfl
theorem ch2 (y : AV) (a1 a3 : Addr) (i : Int) (e : Nat → AV) (Q : Exit → List AV → World → Prop) (w : World) :
    vc Tryd.prog na (cB (cB loop45)) Q (t45 y a1 a3 i e) w = ld (.I .i64) w a3 fun (x11 : Int) => Q .normal (t45 y a1 a3 (IntKind.i64.wrap (i + x11)) (up e [(10, .v (.int .i64 i)), (11, .v (.int .i64 x11)), (12, .v (.int .i64 (IntKind.i64.wrap (i + x11))))])) w := by kernel_rfl
/- END OF FORMS -/
/-- The pieces' places. -/
abbrev Al (sn : Nat) := {k : Nat // 128 * k < sn}
def chk (s : Sl) (k : Nat) : Sl := ⟨s.a.map (·.add (128 * k)), min 128 (s.n - 128 * k), min 128 (s.n - 128 * k)⟩
def upto (sn : Nat) : Nat → List (Al sn)
  | 0 => []
  | k + 1 => upto sn k ++ (if h : 128 * k < sn then [⟨k, h⟩] else [])
theorem upto_le (sn : Nat) : ∀ k, (upto sn k).length ≤ k
  | 0 => Nat.le_refl _
  | k + 1 => by have := upto_le sn k; unfold upto; split <;> simp <;> omega
theorem t45_5 {y : AV} {a1 a3 : Addr} {i : Int} {e : Nat → AV} {v : AV} (h : e 5 = v) : t45 y a1 a3 i e = t45 y a1 a3 i (up e [(5, v)]) := by subst h; rfl
def enc1 (s : Sl) (x : Al s.n) : Array Value := #[.slice (chk s x.1).a (chk s x.1).n (chk s x.1).c]
noncomputable def blk45 : Code := cK (cA (cB loop45))
theorem k45 : Tryd.f76.body = some code45 := by kernel_rfl
theorem k45a : code45 = .seq (cA code45) (.block 0 (.loop loop45)) := by kernel_rfl
theorem k45b : loop45 = .seq (.seq (cA (cA loop45)) (.cond (.tmp 9) .skip (.exit 0))) (.seq (.block 1 blk45) (cB (cB loop45))) := by kernel_rfl
theorem k45c : blk45 = .seq (cA blk45) (.seq (.region 4 ops45.toArray false) (.cond (.tmp 30) .ret .skip)) := by kernel_rfl
noncomputable def yop : Oper := ops45[10]?.getD { dst := none, op := .move (.tmp 0), type := 0, pos := "", after := #[], guard := none }
theorem k45d : ops45.drop 10 = yop :: ops45.drop 11 := by kernel_rfl
theorem yop_op : yop.op = .call { callee := .value (.tmp 19), args := #[.tmp 28], argTypes := #[t_s_uint8] } := by kernel_rfl
theorem res45 : Tryd.f76.results = #[] := by kernel_rfl
theorem yop_guard : yop.guard = none := by kernel_rfl
theorem yop_dst : yop.dst = some 29 := by kernel_rfl
theorem nd45 : (ops45.all fun o => match o.op with | .defer _ => false | _ => true) = true := by kernel_rfl
theorem nd45' {o : Oper} (h : o ∈ ops45) (c : Call) : o.op ≠ .defer c := fun e => by
  have := List.all_eq_true.1 nd45 o h
  rw [e] at this
  cases this

theorem act45 (y : Value) (a1 a3 : Addr) : ({ tmps := (#[y] ++ #[.pointer (some a1), .pointer (some a3)]) ++ Array.replicate (Tryd.f76.ntmps - (#[y] ++ #[Value.pointer (some a1), .pointer (some a3)]).size) undef, defers := [] } : Act) =
    acts [.v y, .v (.pointer (some a1)), .v (.pointer (some a3)), uU, uU, uU, uU, uU, uU, uU, uU, uU, uU, uU, uU, uU, uU, uU, uU, uU, uU, uU, uU, uU, uU, uU, uU, uU, uU, uU, uU] := by kernel_rfl
def mu45 (sn : Nat) (a : Act) (_ : World) : Nat := match a.tmps[4]? with
  | some (Value.int _ i) => ((sn : Int) + 256 - i).toNat
  | _ => 0
theorem chunk_stops {n : Nat} (s : Sl) (hcap : s.n ≤ s.c) (hlen : s.n ≤ 1099511627776) {a1 a3 : Nat} {w0 : World} (h1 : w0.heap[a1]? = some (.cells #[.slice s.a s.n s.c] t_s_uint8 (0, 0))) (h3 : w0.heap[a3]? = some (.cells #[.int .i64 128] t_int (0, 0))) :
    SeqStopsK Fence.wide n Tryd.prog n_slices_Chunk_byte_byte_1 #[.pointer (some ⟨a1, 0, none⟩), .pointer (some ⟨a3, 0, none⟩)] (enc1 s) (fun W W' => W'.heap[a1]? = W.heap[a1]? ∧ W'.heap[a3]? = W.heap[a3]?)
      (fun xs => ∃ m, s.n ≤ 128 * m ∧ xs = upto s.n m) (fun _ => True) (s.n + 1) w0 := by
  intro l J Jx W hW hJ hJx hY h0
  have c1 : W.heap[a1]? = some (.cells #[.slice s.a s.n s.c] t_s_uint8 (0, 0)) := (hW.block a1 (Array.getElem?_eq_some_iff.1 h1).1).trans h1
  have c3 : W.heap[a3]? = some (.cells #[.int .i64 128] t_int (0, 0)) := (hW.block a3 (Array.getElem?_eq_some_iff.1 h3).1).trans h3
  refine callsIn_of_wp (c := code45) Tryd.func76 k45 trivial ?_ rfl
  rw [k45a]
  rw [act45]
  refine wpIn_seq (inW (an := na) (by kernel_rfl) ?_)
  rw [ch0]
  show (Code.block 0 (.loop loop45)).wpIn _ _ _ _ (acts (t45 (.v (.func (.yield l) #[] #[])) ⟨a1, 0, none⟩ ⟨a3, 0, none⟩ 0 fun _ => uU)) W
  refine wpIn_block (wpIn_loop (fun a W' => ∃ (k : Nat) (e : Nat → AV), a = acts (t45 (.v (.func (.yield l) #[] #[])) ⟨a1, 0, none⟩ ⟨a3, 0, none⟩ ((128 * k : Nat) : Int) e) ∧ 128 * k ≤ s.n + 128 ∧ J (upto s.n k) W' ∧ W'.heap[a1]? = W.heap[a1]? ∧ W'.heap[a3]? = W.heap[a3]?)
    (mu45 s.n) ⟨0, _, rfl, by omega, h0, rfl, rfl⟩ ?_)
  rintro _ W1 ⟨k, e, rfl, hk, hJ1, k1, k3⟩
  have c1 := k1.trans c1
  have c3 := k3.trans c3
  rw [k45b]
  refine wpIn_seq (wpIn_seq (inW (an := na) (by kernel_rfl) ?_))
  rw [ch1]
  refine ldL0 c1 rfl ?_
  generalize hE : up e _ = E
  have hE9 : E 9 = .v (.bool (decide (((128 * k : Nat) : Int) < (s.n : Int)))) := by rw [← hE]; rfl
  have ev9 : (acts (t45 (.v (.func (.yield l) #[] #[])) ⟨a1, 0, none⟩ ⟨a3, 0, none⟩ ((128 * k : Nat) : Int) E)).eval (.tmp 9) = .bool (decide (((128 * k : Nat) : Int) < (s.n : Int))) := by
    show (E 9).val = _
    rw [hE9]
    rfl
  by_cases hlt : ((128 * k : Nat) : Int) < (s.n : Int)
  · rw [decide_eq_true hlt] at ev9
    refine wpIn_cond_true ev9 (wpIn_skip ?_)
    have hks : 128 * k < s.n := by omega
    refine wpIn_seq (wpIn_block ?_)
    rw [k45c]
    clear hE hE9 ev9
    refine wpIn_seq (inW (an := na) (by kernel_rfl) ?_)
    show vc Tryd.prog na (cA (cK (cA (cB loop45)))) _ _ _
    rw [ch3]
    refine ldI0 c3 rfl ?_
    refine ldL0 c1 rfl ?_
    refine ⟨by omega, by omega, by omega, ?_⟩
    intro n2
    have hJ2 : J (upto s.n k) (W1.drewN n2) := hJ _ _ _ none hJ1 ⟨rfl, rfl, rfl, Nat.le_refl _, fun _ _ _ => rfl⟩ (fun r h => by cases h)
    have c1 : (W1.drewN n2).heap[a1]? = some (.cells #[.slice s.a s.n s.c] t_s_uint8 (0, 0)) := c1
    have c3 : (W1.drewN n2).heap[a3]? = some (.cells #[.int .i64 128] t_int (0, 0)) := c3
    have k1 : (W1.drewN n2).heap[a1]? = W.heap[a1]? := k1
    have k3 : (W1.drewN n2).heap[a3]? = W.heap[a3]? := k3
    generalize W1.drewN n2 = W2 at *
    generalize hE3 : up E _ = E3
    have hj : (min 128 ((cut s ((128 * k : Nat) : Int).toNat (s.n : Int).toNat 1).n : Int)) = ((min 128 (s.n - 128 * k) : Nat) : Int) := by
      show min 128 (((s.n : Int).toNat - ((128 * k : Nat) : Int).toNat : Nat) : Int) = _
      omega
    have h5 : E3 5 = .v (.int .i64 ((min 128 (s.n - 128 * k) : Nat) : Int)) := by
      rw [← hj, ← hE3]
      rfl
    clear hE3
    rw [t45_5 h5]
    refine wpIn_seq (wpIn_region_lit ?_)
    suffices h : wpListIn (wr none) n Tryd.prog ops45.toArray _ (ops45.take 10 ++ ops45.drop 10) _ _ by
      rw [List.take_append_drop] at h
      exact h
    refine wpListIn_app (opsW (by kernel_rfl) (fun o ho c => nd45' (List.mem_of_mem_take ho) c) (by rintro ⟨a, w, ⟨v, hv⟩, _⟩; cases hv) ?_)
    rw [ch4]
    refine ldL0 c1 rfl ?_
    have hw : IntKind.i64.wrap (((128 * k : Nat) : Int) + ((min 128 (s.n - 128 * k) : Nat) : Int)) = ((128 * k + min 128 (s.n - 128 * k) : Nat) : Int) := by
      rw [i64w (by omega) (by omega)]; omega
    refine ⟨chk s k, fun w' _ => ?_, ?_⟩
    · rw [hw]
      have := run_sls3 slB w' s (lo := some (.int .i64 ((128 * k : Nat) : Int))) (l := ((128 * k : Nat) : Int)) (h := ((128 * k + min 128 (s.n - 128 * k) : Nat) : Int)) (.inr rfl) (by omega) (by omega) (by omega)
      rw [Int.toNat_natCast, Int.toNat_natCast, if_neg (by omega), Nat.add_sub_cancel_left] at this
      exact this
    obtain ⟨fn, tmps, assign, body, hy, hR⟩ := hY (upto s.n k) ⟨k, hks⟩ W2 hJ2 (by have := upto_le s.n k; omega)
    show wpListIn (wr none) n Tryd.prog ops45.toArray _ (ops45.drop 10) _ W2
    rw [k45d, wpListIn, if_pos (by rw [Region.wanted, yop_guard])]
    refine ⟨fun _ _ => trivial, ?_⟩
    show yop.uponIn _ _ _ _ _ _ ((yop.semAt none _).run Tryd.prog W2)
    rw [Oper.semAt_none, run_yieldOp yop_op (l := l) (v := .slice (chk s k).a (chk s k).n (chk s k).c) rfl rfl]
    have hy' : (Instr.yield l #[.slice (chk s k).a (chk s k).n (chk s k).c]).run Tryd.prog W2 = _ := hy
    rw [hy', Oper.uponIn_round]
    refine ⟨fun h => by simp [wr, Fence.wide] at h, RoundIn.mono hR ?_⟩
    rintro e1 W3 (⟨rfl, hJ3, q1, q3⟩ | ⟨rfl, hJx3⟩)
    · show wpListIn (wr none) n Tryd.prog ops45.toArray _ (ops45.drop 11) ((acts _).put yop.dst (.bool true)) W3
      rw [yop_dst, chP]
      refine opsW (by kernel_rfl) (fun o ho c => nd45' (List.mem_of_mem_drop ho) c) (by rintro ⟨a, w, ⟨v, hv⟩, _⟩; cases hv) ?_
      rw [ch5]
      refine wpIn_cond_false rfl (wpIn_skip ?_)
      show (cB (cB loop45)).wpIn _ _ _ _ _ _
      refine inW (an := na) (by kernel_rfl) ?_
      rw [ch2]
      refine ldI0 (q3.trans c3) rfl ?_
      have hw2 : IntKind.i64.wrap (((128 * k : Nat) : Int) + 128) = ((128 * (k + 1) : Nat) : Int) := by
        rw [i64w (by omega) (by omega)]; omega
      rw [hw2]
      refine ⟨⟨k + 1, _, rfl, by omega, ?_, q1.trans k1, q3.trans k3⟩, ?_⟩
      · rw [upto, dif_pos hks]; exact hJ3
      · show ((s.n : Int) + 256 - ((128 * (k + 1) : Nat) : Int)).toNat < ((s.n : Int) + 256 - ((128 * k : Nat) : Int)).toNat
        omega
    · show wpListIn (wr none) n Tryd.prog ops45.toArray _ (ops45.drop 11) ((acts _).put yop.dst (.bool false)) W3
      rw [yop_dst, chP]
      refine opsW (by kernel_rfl) (fun o ho c => nd45' (List.mem_of_mem_drop ho) c) (by rintro ⟨a, w, ⟨v, hv⟩, _⟩; cases hv) ?_
      rw [ch5]
      refine wpIn_cond_true rfl (wpIn_ret ?_)
      simp only [Exit.inBlock, Exit.then]
      exact bodyPost_ret (results_none res45 _ _ _) rfl ⟨⟨_, rfl⟩, .inr ⟨_, trivial, hJx3⟩⟩
  · rw [decide_eq_false hlt] at ev9
    refine wpIn_cond_false ev9 (wpIn_exit ?_)
    simp only [Exit.inBlock, Exit.then, if_true]
    exact bodyPost_end (results_none res45 _ _ _) rfl ⟨⟨_, rfl⟩, .inl ⟨_, ⟨k, by omega, rfl⟩, hJ1⟩⟩
theorem Chunk_ok {s : Sl} {w : World} : cl Tryd.prog n_slices_Chunk_byte_byte #[.slice s.a s.n s.c, .int .i64 128] .U w fun (x : Value) w' =>
    ∃ a1 a3, x = .func (.func n_slices_Chunk_byte_byte_1) #[] #[.pointer (some ⟨a1, 0, none⟩), .pointer (some ⟨a3, 0, none⟩)] ∧ w'.heap[a1]? = some (.cells #[.slice s.a s.n s.c] t_s_uint8 (0, 0)) ∧ w'.heap[a3]? = some (.cells #[.int .i64 128] t_int (0, 0)) ∧ w.heap.size ≤ a1 ∧ w.heap.size ≤ a3 ∧ Fr w w' := by
  refine slices_Chunk_byte_byte.cl ?_
  unfold slices_Chunk_byte_byte
  refine nwI fun a1 w2 ha1 hs1 hf1 hb1 _ => ?_
  refine nwI fun a3 w4 ha3 hs3 hf3 hb3 _ => ?_
  have hf := hf1.trans hf3
  refine ldI0 hb3 rfl ?_
  exact bN (by decide) ⟨a1, a3, rfl, hf3.heap hb1, hb3, by omega, by omega, hf⟩
def toks {sn : Nat} (b : List UInt8) (xs : List (Al sn)) : List UInt8 := xs.flatMap fun x => tokF b x.1
theorem toks_upto {sn : Nat} {b : List UInt8} (hn : sn = b.length) : ∀ k, toks b (upto sn k) ++ plainS (b.drop (128 * k)) = plainS b
  | 0 => rfl
  | k + 1 => by
    subst hn
    rw [upto]
    by_cases h : 128 * k < b.length
    · rw [dif_pos h]
      have ih := toks_upto (b := b) rfl k
      rw [plainS_tok h] at ih
      unfold toks at ih ⊢
      rw [List.flatMap_append, List.append_assoc]
      simpa using ih
    · rw [dif_neg h, List.append_nil]
      have ih := toks_upto (b := b) rfl k
      rw [List.drop_eq_nil_of_le (by omega)] at ih ⊢
      exact ih
theorem toks_len {sn : Nat} (b : List UInt8) : ∀ xs : List (Al sn), (toks b xs).length ≤ 129 * xs.length
  | [] => Nat.le_refl _
  | x :: xs => by
    have := toks_len b xs
    unfold toks at this ⊢
    rw [List.flatMap_cons, List.length_append, List.length_cons]
    have h1 : (tokF b x.1).length ≤ 129 := by unfold tokF; rw [List.length_cons, List.length_take]; omega
    omega
/-- What holds between two rounds. -/
def litI (w0 : World) (base Bx a1 a3 : Nat) (o b : List UInt8) (sb : Sl) {sn : Nat} (pre : List (Al sn)) (W : World) : Prop :=
  ∃ r : Sl, W.heap[Bx]? = some (.cells #[.slice r.a r.n r.c] t_s_uint8 (0, 0)) ∧ OwB W base t_uint8 r (o ++ toks b pre) ∧ (∀ k, (Value.slice r.a r.n r.c).ownBlock = some k → k ≠ Bx ∧ k ≠ a1 ∧ k ≠ a3) ∧ Bs W sb b ∧ Below base w0 W
theorem litI_own {w0 : World} {base Bx a1 a3 B : Nat} {o b : List UInt8} {sb : Sl} (hB : base ≤ B) (h0 : base ≤ w0.heap.size) (hold : b ≠ [] → ∀ ad, sb.a = some ad → ad.block < base) : OwnFrom B (litI w0 base Bx a1 a3 o b sb (sn := sb.n)) := by
  rintro s W W' row ⟨r, h1, h2, h3, h4, h5⟩ hg hr
  have keep : ∀ (k : Nat) (cs : Array Value) (t : TypeId) (f : Nat × Nat), W.heap[k]? = some (.cells cs t f) → W'.heap[k]? = W.heap[k]? := fun k cs t f hk =>
    hg.block k (Array.getElem?_eq_some_iff.1 hk).1 fun e => by
      obtain ⟨_, ob, hob, hc⟩ := hr k e.symm
      rw [hk] at hob
      cases hob
      cases hc
  refine ⟨r, (keep _ _ _ _ h1).trans h1, ?_, h3, ?_, ?_⟩
  · refine h2.kp (S := fun k => W'.heap[k]? = W.heap[k]?) (fun k _ hk => hk) fun ad had => ?_
    rcases h2.2 with ⟨hv, _⟩ | ⟨g, cap, cur, hv, _, hgg, _⟩
    · rw [had] at hv; cases hv
    · rw [had] at hv; injection hv with hv; cases hv; exact keep _ _ _ _ hgg
  · refine h4.kpn (S := fun k => k < base) (fun k hk hkb => hg.block k hk fun e => ?_) hold
    have := (hr k e.symm).1
    omega
  · exact h5.grown hg (Nat.le_trans h0 h5.size) (fun k hk => by have := (hr k hk).1; omega)
theorem chunk_bs {w : World} {sb : Sl} {b : List UInt8} (h : Bs w sb b) {k : Nat} (hk : 128 * k < b.length) : Bs w (chk sb k) ((b.drop (128 * k)).take 128) := by
  have hn := h.len
  have hc := h.cap
  obtain ⟨hr, hl, _⟩ := h.cut (i := 128 * k) (j := 128 * k + min 128 (b.length - 128 * k)) (by omega) (by omega)
  have e : (b.take (128 * k + min 128 (b.length - 128 * k))).drop (128 * k) = (b.drop (128 * k)).take 128 := by
    rw [List.drop_take, Nat.add_sub_cancel_left]
    apply List.take_eq_take_iff.2
    rw [List.length_drop]
    omega
  rw [e] at hr
  unfold chk
  refine ⟨?_, by show min 128 (sb.n - 128 * k) = _; rw [List.length_take, List.length_drop]; omega, Nat.le_refl _⟩
  unfold Fl.cut at hr
  rw [if_neg (by omega)] at hr
  exact hr
theorem literals_ok {so sb : Sl} {base : Nat} {o b : List UInt8} {w : World} (ho : OwB w base t_uint8 so o) (hb : Bs w sb b) (hold : b ≠ [] → ∀ ad, sb.a = some ad → ad.block < base) (hbase : base ≤ w.heap.size) (hlb : b.length ≤ 137438953472) (hlo : o.length ≤ 35184372088832) :
    cl Tryd.prog n_lz_literals #[.slice so.a so.n so.c, .slice sb.a sb.n sb.c] .L w fun (r : Sl) w' => OwB w' base t_uint8 r (o ++ plainS b) ∧ Below base w w' := by
  have hn := hb.len
  refine (callsIn_wide (n := 3)).1 ?_
  refine callsIn_of_wp_marks (c := code24) Tryd.func46 k24 trivial ?_ rfl
  rw [k24a, act24]
  refine wpIn_seq (inW (an := na) (by kernel_rfl) ?_)
  rw [lit0]
  refine nwI fun Bx w1 hBx hs1 hf1 hblk1 _ => ?_
  refine wpIn_seq (wpIn_seq (inW (an := na) (by kernel_rfl) ?_))
  rw [lit1]
  refine (Chunk_ok (s := sb) (w := w1)).mono ?_
  rintro x7 w2 ⟨a1, a3, rfl, c1, c3, g1, g3, hf2⟩
  have hf := hf1.trans hf2
  have hh := hf.size
  have hBx2 := hf2.heap hblk1
  have l1 := (Array.getElem?_eq_some_iff.1 c1).1
  have l3 := (Array.getElem?_eq_some_iff.1 c3).1
  refine wpIn_block ?_
  refine wpIn_rangeFunc_ownF rfl (by decide) (gf := n_slices_Chunk_byte_byte_1) (lb := #[.pointer (some ⟨a1, 0, none⟩), .pointer (some ⟨a3, 0, none⟩)]) rfl trivial (enters_of Tryd.func76 (by kernel_rfl) k45)
    (chunk_stops sb hb.cap (by omega) c1 c3) (fun h k => ⟨k.1.trans h.1, k.2.trans h.2⟩) ?_ (Below.refl _ _) (fun _ => rfl)
    (litI w2 base Bx a1 a3 o b sb) (fun _ _ _ => False) (litI_own (by omega) (by omega) hold) (fun _ _ _ _ _ h _ _ => h) ?_
    (fun x => acts (t24 so sb ⟨Bx, 0, none⟩ (.func (.func n_slices_Chunk_byte_byte_1) #[] #[.pointer (some ⟨a1, 0, none⟩), .pointer (some ⟨a3, 0, none⟩)]) (.v (.slice (chk sb x.1).a (chk sb x.1).n (chk sb x.1).c)) (.v (.slice (chk sb x.1).a (chk sb x.1).n (chk sb x.1).c)))) ?assign ?body ?done ?stop
  · intro W l ob ob' hl _ _ _
    have e1 : l ≠ a1 := by omega
    have e3 : l ≠ a3 := by omega
    exact ⟨World.putObj_heap_other (Ne.symm e1), World.putObj_heap_other (Ne.symm e3)⟩
  · refine ⟨so, hBx2, ?_, fun k hk => ?_, hb.fr hf, Below.refl _ _⟩
    · have := ho.fr hf
      simpa [toks] using this
    · have := (ho.block k hk).2
      omega
  case assign =>
    intro l x W K hK
    rw [show enc1 sb x = #[.slice (chk sb x.1).a (chk sb x.1).n (chk sb x.1).c] from rfl, actA]
    refine inR (by kernel_rfl) (fun o ho c => noDefer_of nd24A ho c) (by rintro ⟨a, w, h⟩; exact h) ?_
    rw [litA]
    exact hK
  case body =>
    rintro l pre x W ⟨r, hB, hr, hne, hb', hlow⟩ hlen
    refine wpIn_block ?_
    refine inR (by kernel_rfl) (fun o ho c => noDefer_of nd24B ho c) (by rintro ⟨a, w, h⟩; exact h) ?_
    have hx : 128 * x.1 < b.length := by have := x.2; omega
    have htl := toks_len b pre
    have hch := chunk_bs hb' hx
    have hcl := hch.len
    rw [List.length_take, List.length_drop] at hcl
    show opsVC Tryd.prog opsB (fun _ w' => KeepsOthers W w' ∧ (w'.heap[a1]? = W.heap[a1]? ∧ w'.heap[a3]? = W.heap[a3]?) ∧ litI w2 base Bx a1 a3 o b sb (pre ++ [x]) w') opsB _ W
    unfold t24
    rw [litB]
    refine ldL0 hB rfl ?_
    have hsz := hlow.size
    have hlW := hb'.lt
    refine nwI fun a14 w3 ha14 hs14 hf14 hblk14 hrd14 => ?_
    have hc14 : IntKind.u8.wrap (IntKind.i64.wrap (((chk sb x.1).n : Int) - 1)) = ((UInt8.ofNat (min 128 (b.length - 128 * x.1) - 1)).toNat : Int) := by
      rw [i64w (by omega) (by omega), u8w, u8_ofNat]
      omega
    rw [hc14] at hrd14 hblk14
    refine app_B slB (base := base) (m := [UInt8.ofNat (min 128 (b.length - 128 * x.1) - 1)]) (hr.fr hf14) hrd14 rfl (by rw [List.length_append]; simp; omega) (by have := hf14.size; omega) fun r15 w4 h15 hb15 hk15 hat15 => ?_
    have hch4 : Bs w4 (chk sb x.1) ((b.drop (128 * x.1)).take 128) := by
      refine hch.kpn (S := fun k => k < base) (fun k hk hkb => (hb15.block k hkb).trans (hf14.block k hk)) fun hne' ad had => ?_
      unfold chk at had
      cases hsa : sb.a with
      | none => rw [hsa] at had; cases had
      | some ad' =>
        rw [hsa] at had
        simp only [Option.map_some, Option.some.injEq] at had
        rw [← had, add_block]
        exact hold (fun e => by rw [e] at hx; simp at hx) ad' hsa
    have hs15 := hb15.size
    refine app_B slB (base := base) h15 hch4.rd hch4.len.symm (by simp only [List.length_append, List.length_cons, List.length_nil, List.length_take, List.length_drop]; omega) (by have := hf14.size; omega) fun r17 w5 h17 hb17 hk17 hat17 => ?_
    have hlt14 := hf14.size
    have hs17 := hb17.size
    have own_lt : ∀ k, (Value.slice r.a r.n r.c).ownBlock = some k → k < W.heap.size := fun k hk => (hr.block k hk).2
    have ne15 : ∀ k, k < W.heap.size → (Value.slice r.a r.n r.c).ownBlock ≠ some k → (Value.slice r15.a r15.n r15.c).ownBlock ≠ some k := fun k hk hne e => by
      rcases hat15 with h | h
      · rw [h] at e; exact hne e
      · rw [h] at e; cases e; omega
    have kk : ∀ k, k < W.heap.size → (Value.slice r.a r.n r.c).ownBlock ≠ some k → w5.heap[k]? = W.heap[k]? := fun k hk hne => by
      rw [hk17 k (by omega) (ne15 k hk hne), hk15 k (by omega) hne, hf14.block k hk]
    have hBl := (Array.getElem?_eq_some_iff.1 hB).1
    have hBne : (Value.slice r.a r.n r.c).ownBlock ≠ some Bx := fun e => (hne Bx e).1 rfl
    refine st0 ((kk Bx hBl hBne).trans hB) (by simp) fun w6 hb6 hg6 hs6 => ?_
    have k6 : ∀ k, k < W.heap.size → k ≠ Bx → (Value.slice r.a r.n r.c).ownBlock ≠ some k → w6.heap[k]? = W.heap[k]? := fun k hk hB' hne => by
      rw [hg6.block k (by omega) (by simp; omega)]; exact kk k hk hne
    have hL6 : Below base W w6 := (((hf14.mono (by omega)).trans hb15).trans hb17).grown hg6 (by omega) (fun k hk => by cases hk; omega)
    have hne17 : ∀ k, (Value.slice r17.a r17.n r17.c).ownBlock = some k → k ≠ Bx ∧ k ≠ a1 ∧ k ≠ a3 := fun k hk => by
      rcases hat17 with h | h
      · rw [h] at hk
        rcases hat15 with h' | h'
        · rw [h'] at hk; exact hne k hk
        · rw [h'] at hk; cases hk; omega
      · rw [h] at hk; cases hk; omega
    refine ⟨⟨by omega, fun k ob hk ho' => ?_⟩, ⟨k6 a1 (by omega) (by omega) fun e => (hne a1 e).2.1 rfl, k6 a3 (by omega) (by omega) fun e => (hne a3 e).2.2 rfl⟩, ⟨r17, ?_, ?_, hne17, ?_, hlow.trans hL6⟩⟩
    · rw [k6 k (Array.getElem?_eq_some_iff.1 hk).1 (fun e => by rw [e, hB] at hk; cases hk; cases ho') (fun e => ?_)]
      · exact hk
      · rcases hr.2 with ⟨hv, _⟩ | ⟨g, cap, cur, hv, _, hgg, _⟩
        · rw [hv] at e; cases e
        · rw [hv] at e; cases e; rw [hgg] at hk; cases hk; cases ho'
    · simpa using hb6
    · have ht : o ++ toks b (pre ++ [x]) = o ++ toks b pre ++ [UInt8.ofNat (min 128 (b.length - 128 * x.1) - 1)] ++ (b.drop (128 * x.1)).take 128 := by
        unfold toks
        rw [List.flatMap_append]
        simp [tokF]
      rw [ht]
      exact h17.kp (S := fun k => k ≠ Bx) (fun k hk hkB => hg6.block k hk (by simp; omega)) fun ad had => (hne17 ad.block (by rw [had]; rfl)).1
    · exact hb'.kpn (S := fun k => k < base) (fun k _ hk => hL6.block k hk) hold
  case done =>
    rintro D ys W hD ⟨m, hm, rfl⟩ hI hK
    obtain ⟨r', hB', hr', hne', hb'', hlow'⟩ := (litI_own (w0 := w2) (base := base) (Bx := Bx) (a1 := a1) (a3 := a3) (B := w2.heap.size) (o := o) (b := b) (sb := sb) (by omega) (by omega) hold).putObj (.deferred none) hI hD hK rfl
    obtain ⟨r, hB, hr, hne, hb', hlow⟩ := hI
    have hrr : r' = r := by
      have e : (W.putObj D (.deferred none)).heap[Bx]? = W.heap[Bx]? := World.putObj_heap_other (by have := (Array.getElem?_eq_some_iff.1 hBx2).1; omega)
      rw [e, hB] at hB'
      simp only [Option.some.injEq, Obj.cells.injEq, Array.mk.injEq, List.cons.injEq, Value.slice.injEq, and_true] at hB'
      obtain ⟨e1, e2, e3⟩ := hB'
      cases r; cases r'; simp_all
    subst hrr
    simp only [Exit.inBlock, Exit.then]
    show (Code.seq (.region 4 opsE.toArray false) .ret).wpIn _ _ _ _ (more [{ target := .collected D, args := #[] }] (acts _)) W
    refine wpIn_seq (wpIn_region_lit (listIn_more (opsW (r := none) (by kernel_rfl) (fun o ho c => noDefer_of ndE ho c) ?_ ?_)))
    · rintro ⟨a, w, x, hx, _⟩
      cases hx
    · rw [litE]
      refine ldL0 hB rfl ?_
      refine wpIn_ret ?_
      refine ⟨by simp, .inl ⟨_, _, rfl, run_takeDeferred hK, ?_⟩⟩
      refine ⟨_, results_tmp res24 _ _ _, r', rfl, ?_, (hf.mono hbase).trans hlow'⟩
      have e := toks_upto (b := b) hn m
      rw [List.drop_eq_nil_of_le (by omega), plainS_nil, List.append_nil] at e
      rw [← e]
      exact hr'
  case stop =>
    rintro D c pre W _ _ h _
    exact h.elim
end Go.Proofs.YtkojpppnjloikaaDoor
