/- What a function's code asks of its caller, as a plain proposition over numbers, lists and worlds: 'Code.vc', and that it suffices. No program is named here. -/
import Derived.Test.YtkojpppnjloikaaDoorFlBase
import Derived.Deep.Quiet
import Derived.Laws.Entries
import Derived.Lib.LazyBuf
namespace Go.Fl
open Go.RowKit

/-- A slice's header. -/
structure Sl where
  a : Option Addr
  n : Nat
  c : Nat

/-- What stands in a slot: one value, or a struct or array by its parts, or several results. -/
inductive AV where
  | v (x : Value)
  | nil
  | pair (a b : AV)
  | row (n : Nat) (l : {l : List Value // l.length = n})
  | tup (a : AV)

def AV.cells : AV → List Value
  | .v x => x.cells.toList
  | .nil => []
  | .pair a b => a.cells ++ b.cells
  | .row _ l => l.1
  | .tup _ => []
mutual
def AV.val : AV → Value
  | .v x => x
  | .tup a => .tuple a.elems.toArray
  | .nil => .agg #[]
  | .pair a b => .agg (a.cells ++ b.cells).toArray
  | .row _ l => .agg l.1.toArray
def AV.elems : AV → List Value
  | .pair a b => a.val :: b.elems
  | .v _ => []
  | .nil => []
  | .row _ _ => []
  | .tup _ => []
end
def AV.nth : AV → Nat → Option AV
  | .pair a _, 0 => some a
  | .pair _ b, n + 1 => b.nth n
  | _, _ => none
def AV.size : AV → Nat
  | .v x => x.cells.size
  | .nil => 0
  | .pair a b => a.size + b.size
  | .row n _ => n
  | .tup _ => 0

/-- Kinds of values. -/
inductive Kd where
  | B | I (k : IntKind) | S | P | L | M | U
  | nil | pair (a b : Kd) | row (n : Nat) | tup (a : Kd)
@[reducible] def Kd.T : Kd → Type
  | .B => Bool | .I _ => Int | .S => ByteArray | .P => Option Addr | .L => Sl | .M => Option Nat | .U => Value
  | .nil => Unit | .pair a b => a.T × b.T | .row n => {l : List Value // l.length = n} | .tup a => a.T
def Kd.av : (k : Kd) → k.T → AV
  | .B, x => .v (.bool x) | .I k, n => .v (.int k n) | .S, x => .v (.string x) | .P, a => .v (.pointer a) | .L, x => .v (.slice x.a x.n x.c) | .M, r => .v (.map r) | .U, x => .v x
  | .nil, _ => .nil | .pair a b, x => .pair (a.av x.1) (b.av x.2) | .row n, l => .row n l | .tup a, x => .tup (a.av x)
def Kd.size : Kd → Nat
  | .nil => 0 | .pair a b => a.size + b.size | .row n => n | .tup _ => 0 | _ => 1

/-- An address that is there. -/
def nz (A : Option Addr) (K : Addr → Prop) : Prop := match A with | some a => K a | none => False

/-- A variable of a kind is read. -/
def ld : (k : Kd) → World → Addr → (k.T → Prop) → Prop
  | .B, w, a, K => ∃ x, w.cell? a = some (.bool x) ∧ K x
  | .I k, w, a, K => ∃ n, w.cell? a = some (.int k n) ∧ K n
  | .S, w, a, K => ∃ x, w.cell? a = some (.string x) ∧ K x
  | .P, w, a, K => ∃ x, w.cell? a = some (.pointer x) ∧ K x
  | .L, w, a, K => ∃ x : Sl, w.cell? a = some (.slice x.a x.n x.c) ∧ K x
  | .M, w, a, K => ∃ x, w.cell? a = some (.map x) ∧ K x
  | .U, w, a, K => ∃ x, w.cell? a = some x ∧ K x ∧ x.oneCell' = true
  | .nil, _, _, K => K ()
  | .pair k1 k2, w, a, K => ld k1 w a fun x => ld k2 w (a.add k1.size) fun y => K (x, y)
  | .row n, w, a, K => ∃ l : {l : List Value // l.length = n}, (∀ (i : Nat) (h : i < l.1.length), w.cell? (a.add i) = some l.1[i]) ∧ K l
  | .tup _, _, _, _ => False

/-- A call of a named function that returns. -/
def cl (P : Program) (f : FuncId) (args : Array Value) (k : Kd) (w : World) (K : k.T → World → Prop) : Prop :=
  Calls P f args w fun e w' => ∃ x, e = .returned (k.av x).val ∧ K x w'
theorem cl.mono {P : Program} {f : FuncId} {args : Array Value} {k : Kd} {w : World} {K K' : k.T → World → Prop} (h : cl P f args k w K) (hk : ∀ x w', K x w' → K' x w') : cl P f args k w K' :=
  Calls.mono h fun _ _ ⟨x, e, hx⟩ => ⟨x, e, hk _ _ hx⟩
/-- A call that leaves all memory alone. -/
def qcl (P : Program) (f : FuncId) (args : Array Value) (k : Kd) (w : World) (K : k.T → Prop) : Prop :=
  ∃ x, (∀ n, cl P f args k (w.drewN n) fun y w' => y = x ∧ ∃ m, w' = w.drewN m) ∧ K x

/-- One cell is written. -/
def st1 (w : World) (a : Addr) (v : Value) (K : World → Prop) : Prop := (∃ u, w.cell? a = some u) ∧ w.frozen? a = false ∧ K (w.setCell a v)
def stL (a : Addr) : World → Nat → List Value → (World → Prop) → Prop
  | w, _, [], K => K w
  | w, i, v :: vs, K => v.oneCell' = true ∧ st1 w (a.add i) v fun w' => stL a w' (i + 1) vs K
def st (w : World) (a : Addr) : AV → (World → Prop) → Prop
  | .v x, K => bif x.oneCell' then st1 w a x K else False
  | .nil, K => K w
  | .pair x y, K => st w a x fun w' => st w' (a.add x.size) y K
  | .row _ l, K => stL a w 0 l.1 K
  | .tup _, _ => False

/-- A new block. -/
def nw (w : World) (cs : List Value) (t : TypeId) (K : Addr → World → Prop) : Prop := K ⟨w.heap.size, 0, none⟩ (w.alloc (.cells cs.toArray t))

/-- The address of a slice's element. -/
def atOff (a : Addr) (i : Int) (sz : Nat) : Addr := match sz with | 1 => a.add i.toNat | n => a.add (i.toNat * n)
def ixa (A : Option Addr) (n : Nat) (i : Int) (sz : Nat) (K : Addr → Prop) : Prop := 0 ≤ i ∧ i < (n : Int) ∧ nz A fun a => K (atOff a i sz)
/-- A slice of a slice. -/
def cut (s : Sl) (l h : Nat) (sz : Nat) : Sl := ⟨if s.c = l then s.a else s.a.map (atOff · l sz), h - l, s.c - l⟩
def sls (s : Sl) (l h : Int) (sz : Nat) (K : Sl → Prop) : Prop := 0 ≤ l ∧ l ≤ h ∧ h ≤ (s.c : Int) ∧ K (cut s l.toNat h.toNat sz)

/-- append of slices. -/
def app (P : Program) (t ty : TypeId) (s x : Sl) (w : World) (K : Sl → World → Prop) : Prop :=
  ∃ (r : Sl) (w' : World), (Builtin.append_ #[t, t] ty #[.slice s.a s.n s.c, .slice x.a x.n x.c]).run P w = .ok (.slice r.a r.n r.c) w' ∧ K r w'
/-- make of a slice. -/
def mks (P : Program) (t : TypeId) (l c : Int) (w : World) (K : Sl → World → Prop) : Prop :=
  ∃ (r : Sl) (w' : World), (Instr.makeSlice t (.int .i64 l) (.int .i64 c)).run P w = .ok (.slice r.a r.n r.c) w' ∧ K r w'

/-- A run that only reads: in every world that holds what this one holds. -/
def qn (P : Program) (s : Sem Value) (k : Kd) (w : World) (K : k.T → Prop) : Prop := ∃ x, (∀ w' : World, (∀ j, j < w.heap.size → w'.heap[j]? = w.heap[j]?) → s.run P w' = .ok (k.av x).val w') ∧ K x
/-- A run that makes a value. -/
def rn (P : Program) (s : Sem Value) (k : Kd) (w : World) (K : k.T → World → Prop) : Prop := ∃ x w', s.run P w = .ok (k.av x).val w' ∧ K x w'
/-- A run that makes none. -/
def ru (P : Program) (s : Sem Unit) (w : World) (K : World → Prop) : Prop := ∃ w', s.run P w = .ok () w' ∧ K w'
/-- The kind of a type. -/
def kdOf (P : Program) : Nat → TypeId → Kd
  | 0, _ => .U
  | d + 1, t => match P.underlying t with
    | some .bool => .B
    | some (.int k) => .I k
    | some .string => .S
    | some (.pointer _) => .P
    | some (.slice _) => .L
    | some (.map _ _) => .M
    | some (.struct fs) => fs.toList.foldr (fun f k => .pair (kdOf P d f.type) k) .nil
    | some (.array _ _) => .row (P.cellsOf t)
    | some (.tuple ts) => .tup (ts.toList.foldr (fun t k => .pair (kdOf P d t) k) .nil)
    | _ => .U

/-- A run that asks for the program alone. -/
def semVal {α : Type} (P : Program) : Sem α → Option α
  | .pure a => some a
  | .program k => semVal P (k P)
  | _ => none
theorem semVal_run {α : Type} {P : Program} {s : Sem α} {a : α} (h : semVal P s = some a) (w : World) : s.run P w = .ok a w := by
  induction s with
  | pure b => simp only [semVal, Option.some.injEq] at h; subst h; rfl
  | program k ih => exact ih P h
  | _ => simp [semVal] at h

def rd (E : List AV) : Operand → AV
  | .tmp t => E.getD t (.v undef)
  | .const v => .v v
  | .global g => .v (.pointer (some ⟨g, 0, none⟩))
  | .func f => .v (.func (.func f) #[] #[])

def AV.isTup : AV → Bool
  | .tup _ => true
  | _ => false

def AV.many : AV → Bool
  | .nil => true | .pair _ _ => true | .row _ _ => true | _ => false

/-- The part of a struct at a place. -/
def AV.at : AV → Nat → AV
  | .pair a b, off => if off = 0 then a else if off < a.size then .tup .nil else b.at (off - a.size)
  | _, _ => .tup .nil
def AV.okOne : AV → Bool
  | .v x => x.oneCell'
  | _ => true

/-- A struct's or an array's kind. -/
def Kd.many : Kd → Bool
  | .nil => true | .pair _ _ => true | .row _ => true | _ => false
/-- The kind fits the type. -/
def kdFits (P : Program) (t : TypeId) (k : Kd) : Bool :=
  match P.underlying t with
  | some (.struct _) => k.many && k.size == P.cellsOf t
  | some (.array _ _) => k.many && k.size == P.cellsOf t
  | some (.tuple _) => false
  | some _ => !k.many
  | none => false

/-- A string out of bytes. -/
def bstr (w : World) (x : Sl) (K : List UInt8 → Prop) : Prop := ∃ l : List UInt8, l.length = x.n ∧ Rd w x.a (u8s l) ∧ K l
def beqB (a b : ByteArray) : Bool := a.toList == b.toList

/-- Cells by a kind. -/
def ofCells : (k : Kd) → List Value → AV
  | .nil, _ => .nil
  | .pair a b, cs => .pair (ofCells a cs) (ofCells b (cs.drop a.size))
  | .row n, cs => if h : (cs.take n).length = n then .row n ⟨cs.take n, h⟩ else .nil
  | .tup _, _ => .nil
  | _, cs => match cs with | v :: _ => bif v.oneCell' then .v v else .nil | [] => .nil
def zrow (n : Nat) (v : Value) : {l : List Value // l.length = n} := ⟨List.replicate n v, by simp⟩
def chain : List AV → AV
  | [] => .nil
  | a :: l => .pair a (chain l)
/-- A struct out of its parts, the others at zero. -/
def structAV (P : Program) (E : List AV) (fs : List Field) (zero : List Value) (parts : List (Nat × Operand)) : List AV :=
  parts.foldl (fun l p => l.set p.1 (rd E p.2)) (fs.map fun f => ofCells (kdOf P 12 f.type) (zero.drop f.offset))
def lain : List Field → Nat → List AV → Bool
  | [], _, [] => true
  | f :: fs, off, a :: l => f.offset == off && !a.isTup && lain fs (off + a.size) l
  | _, _, _ => false

/-- What an operation that leaves the world alone asks. -/
def pureVC (P : Program) (E : List AV) (o : Oper) (K : AV → Prop) (w : World) : Prop :=
  let dflt : Prop := match semVal P (execOp (fun x => (rd E x).val) o) with | some (.value v) => K (.v v) | _ => False
  match o.op with
  | .move x => K (rd E x)
  | .assign x => K (rd E x)
  | .load t x => match rd E x with | .v (.pointer A) => nz A fun a => bif kdFits P t (kdOf P 12 t) then ld (kdOf P 12 t) w a fun y => K ((kdOf P 12 t).av y) else False | _ => False
  | .nilCheck x => match rd E x with | .v (.pointer A) => nz A fun a => K (.v (.pointer (some a))) | _ => dflt
  | .fieldAddr s x f => match P.underlying s, rd E x with
    | some (.struct fs), .v (.pointer A) => match fs.toList[f]? with
      | some fd => bif P.cellsOf fd.type == 0 then False else nz A fun a => K (.v (.pointer (some (a.add fd.offset))))
      | none => False
    | _, _ => False
  | .indexAddr t x ix => match P.underlying t, rd E x, rd E ix with
    | some (.slice e), .v (.slice A n _), .v (.int _ i) => bif P.cellsOf e == 0 then False else ixa A n i (P.cellsOf e) fun a => K (.v (.pointer (some a)))
    | some (.array n e), .v (.pointer A), .v (.int _ i) => bif P.cellsOf e == 0 then False else ixa A n i (P.cellsOf e) fun a => K (.v (.pointer (some a)))
    | _, _, _ => False
  | .slice t x lo hi none => match P.underlying t, rd E x, lo.map (rd E), hi.map (rd E) with
    | some (.slice e), .v (.slice A n c), none, none => bif P.cellsOf e == 0 then False else sls ⟨A, n, c⟩ 0 n (P.cellsOf e) fun r => K (.v (.slice r.a r.n r.c))
    | some (.slice e), .v (.slice A n c), some (.v (.int _ l)), none => bif P.cellsOf e == 0 then False else sls ⟨A, n, c⟩ l n (P.cellsOf e) fun r => K (.v (.slice r.a r.n r.c))
    | some (.slice e), .v (.slice A n c), none, some (.v (.int _ h)) => bif P.cellsOf e == 0 then False else sls ⟨A, n, c⟩ 0 h (P.cellsOf e) fun r => K (.v (.slice r.a r.n r.c))
    | some (.slice e), .v (.slice A n c), some (.v (.int _ l)), some (.v (.int _ h)) => bif P.cellsOf e == 0 then False else sls ⟨A, n, c⟩ l h (P.cellsOf e) fun r => K (.v (.slice r.a r.n r.c))
    | some (.array ..), _, _, _ => qn P (Instr.sliceAt t (rd E x).val (lo.map fun y => (rd E y).val) (hi.map fun y => (rd E y).val) none) .L w fun r => K (.v (.slice r.a r.n r.c))
    | _, _, _, _ => False
  | .slice t x lo hi (some m) => qn P (Instr.sliceAt t (rd E x).val (lo.map fun y => (rd E y).val) (hi.map fun y => (rd E y).val) (some (rd E m).val)) .L w fun r => K (.v (.slice r.a r.n r.c))
  | .sliceToArrayPointer arr x => qn P (Instr.arrayAt arr (rd E x).val) .P w fun r => K (.v (.pointer r))
  | .lookup t x ix ok => qn P (Instr.lookup t (rd E x).val (rd E ix).val ok) (kdOf P 12 o.type) w fun y => K ((kdOf P 12 o.type).av y)
  | .index t x ix => match P.underlying t, rd E x, rd E ix with
    | some .string, .v (.string s), .v (.int _ i) => 0 ≤ i ∧ i < (s.size : Int) ∧ K (.v (.int .u8 (s.data.toList.getD i.toNat 0).toNat))
    | some (.array ..), _, _ => qn P (Instr.index t (rd E x).val (rd E ix).val) (kdOf P 12 o.type) w fun y => K ((kdOf P 12 o.type).av y)
    | _, _, _ => False
  | .extract x i => match rd E x with
    | .tup a => match a.nth i with | some y => K y | none => False
    | _ => False
  | .binOp op t x y _ => match op, rd E x, rd E y with
    | .shl, .v (.int k a), .v (.int _ b) => bif decide (0 ≤ b) then K (.v (.int k (k.wrap (a * 2 ^ min b.toNat k.bits)))) else False
    | .shr, .v (.int k a), .v (.int _ b) => bif decide (0 ≤ b) then K (.v (.int k (a / 2 ^ min b.toNat k.bits))) else False
    | .quo, .v (.int k a), .v (.int k' b) => bif decide (k = k') && !decide (b = 0) then K (.v (.int k (k.wrap (a.tdiv b)))) else False
    | .rem, .v (.int k a), .v (.int k' b) => bif decide (k = k') && !decide (b = 0) then K (.v (.int k (a.tmod b))) else False
    | .and, .v (.int k a), .v (.int k' b) => bif decide (k = k') then K (.v (.int k (bits .and k a b))) else False
    | .or, .v (.int k a), .v (.int k' b) => bif decide (k = k') then K (.v (.int k (bits .or k a b))) else False
    | .xor, .v (.int k a), .v (.int k' b) => bif decide (k = k') then K (.v (.int k (bits .xor k a b))) else False
    | .eql, .v (.pointer A), .v (.pointer none) => match P.underlying t with | some (.pointer e) => bif P.pointee t == e then K (.v (.bool A.isNone)) else False | _ => False
    | .neq, .v (.pointer A), .v (.pointer none) => match P.underlying t with | some (.pointer e) => bif P.pointee t == e then K (.v (.bool (!A.isNone))) else False | _ => False
    | .eql, .v (.slice A _ _), .v (.slice none 0 0) => match P.underlying t with | some (.slice _) => K (.v (.bool A.isNone)) | _ => False
    | .neq, .v (.slice A _ _), .v (.slice none 0 0) => match P.underlying t with | some (.slice _) => K (.v (.bool (!A.isNone))) | _ => False
    | .eql, .pair a b, .pair c d => match P.underlying t with | some (.struct _) => qn P (do eqGuard .eql t (.const .nilIface) (.const .nilIface) (AV.val (.pair a b)) (AV.val (.pair c d)); binOp .eql t (AV.val (.pair a b)) (AV.val (.pair c d))) .B w fun b => K (.v (.bool b)) | _ => False
    | .eql, .row a b, .row c d => match P.underlying t with | some (.array ..) => qn P (do eqGuard .eql t (.const .nilIface) (.const .nilIface) (AV.val (.row a b)) (AV.val (.row c d)); binOp .eql t (AV.val (.row a b)) (AV.val (.row c d))) .B w fun b => K (.v (.bool b)) | _ => False
    | .neq, .pair a b, .pair c d => match P.underlying t with | some (.struct _) => qn P (do eqGuard .neq t (.const .nilIface) (.const .nilIface) (AV.val (.pair a b)) (AV.val (.pair c d)); binOp .neq t (AV.val (.pair a b)) (AV.val (.pair c d))) .B w fun b => K (.v (.bool b)) | _ => False
    | .neq, .row a b, .row c d => match P.underlying t with | some (.array ..) => qn P (do eqGuard .neq t (.const .nilIface) (.const .nilIface) (AV.val (.row a b)) (AV.val (.row c d)); binOp .neq t (AV.val (.row a b)) (AV.val (.row c d))) .B w fun b => K (.v (.bool b)) | _ => False
    | .eql, .v (.map A), .v (.map B) => match P.underlying t with | some (.map ..) => qn P (do eqGuard .eql t (.const .nilIface) (.const .nilIface) (.map A) (.map B); binOp .eql t (.map A) (.map B)) .B w fun b => K (.v (.bool b)) | _ => False
    | .neq, .v (.map A), .v (.map B) => match P.underlying t with | some (.map ..) => qn P (do eqGuard .neq t (.const .nilIface) (.const .nilIface) (.map A) (.map B); binOp .neq t (.map A) (.map B)) .B w fun b => K (.v (.bool b)) | _ => False
    | _, _, _ => dflt
  | .build t parts => match P.underlying t, (P.info? t).bind (·.zero) with
    | some (.struct fs), some z =>
      let zs := fs.toList.map fun f => ofCells (kdOf P 12 f.type) (z.cells.toList.drop f.offset)
      bif (parts.toList.all fun p => !(rd E p.2).isTup && (zs.getD p.1 .nil).size == (rd E p.2).size && decide (p.1 < zs.length)) && lain fs.toList 0 zs && (chain zs).size == z.cells.size && (fs.toList.all fun f => P.cellsOf f.type == (ofCells (kdOf P 12 f.type) (z.cells.toList.drop f.offset)).size && (kdOf P 12 f.type).size == P.cellsOf f.type && (P.info? f.type).isSome)
        then K (chain (structAV P E fs.toList z.cells.toList parts.toList)) else False
    | some (.array ..), _ => qn P (Instr.build t (parts.map fun p => (p.1, (rd E p.2).val))) (.row (P.cellsOf t)) w fun x => K (.row (P.cellsOf t) x)
    | _, _ => False
  | .field t x i => match P.underlying t with
    | some (.struct fs) => match fs.toList[i]? with
      | some f => bif (kdOf P 12 f.type).size == ((rd E x).at f.offset).size && P.cellsOf f.type == (kdOf P 12 f.type).size && kdFits P f.type (kdOf P 12 f.type) && (kdOf P 12 f.type).many == ((rd E x).at f.offset).many && (rd E x).many && !((rd E x).at f.offset).isTup && ((rd E x).at f.offset).okOne
          then K ((rd E x).at f.offset) else False
      | none => False
    | _ => False
  | .convert src dst x => match P.underlying src, P.underlying dst, rd E x with
    | some (.int _), some (.int k), .v (.int _ n) => K (.v (.int k (k.wrap n)))
    | some (.slice e), some .string, .v (.slice A n c) => match P.underlying e with
      | some (.int .u8) => bstr w ⟨A, n, c⟩ fun l => K (.v (.string ⟨l.toArray⟩))
      | _ => False
    | _, _, _ => dflt
  | .call c => match c.callee, c.args.toList, c.argTypes.toList with
    | .builtin .len, [x], [t] => match P.underlying t, rd E x with
      | some (.slice _), .v (.slice _ n _) => K (.v (.int .i64 n))
      | some .string, .v (.string s) => K (.v (.int .i64 s.size))
      | some (.array n _), _ => K (.v (.int .i64 n))
      | some (.map ..), _ => qn P (Builtin.len_ c.argTypes o.type #[(rd E x).val]) (.I .i64) w fun n => K (.v (.int .i64 n))
      | _, _ => False
    | .builtin .max, [x, y], [_, _] => match rd E x, rd E y with
      | .v (.int k a), .v (.int _ b) => K (.v (.int k (max a b)))
      | _, _ => False
    | .builtin .min, [x, y], [_, _] => match rd E x, rd E y with
      | .v (.int k a), .v (.int _ b) => K (.v (.int k (min a b)))
      | _, _ => False
    | _, _, _ => False
  | .pick c x y => match rd E c with | .v (.bool b) => (match b with | true => K (rd E x) | false => K (rd E y)) | _ => False
  | .unOp .. | .makeInterface .. => dflt
  | _ => False

theorem val_v (x : Value) : (AV.v x).val = x := by simp only [AV.val]

theorem AV.cells_length : ∀ (v : AV), v.cells.length = v.size
  | .v x => by simp [AV.cells, AV.size]
  | .nil => rfl
  | .pair a b => by simp [AV.cells, AV.size, AV.cells_length a, AV.cells_length b]
  | .row _ l => l.2
  | .tup _ => rfl
theorem foldl_set {vs : List Value} : ∀ (d m t : List Value), m.length = vs.length →
    (vs.zipIdx.foldl (fun (cs : Array Value) x => cs.setIfInBounds (d.length + x.2) x.1) (d ++ m ++ t).toArray) = (d ++ vs ++ t).toArray := by
  have : ∀ (vs m d t : List Value) (k : Nat) (e : List Value), m.length = vs.length → e.length = k →
      (vs.zipIdx k).foldl (fun (cs : Array Value) x => cs.setIfInBounds (d.length + x.2) x.1) (d ++ e ++ m ++ t).toArray = (d ++ e ++ vs ++ t).toArray := by
    intro vs
    induction vs with
    | nil => intro m d t k e hm _; simp at hm; subst hm; simp
    | cons v vs ih =>
      intro m d t k e hm he
      cases m with
      | nil => simp at hm
      | cons x m =>
        simp only [List.zipIdx_cons, List.foldl_cons]
        have h1 : (d ++ e ++ (x :: m) ++ t).toArray.setIfInBounds (d.length + k) v = (d ++ (e ++ [v]) ++ m ++ t).toArray := by
          rw [List.setIfInBounds_toArray]
          congr 1
          subst he
          rw [List.append_assoc, List.append_assoc, List.set_append_right _ _ (by omega)]
          simp [List.set_append_right]
        rw [h1, ih m d t (k + 1) (e ++ [v]) (by simpa using hm) (by simp [he])]
        simp
  intro d m t hm
  have := this vs m d t 0 [] hm rfl
  simpa using this

theorem val_cells {v : AV} (h : v.isTup = false) : v.val.cells.toList = v.cells := by
  cases v <;> first | rfl | simp [AV.isTup] at h
theorem val_size {v : AV} (h : v.isTup = false) : v.val.cells.size = v.size := by
  rw [← AV.cells_length, ← val_cells h, Array.length_toList]


theorem ofCells_size_le : ∀ (k : Kd) (cs : List Value), (ofCells k cs).size ≤ k.size
  | .nil, _ => Nat.le_refl _
  | .pair a b, cs => Nat.add_le_add (ofCells_size_le a cs) (ofCells_size_le b _)
  | .row n, cs => by
    unfold ofCells
    split
    · exact Nat.le_refl _
    · exact Nat.zero_le _
  | .tup _, _ => Nat.le_refl _
  | .B, cs | .I _, cs | .S, cs | .P, cs | .L, cs | .M, cs | .U, cs => by
    unfold ofCells
    cases cs with
    | nil => exact Nat.zero_le _
    | cons v l =>
      dsimp only
      cases h : v.oneCell' with
      | false => exact Nat.zero_le _
      | true => cases v <;> first | exact Nat.le_refl _ | exact absurd h (by simp [Value.oneCell'])
theorem ofCells_cells : ∀ (k : Kd) (cs : List Value), (ofCells k cs).size = k.size → (ofCells k cs).cells = cs.take k.size
  | .nil, _, _ => by simp [ofCells, AV.cells, Kd.size]
  | .pair a b, cs, h => by
    have h1 := ofCells_size_le a cs
    have h2 := ofCells_size_le b (cs.drop a.size)
    simp only [ofCells, AV.size, Kd.size] at h
    simp only [ofCells, AV.cells, Kd.size]
    rw [ofCells_cells a cs (by omega), ofCells_cells b _ (by omega), List.take_add]
  | .row n, cs, h => by
    unfold ofCells at h ⊢
    split
    · rfl
    · rename_i hn
      rw [dif_neg hn] at h
      simp only [AV.size, Kd.size] at h
      subst h
      simp at hn
  | .tup _, _, _ => by simp [ofCells, AV.cells, Kd.size]
  | .B, cs, h | .I _, cs, h | .S, cs, h | .P, cs, h | .L, cs, h | .M, cs, h | .U, cs, h => by
    unfold ofCells at h ⊢
    cases cs with
    | nil => simp [AV.size, Kd.size] at h
    | cons v l =>
      dsimp only at h ⊢
      cases h1 : v.oneCell' with
      | false => rw [h1] at h; simp [AV.size, Kd.size] at h
      | true => 
        have hv : v.cells = #[v] := by cases v <;> first | rfl | simp [Value.oneCell'] at h1
        simp [AV.cells, hv, Kd.size]

theorem lain_length : ∀ {fs : List Field} {off : Nat} {l : List AV}, lain fs off l = true → l.length = fs.length
  | [], _, [], _ => rfl
  | _ :: fs, _, _ :: l, h => by
    simp only [lain, Bool.and_eq_true] at h
    simp [lain_length h.2]
/-- The part at a place, and what stands around it. -/
theorem lain_at : ∀ {fs : List Field} {off : Nat} {l : List AV}, lain fs off l = true → ∀ {i : Nat} {f : Field}, fs[i]? = some f → ∀ {a : AV}, (l.getD i .nil).size = a.size → a.isTup = false →
    ∃ A B, (chain l).cells = A ++ (l.getD i .nil).cells ++ B ∧ (chain (l.set i a)).cells = A ++ a.cells ++ B ∧ off + A.length = f.offset ∧ lain fs off (l.set i a) = true
  | g :: fs, off, b :: l, h, 0, f, hf, a, hs, ht => by
    simp only [List.getElem?_cons_zero, Option.some.injEq] at hf
    subst hf
    simp only [lain, Bool.and_eq_true, beq_iff_eq, Bool.not_eq_true'] at h
    refine ⟨[], (chain l).cells, by simp [chain, AV.cells], by simp [chain, AV.cells], by simp [h.1.1], ?_⟩
    simp only [List.set_cons_zero, lain, Bool.and_eq_true, beq_iff_eq, Bool.not_eq_true']
    exact ⟨⟨h.1.1, ht⟩, by rw [← hs]; exact h.2⟩
  | g :: fs, off, b :: l, h, i + 1, f, hf, a, hs, ht => by
    simp only [List.getElem?_cons_succ] at hf
    simp only [lain, Bool.and_eq_true, beq_iff_eq, Bool.not_eq_true'] at h
    obtain ⟨A, B, h1, h2, h3, h4⟩ := lain_at h.2 hf (a := a) (by simpa using hs) ht
    refine ⟨b.cells ++ A, B, ?_, ?_, ?_, ?_⟩
    · simp only [chain, AV.cells, h1]; simp
    · simp only [List.set_cons_succ, chain, AV.cells, h2]; simp
    · rw [List.length_append, AV.cells_length]; omega
    · simp only [List.set_cons_succ, lain, Bool.and_eq_true, beq_iff_eq, Bool.not_eq_true']
      exact ⟨h.1, h4⟩

theorem fill_struct {_P : Program} {E : List AV} {fs : List Field} {places : Nat → Option (Nat × Nat)} : ∀ (parts : List (Nat × Operand)) (l : List AV), lain fs 0 l = true →
    (∀ i f, fs[i]? = some f → places i = some (f.offset, (l.getD i .nil).size)) →
    (∀ p ∈ parts, (rd E p.2).isTup = false ∧ (l.getD p.1 .nil).size = (rd E p.2).size ∧ p.1 < l.length) →
    Instr.fill places (chain l).cells.toArray (parts.map fun p => (p.1, (rd E p.2).val)) = some (chain (parts.foldl (fun l p => l.set p.1 (rd E p.2)) l)).cells.toArray := by
  intro parts
  induction parts with
  | nil => intro l _ _ _; rfl
  | cons p parts ih =>
    intro l hl hp hall
    obtain ⟨ht, hs, hlt⟩ := hall p (List.mem_cons_self ..)
    obtain ⟨f, hf⟩ : ∃ f, fs[p.1]? = some f := ⟨_, List.getElem?_eq_getElem (by rw [← lain_length hl]; exact hlt)⟩
    obtain ⟨A, B, h1, h2, h3, h4⟩ := lain_at hl hf hs ht
    simp only [List.map_cons, Instr.fill, hp _ _ hf]
    have hvs : (rd E p.2).val.cells.size = (l.getD p.1 .nil).size := by rw [val_size ht, hs]
    rw [if_neg (by
      have : (chain l).cells.length = A.length + (l.getD p.1 .nil).size + B.length := by rw [h1]; simp [AV.cells_length, Nat.add_assoc]
      simp [hvs, this]; omega)]
    have hsp := foldl_set (vs := (rd E p.2).val.cells.toList) A (l.getD p.1 .nil).cells B (by rw [AV.cells_length, ← hvs, Array.length_toList])
    have hcs : ((rd E p.2).val.cells.zipIdx.foldl (fun cs (c, j) => cs.setIfInBounds (f.offset + j) c) (chain l).cells.toArray) = (chain (l.set p.1 (rd E p.2))).cells.toArray := by
      rw [h1, h2, ← Array.foldl_toList, Array.toList_zipIdx]
      rw [val_cells ht] at hsp
      rw [← hsp, show f.offset = A.length from by omega, val_cells ht]
    rw [hcs]
    refine ih (l.set p.1 (rd E p.2)) h4 (fun i g hg => ?_) (fun q hq => ?_)
    · rw [hp i g hg]
      congr 2
      by_cases e : p.1 = i
      · subst e; rw [hs]; simp [List.getD_eq_getElem?_getD, hlt]
      · simp [List.getD_eq_getElem?_getD, e]
    · obtain ⟨a1, a2, a3⟩ := hall q (List.mem_cons_of_mem _ hq)
      refine ⟨a1, ?_, by simpa using a3⟩
      rw [← a2]
      by_cases e : p.1 = q.1
      · rw [← e, hs]; simp [List.getD_eq_getElem?_getD, hlt]
      · simp [List.getD_eq_getElem?_getD, e]

theorem chain_val (l : List AV) : (chain l).val = .agg (chain l).cells.toArray := by
  cases l <;> simp [chain, AV.val, AV.cells]

/-- The zero parts together are the zero value. -/
theorem zeros_cells {P : Program} {z : List Value} : ∀ {fs : List Field} {off : Nat}, lain fs off (fs.map fun f => ofCells (kdOf P 12 f.type) (z.drop f.offset)) = true →
    (∀ f ∈ fs, (ofCells (kdOf P 12 f.type) (z.drop f.offset)).size = (kdOf P 12 f.type).size) → (chain (fs.map fun f => ofCells (kdOf P 12 f.type) (z.drop f.offset))).cells = (z.drop off).take (chain (fs.map fun f => ofCells (kdOf P 12 f.type) (z.drop f.offset))).size
  | [], off, _, _ => by simp [chain, AV.cells, AV.size]
  | f :: fs, off, h, hk => by
    simp only [List.map_cons, lain, Bool.and_eq_true, beq_iff_eq] at h
    have ih := zeros_cells h.2 fun g hg => hk g (List.mem_cons_of_mem _ hg)
    have hf := hk f (List.mem_cons_self ..)
    simp only [List.map_cons, chain, AV.cells, AV.size]
    rw [ih, ofCells_cells _ _ hf, hf, h.1.1, List.take_add, List.drop_drop]

theorem run_fieldPlace {P : Program} (a : Addr) (f : Field) (h : (P.cellsOf f.type == 0) = false) (hi : (P.info? f.type).isSome) (w : World) : (fieldPlace a f).run P w = .ok (a.add f.offset) w := by
  obtain ⟨i, hi⟩ := Option.isSome_iff_exists.1 hi
  simp [Program.cellsOf, hi] at h
  simp [fieldPlace, sizeOf, typeInfo, hi, h]

theorem cellsOf_isSome {P : Program} {t : TypeId} (h : (P.cellsOf t == 0) = false) : (P.info? t).isSome := by
  cases hi : P.info? t with
  | none => simp [Program.cellsOf, hi] at h
  | some i => rfl

theorem ld_cells {w : World} : ∀ {k : Kd} {a : Addr} {K : k.T → Prop}, ld k w a K → ∃ x, K x ∧ (k.av x).cells.length = k.size ∧ ∀ j v, (k.av x).cells[j]? = some v → w.cell? (a.add j) = some v
  | .B, a, K, ⟨x, h, hk⟩ | .I _, a, K, ⟨x, h, hk⟩ | .S, a, K, ⟨x, h, hk⟩ | .P, a, K, ⟨x, h, hk⟩ | .L, a, K, ⟨x, h, hk⟩ | .M, a, K, ⟨x, h, hk⟩ => ⟨x, hk, rfl, fun j v hv => by
      match j, hv with
      | 0, hv => simp only [Kd.av, AV.cells, Value.cells, List.getElem?_cons_zero, Option.some.injEq] at hv; subst hv; exact h
      | j + 1, hv => simp [Kd.av, AV.cells, Value.cells] at hv⟩
  | .U, a, K, ⟨x, h, hk, h1⟩ => ⟨x, hk, by cases x <;> first | rfl | simp [Value.oneCell'] at h1, fun j v hv => by
      have hx : x.cells = #[x] := by cases x <;> first | rfl | simp [Value.oneCell'] at h1
      match j, hv with
      | 0, hv => simp only [Kd.av, AV.cells, hx, List.getElem?_cons_zero, Option.some.injEq] at hv; subst hv; exact h
      | j + 1, hv => simp [Kd.av, AV.cells, hx] at hv⟩
  | .nil, a, K, h => ⟨(), h, rfl, fun j v hv => by simp [Kd.av, AV.cells] at hv⟩
  | .pair k1 k2, a, K, h => by
    obtain ⟨x, hx, hl1, h1⟩ := ld_cells (k := k1) h
    obtain ⟨y, hy, hl2, h2⟩ := ld_cells (k := k2) hx
    refine ⟨(x, y), hy, by simp [Kd.av, AV.cells, Kd.size, hl1, hl2], fun j v hv => ?_⟩
    simp only [Kd.av, AV.cells, List.getElem?_append] at hv
    split at hv
    · exact h1 j v hv
    · rename_i hj
      have := h2 _ v hv
      rw [add_add] at this
      rw [hl1] at this hj
      rwa [show k1.size + (j - k1.size) = j from by omega] at this
  | .row n, a, K, ⟨l, h, hk⟩ => ⟨l, hk, by simp [Kd.av, AV.cells, Kd.size, l.2], fun j v hv => by
      obtain ⟨hj, rfl⟩ := List.getElem?_eq_some_iff.1 hv
      exact h j hj⟩

/-- All blocks that were there stand as they were. -/
def Sub (w w' : World) : Prop := ∀ k, k < w.heap.size → w'.heap[k]? = w.heap[k]?
theorem Sub.refl (w : World) : Sub w w := fun _ _ => rfl
theorem Sub.cell {w w' : World} (h : Sub w w') {a : Addr} {v : Value} (hc : w.cell? a = some v) : w'.cell? a = some v := (World.cell?_of_block (w := w) (h a.block (World.block_lt_of_cell? w _ hc))).trans hc
theorem cell_heap {w w' : World} (h : w'.heap = w.heap) (a : Addr) : w'.cell? a = w.cell? a := by simp [World.cell?, h]

theorem run_isAgg {P : Program} {t : TypeId} {k : Kd} (h : kdFits P t k = true) (w : World) : (isAgg t).run P w = .ok k.many w ∧ (k.many = true → k.size = P.cellsOf t ∧ (P.info? t).isSome) := by
  unfold kdFits at h
  have hinfo : ∀ d, P.underlying t = some d → (P.info? t).isSome := fun d hd => by
    unfold Program.underlying at hd
    cases hi : P.info? t with
    | none => rw [hi] at hd; cases hd
    | some i => rfl
  split at h
  · rename_i hu
    simp only [Bool.and_eq_true, beq_iff_eq] at h
    exact ⟨by simp [isAgg, run_underlying hu, h.1], fun _ => ⟨h.2, hinfo _ hu⟩⟩
  · rename_i hu
    simp only [Bool.and_eq_true, beq_iff_eq] at h
    exact ⟨by simp [isAgg, run_underlying hu, h.1], fun _ => ⟨h.2, hinfo _ hu⟩⟩
  · cases h
  · rename_i d h1 h2 h3 hu
    have hm : k.many = false := by simpa using h
    refine ⟨?_, fun hx => by rw [hm] at hx; cases hx⟩
    rw [hm]
    unfold isAgg
    simp only [Sem.run_bind, run_underlying hu, Result.andThen_ok]
    cases d <;> simp_all
  · cases h

theorem av_val_many {k : Kd} (h : k.many = true) (x : k.T) : (k.av x).val = .agg (k.av x).cells.toArray := by
  cases k <;> first | (simp only [Kd.av, AV.val, AV.cells]; done) | simp [Kd.many] at h

theorem ld_one {k : Kd} {w : World} {a : Addr} {K : k.T → Prop} (hm : k.many = false) (h : ld k w a K) : ∃ x, K x ∧ w.cell? a = some (k.av x).val := by
  cases k with
  | nil => simp [Kd.many] at hm
  | pair a b => simp [Kd.many] at hm
  | row n => simp [Kd.many] at hm
  | tup a => exact h.elim
  | U => obtain ⟨x, h, hk, _⟩ := h; exact ⟨x, hk, h⟩
  | _ => obtain ⟨x, h, hk⟩ := h; exact ⟨x, hk, h⟩

theorem ld_sound {P : Program} {t : TypeId} {k : Kd} {w : World} {a : Addr} {K : k.T → Prop} (hf : kdFits P t k = true) (h : ld k w a K) :
    ∃ x, K x ∧ ∀ w', Sub w w' → (Instr.loadAt t (.pointer (some a))).run P w' = .ok (k.av x).val w' := by
  cases hk : k.many with
  | true =>
    obtain ⟨x, hx, hl, hc⟩ := ld_cells h
    refine ⟨x, hx, fun w' hw => ?_⟩
    have hc' : ∀ j v, (k.av x).cells[j]? = some v → w'.cell? (a.add j) = some v := fun j v hv => hw.cell (hc j v hv)
    obtain ⟨hr, hm⟩ := run_isAgg hf w'
    unfold Instr.loadAt Instr.sureAddr loadVar
    rw [hk] at hr
    obtain ⟨hs, hi⟩ := hm hk
    obtain ⟨i, hi⟩ := Option.isSome_iff_exists.1 hi
    have hsz : i.size = (k.av x).cells.length := by rw [hl, hs]; simp [Program.cellsOf, hi]
    simp only [Sem.run_bind, Sem.run_pure, Result.andThen_ok, hr, if_true, sizeOf, typeInfo, program, Sem.run, hi]
    rw [hsz, run_loadCells_list w' a _ hc', av_val_many hk]
    rfl
  | false =>
    obtain ⟨x, hx, hc⟩ := ld_one hk h
    refine ⟨x, hx, fun w' hw => ?_⟩
    obtain ⟨hr, -⟩ := run_isAgg hf w'
    rw [hk] at hr
    unfold Instr.loadAt Instr.sureAddr loadVar
    simp only [Sem.run_bind, Sem.run_pure, Result.andThen_ok, hr, Bool.false_eq_true, if_false, load, Sem.run, hw.cell hc]

theorem dflt_sound {P : Program} {ρ : Operand → Value} {o : Oper} {K : AV → Prop} (h : match semVal P (execOp ρ o) with | some (.value v) => K (.v v) | _ => False) :
    ∃ v : AV, K v ∧ ∀ w', (execOp ρ o).run P w' = .ok (.value v.val) w' := by
  split at h
  · rename_i v hv
    exact ⟨.v v, h, fun w' => semVal_run hv w'⟩
  · exact h.elim

theorem nz_elim {A : Option Addr} {K : Addr → Prop} (h : nz A K) : ∃ a, A = some a ∧ K a := by
  cases A with
  | none => exact h.elim
  | some a => exact ⟨a, rfl, h⟩
theorem atOff_eq (a : Addr) (i : Int) (sz : Nat) : atOff a i sz = a.add (i.toNat * sz) := by unfold atOff; split <;> simp

section
variable {P : Program} {E : List AV}

theorem run_cutSl {t e : TypeId} {A : Option Addr} {n c : Nat} {lo hi : Option Value} {l h : Int} (ht : P.underlying t = some (.slice e)) (hi' : (P.info? e).isSome)
    (hlo : (lo = none ∧ l = 0) ∨ ∃ k, lo = some (.int k l)) (hhi : (hi = none ∧ h = n) ∨ ∃ k, hi = some (.int k h)) (h0 : 0 ≤ l) (h1 : l ≤ h) (h2 : h ≤ (c : Int)) (w : World) :
    (Instr.sliceAt t (.slice A n c) lo hi none).run P w = .ok (.slice (cut ⟨A, n, c⟩ l.toNat h.toNat (P.cellsOf e)).a (cut ⟨A, n, c⟩ l.toNat h.toNat (P.cellsOf e)).n (cut ⟨A, n, c⟩ l.toNat h.toNat (P.cellsOf e)).c) w := by
  obtain ⟨i, hi'⟩ := Option.isSome_iff_exists.1 hi'
  have hs : P.cellsOf e = i.size := by simp [Program.cellsOf, hi']
  have hmap : (fun x => atOff x (l.toNat : Int) (P.cellsOf e)) = fun x : Addr => x.add (l.toNat * i.size) := by funext x; rw [atOff_eq, hs, Int.toNat_natCast]
  have hh : ((h.toNat : Nat) : Int) = h := by omega
  have hlh : l ≤ (h.toNat : Int) := by omega
  unfold Instr.sliceAt Instr.slice Instr.sliceBounds Instr.sliceBound cut
  rw [hmap]
  have h03 : (0 : Int) ≤ h := by omega
  rcases hlo with ⟨rfl, rfl⟩ | ⟨kl, rfl⟩ <;> rcases hhi with ⟨rfl, rfl⟩ | ⟨kh, rfl⟩ <;>
    simp [run_underlying ht, sizeOf, typeInfo, hi', asIntOf, h0, h1, h2, hh, h03]
end

theorem nth_elems : ∀ {a y : AV} {i : Nat}, a.nth i = some y → a.elems[i]? = some y.val
  | .pair a b, y, 0, h => by simp only [AV.nth, Option.some.injEq] at h; subst h; simp [AV.elems]
  | .pair a b, y, i + 1, h => by simp only [AV.nth] at h; simpa [AV.elems] using nth_elems (a := b) h
  | .v _, _, _, h | .nil, _, _, h | .row _ _, _, _, h | .tup _, _, _, h => by simp [AV.nth] at h

theorem foldl_bytes : ∀ (l : List UInt8) (r : ByteArray), (l.map fun x => (x.toNat : Int)).foldl (fun r n => r.push (UInt8.ofNat n.toNat)) r = ⟨(r.data.toList ++ l).toArray⟩
  | [], r => by cases r; simp
  | x :: l, r => by
    simp only [List.map_cons, List.foldl_cons]
    rw [foldl_bytes l]
    congr 1
    simp
theorem run_bytes_str {P : Program} {w : World} {A : Option Addr} {n c : Nat} {l : List UInt8} (hl : l.length = n) (hr : Rd w A (u8s l)) : (Conv.bytesToString (.slice A n c)).run P w = .ok (.string ⟨l.toArray⟩) w := by
  subst hl
  cases A with
  | none =>
    have : l = [] := by
      cases l with
      | nil => rfl
      | cons x l => obtain ⟨ad, h, _⟩ := hr 0 _ (by simp [u8s]; rfl); cases h
    subst this
    rfl
  | some a =>
    have hc := run_loadCells_list (P := P) w a (u8s l) fun j v hv => by
      obtain ⟨ad, h, hc⟩ := hr j v hv
      injection h with h
      subst h
      exact hc
    have := run_bytesToString (P := P) w a l.length c (l.map fun x => (x.toNat : Int)) (by rw [u8s_length] at hc; rw [hc]; simp [u8s])
    rw [this, foldl_bytes]
    rfl

theorem run_sizes {P : Program} (w : World) : ∀ (fs : List Field), (∀ f ∈ fs, (P.info? f.type).isSome) → (fs.mapM fun f => do pure (f.offset, ← sizeOf f.type) : Sem (List (Nat × Nat))).run P w = .ok (fs.map fun f => (f.offset, P.cellsOf f.type)) w
  | [], _ => by simp
  | f :: fs, h => by
    obtain ⟨i, hi⟩ := Option.isSome_iff_exists.1 (h f (List.mem_cons_self ..))
    have ih := run_sizes (P := P) w fs fun g hg => h g (List.mem_cons_of_mem _ hg)
    have e : (do pure (f.offset, ← sizeOf f.type) : Sem (Nat × Nat)).run P w = .ok (f.offset, P.cellsOf f.type) w := by
      simp [sizeOf, typeInfo, program, Sem.run, hi, Program.cellsOf]
    rw [List.mapM_cons, Sem.run_bind, e]
    simp only [Result.andThen_ok, Sem.run_bind, ih, Sem.run_pure, List.map_cons]

theorem at_cells : ∀ {a : AV} {off : Nat}, (a.at off).isTup = false → ∃ A B, a.cells = A ++ (a.at off).cells ++ B ∧ A.length = off
  | .pair a b, off, h => by
    simp only [AV.at] at h ⊢
    split at h
    · rename_i h0; subst h0; exact ⟨[], b.cells, by simp [AV.cells], rfl⟩
    · rename_i h0
      rw [if_neg h0]
      split at h
      · simp [AV.isTup] at h
      · rename_i h1
        rw [if_neg h1]
        obtain ⟨A, B, hA, hl⟩ := at_cells h
        exact ⟨a.cells ++ A, B, by simp only [AV.cells]; rw [hA]; simp, by rw [List.length_append, AV.cells_length]; omega⟩
  | .v _, _, h | .nil, _, h | .row _ _, _, h | .tup _, _, h => by simp [AV.at, AV.isTup] at h

theorem qn_run {P : Program} {s : Sem Value} {k : Kd} {w : World} {K : AV → Prop} {K' : k.T → Prop} {o : Oper} {ρ : Operand → Value} (h : qn P s k w K') (hk : ∀ y, K' y → K (k.av y)) (he : execOp ρ o = (do pure (.value (← s)))) :
    ∃ v : AV, K v ∧ ∀ w', Sub w w' → (execOp ρ o).run P w' = .ok (.value v.val) w' := by
  obtain ⟨x, hx, hK⟩ := h
  refine ⟨_, hk x hK, fun w' hw => ?_⟩
  rw [he, Sem.run_bind, hx w' hw]
  rfl
theorem pure_sound {P : Program} {E : List AV} {o : Oper} {K : AV → Prop} {w : World} (h : pureVC P E o K w) :
    ∃ v : AV, K v ∧ ∀ w', Sub w w' → (execOp (fun x => (rd E x).val) o).run P w' = .ok (.value v.val) w' := by
  obtain ⟨dst, op, ty, pos, after, guard⟩ := o
  have D : ∀ op, (match semVal P (execOp (fun x => (rd E x).val) ⟨dst, op, ty, pos, after, guard⟩) with | some (.value v) => K (.v v) | _ => False) →
      ∃ v : AV, K v ∧ ∀ w', Sub w w' → (execOp (fun x => (rd E x).val) ⟨dst, op, ty, pos, after, guard⟩).run P w' = .ok (.value v.val) w' :=
    fun op h => let ⟨v, hv, hr⟩ := dflt_sound h; ⟨v, hv, fun w' _ => hr w'⟩
  unfold pureVC at h
  cases op with
  | move x => exact ⟨_, h, fun w' _ => rfl⟩
  | assign x => exact ⟨_, h, fun w' _ => rfl⟩
  | load t x =>
    dsimp only at h
    split at h
    · rename_i A hx
      obtain ⟨a, rfl, h⟩ := nz_elim h
      cases hf : kdFits P t (kdOf P 12 t) with
      | false => rw [hf] at h; exact h.elim
      | true =>
        rw [hf] at h
        obtain ⟨y, hy, hr⟩ := ld_sound hf h
        exact ⟨_, hy, fun w' hw => by simp [execOp, hx, val_v, hr w' hw]⟩
    · exact h.elim
  | nilCheck x =>
    dsimp only at h
    split at h
    · rename_i A hx
      obtain ⟨a, rfl, hk⟩ := nz_elim h
      exact ⟨_, hk, fun w' _ => by simp [execOp, hx, val_v]⟩
    · exact D _ h
  | fieldAddr s x f =>
    dsimp only at h
    split at h
    · rename_i fs A hs hx
      split at h
      · rename_i fd hfd
        cases hz : P.cellsOf fd.type == 0 with
        | true => rw [hz] at h; exact h.elim
        | false =>
          rw [hz] at h
          obtain ⟨a, rfl, h⟩ := nz_elim h
          have hfd' : fs[f]? = some fd := by rw [← hfd]; simp
          exact ⟨_, h, fun w' _ => by simp [execOp, hx, val_v, Instr.fieldAt, run_underlying hs, hfd', Instr.sureAddr, run_fieldPlace a fd hz (cellsOf_isSome hz)]⟩
      · exact h.elim
    · exact h.elim
  | indexAddr t x ix =>
    dsimp only at h
    split at h
    · rename_i e A n c k i ht hx hix
      cases hz : P.cellsOf e == 0 with
      | true => rw [hz] at h; exact h.elim
      | false =>
        rw [hz] at h
        obtain ⟨h0, h1, hn⟩ := h
        obtain ⟨a, rfl, hk⟩ := nz_elim hn
        refine ⟨_, hk, fun w' _ => ?_⟩
        obtain ⟨j, hj⟩ := Option.isSome_iff_exists.1 (cellsOf_isSome hz)
        simp [execOp, hx, hix, val_v, Instr.indexAt, asIntOf, run_underlying ht, h0, h1, sizeOf, typeInfo, hj, atOff_eq, Program.cellsOf]
    · rename_i n e A k i ht hx hix
      cases hz : P.cellsOf e == 0 with
      | true => rw [hz] at h; exact h.elim
      | false =>
        rw [hz] at h
        obtain ⟨h0, h1, hn⟩ := h
        obtain ⟨a, rfl, hn⟩ := nz_elim hn
        refine ⟨_, hn, fun w' _ => ?_⟩
        obtain ⟨j, hj⟩ := Option.isSome_iff_exists.1 (cellsOf_isSome hz)
        simp [execOp, hx, hix, val_v, Instr.indexAt, Instr.sureAddr, asIntOf, run_underlying ht, h0, h1, sizeOf, typeInfo, hj, atOff_eq, Program.cellsOf]
    · exact h.elim
  | slice t x lo hi mx =>
    cases mx with
    | some m => exact qn_run h (fun _ h => h) rfl
    | none =>
      dsimp only at h
      have G : ∀ {e : TypeId} {A : Option Addr} {n c : Nat} {l hh : Int}, P.underlying t = some (.slice e) → rd E x = .v (.slice A n c) →
          ((lo = none ∧ l = 0) ∨ ∃ y k, lo = some y ∧ rd E y = .v (.int k l)) → ((hi = none ∧ hh = n) ∨ ∃ y k, hi = some y ∧ rd E y = .v (.int k hh)) →
          (bif P.cellsOf e == 0 then False else sls ⟨A, n, c⟩ l hh (P.cellsOf e) fun r => K (.v (.slice r.a r.n r.c))) →
          ∃ v : AV, K v ∧ ∀ w', Sub w w' → (execOp (fun x => (rd E x).val) ⟨dst, .slice t x lo hi none, ty, pos, after, guard⟩).run P w' = .ok (.value v.val) w' := by
        intro e A n c l hh ht hx hlo hhi hG
        cases hz : P.cellsOf e == 0 with
        | true => rw [hz] at hG; exact hG.elim
        | false =>
          rw [hz] at hG
          obtain ⟨h0, h1, h2, hk⟩ := hG
          refine ⟨_, hk, fun w' _ => ?_⟩
          have hr := run_cutSl (P := P) (lo := lo.map fun x => (rd E x).val) (hi := hi.map fun x => (rd E x).val) (l := l) (h := hh) (A := A) (n := n) (c := c) ht (cellsOf_isSome hz)
            (by rcases hlo with ⟨rfl, rfl⟩ | ⟨y, k, rfl, hy⟩
                · exact .inl ⟨rfl, rfl⟩
                · exact .inr ⟨k, by simp [hy, val_v]⟩)
            (by rcases hhi with ⟨rfl, rfl⟩ | ⟨y, k, rfl, hy⟩
                · exact .inl ⟨rfl, rfl⟩
                · exact .inr ⟨k, by simp [hy, val_v]⟩) h0 h1 h2 w'
          simp [execOp, hx, val_v, hr]
      have M : ∀ {lo : Option Operand} {k : IntKind} {l : Int}, lo.map (rd E) = some (.v (.int k l)) → ∃ y k, lo = some y ∧ rd E y = .v (.int k l) := fun {lo k l} hl => by
        cases lo with
        | none => cases hl
        | some y => exact ⟨y, k, rfl, by simpa using hl⟩
      have N : ∀ {lo : Option Operand}, lo.map (rd E) = none → lo = none := fun {lo} hl => by cases lo <;> first | rfl | cases hl
      split at h
      · rename_i ht hx hlo hhi; exact G ht hx (.inl ⟨N hlo, rfl⟩) (.inl ⟨N hhi, rfl⟩) h
      · rename_i ht hx hlo hhi; exact G ht hx (.inr (M hlo)) (.inl ⟨N hhi, rfl⟩) h
      · rename_i ht hx hlo hhi; exact G ht hx (.inl ⟨N hlo, rfl⟩) (.inr (M hhi)) h
      · rename_i ht hx hlo hhi; exact G ht hx (.inr (M hlo)) (.inr (M hhi)) h
      · exact qn_run h (fun _ h => h) rfl
      · exact h.elim
  | index t x ix =>
    dsimp only at h
    split at h
    · rename_i s k i ht hx hix
      obtain ⟨h0, h1, hk⟩ := h
      refine ⟨_, hk, fun w' _ => ?_⟩
      have hlt : i.toNat < s.size := by omega
      have hb : s[i.toNat]? = some s[i.toNat] := getElem?_pos s i.toNat hlt
      have hd : s.data.toList.getD i.toNat 0 = s[i.toNat] := by
        rw [List.getD_eq_getElem?_getD, List.getElem?_eq_getElem (by simpa using hlt)]; rfl
      rw [hd]
      simp [execOp, hx, hix, val_v, Instr.index, asIntOf, run_underlying ht, h0, hb]
    · exact qn_run h (fun _ h => h) rfl
    · exact h.elim
  | build t parts =>
    obtain ⟨parts⟩ := parts
    dsimp only at h
    split at h
    · rename_i fs z ht hz
      rw [Bool.cond_eq_ite] at h
      split at h
      · rename_i hb
        obtain ⟨i, hi, hiz⟩ := Option.bind_eq_some_iff.1 hz
        simp only [Bool.and_eq_true, beq_iff_eq, List.all_eq_true, Bool.not_eq_true', decide_eq_true_eq] at hb
        obtain ⟨⟨⟨hparts, hlain⟩, hzsz⟩, hfs⟩ := hb
        refine ⟨_, h, fun w' _ => ?_⟩
        have hzc := zeros_cells hlain fun f hf => by
          have := hfs f hf
          rw [← this.1.1, this.1.2]
        rw [hzsz] at hzc
        simp only [List.drop_zero] at hzc
        rw [List.take_of_length_le (by simp)] at hzc
        have hpl : (fs.mapM fun f => do pure (f.offset, ← sizeOf f.type) : Sem (Array (Nat × Nat))).run P w' = .ok (fs.map fun f => (f.offset, P.cellsOf f.type)) w' := by
          obtain ⟨fs⟩ := fs
          rw [List.mapM_toArray]
          simp only [Sem.run_map, run_sizes (P := P) w' fs (fun f hf => (hfs f hf).2), Result.andThen_ok, List.map_toArray]
        have hfill := fill_struct (_P := P) (E := E) (fs := fs.toList) (places := fun j => (fs.map fun f => (f.offset, P.cellsOf f.type))[j]?) parts _ hlain (fun j f hf => by
            have hm := List.mem_of_getElem? hf
            have hf' : fs[j]? = some f := by simpa using hf
            simp only [Array.getElem?_map, hf', Option.map_some, Option.some.injEq, Prod.mk.injEq, true_and]
            rw [List.getD_eq_getElem?_getD, List.getElem?_map, hf]
            exact (hfs f hm).1.1)
          (fun p hp => ⟨(hparts p hp).1.1, (hparts p hp).1.2, (hparts p hp).2⟩)
        rw [hzc] at hfill
        simp only [execOp, Sem.run_bind, Instr.build, zeroValue, typeInfo, program, Sem.run, hi, hiz, Sem.run_pure, Result.andThen_ok, run_underlying ht, hpl]
        simp only [List.map_toArray, Array.toArray_toList] at hfill ⊢
        rw [hfill]
        simp only [Sem.run_pure, Result.andThen_ok, structAV, chain_val]
      · exact h.elim
    · exact qn_run h (fun _ h => h) rfl
    · exact h.elim
  | field t x i =>
    dsimp only at h
    split at h
    · rename_i fs ht
      split at h
      · rename_i f hf
        rw [Bool.cond_eq_ite] at h
        split at h
        · rename_i hb
          simp only [Bool.and_eq_true, beq_iff_eq, Bool.not_eq_true'] at hb
          obtain ⟨⟨⟨⟨⟨⟨h1, h2⟩, h3⟩, h4⟩, h5⟩, h6⟩, h7⟩ := hb
          refine ⟨_, h, fun w' _ => ?_⟩
          have hf' : fs[i]? = some f := by simpa using hf
          have hval : (rd E x).val = .agg (rd E x).cells.toArray := by
            generalize rd E x = a at h5
            cases a <;> first | (simp only [AV.val, AV.cells]; done) | simp [AV.many] at h5
          have hag := run_isAgg h3 w'
          obtain ⟨A, B, hA, hl⟩ := at_cells h6
          generalize (rd E x).at f.offset = y at h1 h4 h6 h7 hA
          have hr : (part f.type (rd E x).cells.toArray f.offset).run P w' = .ok y.val w' := by
            unfold part
            rw [Sem.run_bind, hag.1, Result.andThen_ok]
            cases hm : (kdOf P 12 f.type).many with
            | true =>
              obtain ⟨g1, g2⟩ := hag.2 hm
              obtain ⟨j, hj⟩ := Option.isSome_iff_exists.1 g2
              have hjs : j.size = y.cells.length := by rw [AV.cells_length, ← h1, g1]; simp [Program.cellsOf, hj]
              have hy : y.val = .agg y.cells.toArray := by
                rw [hm] at h4
                cases y <;> first | (simp only [AV.val, AV.cells]; done) | simp [AV.many] at h4
              simp only [if_true, sizeOf, typeInfo, program, Sem.run_bind, Sem.run, hj, Sem.run_pure, Result.andThen_ok]
              rw [hy, hA]
              congr 2
              simp only [List.extract_toArray, List.extract_eq_take_drop, Array.mk.injEq]
              rw [← hl, hjs]
              simp
            | false =>
              rw [hm] at h4
              cases y with
              | v u =>
                have hu : u.cells = #[u] := by cases u <;> first | rfl | simp [AV.okOne, Value.oneCell'] at h7
                have hg : (rd E x).cells.toArray[f.offset]? = some u := by
                  rw [hA, ← hl]
                  simp [AV.cells, hu]
                simp only [Bool.false_eq_true, if_false, hg, Sem.run_pure, val_v]
              | tup _ => simp [AV.isTup] at h6
              | _ => simp [AV.many] at h4
          simp only [execOp, Sem.run_bind, Instr.field, run_underlying ht, Result.andThen_ok, hf', hval, asAgg, Sem.run_pure, hr]
        · exact h.elim
      · exact h.elim
    · exact h.elim
  | extract x i =>
    dsimp only at h
    split at h
    · rename_i a hx
      split at h
      · rename_i y hy
        have hn := nth_elems hy
        exact ⟨_, h, fun w' _ => by simp [execOp, hx, AV.val, Instr.extract, hn]⟩
      · exact h.elim
    · exact h.elim
  | binOp op t x y yt =>
    have R : ∀ {z : Value}, (∀ w', Sub w w' → (eqGuard op t x y (rd E x).val (rd E y).val).run P w' = .ok () w') → (∀ w', Sub w w' → (binOp op t (rd E x).val (rd E y).val).run P w' = .ok z w') → K (.v z) →
        ∃ v : AV, K v ∧ ∀ w', Sub w w' → (execOp (fun x => (rd E x).val) ⟨dst, .binOp op t x y yt, ty, pos, after, guard⟩).run P w' = .ok (.value v.val) w' :=
      fun {z} hg hb hk => ⟨.v z, hk, fun w' hw => by simp [execOp, hg w' hw, hb w' hw, val_v]⟩
    have G : ∀ {k k' : IntKind} {a b : Int}, rd E x = .v (.int k a) → rd E y = .v (.int k' b) → ∀ w', Sub w w' → (eqGuard op t x y (rd E x).val (rd E y).val).run P w' = .ok () w' := fun {k k' a b} hx hy w' _ => by
      rw [hx, hy]; cases op <;> simp [eqGuard, val_v]
    have GP : ∀ {A B : Option Addr}, rd E x = .v (.pointer A) → rd E y = .v (.pointer B) → ∀ w', Sub w w' → (eqGuard op t x y (rd E x).val (rd E y).val).run P w' = .ok () w' := fun {A B} hx hy w' _ => by
      rw [hx, hy]; cases op <;> simp [eqGuard, val_v]
    have GS : ∀ {A B : Option Addr} {n c n' c' : Nat}, rd E x = .v (.slice A n c) → rd E y = .v (.slice B n' c') → ∀ w', Sub w w' → (eqGuard op t x y (rd E x).val (rd E y).val).run P w' = .ok () w' := fun {A B n c n' c'} hx hy w' _ => by
      rw [hx, hy]; cases op <;> simp [eqGuard, val_v]
    dsimp only at h
    split at h
    · rename_i k a k' b hx hy
      cases hb : decide (0 ≤ b) with
      | false => rw [hb] at h; exact h.elim
      | true =>
        rw [hb] at h
        refine R (G hx hy) (fun w' _ => ?_) h
        simp [hx, hy, val_v, binOp, shift_shl_any _ _ _ _ (of_decide_eq_true hb)]
    · rename_i k a k' b hx hy
      cases hb : decide (0 ≤ b) with
      | false => rw [hb] at h; exact h.elim
      | true =>
        rw [hb] at h
        refine R (G hx hy) (fun w' _ => ?_) h
        simp [hx, hy, val_v, binOp, shift_shr_any _ _ _ _ (of_decide_eq_true hb)]
    · rename_i k a k' b hx hy
      cases hb : decide (k = k') && !decide (b = 0) with
      | false => rw [hb] at h; exact h.elim
      | true =>
        rw [hb] at h
        simp only [Bool.and_eq_true, decide_eq_true_eq, Bool.not_eq_true', decide_eq_false_iff_not] at hb
        obtain ⟨rfl, hb0⟩ := hb
        refine R (G hx hy) (fun w' _ => ?_) h
        simp [hx, hy, val_v, binOp, Op.intDiv, hb0]
    · rename_i k a k' b hx hy
      cases hb : decide (k = k') && !decide (b = 0) with
      | false => rw [hb] at h; exact h.elim
      | true =>
        rw [hb] at h
        simp only [Bool.and_eq_true, decide_eq_true_eq, Bool.not_eq_true', decide_eq_false_iff_not] at hb
        obtain ⟨rfl, hb0⟩ := hb
        refine R (G hx hy) (fun w' _ => ?_) h
        simp [hx, hy, val_v, binOp, Op.intDiv, hb0]
    · rename_i k a k' b hx hy
      cases hb : decide (k = k') with
      | false => rw [hb] at h; exact h.elim
      | true =>
        rw [hb] at h
        obtain rfl := of_decide_eq_true hb
        exact R (G hx hy) (fun w' _ => by rw [hx, hy]; simp [val_v, binOp, Op.intBits, bits]) h
    · rename_i k a k' b hx hy
      cases hb : decide (k = k') with
      | false => rw [hb] at h; exact h.elim
      | true =>
        rw [hb] at h
        obtain rfl := of_decide_eq_true hb
        exact R (G hx hy) (fun w' _ => by rw [hx, hy]; simp [val_v, binOp, Op.intBits, bits]) h
    · rename_i k a k' b hx hy
      cases hb : decide (k = k') with
      | false => rw [hb] at h; exact h.elim
      | true =>
        rw [hb] at h
        obtain rfl := of_decide_eq_true hb
        exact R (G hx hy) (fun w' _ => by rw [hx, hy]; simp [val_v, binOp, Op.intBits, bits]) h
    · rename_i A hx hy
      split at h
      · rename_i e ht
        cases hp : P.pointee t == e with
        | false => rw [hp] at h; exact h.elim
        | true =>
          rw [hp] at h
          rw [← eq_of_beq hp] at ht
          exact R (GP hx hy) (fun w' _ => by rw [hx, hy]; exact run_eql_pointer_nil (w := w') t A ht) h
      · exact h.elim
    · rename_i A hx hy
      split at h
      · rename_i e ht
        cases hp : P.pointee t == e with
        | false => rw [hp] at h; exact h.elim
        | true =>
          rw [hp] at h
          rw [← eq_of_beq hp] at ht
          exact R (GP hx hy) (fun w' _ => by rw [hx, hy]; exact run_neq_pointer_nil (w := w') t A ht) h
      · exact h.elim
    · rename_i A n c hx hy
      split at h
      · rename_i e ht
        exact R (GS hx hy) (fun w' _ => by rw [hx, hy]; exact Lib.run_eql_slice_nil w' t e A n c 0 0 ht) h
      · exact h.elim
    · rename_i A n c hx hy
      split at h
      · rename_i e ht
        exact R (GS hx hy) (fun w' _ => by rw [hx, hy]; exact run_neq_slice_nil_any w' t e A n c 0 0 ht) h
      · exact h.elim
    · rename_i hx hy
      split at h
      · exact qn_run h (fun _ h => h) (by simp only [execOp, hx, hy]; rfl)
      · exact h.elim
    · rename_i hx hy
      split at h
      · exact qn_run h (fun _ h => h) (by simp only [execOp, hx, hy]; rfl)
      · exact h.elim
    · rename_i hx hy
      split at h
      · exact qn_run h (fun _ h => h) (by simp only [execOp, hx, hy]; rfl)
      · exact h.elim
    · rename_i hx hy
      split at h
      · exact qn_run h (fun _ h => h) (by simp only [execOp, hx, hy]; rfl)
      · exact h.elim
    · rename_i hx hy
      split at h
      · exact qn_run h (fun _ h => h) (by simp only [execOp, hx, hy]; rfl)
      · exact h.elim
    · rename_i hx hy
      split at h
      · exact qn_run h (fun _ h => h) (by simp only [execOp, hx, hy]; rfl)
      · exact h.elim
    · exact D _ h
  | convert src dst x =>
    dsimp only at h
    split at h
    · rename_i k0 k k' n hs hd hx
      exact ⟨_, h, fun w' _ => by simp [execOp, hx, val_v, convert, run_underlying hs, run_underlying hd, Conv.intToInt]⟩
    · rename_i e A n c hs hd hx
      split at h
      · rename_i he
        obtain ⟨l, hl, hrd, hk⟩ := h
        simp only at hl hrd
        refine ⟨_, hk, fun w' hw => ?_⟩
        have hrd' : Rd w' A (u8s l) := fun j u hu => by
          obtain ⟨ad, e, hc⟩ := hrd j u hu
          exact ⟨ad, e, hw.cell hc⟩
        simp only [execOp, hx, val_v, Sem.run_bind, run_convert_bytes_string w' src dst e A n c hs he hd, run_bytes_str hl hrd', Result.andThen_ok, Sem.run_pure]
      · exact h.elim
    · exact D _ h
  | call c =>
    obtain ⟨callee, args, ats⟩ := c
    obtain ⟨args⟩ := args
    obtain ⟨ats⟩ := ats
    dsimp only at h
    split at h
    · rename_i x t
      split at h
      · rename_i e A n c ht hx
        exact ⟨_, h, fun w' _ => by simp [execOp, resolve, invoke, builtin, hx, val_v, Builtin.len_, run_underlying ht, goInt]⟩
      · rename_i s ht hx
        exact ⟨_, h, fun w' _ => by simp [execOp, resolve, invoke, builtin, hx, val_v, Builtin.len_, run_underlying ht, goInt]⟩
      · rename_i n e ht
        exact ⟨_, h, fun w' _ => by simp [execOp, resolve, invoke, builtin, val_v, Builtin.len_, run_underlying ht, goInt]⟩
      · exact qn_run h (fun _ h => h) (by simp [execOp, resolve, invoke, builtin])
      · exact h.elim
    · rename_i x y t1 t2
      split at h
      · rename_i k a k' b hx hy
        exact ⟨_, h, fun w' _ => by simp [execOp, resolve, invoke, builtin, hx, hy, val_v, max_two, max2_int]⟩
      · exact h.elim
    · rename_i x y t1 t2
      split at h
      · rename_i k a k' b hx hy
        exact ⟨_, h, fun w' _ => by simp [execOp, resolve, invoke, builtin, hx, hy, val_v, min_two, min2_int]⟩
      · exact h.elim
    · exact h.elim
  | pick c x y =>
    dsimp only at h
    split at h
    · rename_i b hc
      cases b with
      | true => exact ⟨_, h, fun w' _ => by simp [execOp, hc, val_v, asBool]⟩
      | false => exact ⟨_, h, fun w' _ => by simp [execOp, hc, val_v, asBool]⟩
    · exact h.elim
  | unOp op t x => exact D _ h
  | makeInterface t x => exact D _ h
  | sliceToArrayPointer arr x => exact qn_run h (fun _ h => h) rfl
  | lookup t x ix ok => exact qn_run h (fun _ h => h) rfl
  | _ => exact h.elim

end Go.Fl
