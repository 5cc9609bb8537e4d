/- Contracts and plain laws that the claims of this seat lean on, put together. -/
import Derived.WalkKit
import Derived.Below
import Derived.Deep.Draws
import Derived.Deep.AppendLies
import Derived.OwnWalk
import Derived.Laws.BytesArg
import Derived.Laws.MakeOwn
import Derived.Laws.OwnMore
import Derived.Deep.OwnRows
import Derived.Tactics
import Derived.Outline
import Derived.Lib.Hide
import Derived.Maps.AppendAt
import Derived.RegionTactic
import Derived.WalkSpells
import Derived.BigQuiet
import Derived.Deep.QuietTactic
import Derived.Deep.LoopGhost
import Derived.Deep.DeepCutAuto
import Derived.Deep.DeepFit
import Derived.Deep.Quiet
import Derived.Laws.Entries
import Derived.Lib.LazyBuf
import Derived.Defers
import Derived.Test.YtoglafmpllimgaaGreatDoorProg
import Derived.KernelRfl
namespace Go.Fl
open Go.RowKit

theorem max2_int (k k' : IntKind) (x y : Int) : Builtin.max2 (.int k x) (.int k' y) = pure (.int k (max x y)) := by
  simp only [Builtin.max2, gt_iff_lt]
  congr 2; split <;> omega
theorem min2_int (k k' : IntKind) (x y : Int) : Builtin.min2 (.int k x) (.int k' y) = pure (.int k (min x y)) := by
  simp only [Builtin.min2]
  congr 2; split <;> omega
theorem max_two (ats : Array TypeId) (ty : TypeId) (a b : Value) : Builtin.max_ ats ty #[a, b] = (Builtin.max2 a b >>= fun s => pure s) := by simp only [Builtin.max_, List.foldlM_cons, List.foldlM_nil]
theorem min_two (ats : Array TypeId) (ty : TypeId) (a b : Value) : Builtin.min_ ats ty #[a, b] = (Builtin.min2 a b >>= fun s => pure s) := by simp only [Builtin.min_, List.foldlM_cons, List.foldlM_nil]
theorem min_three (ats : Array TypeId) (ty : TypeId) (a b c : Value) : Builtin.min_ ats ty #[a, b, c] = (Builtin.min2 a b >>= fun s => Builtin.min2 s c >>= fun s => pure s) := by simp only [Builtin.min_, List.foldlM_cons, List.foldlM_nil]

theorem add_block (a : Addr) (n : Nat) : (a.add n).block = a.block := by unfold Addr.add; split <;> rfl
theorem add_add (a : Addr) (i j : Nat) : (a.add i).add j = a.add (i + j) := by
  unfold Addr.add
  by_cases hi : i = 0 <;> by_cases hj : j = 0 <;> simp [hi, hj, Nat.add_assoc]

/-- From address A on the cells xs stand. -/
def Rd (w : World) (A : Option Addr) (xs : List Value) : Prop := ∀ j u, xs[j]? = some u → ∃ ad, A = some ad ∧ w.cell? (ad.add j) = some u
theorem Rd.nil (w : World) (A : Option Addr) : Rd w A [] := fun j u h => by simp at h
theorem Rd.at {w : World} {A : Option Addr} {xs : List Value} (h : Rd w A xs) (k : Nat) (hk : k < xs.length) : ∃ ad, A = some ad ∧ w.cell? (ad.add k) = some xs[k] := h k _ (List.getElem?_eq_getElem hk)
theorem Rd.keep {w w' : World} {A : Option Addr} {xs : List Value} (h : Rd w A xs) (hk : ∀ ad : Addr, A = some ad → ∀ j, ad.block < w.heap.size → w'.cell? (ad.add j) = w.cell? (ad.add j)) : Rd w' A xs := fun j u hu => by
  obtain ⟨ad, e, hc⟩ := h j u hu
  exact ⟨ad, e, (hk ad e j (by have := World.block_lt_of_cell? w _ hc; rwa [add_block] at this)).trans hc⟩
theorem Rd.below {w w' : World} {A : Option Addr} {xs : List Value} (h : Rd w A xs) (hb : Below w.heap.size w w') : Rd w' A xs := h.keep fun ad _ j hlt => hb.cell (by rw [add_block]; exact hlt)
theorem Rd.alloc {w : World} {A : Option Addr} {xs : List Value} (h : Rd w A xs) (o : Obj) : Rd (w.alloc o) A xs := h.below ((Below.refl _ _).alloc (Nat.le_refl _) o)
theorem Rd.drop {w : World} {A : Option Addr} {xs : List Value} (h : Rd w A xs) (k : Nat) : Rd w (A.map (·.add k)) (xs.drop k) := fun j u hu => by
  rw [List.getElem?_drop] at hu
  obtain ⟨ad, e, hc⟩ := h _ u hu
  exact ⟨ad.add k, by rw [e]; rfl, by rw [add_add]; exact hc⟩
theorem Rd.take {w : World} {A : Option Addr} {xs : List Value} (h : Rd w A xs) (k : Nat) : Rd w A (xs.take k) := fun j u hu => by
  rw [List.getElem?_take] at hu
  split at hu
  · exact h j u hu
  · cases hu
theorem Rd.of_own {w : World} {base : Nat} {e : TypeId} {size n c : Nat} {A : Option Addr} {xs : List Value} (h : w.ownsRow base e size (.slice A n c) n xs) : Rd w A xs := fun j u hu => by
  rcases h.2 with ⟨hv, rfl⟩ | ⟨g, cap, cur, hv, _, hg, _⟩
  · have : xs = [] := List.eq_nil_of_length_eq_zero (by simpa using h.1)
    subst this; simp at hu
  · have hA : A = some ⟨g, 0, none⟩ := by injection hv
    subst hA
    exact ⟨_, rfl, h.cells (g := g) rfl j u hu⟩

/-- A slice type, its element's type, cells and bytes. -/
structure SlT (P : Program) (t e : TypeId) (size bytes : Nat) : Prop where
  under : P.underlying t = some (.slice e)
  info : ∃ i z, P.info? e = some i ∧ i.zero = some z ∧ i.size = size ∧ i.bytes = bytes ∧ z.cells.size = size
  pos : 0 < size

theorem SlT.mk' {P : Program} {t e : TypeId} {size bytes : Nat} {z : Value} (h : P.underlying t = some (.slice e)) (hi : (P.info? e).map (fun i => (i.zero, i.size, i.bytes)) = some (some z, size, bytes)) (hz : z.cells.size = size) (hp : 0 < size) : SlT P t e size bytes :=
  ⟨h, by obtain ⟨i, h1, h2, h3, h4⟩ := info_parts hi; exact ⟨i, z, h1, h2, h3, h4, hz⟩, hp⟩

theorem run_append_of_nil {P : Program} (w : World) (base : Nat) (t ty e : TypeId) (i : TypeInfo) (size : Nat) (ht : P.underlying t = some (.slice e)) (hi : P.info? e = some i)
    (v : Value) (n : Nat) (xs : List Value) (hown : w.ownsRow base e size v n xs) (c : Nat) : (Builtin.append_ #[t, t] ty #[v, .slice none 0 c]).run P w = .ok v w := by
  rcases hown.2 with ⟨rfl, rfl⟩ | ⟨g, cap, cur, rfl, _, _, hnc, _⟩
  · simp [Builtin.append_, run_underlying ht, sizeOf, typeInfo, hi, Builtin.lenOf, Builtin.firstCells]
  · simp [Builtin.append_, run_underlying ht, sizeOf, typeInfo, hi, Builtin.lenOf, Builtin.firstCells, hnc, storeCells]

theorem run_append_rd {P : Program} {w : World} {t ty e : TypeId} {size bytes : Nat} (hT : SlT P t e size bytes) (base : Nat) {v : Value} {n : Nat} {xs : List Value} (hown : w.ownsRow base e size v n xs)
    {A : Option Addr} {m c : Nat} {news : List Value} (hr : Rd w A news) (hl : news.length = m * size) (h1 : ∀ u ∈ news, u.oneCell' = true)
    (hbytes : (n + m) * bytes ≤ 140737488355328) (h63 : n + m ≤ 140737488355328) (hbase : base ≤ w.heap.size) :
    ∃ v' w', (Builtin.append_ #[t, t] ty #[v, .slice A m c]).run P w = .ok v' w' ∧ w'.ownsRow base e size v' (n + m) (xs ++ news) ∧ w.grownBy w' v.ownBlock ∧
      (v'.ownBlock = v.ownBlock ∨ v'.ownBlock = some w.heap.size) := by
  obtain ⟨i, z, hi, hz, hsize, hby, hzs⟩ := hT.info
  have hpos := hT.pos
  rcases A with _ | ad
  · have hn : news = [] := by
      cases hnews : news with
      | nil => rfl
      | cons u us =>
        obtain ⟨ad, h, _⟩ := hr 0 u (by rw [hnews]; rfl)
        cases h
    subst hn
    have hm : m = 0 := by
      rcases Nat.eq_zero_or_pos m with h0 | h0
      · exact h0
      · have := Nat.mul_pos h0 hpos
        simp at hl; omega
    subst hm
    exact ⟨v, w, run_append_of_nil w base t ty e i size hT.under hi v n xs hown c, by simpa using hown, World.grownBy.refl w _, .inl rfl⟩
  · have hcells : ∀ j u, news[j]? = some u → w.cell? (ad.add j) = some u := by
      intro j u hu
      obtain ⟨ad', h, hc⟩ := hr j u hu
      injection h with h
      subst h
      exact hc
    obtain ⟨v', w', hrun, h2, h3, _, h5⟩ := run_append_own_at (P := P) w base t ty e i z size bytes hT.under hi hz hsize hby hzs hpos v n xs hown ad m c news hl hcells h1 (by simp only [maxLen]; omega) hbytes hbase
    exact ⟨v', w', hrun, h2, h3, h5⟩

/-- Bytes as cells. -/
def u8s (l : List UInt8) : List Value := l.map fun x => .int .u8 x.toNat
theorem u8s_length (l : List UInt8) : (u8s l).length = l.length := by simp [u8s]
theorem u8s_append (a b : List UInt8) : u8s (a ++ b) = u8s a ++ u8s b := by simp [u8s]
theorem u8s_one (l : List UInt8) : ∀ u ∈ u8s l, u.oneCell' = true := by
  intro u hu
  simp only [u8s, List.mem_map] at hu
  obtain ⟨x, _, rfl⟩ := hu
  rfl
end Go.Fl
namespace Go.Fl
open Go.RowKit

/-- A slice's header. -/
structure Sl where
  a : Option Addr
  n : Nat
  c : Nat

/-- What stands in a slot: one value, or a struct or array by its parts, or several results. -/
inductive AV where
  | v (x : Value)
  | nil
  | pair (a b : AV)
  | row (n : Nat) (l : {l : List Value // l.length = n})
  | tup (a : AV)

def AV.cells : AV → List Value
  | .v x => x.cells.toList
  | .nil => []
  | .pair a b => a.cells ++ b.cells
  | .row _ l => l.1
  | .tup _ => []
mutual
def AV.val : AV → Value
  | .v x => x
  | .tup a => .tuple a.elems.toArray
  | .nil => .agg #[]
  | .pair a b => .agg (a.cells ++ b.cells).toArray
  | .row _ l => .agg l.1.toArray
def AV.elems : AV → List Value
  | .pair a b => a.val :: b.elems
  | .v _ => []
  | .nil => []
  | .row _ _ => []
  | .tup _ => []
end
def AV.nth : AV → Nat → Option AV
  | .pair a _, 0 => some a
  | .pair _ b, n + 1 => b.nth n
  | _, _ => none
def AV.size : AV → Nat
  | .v x => x.cells.size
  | .nil => 0
  | .pair a b => a.size + b.size
  | .row n _ => n
  | .tup _ => 0

/-- Kinds of values. -/
inductive Kd where
  | B | I (k : IntKind) | S | P | L | M | U
  | nil | pair (a b : Kd) | row (n : Nat) | tup (a : Kd)
@[reducible] def Kd.T : Kd → Type
  | .B => Bool | .I _ => Int | .S => ByteArray | .P => Option Addr | .L => Sl | .M => Option Nat | .U => Value
  | .nil => Unit | .pair a b => a.T × b.T | .row n => {l : List Value // l.length = n} | .tup a => a.T
def Kd.av : (k : Kd) → k.T → AV
  | .B, x => .v (.bool x) | .I k, n => .v (.int k n) | .S, x => .v (.string x) | .P, a => .v (.pointer a) | .L, x => .v (.slice x.a x.n x.c) | .M, r => .v (.map r) | .U, x => .v x
  | .nil, _ => .nil | .pair a b, x => .pair (a.av x.1) (b.av x.2) | .row n, l => .row n l | .tup a, x => .tup (a.av x)
def Kd.size : Kd → Nat
  | .nil => 0 | .pair a b => a.size + b.size | .row n => n | .tup _ => 0 | _ => 1

/-- An address that is there. -/
def nz (A : Option Addr) (K : Addr → Prop) : Prop := match A with | some a => K a | none => False

/-- A variable of a kind is read. -/
def ld : (k : Kd) → World → Addr → (k.T → Prop) → Prop
  | .B, w, a, K => ∃ x, w.cell? a = some (.bool x) ∧ K x
  | .I k, w, a, K => ∃ n, w.cell? a = some (.int k n) ∧ K n
  | .S, w, a, K => ∃ x, w.cell? a = some (.string x) ∧ K x
  | .P, w, a, K => ∃ x, w.cell? a = some (.pointer x) ∧ K x
  | .L, w, a, K => ∃ x : Sl, w.cell? a = some (.slice x.a x.n x.c) ∧ K x
  | .M, w, a, K => ∃ x, w.cell? a = some (.map x) ∧ K x
  | .U, w, a, K => ∃ x, w.cell? a = some x ∧ K x ∧ x.oneCell' = true
  | .nil, _, _, K => K ()
  | .pair k1 k2, w, a, K => ld k1 w a fun x => ld k2 w (a.add k1.size) fun y => K (x, y)
  | .row n, w, a, K => ∃ l : {l : List Value // l.length = n}, (∀ (i : Nat) (h : i < l.1.length), w.cell? (a.add i) = some l.1[i]) ∧ K l
  | .tup _, _, _, _ => False

/-- A call of a named function that returns. -/
def cl (P : Program) (f : FuncId) (args : Array Value) (k : Kd) (w : World) (K : k.T → World → Prop) : Prop :=
  Calls P f args w fun e w' => ∃ x, e = .returned (k.av x).val ∧ K x w'
theorem cl.mono {P : Program} {f : FuncId} {args : Array Value} {k : Kd} {w : World} {K K' : k.T → World → Prop} (h : cl P f args k w K) (hk : ∀ x w', K x w' → K' x w') : cl P f args k w K' :=
  Calls.mono h fun _ _ ⟨x, e, hx⟩ => ⟨x, e, hk _ _ hx⟩
/-- A call that leaves all memory alone. -/
def qcl (P : Program) (f : FuncId) (args : Array Value) (k : Kd) (w : World) (K : k.T → Prop) : Prop :=
  ∃ x, (∀ n, cl P f args k (w.drewN n) fun y w' => y = x ∧ ∃ m, w' = w.drewN m) ∧ K x

/-- One cell is written. -/
def st1 (w : World) (a : Addr) (v : Value) (K : World → Prop) : Prop := (∃ u, w.cell? a = some u) ∧ w.frozen? a = false ∧ K (w.setCell a v)
def stL (a : Addr) : World → Nat → List Value → (World → Prop) → Prop
  | w, _, [], K => K w
  | w, i, v :: vs, K => v.oneCell' = true ∧ st1 w (a.add i) v fun w' => stL a w' (i + 1) vs K
def st (w : World) (a : Addr) : AV → (World → Prop) → Prop
  | .v x, K => bif x.oneCell' then st1 w a x K else False
  | .nil, K => K w
  | .pair x y, K => st w a x fun w' => st w' (a.add x.size) y K
  | .row _ l, K => stL a w 0 l.1 K
  | .tup _, _ => False

/-- A new block. -/
def nw (w : World) (cs : List Value) (t : TypeId) (K : Addr → World → Prop) : Prop := K ⟨w.heap.size, 0, none⟩ (w.alloc (.cells cs.toArray t))

/-- The address of a slice's element. -/
def atOff (a : Addr) (i : Int) (sz : Nat) : Addr := match sz with | 1 => a.add i.toNat | n => a.add (i.toNat * n)
def ixa (A : Option Addr) (n : Nat) (i : Int) (sz : Nat) (K : Addr → Prop) : Prop := 0 ≤ i ∧ i < (n : Int) ∧ nz A fun a => K (atOff a i sz)
/-- A slice of a slice. -/
def cut (s : Sl) (l h : Nat) (sz : Nat) : Sl := ⟨if s.c = l then s.a else s.a.map (atOff · l sz), h - l, s.c - l⟩
def sls (s : Sl) (l h : Int) (sz : Nat) (K : Sl → Prop) : Prop := 0 ≤ l ∧ l ≤ h ∧ h ≤ (s.c : Int) ∧ K (cut s l.toNat h.toNat sz)

/-- append of slices. -/
def app (P : Program) (t ty : TypeId) (s x : Sl) (w : World) (K : Sl → World → Prop) : Prop :=
  ∃ (r : Sl) (w' : World), (Builtin.append_ #[t, t] ty #[.slice s.a s.n s.c, .slice x.a x.n x.c]).run P w = .ok (.slice r.a r.n r.c) w' ∧ K r w'
/-- make of a slice. -/
def mks (P : Program) (t : TypeId) (l c : Int) (w : World) (K : Sl → World → Prop) : Prop :=
  ∃ (r : Sl) (w' : World), (Instr.makeSlice t (.int .i64 l) (.int .i64 c)).run P w = .ok (.slice r.a r.n r.c) w' ∧ K r w'

/-- A run that only reads: in every world that holds what this one holds. -/
def qn (P : Program) (s : Sem Value) (k : Kd) (w : World) (K : k.T → Prop) : Prop := ∃ x, (∀ w' : World, (∀ j, j < w.heap.size → w'.heap[j]? = w.heap[j]?) → s.run P w' = .ok (k.av x).val w') ∧ K x
/-- A run that makes a value. -/
def rn (P : Program) (s : Sem Value) (k : Kd) (w : World) (K : k.T → World → Prop) : Prop := ∃ x w', s.run P w = .ok (k.av x).val w' ∧ K x w'
/-- A run that makes none. -/
def ru (P : Program) (s : Sem Unit) (w : World) (K : World → Prop) : Prop := ∃ w', s.run P w = .ok () w' ∧ K w'
/-- The kind of a type. -/
def kdOf (P : Program) : Nat → TypeId → Kd
  | 0, _ => .U
  | d + 1, t => match P.underlying t with
    | some .bool => .B
    | some (.int k) => .I k
    | some .string => .S
    | some (.pointer _) => .P
    | some (.slice _) => .L
    | some (.map _ _) => .M
    | some (.struct fs) => fs.toList.foldr (fun f k => .pair (kdOf P d f.type) k) .nil
    | some (.array _ _) => .row (P.cellsOf t)
    | some (.tuple ts) => .tup (ts.toList.foldr (fun t k => .pair (kdOf P d t) k) .nil)
    | _ => .U

/-- A run that asks for the program alone. -/
def semVal {α : Type} (P : Program) : Sem α → Option α
  | .pure a => some a
  | .program k => semVal P (k P)
  | _ => none
theorem semVal_run {α : Type} {P : Program} {s : Sem α} {a : α} (h : semVal P s = some a) (w : World) : s.run P w = .ok a w := by
  induction s with
  | pure b => simp only [semVal, Option.some.injEq] at h; subst h; rfl
  | program k ih => exact ih P h
  | _ => simp [semVal] at h

def rd (E : List AV) : Operand → AV
  | .tmp t => E.getD t (.v undef)
  | .const v => .v v
  | .global g => .v (.pointer (some ⟨g, 0, none⟩))
  | .func f => .v (.func (.func f) #[] #[])

def AV.isTup : AV → Bool
  | .tup _ => true
  | _ => false

def AV.many : AV → Bool
  | .nil => true | .pair _ _ => true | .row _ _ => true | _ => false

/-- The part of a struct at a place. -/
def AV.at : AV → Nat → AV
  | .pair a b, off => if off = 0 then a else if off < a.size then .tup .nil else b.at (off - a.size)
  | _, _ => .tup .nil
def AV.okOne : AV → Bool
  | .v x => x.oneCell'
  | _ => true

/-- A struct's or an array's kind. -/
def Kd.many : Kd → Bool
  | .nil => true | .pair _ _ => true | .row _ => true | _ => false
/-- The kind fits the type. -/
def kdFits (P : Program) (t : TypeId) (k : Kd) : Bool :=
  match P.underlying t with
  | some (.struct _) => k.many && k.size == P.cellsOf t
  | some (.array _ _) => k.many && k.size == P.cellsOf t
  | some (.tuple _) => false
  | some _ => !k.many
  | none => false

/-- A string out of bytes. -/
def bstr (w : World) (x : Sl) (K : List UInt8 → Prop) : Prop := ∃ l : List UInt8, l.length = x.n ∧ Rd w x.a (u8s l) ∧ K l
def beqB (a b : ByteArray) : Bool := a.toList == b.toList

/-- Cells by a kind. -/
def ofCells : (k : Kd) → List Value → AV
  | .nil, _ => .nil
  | .pair a b, cs => .pair (ofCells a cs) (ofCells b (cs.drop a.size))
  | .row n, cs => if h : (cs.take n).length = n then .row n ⟨cs.take n, h⟩ else .nil
  | .tup _, _ => .nil
  | _, cs => match cs with | v :: _ => bif v.oneCell' then .v v else .nil | [] => .nil
def zrow (n : Nat) (v : Value) : {l : List Value // l.length = n} := ⟨List.replicate n v, by simp⟩
def chain : List AV → AV
  | [] => .nil
  | a :: l => .pair a (chain l)
/-- A struct out of its parts, the others at zero. -/
def structAV (P : Program) (E : List AV) (fs : List Field) (zero : List Value) (parts : List (Nat × Operand)) : List AV :=
  parts.foldl (fun l p => l.set p.1 (rd E p.2)) (fs.map fun f => ofCells (kdOf P 12 f.type) (zero.drop f.offset))
def lain : List Field → Nat → List AV → Bool
  | [], _, [] => true
  | f :: fs, off, a :: l => f.offset == off && !a.isTup && lain fs (off + a.size) l
  | _, _, _ => false

/-- What an operation that leaves the world alone asks. -/
def pureVC (P : Program) (E : List AV) (o : Oper) (K : AV → Prop) (w : World) : Prop :=
  let dflt : Prop := match semVal P (execOp (fun x => (rd E x).val) o) with | some (.value v) => K (.v v) | _ => False
  match o.op with
  | .move x => K (rd E x)
  | .assign x => K (rd E x)
  | .load t x => match rd E x with | .v (.pointer A) => nz A fun a => bif kdFits P t (kdOf P 12 t) then ld (kdOf P 12 t) w a fun y => K ((kdOf P 12 t).av y) else False | _ => False
  | .nilCheck x => match rd E x with | .v (.pointer A) => nz A fun a => K (.v (.pointer (some a))) | _ => dflt
  | .fieldAddr s x f => match P.underlying s, rd E x with
    | some (.struct fs), .v (.pointer A) => match fs.toList[f]? with
      | some fd => bif P.cellsOf fd.type == 0 then False else nz A fun a => K (.v (.pointer (some (a.add fd.offset))))
      | none => False
    | _, _ => False
  | .indexAddr t x ix => match P.underlying t, rd E x, rd E ix with
    | some (.slice e), .v (.slice A n _), .v (.int _ i) => bif P.cellsOf e == 0 then False else ixa A n i (P.cellsOf e) fun a => K (.v (.pointer (some a)))
    | some (.array n e), .v (.pointer A), .v (.int _ i) => bif P.cellsOf e == 0 then False else ixa A n i (P.cellsOf e) fun a => K (.v (.pointer (some a)))
    | _, _, _ => False
  | .slice t x lo hi none => match P.underlying t, rd E x, lo.map (rd E), hi.map (rd E) with
    | some (.slice e), .v (.slice A n c), none, none => bif P.cellsOf e == 0 then False else sls ⟨A, n, c⟩ 0 n (P.cellsOf e) fun r => K (.v (.slice r.a r.n r.c))
    | some (.slice e), .v (.slice A n c), some (.v (.int _ l)), none => bif P.cellsOf e == 0 then False else sls ⟨A, n, c⟩ l n (P.cellsOf e) fun r => K (.v (.slice r.a r.n r.c))
    | some (.slice e), .v (.slice A n c), none, some (.v (.int _ h)) => bif P.cellsOf e == 0 then False else sls ⟨A, n, c⟩ 0 h (P.cellsOf e) fun r => K (.v (.slice r.a r.n r.c))
    | some (.slice e), .v (.slice A n c), some (.v (.int _ l)), some (.v (.int _ h)) => bif P.cellsOf e == 0 then False else sls ⟨A, n, c⟩ l h (P.cellsOf e) fun r => K (.v (.slice r.a r.n r.c))
    | some (.array ..), _, _, _ => qn P (Instr.sliceAt t (rd E x).val (lo.map fun y => (rd E y).val) (hi.map fun y => (rd E y).val) none) .L w fun r => K (.v (.slice r.a r.n r.c))
    | _, _, _, _ => False
  | .slice t x lo hi (some m) => qn P (Instr.sliceAt t (rd E x).val (lo.map fun y => (rd E y).val) (hi.map fun y => (rd E y).val) (some (rd E m).val)) .L w fun r => K (.v (.slice r.a r.n r.c))
  | .sliceToArrayPointer arr x => qn P (Instr.arrayAt arr (rd E x).val) .P w fun r => K (.v (.pointer r))
  | .lookup t x ix ok => qn P (Instr.lookup t (rd E x).val (rd E ix).val ok) (kdOf P 12 o.type) w fun y => K ((kdOf P 12 o.type).av y)
  | .index t x ix => match P.underlying t, rd E x, rd E ix with
    | some .string, .v (.string s), .v (.int _ i) => 0 ≤ i ∧ i < (s.size : Int) ∧ K (.v (.int .u8 (s.data.toList.getD i.toNat 0).toNat))
    | some (.array ..), _, _ => qn P (Instr.index t (rd E x).val (rd E ix).val) (kdOf P 12 o.type) w fun y => K ((kdOf P 12 o.type).av y)
    | _, _, _ => False
  | .extract x i => match rd E x with
    | .tup a => match a.nth i with | some y => K y | none => False
    | _ => False
  | .binOp op t x y _ => match op, rd E x, rd E y with
    | .shl, .v (.int k a), .v (.int _ b) => bif decide (0 ≤ b) then K (.v (.int k (k.wrap (a * 2 ^ min b.toNat k.bits)))) else False
    | .shr, .v (.int k a), .v (.int _ b) => bif decide (0 ≤ b) then K (.v (.int k (a / 2 ^ min b.toNat k.bits))) else False
    | .quo, .v (.int k a), .v (.int k' b) => bif decide (k = k') && !decide (b = 0) then K (.v (.int k (k.wrap (a.tdiv b)))) else False
    | .rem, .v (.int k a), .v (.int k' b) => bif decide (k = k') && !decide (b = 0) then K (.v (.int k (a.tmod b))) else False
    | .and, .v (.int k a), .v (.int k' b) => bif decide (k = k') then K (.v (.int k (bits .and k a b))) else False
    | .or, .v (.int k a), .v (.int k' b) => bif decide (k = k') then K (.v (.int k (bits .or k a b))) else False
    | .xor, .v (.int k a), .v (.int k' b) => bif decide (k = k') then K (.v (.int k (bits .xor k a b))) else False
    | .eql, .v (.pointer A), .v (.pointer none) => match P.underlying t with | some (.pointer e) => bif P.pointee t == e then K (.v (.bool A.isNone)) else False | _ => False
    | .neq, .v (.pointer A), .v (.pointer none) => match P.underlying t with | some (.pointer e) => bif P.pointee t == e then K (.v (.bool (!A.isNone))) else False | _ => False
    | .eql, .v (.slice A _ _), .v (.slice none 0 0) => match P.underlying t with | some (.slice _) => K (.v (.bool A.isNone)) | _ => False
    | .neq, .v (.slice A _ _), .v (.slice none 0 0) => match P.underlying t with | some (.slice _) => K (.v (.bool (!A.isNone))) | _ => False
    | .eql, .pair a b, .pair c d => match P.underlying t with | some (.struct _) => qn P (do eqGuard .eql t (.const .nilIface) (.const .nilIface) (AV.val (.pair a b)) (AV.val (.pair c d)); binOp .eql t (AV.val (.pair a b)) (AV.val (.pair c d))) .B w fun b => K (.v (.bool b)) | _ => False
    | .eql, .row a b, .row c d => match P.underlying t with | some (.array ..) => qn P (do eqGuard .eql t (.const .nilIface) (.const .nilIface) (AV.val (.row a b)) (AV.val (.row c d)); binOp .eql t (AV.val (.row a b)) (AV.val (.row c d))) .B w fun b => K (.v (.bool b)) | _ => False
    | .neq, .pair a b, .pair c d => match P.underlying t with | some (.struct _) => qn P (do eqGuard .neq t (.const .nilIface) (.const .nilIface) (AV.val (.pair a b)) (AV.val (.pair c d)); binOp .neq t (AV.val (.pair a b)) (AV.val (.pair c d))) .B w fun b => K (.v (.bool b)) | _ => False
    | .neq, .row a b, .row c d => match P.underlying t with | some (.array ..) => qn P (do eqGuard .neq t (.const .nilIface) (.const .nilIface) (AV.val (.row a b)) (AV.val (.row c d)); binOp .neq t (AV.val (.row a b)) (AV.val (.row c d))) .B w fun b => K (.v (.bool b)) | _ => False
    | .eql, .v (.map A), .v (.map B) => match P.underlying t with | some (.map ..) => qn P (do eqGuard .eql t (.const .nilIface) (.const .nilIface) (.map A) (.map B); binOp .eql t (.map A) (.map B)) .B w fun b => K (.v (.bool b)) | _ => False
    | .neq, .v (.map A), .v (.map B) => match P.underlying t with | some (.map ..) => qn P (do eqGuard .neq t (.const .nilIface) (.const .nilIface) (.map A) (.map B); binOp .neq t (.map A) (.map B)) .B w fun b => K (.v (.bool b)) | _ => False
    | _, _, _ => dflt
  | .build t parts => match P.underlying t, (P.info? t).bind (·.zero) with
    | some (.struct fs), some z =>
      let zs := fs.toList.map fun f => ofCells (kdOf P 12 f.type) (z.cells.toList.drop f.offset)
      bif (parts.toList.all fun p => !(rd E p.2).isTup && (zs.getD p.1 .nil).size == (rd E p.2).size && decide (p.1 < zs.length)) && lain fs.toList 0 zs && (chain zs).size == z.cells.size && (fs.toList.all fun f => P.cellsOf f.type == (ofCells (kdOf P 12 f.type) (z.cells.toList.drop f.offset)).size && (kdOf P 12 f.type).size == P.cellsOf f.type && (P.info? f.type).isSome)
        then K (chain (structAV P E fs.toList z.cells.toList parts.toList)) else False
    | some (.array ..), _ => qn P (Instr.build t (parts.map fun p => (p.1, (rd E p.2).val))) (.row (P.cellsOf t)) w fun x => K (.row (P.cellsOf t) x)
    | _, _ => False
  | .field t x i => match P.underlying t with
    | some (.struct fs) => match fs.toList[i]? with
      | some f => bif (kdOf P 12 f.type).size == ((rd E x).at f.offset).size && P.cellsOf f.type == (kdOf P 12 f.type).size && kdFits P f.type (kdOf P 12 f.type) && (kdOf P 12 f.type).many == ((rd E x).at f.offset).many && (rd E x).many && !((rd E x).at f.offset).isTup && ((rd E x).at f.offset).okOne
          then K ((rd E x).at f.offset) else False
      | none => False
    | _ => False
  | .convert src dst x => match P.underlying src, P.underlying dst, rd E x with
    | some (.int _), some (.int k), .v (.int _ n) => K (.v (.int k (k.wrap n)))
    | some (.slice e), some .string, .v (.slice A n c) => match P.underlying e with
      | some (.int .u8) => bstr w ⟨A, n, c⟩ fun l => K (.v (.string ⟨l.toArray⟩))
      | _ => False
    | _, _, _ => dflt
  | .call c => match c.callee, c.args.toList, c.argTypes.toList with
    | .builtin .len, [x], [t] => match P.underlying t, rd E x with
      | some (.slice _), .v (.slice _ n _) => K (.v (.int .i64 n))
      | some .string, .v (.string s) => K (.v (.int .i64 s.size))
      | some (.array n _), _ => K (.v (.int .i64 n))
      | some (.map ..), _ => qn P (Builtin.len_ c.argTypes o.type #[(rd E x).val]) (.I .i64) w fun n => K (.v (.int .i64 n))
      | _, _ => False
    | .builtin .max, [x, y], [_, _] => match rd E x, rd E y with
      | .v (.int k a), .v (.int _ b) => K (.v (.int k (max a b)))
      | _, _ => False
    | .builtin .min, [x, y], [_, _] => match rd E x, rd E y with
      | .v (.int k a), .v (.int _ b) => K (.v (.int k (min a b)))
      | _, _ => False
    | .builtin .min, [x, y, z], [_, _, _] => match rd E x, rd E y, rd E z with
      | .v (.int k a), .v (.int _ b), .v (.int _ c) => K (.v (.int k (min (min a b) c)))
      | _, _, _ => False
    | _, _, _ => False
  | .pick c x y => match rd E c with | .v (.bool b) => (match b with | true => K (rd E x) | false => K (rd E y)) | _ => False
  | .unOp .. | .makeInterface .. => dflt
  | _ => False

theorem val_v (x : Value) : (AV.v x).val = x := by simp only [AV.val]

theorem AV.cells_length : ∀ (v : AV), v.cells.length = v.size
  | .v x => by simp [AV.cells, AV.size]
  | .nil => rfl
  | .pair a b => by simp [AV.cells, AV.size, AV.cells_length a, AV.cells_length b]
  | .row _ l => l.2
  | .tup _ => rfl
theorem foldl_set {vs : List Value} : ∀ (d m t : List Value), m.length = vs.length →
    (vs.zipIdx.foldl (fun (cs : Array Value) x => cs.setIfInBounds (d.length + x.2) x.1) (d ++ m ++ t).toArray) = (d ++ vs ++ t).toArray := by
  have : ∀ (vs m d t : List Value) (k : Nat) (e : List Value), m.length = vs.length → e.length = k →
      (vs.zipIdx k).foldl (fun (cs : Array Value) x => cs.setIfInBounds (d.length + x.2) x.1) (d ++ e ++ m ++ t).toArray = (d ++ e ++ vs ++ t).toArray := by
    intro vs
    induction vs with
    | nil => intro m d t k e hm _; simp at hm; subst hm; simp
    | cons v vs ih =>
      intro m d t k e hm he
      cases m with
      | nil => simp at hm
      | cons x m =>
        simp only [List.zipIdx_cons, List.foldl_cons]
        have h1 : (d ++ e ++ (x :: m) ++ t).toArray.setIfInBounds (d.length + k) v = (d ++ (e ++ [v]) ++ m ++ t).toArray := by
          rw [List.setIfInBounds_toArray]
          congr 1
          subst he
          rw [List.append_assoc, List.append_assoc, List.set_append_right _ _ (by omega)]
          simp [List.set_append_right]
        rw [h1, ih m d t (k + 1) (e ++ [v]) (by simpa using hm) (by simp [he])]
        simp
  intro d m t hm
  have := this vs m d t 0 [] hm rfl
  simpa using this

theorem val_cells {v : AV} (h : v.isTup = false) : v.val.cells.toList = v.cells := by
  cases v <;> first | rfl | simp [AV.isTup] at h
theorem val_size {v : AV} (h : v.isTup = false) : v.val.cells.size = v.size := by
  rw [← AV.cells_length, ← val_cells h, Array.length_toList]


theorem ofCells_size_le : ∀ (k : Kd) (cs : List Value), (ofCells k cs).size ≤ k.size
  | .nil, _ => Nat.le_refl _
  | .pair a b, cs => Nat.add_le_add (ofCells_size_le a cs) (ofCells_size_le b _)
  | .row n, cs => by
    unfold ofCells
    split
    · exact Nat.le_refl _
    · exact Nat.zero_le _
  | .tup _, _ => Nat.le_refl _
  | .B, cs | .I _, cs | .S, cs | .P, cs | .L, cs | .M, cs | .U, cs => by
    unfold ofCells
    cases cs with
    | nil => exact Nat.zero_le _
    | cons v l =>
      dsimp only
      cases h : v.oneCell' with
      | false => exact Nat.zero_le _
      | true => cases v <;> first | exact Nat.le_refl _ | exact absurd h (by simp [Value.oneCell'])
theorem ofCells_cells : ∀ (k : Kd) (cs : List Value), (ofCells k cs).size = k.size → (ofCells k cs).cells = cs.take k.size
  | .nil, _, _ => by simp [ofCells, AV.cells, Kd.size]
  | .pair a b, cs, h => by
    have h1 := ofCells_size_le a cs
    have h2 := ofCells_size_le b (cs.drop a.size)
    simp only [ofCells, AV.size, Kd.size] at h
    simp only [ofCells, AV.cells, Kd.size]
    rw [ofCells_cells a cs (by omega), ofCells_cells b _ (by omega), List.take_add]
  | .row n, cs, h => by
    unfold ofCells at h ⊢
    split
    · rfl
    · rename_i hn
      rw [dif_neg hn] at h
      simp only [AV.size, Kd.size] at h
      subst h
      simp at hn
  | .tup _, _, _ => by simp [ofCells, AV.cells, Kd.size]
  | .B, cs, h | .I _, cs, h | .S, cs, h | .P, cs, h | .L, cs, h | .M, cs, h | .U, cs, h => by
    unfold ofCells at h ⊢
    cases cs with
    | nil => simp [AV.size, Kd.size] at h
    | cons v l =>
      dsimp only at h ⊢
      cases h1 : v.oneCell' with
      | false => rw [h1] at h; simp [AV.size, Kd.size] at h
      | true => 
        have hv : v.cells = #[v] := by cases v <;> first | rfl | simp [Value.oneCell'] at h1
        simp [AV.cells, hv, Kd.size]

theorem lain_length : ∀ {fs : List Field} {off : Nat} {l : List AV}, lain fs off l = true → l.length = fs.length
  | [], _, [], _ => rfl
  | _ :: fs, _, _ :: l, h => by
    simp only [lain, Bool.and_eq_true] at h
    simp [lain_length h.2]
/-- The part at a place, and what stands around it. -/
theorem lain_at : ∀ {fs : List Field} {off : Nat} {l : List AV}, lain fs off l = true → ∀ {i : Nat} {f : Field}, fs[i]? = some f → ∀ {a : AV}, (l.getD i .nil).size = a.size → a.isTup = false →
    ∃ A B, (chain l).cells = A ++ (l.getD i .nil).cells ++ B ∧ (chain (l.set i a)).cells = A ++ a.cells ++ B ∧ off + A.length = f.offset ∧ lain fs off (l.set i a) = true
  | g :: fs, off, b :: l, h, 0, f, hf, a, hs, ht => by
    simp only [List.getElem?_cons_zero, Option.some.injEq] at hf
    subst hf
    simp only [lain, Bool.and_eq_true, beq_iff_eq, Bool.not_eq_true'] at h
    refine ⟨[], (chain l).cells, by simp [chain, AV.cells], by simp [chain, AV.cells], by simp [h.1.1], ?_⟩
    simp only [List.set_cons_zero, lain, Bool.and_eq_true, beq_iff_eq, Bool.not_eq_true']
    exact ⟨⟨h.1.1, ht⟩, by rw [← hs]; exact h.2⟩
  | g :: fs, off, b :: l, h, i + 1, f, hf, a, hs, ht => by
    simp only [List.getElem?_cons_succ] at hf
    simp only [lain, Bool.and_eq_true, beq_iff_eq, Bool.not_eq_true'] at h
    obtain ⟨A, B, h1, h2, h3, h4⟩ := lain_at h.2 hf (a := a) (by simpa using hs) ht
    refine ⟨b.cells ++ A, B, ?_, ?_, ?_, ?_⟩
    · simp only [chain, AV.cells, h1]; simp
    · simp only [List.set_cons_succ, chain, AV.cells, h2]; simp
    · rw [List.length_append, AV.cells_length]; omega
    · simp only [List.set_cons_succ, lain, Bool.and_eq_true, beq_iff_eq, Bool.not_eq_true']
      exact ⟨h.1, h4⟩

theorem fill_struct {_P : Program} {E : List AV} {fs : List Field} {places : Nat → Option (Nat × Nat)} : ∀ (parts : List (Nat × Operand)) (l : List AV), lain fs 0 l = true →
    (∀ i f, fs[i]? = some f → places i = some (f.offset, (l.getD i .nil).size)) →
    (∀ p ∈ parts, (rd E p.2).isTup = false ∧ (l.getD p.1 .nil).size = (rd E p.2).size ∧ p.1 < l.length) →
    Instr.fill places (chain l).cells.toArray (parts.map fun p => (p.1, (rd E p.2).val)) = some (chain (parts.foldl (fun l p => l.set p.1 (rd E p.2)) l)).cells.toArray := by
  intro parts
  induction parts with
  | nil => intro l _ _ _; rfl
  | cons p parts ih =>
    intro l hl hp hall
    obtain ⟨ht, hs, hlt⟩ := hall p (List.mem_cons_self ..)
    obtain ⟨f, hf⟩ : ∃ f, fs[p.1]? = some f := ⟨_, List.getElem?_eq_getElem (by rw [← lain_length hl]; exact hlt)⟩
    obtain ⟨A, B, h1, h2, h3, h4⟩ := lain_at hl hf hs ht
    simp only [List.map_cons, Instr.fill, hp _ _ hf]
    have hvs : (rd E p.2).val.cells.size = (l.getD p.1 .nil).size := by rw [val_size ht, hs]
    rw [if_neg (by
      have : (chain l).cells.length = A.length + (l.getD p.1 .nil).size + B.length := by rw [h1]; simp [AV.cells_length, Nat.add_assoc]
      simp [hvs, this]; omega)]
    have hsp := foldl_set (vs := (rd E p.2).val.cells.toList) A (l.getD p.1 .nil).cells B (by rw [AV.cells_length, ← hvs, Array.length_toList])
    have hcs : ((rd E p.2).val.cells.zipIdx.foldl (fun cs (c, j) => cs.setIfInBounds (f.offset + j) c) (chain l).cells.toArray) = (chain (l.set p.1 (rd E p.2))).cells.toArray := by
      rw [h1, h2, ← Array.foldl_toList, Array.toList_zipIdx]
      rw [val_cells ht] at hsp
      rw [← hsp, show f.offset = A.length from by omega, val_cells ht]
    rw [hcs]
    refine ih (l.set p.1 (rd E p.2)) h4 (fun i g hg => ?_) (fun q hq => ?_)
    · rw [hp i g hg]
      congr 2
      by_cases e : p.1 = i
      · subst e; rw [hs]; simp [List.getD_eq_getElem?_getD, hlt]
      · simp [List.getD_eq_getElem?_getD, e]
    · obtain ⟨a1, a2, a3⟩ := hall q (List.mem_cons_of_mem _ hq)
      refine ⟨a1, ?_, by simpa using a3⟩
      rw [← a2]
      by_cases e : p.1 = q.1
      · rw [← e, hs]; simp [List.getD_eq_getElem?_getD, hlt]
      · simp [List.getD_eq_getElem?_getD, e]

theorem chain_val (l : List AV) : (chain l).val = .agg (chain l).cells.toArray := by
  cases l <;> simp [chain, AV.val, AV.cells]

/-- The zero parts together are the zero value. -/
theorem zeros_cells {P : Program} {z : List Value} : ∀ {fs : List Field} {off : Nat}, lain fs off (fs.map fun f => ofCells (kdOf P 12 f.type) (z.drop f.offset)) = true →
    (∀ f ∈ fs, (ofCells (kdOf P 12 f.type) (z.drop f.offset)).size = (kdOf P 12 f.type).size) → (chain (fs.map fun f => ofCells (kdOf P 12 f.type) (z.drop f.offset))).cells = (z.drop off).take (chain (fs.map fun f => ofCells (kdOf P 12 f.type) (z.drop f.offset))).size
  | [], off, _, _ => by simp [chain, AV.cells, AV.size]
  | f :: fs, off, h, hk => by
    simp only [List.map_cons, lain, Bool.and_eq_true, beq_iff_eq] at h
    have ih := zeros_cells h.2 fun g hg => hk g (List.mem_cons_of_mem _ hg)
    have hf := hk f (List.mem_cons_self ..)
    simp only [List.map_cons, chain, AV.cells, AV.size]
    rw [ih, ofCells_cells _ _ hf, hf, h.1.1, List.take_add, List.drop_drop]

theorem run_fieldPlace {P : Program} (a : Addr) (f : Field) (h : (P.cellsOf f.type == 0) = false) (hi : (P.info? f.type).isSome) (w : World) : (fieldPlace a f).run P w = .ok (a.add f.offset) w := by
  obtain ⟨i, hi⟩ := Option.isSome_iff_exists.1 hi
  simp [Program.cellsOf, hi] at h
  simp [fieldPlace, sizeOf, typeInfo, hi, h]

theorem cellsOf_isSome {P : Program} {t : TypeId} (h : (P.cellsOf t == 0) = false) : (P.info? t).isSome := by
  cases hi : P.info? t with
  | none => simp [Program.cellsOf, hi] at h
  | some i => rfl

theorem ld_cells {w : World} : ∀ {k : Kd} {a : Addr} {K : k.T → Prop}, ld k w a K → ∃ x, K x ∧ (k.av x).cells.length = k.size ∧ ∀ j v, (k.av x).cells[j]? = some v → w.cell? (a.add j) = some v
  | .B, a, K, ⟨x, h, hk⟩ | .I _, a, K, ⟨x, h, hk⟩ | .S, a, K, ⟨x, h, hk⟩ | .P, a, K, ⟨x, h, hk⟩ | .L, a, K, ⟨x, h, hk⟩ | .M, a, K, ⟨x, h, hk⟩ => ⟨x, hk, rfl, fun j v hv => by
      match j, hv with
      | 0, hv => simp only [Kd.av, AV.cells, Value.cells, List.getElem?_cons_zero, Option.some.injEq] at hv; subst hv; exact h
      | j + 1, hv => simp [Kd.av, AV.cells, Value.cells] at hv⟩
  | .U, a, K, ⟨x, h, hk, h1⟩ => ⟨x, hk, by cases x <;> first | rfl | simp [Value.oneCell'] at h1, fun j v hv => by
      have hx : x.cells = #[x] := by cases x <;> first | rfl | simp [Value.oneCell'] at h1
      match j, hv with
      | 0, hv => simp only [Kd.av, AV.cells, hx, List.getElem?_cons_zero, Option.some.injEq] at hv; subst hv; exact h
      | j + 1, hv => simp [Kd.av, AV.cells, hx] at hv⟩
  | .nil, a, K, h => ⟨(), h, rfl, fun j v hv => by simp [Kd.av, AV.cells] at hv⟩
  | .pair k1 k2, a, K, h => by
    obtain ⟨x, hx, hl1, h1⟩ := ld_cells (k := k1) h
    obtain ⟨y, hy, hl2, h2⟩ := ld_cells (k := k2) hx
    refine ⟨(x, y), hy, by simp [Kd.av, AV.cells, Kd.size, hl1, hl2], fun j v hv => ?_⟩
    simp only [Kd.av, AV.cells, List.getElem?_append] at hv
    split at hv
    · exact h1 j v hv
    · rename_i hj
      have := h2 _ v hv
      rw [add_add] at this
      rw [hl1] at this hj
      rwa [show k1.size + (j - k1.size) = j from by omega] at this
  | .row n, a, K, ⟨l, h, hk⟩ => ⟨l, hk, by simp [Kd.av, AV.cells, Kd.size, l.2], fun j v hv => by
      obtain ⟨hj, rfl⟩ := List.getElem?_eq_some_iff.1 hv
      exact h j hj⟩

/-- All blocks that were there stand as they were. -/
def Sub (w w' : World) : Prop := ∀ k, k < w.heap.size → w'.heap[k]? = w.heap[k]?
theorem Sub.refl (w : World) : Sub w w := fun _ _ => rfl
theorem Sub.cell {w w' : World} (h : Sub w w') {a : Addr} {v : Value} (hc : w.cell? a = some v) : w'.cell? a = some v := (World.cell?_of_block (w := w) (h a.block (World.block_lt_of_cell? w _ hc))).trans hc
theorem run_isAgg {P : Program} {t : TypeId} {k : Kd} (h : kdFits P t k = true) (w : World) : (isAgg t).run P w = .ok k.many w ∧ (k.many = true → k.size = P.cellsOf t ∧ (P.info? t).isSome) := by
  unfold kdFits at h
  have hinfo : ∀ d, P.underlying t = some d → (P.info? t).isSome := fun d hd => by
    unfold Program.underlying at hd
    cases hi : P.info? t with
    | none => rw [hi] at hd; cases hd
    | some i => rfl
  split at h
  · rename_i hu
    simp only [Bool.and_eq_true, beq_iff_eq] at h
    exact ⟨by simp [isAgg, run_underlying hu, h.1], fun _ => ⟨h.2, hinfo _ hu⟩⟩
  · rename_i hu
    simp only [Bool.and_eq_true, beq_iff_eq] at h
    exact ⟨by simp [isAgg, run_underlying hu, h.1], fun _ => ⟨h.2, hinfo _ hu⟩⟩
  · cases h
  · rename_i d h1 h2 h3 hu
    have hm : k.many = false := by simpa using h
    refine ⟨?_, fun hx => by rw [hm] at hx; cases hx⟩
    rw [hm]
    unfold isAgg
    simp only [Sem.run_bind, run_underlying hu, Result.andThen_ok]
    cases d <;> simp_all
  · cases h

theorem av_val_many {k : Kd} (h : k.many = true) (x : k.T) : (k.av x).val = .agg (k.av x).cells.toArray := by
  cases k <;> first | (simp only [Kd.av, AV.val, AV.cells]; done) | simp [Kd.many] at h

theorem ld_one {k : Kd} {w : World} {a : Addr} {K : k.T → Prop} (hm : k.many = false) (h : ld k w a K) : ∃ x, K x ∧ w.cell? a = some (k.av x).val := by
  cases k with
  | nil => simp [Kd.many] at hm
  | pair a b => simp [Kd.many] at hm
  | row n => simp [Kd.many] at hm
  | tup a => exact h.elim
  | U => obtain ⟨x, h, hk, _⟩ := h; exact ⟨x, hk, h⟩
  | _ => obtain ⟨x, h, hk⟩ := h; exact ⟨x, hk, h⟩

theorem ld_sound {P : Program} {t : TypeId} {k : Kd} {w : World} {a : Addr} {K : k.T → Prop} (hf : kdFits P t k = true) (h : ld k w a K) :
    ∃ x, K x ∧ ∀ w', Sub w w' → (Instr.loadAt t (.pointer (some a))).run P w' = .ok (k.av x).val w' := by
  cases hk : k.many with
  | true =>
    obtain ⟨x, hx, hl, hc⟩ := ld_cells h
    refine ⟨x, hx, fun w' hw => ?_⟩
    have hc' : ∀ j v, (k.av x).cells[j]? = some v → w'.cell? (a.add j) = some v := fun j v hv => hw.cell (hc j v hv)
    obtain ⟨hr, hm⟩ := run_isAgg hf w'
    unfold Instr.loadAt Instr.sureAddr loadVar
    rw [hk] at hr
    obtain ⟨hs, hi⟩ := hm hk
    obtain ⟨i, hi⟩ := Option.isSome_iff_exists.1 hi
    have hsz : i.size = (k.av x).cells.length := by rw [hl, hs]; simp [Program.cellsOf, hi]
    simp only [Sem.run_bind, Sem.run_pure, Result.andThen_ok, hr, if_true, sizeOf, typeInfo, program, Sem.run, hi]
    rw [hsz, run_loadCells_list w' a _ hc', av_val_many hk]
    rfl
  | false =>
    obtain ⟨x, hx, hc⟩ := ld_one hk h
    refine ⟨x, hx, fun w' hw => ?_⟩
    obtain ⟨hr, -⟩ := run_isAgg hf w'
    rw [hk] at hr
    unfold Instr.loadAt Instr.sureAddr loadVar
    simp only [Sem.run_bind, Sem.run_pure, Result.andThen_ok, hr, Bool.false_eq_true, if_false, load, Sem.run, hw.cell hc]

theorem dflt_sound {P : Program} {ρ : Operand → Value} {o : Oper} {K : AV → Prop} (h : match semVal P (execOp ρ o) with | some (.value v) => K (.v v) | _ => False) :
    ∃ v : AV, K v ∧ ∀ w', (execOp ρ o).run P w' = .ok (.value v.val) w' := by
  split at h
  · rename_i v hv
    exact ⟨.v v, h, fun w' => semVal_run hv w'⟩
  · exact h.elim

theorem nz_elim {A : Option Addr} {K : Addr → Prop} (h : nz A K) : ∃ a, A = some a ∧ K a := by
  cases A with
  | none => exact h.elim
  | some a => exact ⟨a, rfl, h⟩
theorem atOff_eq (a : Addr) (i : Int) (sz : Nat) : atOff a i sz = a.add (i.toNat * sz) := by unfold atOff; split <;> simp

section
variable {P : Program} {E : List AV}

theorem run_cutSl {t e : TypeId} {A : Option Addr} {n c : Nat} {lo hi : Option Value} {l h : Int} (ht : P.underlying t = some (.slice e)) (hi' : (P.info? e).isSome)
    (hlo : (lo = none ∧ l = 0) ∨ ∃ k, lo = some (.int k l)) (hhi : (hi = none ∧ h = n) ∨ ∃ k, hi = some (.int k h)) (h0 : 0 ≤ l) (h1 : l ≤ h) (h2 : h ≤ (c : Int)) (w : World) :
    (Instr.sliceAt t (.slice A n c) lo hi none).run P w = .ok (.slice (cut ⟨A, n, c⟩ l.toNat h.toNat (P.cellsOf e)).a (cut ⟨A, n, c⟩ l.toNat h.toNat (P.cellsOf e)).n (cut ⟨A, n, c⟩ l.toNat h.toNat (P.cellsOf e)).c) w := by
  obtain ⟨i, hi'⟩ := Option.isSome_iff_exists.1 hi'
  have hs : P.cellsOf e = i.size := by simp [Program.cellsOf, hi']
  have hmap : (fun x => atOff x (l.toNat : Int) (P.cellsOf e)) = fun x : Addr => x.add (l.toNat * i.size) := by funext x; rw [atOff_eq, hs, Int.toNat_natCast]
  have hh : ((h.toNat : Nat) : Int) = h := by omega
  have hlh : l ≤ (h.toNat : Int) := by omega
  unfold Instr.sliceAt Instr.slice Instr.sliceBounds Instr.sliceBound cut
  rw [hmap]
  have h03 : (0 : Int) ≤ h := by omega
  rcases hlo with ⟨rfl, rfl⟩ | ⟨kl, rfl⟩ <;> rcases hhi with ⟨rfl, rfl⟩ | ⟨kh, rfl⟩ <;>
    simp [run_underlying ht, sizeOf, typeInfo, hi', asIntOf, h0, h1, h2, hh, h03]
end

theorem nth_elems : ∀ {a y : AV} {i : Nat}, a.nth i = some y → a.elems[i]? = some y.val
  | .pair a b, y, 0, h => by simp only [AV.nth, Option.some.injEq] at h; subst h; simp [AV.elems]
  | .pair a b, y, i + 1, h => by simp only [AV.nth] at h; simpa [AV.elems] using nth_elems (a := b) h
  | .v _, _, _, h | .nil, _, _, h | .row _ _, _, _, h | .tup _, _, _, h => by simp [AV.nth] at h

theorem foldl_bytes : ∀ (l : List UInt8) (r : ByteArray), (l.map fun x => (x.toNat : Int)).foldl (fun r n => r.push (UInt8.ofNat n.toNat)) r = ⟨(r.data.toList ++ l).toArray⟩
  | [], r => by cases r; simp
  | x :: l, r => by
    simp only [List.map_cons, List.foldl_cons]
    rw [foldl_bytes l]
    congr 1
    simp
theorem run_bytes_str {P : Program} {w : World} {A : Option Addr} {n c : Nat} {l : List UInt8} (hl : l.length = n) (hr : Rd w A (u8s l)) : (Conv.bytesToString (.slice A n c)).run P w = .ok (.string ⟨l.toArray⟩) w := by
  subst hl
  cases A with
  | none =>
    have : l = [] := by
      cases l with
      | nil => rfl
      | cons x l => obtain ⟨ad, h, _⟩ := hr 0 _ (by simp [u8s]; rfl); cases h
    subst this
    rfl
  | some a =>
    have hc := run_loadCells_list (P := P) w a (u8s l) fun j v hv => by
      obtain ⟨ad, h, hc⟩ := hr j v hv
      injection h with h
      subst h
      exact hc
    have := run_bytesToString (P := P) w a l.length c (l.map fun x => (x.toNat : Int)) (by rw [u8s_length] at hc; rw [hc]; simp [u8s])
    rw [this, foldl_bytes]
    rfl

theorem run_sizes {P : Program} (w : World) : ∀ (fs : List Field), (∀ f ∈ fs, (P.info? f.type).isSome) → (fs.mapM fun f => do pure (f.offset, ← sizeOf f.type) : Sem (List (Nat × Nat))).run P w = .ok (fs.map fun f => (f.offset, P.cellsOf f.type)) w
  | [], _ => by simp
  | f :: fs, h => by
    obtain ⟨i, hi⟩ := Option.isSome_iff_exists.1 (h f (List.mem_cons_self ..))
    have ih := run_sizes (P := P) w fs fun g hg => h g (List.mem_cons_of_mem _ hg)
    have e : (do pure (f.offset, ← sizeOf f.type) : Sem (Nat × Nat)).run P w = .ok (f.offset, P.cellsOf f.type) w := by
      simp [sizeOf, typeInfo, program, Sem.run, hi, Program.cellsOf]
    rw [List.mapM_cons, Sem.run_bind, e]
    simp only [Result.andThen_ok, Sem.run_bind, ih, Sem.run_pure, List.map_cons]

theorem at_cells : ∀ {a : AV} {off : Nat}, (a.at off).isTup = false → ∃ A B, a.cells = A ++ (a.at off).cells ++ B ∧ A.length = off
  | .pair a b, off, h => by
    simp only [AV.at] at h ⊢
    split at h
    · rename_i h0; subst h0; exact ⟨[], b.cells, by simp [AV.cells], rfl⟩
    · rename_i h0
      rw [if_neg h0]
      split at h
      · simp [AV.isTup] at h
      · rename_i h1
        rw [if_neg h1]
        obtain ⟨A, B, hA, hl⟩ := at_cells h
        exact ⟨a.cells ++ A, B, by simp only [AV.cells]; rw [hA]; simp, by rw [List.length_append, AV.cells_length]; omega⟩
  | .v _, _, h | .nil, _, h | .row _ _, _, h | .tup _, _, h => by simp [AV.at, AV.isTup] at h

theorem qn_run {P : Program} {s : Sem Value} {k : Kd} {w : World} {K : AV → Prop} {K' : k.T → Prop} {o : Oper} {ρ : Operand → Value} (h : qn P s k w K') (hk : ∀ y, K' y → K (k.av y)) (he : execOp ρ o = (do pure (.value (← s)))) :
    ∃ v : AV, K v ∧ ∀ w', Sub w w' → (execOp ρ o).run P w' = .ok (.value v.val) w' := by
  obtain ⟨x, hx, hK⟩ := h
  refine ⟨_, hk x hK, fun w' hw => ?_⟩
  rw [he, Sem.run_bind, hx w' hw]
  rfl
theorem pure_sound {P : Program} {E : List AV} {o : Oper} {K : AV → Prop} {w : World} (h : pureVC P E o K w) :
    ∃ v : AV, K v ∧ ∀ w', Sub w w' → (execOp (fun x => (rd E x).val) o).run P w' = .ok (.value v.val) w' := by
  obtain ⟨dst, op, ty, pos, after, guard⟩ := o
  have D : ∀ op, (match semVal P (execOp (fun x => (rd E x).val) ⟨dst, op, ty, pos, after, guard⟩) with | some (.value v) => K (.v v) | _ => False) →
      ∃ v : AV, K v ∧ ∀ w', Sub w w' → (execOp (fun x => (rd E x).val) ⟨dst, op, ty, pos, after, guard⟩).run P w' = .ok (.value v.val) w' :=
    fun op h => let ⟨v, hv, hr⟩ := dflt_sound h; ⟨v, hv, fun w' _ => hr w'⟩
  unfold pureVC at h
  cases op with
  | move x => exact ⟨_, h, fun w' _ => rfl⟩
  | assign x => exact ⟨_, h, fun w' _ => rfl⟩
  | load t x =>
    dsimp only at h
    split at h
    · rename_i A hx
      obtain ⟨a, rfl, h⟩ := nz_elim h
      cases hf : kdFits P t (kdOf P 12 t) with
      | false => rw [hf] at h; exact h.elim
      | true =>
        rw [hf] at h
        obtain ⟨y, hy, hr⟩ := ld_sound hf h
        exact ⟨_, hy, fun w' hw => by simp [execOp, hx, val_v, hr w' hw]⟩
    · exact h.elim
  | nilCheck x =>
    dsimp only at h
    split at h
    · rename_i A hx
      obtain ⟨a, rfl, hk⟩ := nz_elim h
      exact ⟨_, hk, fun w' _ => by simp [execOp, hx, val_v]⟩
    · exact D _ h
  | fieldAddr s x f =>
    dsimp only at h
    split at h
    · rename_i fs A hs hx
      split at h
      · rename_i fd hfd
        cases hz : P.cellsOf fd.type == 0 with
        | true => rw [hz] at h; exact h.elim
        | false =>
          rw [hz] at h
          obtain ⟨a, rfl, h⟩ := nz_elim h
          have hfd' : fs[f]? = some fd := by rw [← hfd]; simp
          exact ⟨_, h, fun w' _ => by simp [execOp, hx, val_v, Instr.fieldAt, run_underlying hs, hfd', Instr.sureAddr, run_fieldPlace a fd hz (cellsOf_isSome hz)]⟩
      · exact h.elim
    · exact h.elim
  | indexAddr t x ix =>
    dsimp only at h
    split at h
    · rename_i e A n c k i ht hx hix
      cases hz : P.cellsOf e == 0 with
      | true => rw [hz] at h; exact h.elim
      | false =>
        rw [hz] at h
        obtain ⟨h0, h1, hn⟩ := h
        obtain ⟨a, rfl, hk⟩ := nz_elim hn
        refine ⟨_, hk, fun w' _ => ?_⟩
        obtain ⟨j, hj⟩ := Option.isSome_iff_exists.1 (cellsOf_isSome hz)
        simp [execOp, hx, hix, val_v, Instr.indexAt, asIntOf, run_underlying ht, h0, h1, sizeOf, typeInfo, hj, atOff_eq, Program.cellsOf]
    · rename_i n e A k i ht hx hix
      cases hz : P.cellsOf e == 0 with
      | true => rw [hz] at h; exact h.elim
      | false =>
        rw [hz] at h
        obtain ⟨h0, h1, hn⟩ := h
        obtain ⟨a, rfl, hn⟩ := nz_elim hn
        refine ⟨_, hn, fun w' _ => ?_⟩
        obtain ⟨j, hj⟩ := Option.isSome_iff_exists.1 (cellsOf_isSome hz)
        simp [execOp, hx, hix, val_v, Instr.indexAt, Instr.sureAddr, asIntOf, run_underlying ht, h0, h1, sizeOf, typeInfo, hj, atOff_eq, Program.cellsOf]
    · exact h.elim
  | slice t x lo hi mx =>
    cases mx with
    | some m => exact qn_run h (fun _ h => h) rfl
    | none =>
      dsimp only at h
      have G : ∀ {e : TypeId} {A : Option Addr} {n c : Nat} {l hh : Int}, P.underlying t = some (.slice e) → rd E x = .v (.slice A n c) →
          ((lo = none ∧ l = 0) ∨ ∃ y k, lo = some y ∧ rd E y = .v (.int k l)) → ((hi = none ∧ hh = n) ∨ ∃ y k, hi = some y ∧ rd E y = .v (.int k hh)) →
          (bif P.cellsOf e == 0 then False else sls ⟨A, n, c⟩ l hh (P.cellsOf e) fun r => K (.v (.slice r.a r.n r.c))) →
          ∃ v : AV, K v ∧ ∀ w', Sub w w' → (execOp (fun x => (rd E x).val) ⟨dst, .slice t x lo hi none, ty, pos, after, guard⟩).run P w' = .ok (.value v.val) w' := by
        intro e A n c l hh ht hx hlo hhi hG
        cases hz : P.cellsOf e == 0 with
        | true => rw [hz] at hG; exact hG.elim
        | false =>
          rw [hz] at hG
          obtain ⟨h0, h1, h2, hk⟩ := hG
          refine ⟨_, hk, fun w' _ => ?_⟩
          have hr := run_cutSl (P := P) (lo := lo.map fun x => (rd E x).val) (hi := hi.map fun x => (rd E x).val) (l := l) (h := hh) (A := A) (n := n) (c := c) ht (cellsOf_isSome hz)
            (by rcases hlo with ⟨rfl, rfl⟩ | ⟨y, k, rfl, hy⟩
                · exact .inl ⟨rfl, rfl⟩
                · exact .inr ⟨k, by simp [hy, val_v]⟩)
            (by rcases hhi with ⟨rfl, rfl⟩ | ⟨y, k, rfl, hy⟩
                · exact .inl ⟨rfl, rfl⟩
                · exact .inr ⟨k, by simp [hy, val_v]⟩) h0 h1 h2 w'
          simp [execOp, hx, val_v, hr]
      have M : ∀ {lo : Option Operand} {k : IntKind} {l : Int}, lo.map (rd E) = some (.v (.int k l)) → ∃ y k, lo = some y ∧ rd E y = .v (.int k l) := fun {lo k l} hl => by
        cases lo with
        | none => cases hl
        | some y => exact ⟨y, k, rfl, by simpa using hl⟩
      have N : ∀ {lo : Option Operand}, lo.map (rd E) = none → lo = none := fun {lo} hl => by cases lo <;> first | rfl | cases hl
      split at h
      · rename_i ht hx hlo hhi; exact G ht hx (.inl ⟨N hlo, rfl⟩) (.inl ⟨N hhi, rfl⟩) h
      · rename_i ht hx hlo hhi; exact G ht hx (.inr (M hlo)) (.inl ⟨N hhi, rfl⟩) h
      · rename_i ht hx hlo hhi; exact G ht hx (.inl ⟨N hlo, rfl⟩) (.inr (M hhi)) h
      · rename_i ht hx hlo hhi; exact G ht hx (.inr (M hlo)) (.inr (M hhi)) h
      · exact qn_run h (fun _ h => h) rfl
      · exact h.elim
  | index t x ix =>
    dsimp only at h
    split at h
    · rename_i s k i ht hx hix
      obtain ⟨h0, h1, hk⟩ := h
      refine ⟨_, hk, fun w' _ => ?_⟩
      have hlt : i.toNat < s.size := by omega
      have hb : s[i.toNat]? = some s[i.toNat] := getElem?_pos s i.toNat hlt
      have hd : s.data.toList.getD i.toNat 0 = s[i.toNat] := by
        rw [List.getD_eq_getElem?_getD, List.getElem?_eq_getElem (by simpa using hlt)]; rfl
      rw [hd]
      simp [execOp, hx, hix, val_v, Instr.index, asIntOf, run_underlying ht, h0, hb]
    · exact qn_run h (fun _ h => h) rfl
    · exact h.elim
  | build t parts =>
    obtain ⟨parts⟩ := parts
    dsimp only at h
    split at h
    · rename_i fs z ht hz
      rw [Bool.cond_eq_ite] at h
      split at h
      · rename_i hb
        obtain ⟨i, hi, hiz⟩ := Option.bind_eq_some_iff.1 hz
        simp only [Bool.and_eq_true, beq_iff_eq, List.all_eq_true, Bool.not_eq_true', decide_eq_true_eq] at hb
        obtain ⟨⟨⟨hparts, hlain⟩, hzsz⟩, hfs⟩ := hb
        refine ⟨_, h, fun w' _ => ?_⟩
        have hzc := zeros_cells hlain fun f hf => by
          have := hfs f hf
          rw [← this.1.1, this.1.2]
        rw [hzsz] at hzc
        simp only [List.drop_zero] at hzc
        rw [List.take_of_length_le (by simp)] at hzc
        have hpl : (fs.mapM fun f => do pure (f.offset, ← sizeOf f.type) : Sem (Array (Nat × Nat))).run P w' = .ok (fs.map fun f => (f.offset, P.cellsOf f.type)) w' := by
          obtain ⟨fs⟩ := fs
          rw [List.mapM_toArray]
          simp only [Sem.run_map, run_sizes (P := P) w' fs (fun f hf => (hfs f hf).2), Result.andThen_ok, List.map_toArray]
        have hfill := fill_struct (_P := P) (E := E) (fs := fs.toList) (places := fun j => (fs.map fun f => (f.offset, P.cellsOf f.type))[j]?) parts _ hlain (fun j f hf => by
            have hm := List.mem_of_getElem? hf
            have hf' : fs[j]? = some f := by simpa using hf
            simp only [Array.getElem?_map, hf', Option.map_some, Option.some.injEq, Prod.mk.injEq, true_and]
            rw [List.getD_eq_getElem?_getD, List.getElem?_map, hf]
            exact (hfs f hm).1.1)
          (fun p hp => ⟨(hparts p hp).1.1, (hparts p hp).1.2, (hparts p hp).2⟩)
        rw [hzc] at hfill
        simp only [execOp, Sem.run_bind, Instr.build, zeroValue, typeInfo, program, Sem.run, hi, hiz, Sem.run_pure, Result.andThen_ok, run_underlying ht, hpl]
        simp only [List.map_toArray, Array.toArray_toList] at hfill ⊢
        rw [hfill]
        simp only [Sem.run_pure, Result.andThen_ok, structAV, chain_val]
      · exact h.elim
    · exact qn_run h (fun _ h => h) rfl
    · exact h.elim
  | field t x i =>
    dsimp only at h
    split at h
    · rename_i fs ht
      split at h
      · rename_i f hf
        rw [Bool.cond_eq_ite] at h
        split at h
        · rename_i hb
          simp only [Bool.and_eq_true, beq_iff_eq, Bool.not_eq_true'] at hb
          obtain ⟨⟨⟨⟨⟨⟨h1, h2⟩, h3⟩, h4⟩, h5⟩, h6⟩, h7⟩ := hb
          refine ⟨_, h, fun w' _ => ?_⟩
          have hf' : fs[i]? = some f := by simpa using hf
          have hval : (rd E x).val = .agg (rd E x).cells.toArray := by
            generalize rd E x = a at h5
            cases a <;> first | (simp only [AV.val, AV.cells]; done) | simp [AV.many] at h5
          have hag := run_isAgg h3 w'
          obtain ⟨A, B, hA, hl⟩ := at_cells h6
          generalize (rd E x).at f.offset = y at h1 h4 h6 h7 hA
          have hr : (part f.type (rd E x).cells.toArray f.offset).run P w' = .ok y.val w' := by
            unfold part
            rw [Sem.run_bind, hag.1, Result.andThen_ok]
            cases hm : (kdOf P 12 f.type).many with
            | true =>
              obtain ⟨g1, g2⟩ := hag.2 hm
              obtain ⟨j, hj⟩ := Option.isSome_iff_exists.1 g2
              have hjs : j.size = y.cells.length := by rw [AV.cells_length, ← h1, g1]; simp [Program.cellsOf, hj]
              have hy : y.val = .agg y.cells.toArray := by
                rw [hm] at h4
                cases y <;> first | (simp only [AV.val, AV.cells]; done) | simp [AV.many] at h4
              simp only [if_true, sizeOf, typeInfo, program, Sem.run_bind, Sem.run, hj, Sem.run_pure, Result.andThen_ok]
              rw [hy, hA]
              congr 2
              simp only [List.extract_toArray, List.extract_eq_take_drop, Array.mk.injEq]
              rw [← hl, hjs]
              simp
            | false =>
              rw [hm] at h4
              cases y with
              | v u =>
                have hu : u.cells = #[u] := by cases u <;> first | rfl | simp [AV.okOne, Value.oneCell'] at h7
                have hg : (rd E x).cells.toArray[f.offset]? = some u := by
                  rw [hA, ← hl]
                  simp [AV.cells, hu]
                simp only [Bool.false_eq_true, if_false, hg, Sem.run_pure, val_v]
              | tup _ => simp [AV.isTup] at h6
              | _ => simp [AV.many] at h4
          simp only [execOp, Sem.run_bind, Instr.field, run_underlying ht, Result.andThen_ok, hf', hval, asAgg, Sem.run_pure, hr]
        · exact h.elim
      · exact h.elim
    · exact h.elim
  | extract x i =>
    dsimp only at h
    split at h
    · rename_i a hx
      split at h
      · rename_i y hy
        have hn := nth_elems hy
        exact ⟨_, h, fun w' _ => by simp [execOp, hx, AV.val, Instr.extract, hn]⟩
      · exact h.elim
    · exact h.elim
  | binOp op t x y yt =>
    have R : ∀ {z : Value}, (∀ w', Sub w w' → (eqGuard op t x y (rd E x).val (rd E y).val).run P w' = .ok () w') → (∀ w', Sub w w' → (binOp op t (rd E x).val (rd E y).val).run P w' = .ok z w') → K (.v z) →
        ∃ v : AV, K v ∧ ∀ w', Sub w w' → (execOp (fun x => (rd E x).val) ⟨dst, .binOp op t x y yt, ty, pos, after, guard⟩).run P w' = .ok (.value v.val) w' :=
      fun {z} hg hb hk => ⟨.v z, hk, fun w' hw => by simp [execOp, hg w' hw, hb w' hw, val_v]⟩
    have G : ∀ {k k' : IntKind} {a b : Int}, rd E x = .v (.int k a) → rd E y = .v (.int k' b) → ∀ w', Sub w w' → (eqGuard op t x y (rd E x).val (rd E y).val).run P w' = .ok () w' := fun {k k' a b} hx hy w' _ => by
      rw [hx, hy]; cases op <;> simp [eqGuard, val_v]
    have GP : ∀ {A B : Option Addr}, rd E x = .v (.pointer A) → rd E y = .v (.pointer B) → ∀ w', Sub w w' → (eqGuard op t x y (rd E x).val (rd E y).val).run P w' = .ok () w' := fun {A B} hx hy w' _ => by
      rw [hx, hy]; cases op <;> simp [eqGuard, val_v]
    have GS : ∀ {A B : Option Addr} {n c n' c' : Nat}, rd E x = .v (.slice A n c) → rd E y = .v (.slice B n' c') → ∀ w', Sub w w' → (eqGuard op t x y (rd E x).val (rd E y).val).run P w' = .ok () w' := fun {A B n c n' c'} hx hy w' _ => by
      rw [hx, hy]; cases op <;> simp [eqGuard, val_v]
    dsimp only at h
    split at h
    · rename_i k a k' b hx hy
      cases hb : decide (0 ≤ b) with
      | false => rw [hb] at h; exact h.elim
      | true =>
        rw [hb] at h
        refine R (G hx hy) (fun w' _ => ?_) h
        simp [hx, hy, val_v, binOp, shift_shl_any _ _ _ _ (of_decide_eq_true hb)]
    · rename_i k a k' b hx hy
      cases hb : decide (0 ≤ b) with
      | false => rw [hb] at h; exact h.elim
      | true =>
        rw [hb] at h
        refine R (G hx hy) (fun w' _ => ?_) h
        simp [hx, hy, val_v, binOp, shift_shr_any _ _ _ _ (of_decide_eq_true hb)]
    · rename_i k a k' b hx hy
      cases hb : decide (k = k') && !decide (b = 0) with
      | false => rw [hb] at h; exact h.elim
      | true =>
        rw [hb] at h
        simp only [Bool.and_eq_true, decide_eq_true_eq, Bool.not_eq_true', decide_eq_false_iff_not] at hb
        obtain ⟨rfl, hb0⟩ := hb
        refine R (G hx hy) (fun w' _ => ?_) h
        simp [hx, hy, val_v, binOp, Op.intDiv, hb0]
    · rename_i k a k' b hx hy
      cases hb : decide (k = k') && !decide (b = 0) with
      | false => rw [hb] at h; exact h.elim
      | true =>
        rw [hb] at h
        simp only [Bool.and_eq_true, decide_eq_true_eq, Bool.not_eq_true', decide_eq_false_iff_not] at hb
        obtain ⟨rfl, hb0⟩ := hb
        refine R (G hx hy) (fun w' _ => ?_) h
        simp [hx, hy, val_v, binOp, Op.intDiv, hb0]
    · rename_i k a k' b hx hy
      cases hb : decide (k = k') with
      | false => rw [hb] at h; exact h.elim
      | true =>
        rw [hb] at h
        obtain rfl := of_decide_eq_true hb
        exact R (G hx hy) (fun w' _ => by rw [hx, hy]; simp [val_v, binOp, Op.intBits, bits]) h
    · rename_i k a k' b hx hy
      cases hb : decide (k = k') with
      | false => rw [hb] at h; exact h.elim
      | true =>
        rw [hb] at h
        obtain rfl := of_decide_eq_true hb
        exact R (G hx hy) (fun w' _ => by rw [hx, hy]; simp [val_v, binOp, Op.intBits, bits]) h
    · rename_i k a k' b hx hy
      cases hb : decide (k = k') with
      | false => rw [hb] at h; exact h.elim
      | true =>
        rw [hb] at h
        obtain rfl := of_decide_eq_true hb
        exact R (G hx hy) (fun w' _ => by rw [hx, hy]; simp [val_v, binOp, Op.intBits, bits]) h
    · rename_i A hx hy
      split at h
      · rename_i e ht
        cases hp : P.pointee t == e with
        | false => rw [hp] at h; exact h.elim
        | true =>
          rw [hp] at h
          rw [← eq_of_beq hp] at ht
          exact R (GP hx hy) (fun w' _ => by rw [hx, hy]; exact run_eql_pointer_nil (w := w') t A ht) h
      · exact h.elim
    · rename_i A hx hy
      split at h
      · rename_i e ht
        cases hp : P.pointee t == e with
        | false => rw [hp] at h; exact h.elim
        | true =>
          rw [hp] at h
          rw [← eq_of_beq hp] at ht
          exact R (GP hx hy) (fun w' _ => by rw [hx, hy]; exact run_neq_pointer_nil (w := w') t A ht) h
      · exact h.elim
    · rename_i A n c hx hy
      split at h
      · rename_i e ht
        exact R (GS hx hy) (fun w' _ => by rw [hx, hy]; exact Lib.run_eql_slice_nil w' t e A n c 0 0 ht) h
      · exact h.elim
    · rename_i A n c hx hy
      split at h
      · rename_i e ht
        exact R (GS hx hy) (fun w' _ => by rw [hx, hy]; exact run_neq_slice_nil_any w' t e A n c 0 0 ht) h
      · exact h.elim
    · rename_i hx hy
      split at h
      · exact qn_run h (fun _ h => h) (by simp only [execOp, hx, hy]; rfl)
      · exact h.elim
    · rename_i hx hy
      split at h
      · exact qn_run h (fun _ h => h) (by simp only [execOp, hx, hy]; rfl)
      · exact h.elim
    · rename_i hx hy
      split at h
      · exact qn_run h (fun _ h => h) (by simp only [execOp, hx, hy]; rfl)
      · exact h.elim
    · rename_i hx hy
      split at h
      · exact qn_run h (fun _ h => h) (by simp only [execOp, hx, hy]; rfl)
      · exact h.elim
    · rename_i hx hy
      split at h
      · exact qn_run h (fun _ h => h) (by simp only [execOp, hx, hy]; rfl)
      · exact h.elim
    · rename_i hx hy
      split at h
      · exact qn_run h (fun _ h => h) (by simp only [execOp, hx, hy]; rfl)
      · exact h.elim
    · exact D _ h
  | convert src dst x =>
    dsimp only at h
    split at h
    · rename_i k0 k k' n hs hd hx
      exact ⟨_, h, fun w' _ => by simp [execOp, hx, val_v, convert, run_underlying hs, run_underlying hd, Conv.intToInt]⟩
    · rename_i e A n c hs hd hx
      split at h
      · rename_i he
        obtain ⟨l, hl, hrd, hk⟩ := h
        simp only at hl hrd
        refine ⟨_, hk, fun w' hw => ?_⟩
        have hrd' : Rd w' A (u8s l) := fun j u hu => by
          obtain ⟨ad, e, hc⟩ := hrd j u hu
          exact ⟨ad, e, hw.cell hc⟩
        simp only [execOp, hx, val_v, Sem.run_bind, run_convert_bytes_string w' src dst e A n c hs he hd, run_bytes_str hl hrd', Result.andThen_ok, Sem.run_pure]
      · exact h.elim
    · exact D _ h
  | call c =>
    obtain ⟨callee, args, ats⟩ := c
    obtain ⟨args⟩ := args
    obtain ⟨ats⟩ := ats
    dsimp only at h
    split at h
    · rename_i x t
      split at h
      · rename_i e A n c ht hx
        exact ⟨_, h, fun w' _ => by simp [execOp, resolve, invoke, builtin, hx, val_v, Builtin.len_, run_underlying ht, goInt]⟩
      · rename_i s ht hx
        exact ⟨_, h, fun w' _ => by simp [execOp, resolve, invoke, builtin, hx, val_v, Builtin.len_, run_underlying ht, goInt]⟩
      · rename_i n e ht
        exact ⟨_, h, fun w' _ => by simp [execOp, resolve, invoke, builtin, val_v, Builtin.len_, run_underlying ht, goInt]⟩
      · exact qn_run h (fun _ h => h) (by simp [execOp, resolve, invoke, builtin])
      · exact h.elim
    · rename_i x y t1 t2
      split at h
      · rename_i k a k' b hx hy
        exact ⟨_, h, fun w' _ => by simp [execOp, resolve, invoke, builtin, hx, hy, val_v, max_two, max2_int]⟩
      · exact h.elim
    · rename_i x y t1 t2
      split at h
      · rename_i k a k' b hx hy
        exact ⟨_, h, fun w' _ => by simp [execOp, resolve, invoke, builtin, hx, hy, val_v, min_two, min2_int]⟩
      · exact h.elim
    · rename_i x y z t1 t2 t3
      split at h
      · rename_i k a k' b k'' c hx hy hz
        exact ⟨_, h, fun w' _ => by simp [execOp, resolve, invoke, builtin, hx, hy, hz, val_v, min_three, min2_int]⟩
      · exact h.elim
    · exact h.elim
  | pick c x y =>
    dsimp only at h
    split at h
    · rename_i b hc
      cases b with
      | true => exact ⟨_, h, fun w' _ => by simp [execOp, hc, val_v, asBool]⟩
      | false => exact ⟨_, h, fun w' _ => by simp [execOp, hc, val_v, asBool]⟩
    · exact h.elim
  | unOp op t x => exact D _ h
  | makeInterface t x => exact D _ h
  | sliceToArrayPointer arr x => exact qn_run h (fun _ h => h) rfl
  | lookup t x ix ok => exact qn_run h (fun _ h => h) rfl
  | _ => exact h.elim

end Go.Fl
namespace Go.Fl
open Go.RowKit

def hasBody (P : Program) (f : FuncId) : Bool := match P.funcs[f]? with | some fn => fn.body.isSome | none => false
/-- A function that the machine answers itself. -/
def ex (P : Program) (f : FuncId) (args : Array Value) (k : Kd) (w : World) (K : k.T → World → Prop) : Prop :=
  ∃ x w', (callFunc f args).run P w = .ok (.value (k.av x).val) w' ∧ K x w'

/-- A call of a function value. -/
def clv (P : Program) (v : Value) (args : Array Value) (k : Kd) (w : World) (K : k.T → World → Prop) : Prop :=
  ∃ f first captured, v = .func (.func f) first captured ∧ (∃ fn, P.funcs[f]? = some fn ∧ fn.body.isSome = true ∧ (fn.name != "runtime.NumGoroutine") = true) ∧ cl P f (first ++ args ++ captured) k w K
/-- What an operation asks. -/
def opVC (P : Program) (E : List AV) (o : Oper) (K : AV → World → Prop) (w : World) : Prop :=
  match o.op with
  | .alloc e => match (P.info? e).bind (·.zero) with
    | some z => nw w z.cells.toList e fun a w' => K (.v (.pointer (some a))) w'
    | none => False
  | .box e x => bif (rd E x).isTup then False else nw w (rd E x).cells e fun a w' => K (.v (.pointer (some a))) w'
  | .store t x y => match rd E x with
    | .v (.pointer A) => nz A fun a => bif !(rd E y).isTup && (rd E y).size == P.cellsOf t && !(P.cellsOf t == 0) then st w a (rd E y) fun w' => K (.v undef) w' else False
    | _ => False
  | .buildSlice t len parts => match P.underlying t with
    | some (.slice e) => bif (parts.toList.map (·.1) == List.range len) && (parts.toList.all fun p => !(rd E p.2).isTup && (rd E p.2).size == P.cellsOf e) && decide (len * P.cellsOf e ≤ 16777216) && !(P.cellsOf e == 0) && (((P.info? e).bind (·.zero)).isSome)
        then nw w (parts.toList.flatMap fun p => (rd E p.2).cells) e fun a w' => K (.v (.slice (some a) len len)) w' else False
    | _ => False
  | .makeSlice t l c => match rd E l, rd E c with
    | .v (.int .i64 l), .v (.int .i64 c) => mks P t l c w fun r w' => K (.v (.slice r.a r.n r.c)) w'
    | _, _ => False
  | .call c => match c.callee, c.args.toList, c.argTypes.toList with
    | .builtin .append, [x, y], [t, t'] => match rd E x, rd E y with
      | .v (.slice A n c), .v (.slice B m d) => bif t == t' then app P t o.type ⟨A, n, c⟩ ⟨B, m, d⟩ w fun r w' => K (.v (.slice r.a r.n r.c)) w' else False
      | _, _ => rn P (Builtin.append_ #[t, t'] o.type #[(rd E x).val, (rd E y).val]) .L w fun r w' => K (.v (.slice r.a r.n r.c)) w'
    | .value (.func f), args, _ => bif hasBody P f then cl P f (args.map fun x => (rd E x).val).toArray (kdOf P 12 o.type) w fun x w' => K ((kdOf P 12 o.type).av x) w'
      else ex P f (args.map fun x => (rd E x).val).toArray (kdOf P 12 o.type) w fun x w' => K ((kdOf P 12 o.type).av x) w'
    | .value x, args, _ => clv P (rd E x).val (args.map fun x => (rd E x).val).toArray (kdOf P 12 o.type) w fun x w' => K ((kdOf P 12 o.type).av x) w'
    | .builtin .copy, args, _ => rn P (Builtin.copy_ c.argTypes o.type (args.map fun x => (rd E x).val).toArray) (kdOf P 12 o.type) w fun x w' => K ((kdOf P 12 o.type).av x) w'
    | .builtin .clear, args, _ => rn P (Builtin.clear_ c.argTypes o.type (args.map fun x => (rd E x).val).toArray) (kdOf P 12 o.type) w fun x w' => K ((kdOf P 12 o.type).av x) w'
    | .builtin .delete, args, _ => rn P (Builtin.delete_ c.argTypes o.type (args.map fun x => (rd E x).val).toArray) (kdOf P 12 o.type) w fun x w' => K ((kdOf P 12 o.type).av x) w'
    | .builtin .cap, args, _ => rn P (Builtin.cap_ c.argTypes o.type (args.map fun x => (rd E x).val).toArray) (kdOf P 12 o.type) w fun x w' => K ((kdOf P 12 o.type).av x) w'
    | _, _, _ => pureVC P E o (fun v => K v w) w
  | .makeMap t r => rn P (Instr.makeMap t (r.map fun x => (rd E x).val)) .M w fun m w' => K (.v (.map m)) w'
  | .mapUpdate t m k x => ru P (Instr.mapUpdate t (rd E m).val (rd E k).val (rd E x).val) w fun w' => K (.v undef) w'
  | .mapEntry t m k => match P.underlying t with
    | some (.map _ e) => rn P (Instr.mapEntry t (rd E m).val (rd E k).val) (.tup (.pair (kdOf P 12 e) (.pair (.I .i64) .nil))) w fun x w' => K ((Kd.tup (.pair (kdOf P 12 e) (.pair (.I .i64) .nil))).av x) w'
    | _ => False
  | .entryStore t m s x => ru P (Instr.entryStore t (rd E m).val (rd E s).val (rd E x).val) w fun w' => K (.v undef) w'
  | .makeFunc fn first captured => K (.v (.func fn (first.map fun x => (rd E x).val) (captured.map fun x => (rd E x).val))) w
  | .range t x => rn P (Instr.range t (rd E x).val) .U w fun v w' => K (.v v) w'
  | .next it s => rn P (Instr.next (rd E it).val s o.type) (kdOf P 12 o.type) w fun x w' => K ((kdOf P 12 o.type).av x) w'
  | .typeAssert x t1 t2 ok => rn P (Instr.typeAssert (rd E x).val t1 t2 ok) (kdOf P 12 o.type) w fun x w' => K ((kdOf P 12 o.type).av x) w'
  | .convert src dst x => match P.underlying src, P.underlying dst with
    | some .string, some (.slice _) => rn P (convert src dst (rd E x).val) .L w fun r w' => K (.v (.slice r.a r.n r.c)) w'
    | some (.slice _), some (.slice _) => rn P (convert src dst (rd E x).val) .L w fun r w' => K (.v (.slice r.a r.n r.c)) w'
    | _, _ => pureVC P E o (fun v => K v w) w
  | _ => pureVC P E o (fun v => K v w) w

def actsD (dfs : List Deferred) (E : List AV) : Act := { tmps := (E.map AV.val).toArray, defers := dfs }
abbrev acts (E : List AV) : Act := actsD [] E
variable {dfs : List Deferred}
theorem acts_eval (E : List AV) (x : Operand) : (actsD dfs E).eval x = (rd E x).val := by
  cases x with
  | tmp t =>
    simp only [Act.eval, actsD, rd]
    simp only [Array.getD_eq_getD_getElem?, List.getElem?_toArray, List.getElem?_map, List.getD_eq_getElem?_getD]
    cases E[t]? <;> rfl
  | _ => rfl
theorem acts_evalf (E : List AV) : (actsD dfs E).eval = fun x => (rd E x).val := funext (acts_eval E)
def putE (E : List AV) : Option Tmp → AV → List AV
  | some d, v => E.set d v
  | none, _ => E
theorem acts_put (E : List AV) (d : Option Tmp) (v : AV) : (actsD dfs E).put d v.val = actsD dfs (putE E d v) := by
  cases d with
  | none => rfl
  | some d => simp [Act.put, actsD, putE, List.map_set]

/-- A function that a call may name: it has a body, and is not one that the machine answers itself. -/
def callable (P : Program) (f : FuncId) : Bool := match P.funcs[f]? with | some fn => bif fn.body.isSome then fn.name != "runtime.NumGoroutine" else true | none => false
def opFns (o : Oper) : List FuncId := match o.op with | .call { callee := .value (.func f), .. } => [f] | _ => []

theorem run_callFunc {P : Program} {f : FuncId} (h : callable P f = true) (hb : hasBody P f = true) (args : Array Value) (w : World) : (callFunc f args).run P w = .ok (.enter f args) w := by
  unfold callable at h
  split at h
  · rename_i fn hf
    have hb' : fn.body.isSome = true := by simpa [hasBody, hf] using hb
    rw [hb', cond_true] at h
    simp only [bne_iff_ne, ne_eq] at h
    have hn : ¬ fn.body = none := by intro e; rw [e] at hb'; cases hb'
    simp [callFunc, program, Sem.run, hf, h, hn]
  · cases h

theorem run_stL {P : Program} {a : Addr} : ∀ {vs : List Value} {w : World} {i : Nat} {K : World → Prop}, stL a w i vs K → ∃ w', (storeCells a vs i).run P w = .ok () w' ∧ K w'
  | [], w, i, K, h => ⟨w, rfl, h⟩
  | v :: vs, w, i, K, ⟨h1, ⟨u, hu⟩, hf, h⟩ => by
    obtain ⟨w', hr, hk⟩ := run_stL (P := P) h
    refine ⟨w', ?_, hk⟩
    simp only [storeCells, Sem.run_bind]
    rw [run_store P w (a.add i) v .plain h1]
    simp only [hu, hf]
    simpa using hr

theorem stL_append {a : Addr} : ∀ {xs ys : List Value} {w : World} {i : Nat} {K : World → Prop}, stL a w i xs (fun w' => stL a w' (i + xs.length) ys K) → stL a w i (xs ++ ys) K
  | [], ys, w, i, K, h => h
  | v :: xs, ys, w, i, K, ⟨h1, hu, hf, h⟩ => ⟨h1, hu, hf, stL_append (by simpa [Nat.add_assoc, Nat.add_comm 1] using h)⟩
theorem stL_mono {a : Addr} : ∀ {xs : List Value} {w : World} {i : Nat} {K K' : World → Prop}, stL a w i xs K → (∀ w', K w' → K' w') → stL a w i xs K'
  | [], _, _, _, _, h, hk => hk _ h
  | _ :: _, _, _, _, _, ⟨h1, hu, hf, h⟩, hk => ⟨h1, hu, hf, stL_mono h hk⟩
theorem stL_shift {a : Addr} {j : Nat} : ∀ {xs : List Value} {w : World} {i : Nat} {K : World → Prop}, stL (a.add j) w i xs K → stL a w (j + i) xs K
  | [], _, _, _, h => h
  | v :: vs, w, i, K, ⟨h1, hst⟩ => by
    rw [add_add] at hst
    obtain ⟨hu, hf, h⟩ := hst
    exact ⟨h1, hu, hf, by have := stL_shift h; rwa [← Nat.add_assoc] at this⟩
theorem st_stL {a : Addr} : ∀ {v : AV} {w : World} {K : World → Prop} {i : Nat}, st w (a.add i) v K → stL a w i v.cells K
  | .v x, w, K, i, h => by
    cases h1 : x.oneCell' with
    | false => simp only [st, h1] at h; exact h.elim
    | true =>
      simp only [st, h1] at h
      have hx : x.cells = #[x] := by cases x <;> first | rfl | simp [Value.oneCell'] at h1
      rw [show (AV.v x).cells = [x] from by simp [AV.cells, hx]]
      exact ⟨h1, h⟩
  | .nil, w, K, i, h => h
  | .pair x y, w, K, i, h => by
    refine stL_append (stL_mono (st_stL (v := x) h) fun w' h' => ?_)
    rw [AV.cells_length]
    rw [add_add] at h'
    exact st_stL h'
  | .row _ l, w, K, i, h => by have := stL_shift h; rw [Nat.add_zero] at this; exact this
  | .tup _, w, K, i, h => h.elim

theorem fill_row {size : Nat} : ∀ (parts : List (Nat × Value)) (n k : Nat) (zero : List Value), parts.map (·.1) = List.range' k n → (∀ p ∈ parts, p.2.cells.size = size) → zero.length = n * size → ∀ (done : List Value), done.length = k * size →
    Instr.fill (fun i => some (i * size, size)) (done ++ zero).toArray parts = some (done ++ parts.flatMap fun p => p.2.cells.toList).toArray := by
  intro parts
  induction parts with
  | nil => 
    intro n k zero hp _ hz done hd
    have hn : n = 0 := by cases n <;> simp_all [List.range'_succ]
    subst hn
    have : zero = [] := List.eq_nil_of_length_eq_zero (by simpa using hz)
    subst this
    simp [Instr.fill]
  | cons p parts ih =>
    intro n k zero hp hs hz done hd
    obtain ⟨j, v⟩ := p
    cases n with
    | zero => simp at hp
    | succ n =>
      simp only [List.map_cons, List.range'_succ, List.cons.injEq] at hp
      obtain ⟨rfl, hp⟩ := hp
      have hv : v.cells.size = size := hs _ (List.mem_cons_self ..)
      simp only [Instr.fill]
      rw [if_neg (by simp [hv, hz, hd, Nat.succ_mul] <;> omega)]
      have hsplit : zero = zero.take size ++ zero.drop size := (List.take_append_drop ..).symm
      have hf := foldl_set (vs := v.cells.toList) done (zero.take size) (zero.drop size) (by simp [hv, hz, Nat.succ_mul] <;> omega)
      rw [List.append_assoc, ← hsplit] at hf
      have hzi : v.cells.zipIdx.foldl (fun cs x => cs.setIfInBounds (j * size + x.2) x.1) (done ++ zero).toArray = (done ++ v.cells.toList ++ zero.drop size).toArray := by
        rw [← hf, hd, ← Array.foldl_toList, Array.toList_zipIdx]
      rw [show (v.cells.zipIdx.foldl (fun cs (c, j_1) => cs.setIfInBounds (j * size + j_1) c) (done ++ zero).toArray) = v.cells.zipIdx.foldl (fun cs x => cs.setIfInBounds (j * size + x.2) x.1) (done ++ zero).toArray from rfl, hzi]
      rw [ih n (j + 1) (zero.drop size) hp (fun p hp => hs p (List.mem_cons_of_mem _ hp)) (by simp [hz, Nat.succ_mul]) (done ++ v.cells.toList) (by simp [hv, hd, Nat.succ_mul])]
      simp

theorem run_box {P : Program} (e : TypeId) (v : Value) (w : World) : (Instr.box e v).run P w = .ok (.pointer (some ⟨w.heap.size, 0, none⟩)) (w.alloc (.cells v.cells e)) := by
  simp [Instr.box, newVar, newRow, newObj, Sem.run]
theorem run_alloc {P : Program} {e : TypeId} {i : TypeInfo} {z : Value} (hi : P.info? e = some i) (hz : i.zero = some z) (w : World) :
    (Instr.alloc e true (.tuple #[])).run P w = .ok (.pointer (some ⟨w.heap.size, 0, none⟩)) (w.alloc (.cells z.cells e)) := by
  simp [Instr.alloc, zeroValue, typeInfo, program, Sem.run, hi, hz, newVar, newRow, newObj]

theorem run_storeAt {P : Program} {t : TypeId} {a : Addr} {v : AV} {w : World} {K : World → Prop} (ht : v.isTup = false) (hs : v.size = P.cellsOf t) (hz : (P.cellsOf t == 0) = false) (h : st w a v K) :
    ∃ w', (Instr.storeAt t (.pointer (some a)) v.val).run P w = .ok () w' ∧ K w' := by
  have h' : st w (a.add 0) v K := by rwa [show a.add 0 = a from rfl]
  obtain ⟨w', hr, hk⟩ := run_stL (P := P) (st_stL h')
  obtain ⟨i, hi⟩ := Option.isSome_iff_exists.1 (cellsOf_isSome hz)
  refine ⟨w', ?_, hk⟩
  have hsz : v.val.cells.size = i.size := by rw [val_size ht, hs]; simp [Program.cellsOf, hi]
  simp [Instr.storeAt, Instr.sureAddr, storeVar, sizeOf, typeInfo, program, Sem.run, hi, hsz, val_cells ht, hr]

theorem run_buildSlice {P : Program} {t e : TypeId} {i : TypeInfo} {z : Value} {len : Nat} {parts : Array (Nat × Value)} {cs : List Value} (ht : P.underlying t = some (.slice e)) (hi : P.info? e = some i) (hz : i.zero = some z)
    (hm : len * i.size ≤ 16777216) (hf : ∀ zs : List Value, zs.length = len * i.size → Instr.fill (fun j => some (j * i.size, i.size)) zs.toArray parts.toList = some cs.toArray) (w : World) :
    (Instr.buildSlice t len parts).run P w = .ok (.slice (some ⟨w.heap.size, 0, none⟩) len len) (w.alloc (.cells cs.toArray e)) := by
  have key : ∀ zero : Array Value, Instr.fill (fun j => some (j * i.size, i.size)) ((Array.range (len * i.size)).map (zero[· % zero.size]!)) parts.toList = some cs.toArray := fun zero => by
    have := hf ((Array.range (len * i.size)).map (zero[· % zero.size]!)).toList (by simp)
    rwa [Array.toArray_toList] at this
  unfold Instr.buildSlice
  simp only [Sem.run_bind, run_underlying ht, Result.andThen_ok, sizeOf, typeInfo, program, Sem.run, hi, Sem.run_pure]
  rw [if_neg (by omega)]
  by_cases h0 : len * i.size = 0
  · have hk := key #[]
    simp only [h0, if_true, Sem.run_bind, Sem.run_pure, Result.andThen_ok] at hk ⊢
    rw [hk]
    simp [newRow, newObj, Sem.run]
  · simp [h0, zeroValue, typeInfo, program, Sem.run, hi, hz, key, newRow, newObj]

theorem op_sound {P : Program} {E : List AV} {o : Oper} {K : AV → World → Prop} {w : World} (hc : ∀ f ∈ opFns o, callable P f = true) (h : opVC P E o K w) {next : Act → World → Prop} {Q : Exit → Act → World → Prop}
    (hn : ∀ v w', K v w' → next ((actsD dfs E).put o.dst v.val) w') : o.wp P (actsD dfs E) w next Q := by
  have V : ∀ {v : AV} {w' : World}, (execOp (actsD dfs E).eval o).run P w = .ok (.value v.val) w' → K v w' → o.wp P (actsD dfs E) w next Q := fun {v w'} hr hk => by
    unfold Oper.wp; rw [hr, Oper.upon_value]; exact hn v w' hk
  have PU : pureVC P E o (fun v => K v w) w → o.wp P (actsD dfs E) w next Q := fun h => by
    obtain ⟨v, hk, hr⟩ := pure_sound h
    exact V (by rw [acts_evalf]; exact hr w (Sub.refl w)) hk
  have RN : ∀ {s : Sem Value} {k : Kd} {K' : k.T → World → Prop}, execOp (fun x => (rd E x).val) o = (do pure (.value (← s))) → rn P s k w K' → (∀ y w', K' y w' → K (k.av y) w') → o.wp P (actsD dfs E) w next Q := fun {s k K'} he ⟨x, w', hr, hk⟩ hK =>
    V (v := k.av x) (w' := w') (by rw [acts_evalf, he, Sem.run_bind, hr]; rfl) (hK _ _ hk)
  obtain ⟨dst, op, ty, pos, after, guard⟩ := o
  unfold opVC at h
  cases op with
  | alloc e =>
    dsimp only at h
    split at h
    · rename_i z hz
      obtain ⟨i, hi, hz⟩ := Option.bind_eq_some_iff.1 hz
      refine V ?_ h
      simp [execOp, run_alloc hi hz, val_v]
    · exact h.elim
  | box e x =>
    dsimp only at h
    cases ht : (rd E x).isTup with
    | true => rw [ht] at h; exact h.elim
    | false =>
      rw [ht] at h
      refine V ?_ h
      simp [execOp, run_box, val_v, acts_eval, ← val_cells ht]
  | store t x y =>
    dsimp only at h
    split at h
    · rename_i A hx
      obtain ⟨a, rfl, h⟩ := nz_elim h
      cases hb : !(rd E y).isTup && (rd E y).size == P.cellsOf t && !(P.cellsOf t == 0) with
      | false => rw [hb] at h; exact h.elim
      | true =>
        rw [hb] at h
        simp only [Bool.and_eq_true, Bool.not_eq_true', beq_iff_eq] at hb
        obtain ⟨w', hr, hk⟩ := run_storeAt hb.1.1 hb.1.2 hb.2 h
        unfold Oper.wp
        simp only [execOp, acts_eval, hx, val_v, Sem.run_bind, hr, Result.andThen_ok, Sem.run_pure, Oper.upon_skip]
        exact hn _ _ hk
    · exact h.elim
  | buildSlice t len parts =>
    obtain ⟨parts⟩ := parts
    dsimp only at h
    split at h
    · rename_i e ht
      rw [Bool.cond_eq_ite] at h
      split at h
      · rename_i hb
        simp only [Bool.and_eq_true, beq_iff_eq, Bool.not_eq_true', List.all_eq_true, decide_eq_true_eq] at hb
        obtain ⟨⟨⟨⟨hidx, hall⟩, hmax⟩, hz⟩, hzero⟩ := hb
        obtain ⟨z, hzv⟩ := Option.isSome_iff_exists.1 hzero
        obtain ⟨i, hi, hiz⟩ := Option.bind_eq_some_iff.1 hzv
        have hsz : P.cellsOf e = i.size := by simp [Program.cellsOf, hi]
        refine V ?_ h
        have hfill : ∀ zs : List Value, zs.length = len * i.size →
            Instr.fill (fun j => some (j * i.size, i.size)) zs.toArray (parts.map fun p => (p.1, (rd E p.2).val)) = some (parts.flatMap fun p => (rd E p.2).cells).toArray := fun zs hzs => by
          have := fill_row (size := i.size) (parts.map fun p => (p.1, (rd E p.2).val)) len 0 zs (by rw [List.map_map, ← List.range_eq_range', ← hidx]; rfl)
            (fun p hp => by
              obtain ⟨q, hq, rfl⟩ := List.mem_map.1 hp
              obtain ⟨h1, h2⟩ := hall q hq
              exact (val_size h1).trans (h2.trans hsz)) hzs [] (by simp)
          rw [List.nil_append] at this
          rw [this]
          congr 2
          rw [List.nil_append, List.flatMap_map]
          have : ∀ l : List (Nat × Operand), (∀ p ∈ l, (rd E p.2).isTup = false) → (l.flatMap fun p => (rd E p.2).val.cells.toList) = l.flatMap fun p => (rd E p.2).cells := by
            intro l hl
            induction l with
            | nil => rfl
            | cons p l ih => simp only [List.flatMap_cons]; rw [val_cells (hl p (List.mem_cons_self ..)), ih fun q hq => hl q (List.mem_cons_of_mem _ hq)]
          exact this _ fun p hp => (hall p hp).1
        have hr := run_buildSlice (P := P) (len := len) (parts := (parts.map fun p => (p.1, (rd E p.2).val)).toArray) ht hi hiz (by rw [← hsz]; exact hmax) (fun zs hzs => hfill zs hzs) w
        simp only [execOp, acts_eval, Sem.run_bind]
        rw [show (Array.map (fun x => (x.1, (rd E x.2).val)) ⟨parts⟩) = (parts.map fun p => (p.1, (rd E p.2).val)).toArray from List.map_toArray, hr]
        rfl
      · exact h.elim
    · exact h.elim
  | makeSlice t l c =>
    dsimp only at h
    split at h
    · rename_i l' c' hl hc'
      obtain ⟨r, w', hr, hk⟩ := h
      refine V ?_ hk
      simp [execOp, acts_eval, hl, hc', val_v, hr]
    · exact h.elim
  | call c =>
    obtain ⟨callee, args, ats⟩ := c
    obtain ⟨args⟩ := args
    obtain ⟨ats⟩ := ats
    dsimp only at h
    split at h
    · rename_i x y t t'
      split at h
      · rename_i A n c B m d hx hy
        cases hb : t == t' with
        | false => rw [hb] at h; exact h.elim
        | true =>
          rw [hb] at h
          obtain rfl := eq_of_beq hb
          obtain ⟨r, w', hr, hk⟩ := h
          refine V ?_ hk
          simp [execOp, resolve, invoke, builtin, acts_eval, hx, hy, val_v, hr]
      · exact RN (by simp [execOp, resolve, invoke, builtin]) h fun _ _ h => h
    · rename_i f
      have hcal : callable P f = true := hc f (by simp [opFns])
      cases hbo : hasBody P f with
      | false =>
        rw [hbo] at h
        obtain ⟨x, w', hr, hk⟩ := h
        refine V ?_ hk
        have hρ : (actsD dfs E).eval (.func f) = .func (.func f) #[] #[] := rfl
        rw [← acts_evalf E] at hr
        generalize (actsD dfs E).eval = ρ at hr hρ
        simpa [execOp, resolve, invoke, Deferred.ofValue, hρ] using hr
      | true =>
      rw [hbo] at h
      unfold Oper.wp
      have hr : (execOp (actsD dfs E).eval ⟨dst, .call ⟨.value (.func f), ⟨args⟩, ⟨ats⟩⟩, ty, pos, after, guard⟩).run P w = .ok (.enter f (args.map fun x => (rd E x).val).toArray) w := by
        simp [execOp, resolve, invoke, Deferred.ofValue, acts_evalf, rd, run_callFunc hcal hbo, Act.eval]
      rw [hr, Oper.upon_enter]
      refine Calls.mono h fun e w' ⟨x, he, hk⟩ => ?_
      subst he
      exact hn _ _ hk
    · rename_i x _
      obtain ⟨f, first, captured, hv, ⟨fn, hf, hb, hn'⟩, hcl⟩ := h
      have hcal : callable P f = true := by simp only [callable, hf, hb, cond_true]; exact hn'
      have hbo : hasBody P f = true := by simp only [hasBody, hf, hb]
      unfold Oper.wp
      have hr : (execOp (actsD dfs E).eval ⟨dst, .call ⟨.value x, ⟨args⟩, ⟨ats⟩⟩, ty, pos, after, guard⟩).run P w = .ok (.enter f (first ++ (args.map fun x => (rd E x).val).toArray ++ captured)) w := by
        simp [execOp, resolve, invoke, Deferred.ofValue, acts_evalf, hv, run_callFunc hcal hbo]
      rw [hr, Oper.upon_enter]
      refine Calls.mono hcl fun e w' ⟨x, he, hk⟩ => ?_
      subst he
      exact hn _ _ hk
    · exact RN (by simp [execOp, resolve, invoke, builtin]) h fun _ _ h => h
    · exact RN (by simp [execOp, resolve, invoke, builtin]) h fun _ _ h => h
    · exact RN (by simp [execOp, resolve, invoke, builtin]) h fun _ _ h => h
    · exact RN (by simp [execOp, resolve, invoke, builtin]) h fun _ _ h => h
    · exact PU h
  | makeMap t r => exact RN rfl h fun _ _ h => h
  | mapUpdate t m k x =>
    obtain ⟨w', hr, hk⟩ := h
    unfold Oper.wp
    simp only [execOp, acts_eval, Sem.run_bind, hr, Result.andThen_ok, Sem.run_pure, Oper.upon_skip]
    exact hn _ _ hk
  | mapEntry t m k =>
    dsimp only at h
    split at h
    · exact RN rfl h fun _ _ h => h
    · exact h.elim
  | entryStore t m s x =>
    obtain ⟨w', hr, hk⟩ := h
    unfold Oper.wp
    simp only [execOp, acts_eval, Sem.run_bind, hr, Result.andThen_ok, Sem.run_pure, Oper.upon_skip]
    exact hn _ _ hk
  | makeFunc fn first captured => exact V (v := .v (.func fn (first.map fun x => (rd E x).val) (captured.map fun x => (rd E x).val))) (by rw [acts_evalf]; rfl) h
  | range t x => exact RN rfl h fun _ _ h => h
  | next it s => exact RN rfl h fun _ _ h => h
  | typeAssert x t1 t2 ok => exact RN rfl h fun _ _ h => h
  | convert src d x =>
    dsimp only at h
    split at h
    · exact RN rfl h fun _ _ h => h
    · exact RN rfl h fun _ _ h => h
    · exact PU h
  | _ => exact PU h

/-! ### Code -/
def guardVal (all : List Oper) (E : List AV) (j : Nat) : Option (Tmp × AV) := match all[j]? with
  | some { dst := some d, .. } => some (d, E.getD d (.v undef))
  | _ => none

/-- The operations of a region, one behind the other. -/
def opsVC (P : Program) (all : List Oper) (Q : List AV → World → Prop) : List Oper → List AV → World → Prop
  | [], E, w => Q E w
  | o :: rest, E, w => match o.guard with
    | none => opVC P E o (fun v w' => opsVC P all Q rest (putE E o.dst v) w') w
    | some (j, want) => match guardVal all E j with
      | some (d, .v (.bool b)) =>
        bif b then (match want with | true => opVC P (E.set d (.v (.bool true))) o (fun v w' => opsVC P all Q rest (putE (E.set d (.v (.bool true))) o.dst v) w') w | false => opsVC P all Q rest (putE (E.set d (.v (.bool true))) o.dst (.v undef)) w)
        else (match want with | true => opsVC P all Q rest (putE (E.set d (.v (.bool false))) o.dst (.v undef)) w | false => opVC P (E.set d (.v (.bool false))) o (fun v w' => opsVC P all Q rest (putE (E.set d (.v (.bool false))) o.dst v) w') w)
      | some (_d, .v (.tuple ⟨[]⟩)) => opsVC P all Q rest (putE E o.dst (.v undef)) w
      | _ => False

theorem set_same {E : List AV} {d : Nat} {v : AV} (h : E.getD d (.v undef) = v) : E.set d v = E := by
  apply List.ext_getElem?
  intro i
  rw [List.getElem?_set]
  split
  · rename_i e; subst e
    split
    · rename_i hlt
      rw [List.getD_eq_getElem?_getD, List.getElem?_eq_getElem hlt] at h
      rw [List.getElem?_eq_getElem hlt, ← h]; rfl
    · rename_i hlt; rw [List.getElem?_eq_none (by omega)]
  · rfl

theorem putE_length (E : List AV) (d : Option Tmp) (v : AV) : (putE E d v).length = E.length := by cases d <;> simp [putE]
theorem putE_getD {E : List AV} {d : Option Tmp} {v : AV} {i : Nat} (h : d ≠ some i) : (putE E d v).getD i (.v undef) = E.getD i (.v undef) := by
  cases d with
  | none => rfl
  | some d =>
    have hne : d ≠ i := fun e => h (by rw [e])
    simp [putE, List.getD_eq_getElem?_getD, hne]

theorem acts_tmps (E : List AV) (d : Nat) : (actsD dfs E).tmps.getD d undef = (E.getD d (.v undef)).val := acts_eval E (.tmp d)

theorem guardVal_spec {all : List Oper} {E : List AV} {j d : Nat} {v : AV} (h : guardVal all E j = some (d, v)) : (all.toArray[j]?).bind (·.dst) = some d ∧ E.getD d (.v undef) = v := by
  unfold guardVal at h
  split at h
  · rename_i d' _ _ _ _ _ hj
    simp only [Option.some.injEq, Prod.mk.injEq] at h
    obtain ⟨rfl, h⟩ := h
    exact ⟨by simp [hj], h⟩
  · cases h
theorem wanted_of {all : List Oper} {E : List AV} {j d : Nat} {v : AV} {want : Bool} {o : Oper} (hg : o.guard = some (j, want)) (h : guardVal all E j = some (d, v)) :
    (∀ b, v = .v (.bool b) → Region.wanted o (yielded all.toArray (actsD dfs E).tmps) = (b == want)) ∧ (v = .v (.tuple #[]) → Region.wanted o (yielded all.toArray (actsD dfs E).tmps) = false) := by
  obtain ⟨hd, hv⟩ := guardVal_spec h
  have ht : (actsD dfs E).tmps[d]? = (E[d]?).map AV.val := by simp [actsD]
  rw [List.getD_eq_getElem?_getD] at hv
  refine ⟨fun b hb => ?_, fun hb => ?_⟩
  · subst hb
    have he : E[d]? = some (.v (.bool b)) := by
      cases hE : E[d]? with
      | none => rw [hE] at hv; injection hv with hv; cases hv
      | some x => rw [hE] at hv; exact congrArg some hv
    simp only [Region.wanted, hg, yielded, hd, Option.bind_some, ht, he, Option.map_some, val_v]
    cases b <;> cases want <;> rfl
  · subst hb
    have hy : yielded all.toArray (actsD dfs E).tmps j = none := by
      simp only [yielded, hd, Option.bind_some, ht]
      cases hE : E[d]? with
      | none => rfl
      | some x => rw [hE] at hv; obtain rfl : x = .v (.tuple #[]) := hv; rfl
    simp [Region.wanted, hg, hy]

theorem ops_sound {P : Program} {all : List Oper} {Q : List AV → World → Prop} : ∀ {l : List Oper} {E : List AV} {w : World}, (∀ o ∈ l, ∀ f ∈ opFns o, callable P f = true) → opsVC P all Q l E w → 
    ∀ {Q' : Exit → Act → World → Prop}, (∀ E' w', E'.length = E.length → (∀ d, (∀ o ∈ l, o.dst ≠ some d) → E'.getD d (.v undef) = E.getD d (.v undef)) → Q E' w' → Q' .normal (actsD dfs E') w') → wpList P all.toArray Q' l (actsD dfs E) w := by
  intro l
  induction l with
  | nil => exact fun hc h Q' hq => hq _ _ rfl (fun _ _ => rfl) h
  | cons o rest ih =>
    intro E w hc h Q' hq
    have hcr : ∀ o ∈ rest, ∀ f ∈ opFns o, callable P f = true := fun o ho => hc o (List.mem_cons_of_mem _ ho)
    have RUN : ∀ {E : List AV}, (∀ E' w', E'.length = E.length → (∀ d, (∀ p ∈ o :: rest, p.dst ≠ some d) → E'.getD d (.v undef) = E.getD d (.v undef)) → Q E' w' → Q' .normal (actsD dfs E') w') →
        opVC P E o (fun v w' => opsVC P all Q rest (putE E o.dst v) w') w → o.wp P (actsD dfs E) w (wpList P all.toArray Q' rest) Q' := fun {E} hq h =>
      op_sound (hc o (List.mem_cons_self ..)) h fun v w' hk => by
        rw [acts_put]
        exact ih hcr hk fun E' w'' hl hs hQ => hq E' w'' (hl.trans (putE_length ..)) (fun d hd => (hs d fun p hp => hd p (List.mem_cons_of_mem _ hp)).trans (putE_getD (hd o (List.mem_cons_self ..)))) hQ
    have SKIP : ∀ {E : List AV}, (∀ E' w', E'.length = E.length → (∀ d, (∀ p ∈ o :: rest, p.dst ≠ some d) → E'.getD d (.v undef) = E.getD d (.v undef)) → Q E' w' → Q' .normal (actsD dfs E') w') →
        opsVC P all Q rest (putE E o.dst (.v undef)) w → wpList P all.toArray Q' rest ((actsD dfs E).put o.dst undef) w := fun {E} hq h => by
      have := acts_put (dfs := dfs) E o.dst (.v undef)
      rw [val_v] at this
      rw [this]
      exact ih hcr h fun E' w'' hl hs hQ => hq E' w'' (hl.trans (putE_length ..)) (fun d hd => (hs d fun p hp => hd p (List.mem_cons_of_mem _ hp)).trans (putE_getD (hd o (List.mem_cons_self ..)))) hQ
    rw [opsVC] at h
    rw [wpList]
    split at h
    · rename_i hg
      rw [if_pos (by simp [Region.wanted, hg])]
      exact .inl (RUN hq h)
    · rename_i j want hg
      split at h
      · rename_i d b hv
        have hw := (wanted_of (dfs := dfs) hg hv).1 b rfl
        have hE : E.set d (.v (.bool b)) = E := by
          unfold guardVal at hv
          split at hv
          · simp only [Option.some.injEq, Prod.mk.injEq] at hv
            obtain ⟨rfl, hv⟩ := hv
            exact set_same hv
          · cases hv
        cases b with
        | true =>
          simp only [cond_true, hE] at h
          cases want with
          | true => rw [if_pos (by rw [hw]; rfl)]; exact .inl (RUN hq h)
          | false => rw [if_neg (by rw [hw]; decide)]; exact SKIP hq h
        | false =>
          simp only [cond_false, hE] at h
          cases want with
          | true => rw [if_neg (by rw [hw]; decide)]; exact SKIP hq h
          | false => rw [if_pos (by rw [hw]; rfl)]; exact .inl (RUN hq h)
      · rename_i d hv
        have hw := (wanted_of (dfs := dfs) hg hv).2 rfl
        rw [if_neg (by rw [hw]; decide)]
        exact SKIP hq h
      · exact h.elim
end Go.Fl
namespace Go.Fl
open Go.RowKit

/-- Nothing that was there has turned. -/
abbrev Fr (w w' : World) : Prop := Below w.heap.size w w'
theorem Fr.refl (w : World) : Fr w w := Below.refl _ _
theorem Fr.trans {a b c : World} (h : Fr a b) (k : Fr b c) : Fr a c := Below.trans h (Below.mono k h.size)
theorem Fr.sub {w w' : World} (h : Fr w w') : Sub w w' := h.block

/-- An operation that may write, make memory, or call. -/
def effB (o : Oper) : Bool := match o.op with
  | .alloc _ | .box .. | .store .. | .buildSlice .. | .makeSlice .. | .makeMap .. | .mapUpdate .. | .mapEntry .. | .entryStore .. | .range .. | .next .. | .typeAssert .. | .makeFunc .. => true
  | .call c => match c.callee with
    | .builtin .len | .builtin .max | .builtin .min => false
    | _ => true
  | .convert .. => true
  | _ => false
def readB (P : Program) (o : Oper) : Bool := match o.op with
  | .convert src dst _ => match P.underlying src, P.underlying dst with | some .string, some (.slice _) => false | some (.slice _), some (.slice _) => false | _, _ => true
  | _ => !effB o

/-- An operation that may read memory. -/
def memS (P : Program) (o : Oper) : Bool := match o.op with
  | .load .. | .lookup .. | .sliceToArrayPointer .. => true
  | .slice t _ _ _ mx => mx.isSome || (match P.underlying t with | some (.array ..) => true | _ => false)
  | .index t .. | .build t .. => (match P.underlying t with | some (.array ..) => true | _ => false)
  | .binOp _ t .. => (match P.underlying t with | some (.struct _) => true | some (.array ..) => true | some (.map ..) => true | _ => false)
  | .convert _ d _ => (match P.underlying d with | some (.int _) => false | _ => true)
  | .call c => (match c.argTypes.toList with | [t] => (match P.underlying t with | some (.map ..) => true | _ => false) | _ => false)
  | _ => false
theorem pure_any {P : Program} {E : List AV} {o : Oper} {K : AV → Prop} {w w0 : World} (hm : memS P o = false) (h : pureVC P E o K w) : pureVC P E o K w0 := by
  obtain ⟨dst, op, ty, pos, after, guard⟩ := o
  unfold pureVC at h ⊢
  unfold memS at hm
  cases op with
  | load => cases hm
  | lookup => cases hm
  | sliceToArrayPointer => cases hm
  | slice t x lo hi mx =>
    cases mx with
    | some m => simp at hm
    | none =>
      dsimp only at h hm ⊢
      split at h <;> first | exact h | (rename_i hu; rw [hu] at hm; simp at hm)
  | index t x ix =>
    dsimp only at h hm ⊢
    split at h <;> first | exact h | (rename_i hu; rw [hu] at hm; simp at hm)
  | build t parts =>
    dsimp only at h hm ⊢
    split at h <;> first | exact h | (rename_i hu; rw [hu] at hm; simp at hm)
  | binOp op t x y yt =>
    dsimp only at h hm ⊢
    split at h <;> first | exact h | (split at h <;> first | exact h | exact h.elim | (rename_i hu; rw [hu] at hm; simp at hm))
  | convert s d x =>
    dsimp only at h hm ⊢
    split at h
    · exact h
    · rename_i hu _; rw [hu] at hm; simp at hm
    · exact h
  | call c =>
    dsimp only at h hm ⊢
    split at h
    · rename_i hats
      rw [hats] at hm
      split at h <;> first | exact h | (rename_i hu; simp only [hu] at hm; simp at hm)
    all_goals exact h
  | _ => exact h

/-- An operation under its guard. -/
def gd (all : List Oper) (o : Oper) (E : List AV) (go skip : List AV → Prop) : Prop := match o.guard with
  | none => go E
  | some (j, want) => match guardVal all E j with
    | some (d, .v (.bool b)) => bif b then (match want with | true => go (E.set d (.v (.bool true))) | false => skip (E.set d (.v (.bool true))))
        else (match want with | true => skip (E.set d (.v (.bool false))) | false => go (E.set d (.v (.bool false))))
    | some (_, .v (.tuple ⟨[]⟩)) => skip E
    | _ => False

/-- What operation j waits for. -/
def ancB (all : List Oper) : Nat → Nat → Nat → Bool
  | 0, _, _ => false
  | f + 1, j, i => match all[j]? with
    | none => false
    | some o => o.after.toList.any fun e => Region.binds .any e && (e.on == i || ancB all f e.on i)
/-- It waits for all others that read memory. -/
def lastB (P : Program) (all : List Oper) (j : Nat) : Bool := (List.range all.length).all fun i => i == j || (match all[i]? with | some o => !memS P o | none => true) || ancB all all.length j i

def allL : List Nat → (Nat → Prop) → Prop
  | [], _ => True
  | [i], K => K i
  | i :: l, K => K i ∧ allL l K
theorem allL_mem : ∀ {l : List Nat} {K : Nat → Prop}, allL l K → ∀ i ∈ l, K i
  | [], _, _, i, hi => by cases hi
  | [j], _, h, i, hi => by simp only [List.mem_singleton] at hi; subst hi; exact h
  | j :: k :: l, K, h, i, hi => by
    rcases List.mem_cons.1 hi with rfl | hi
    · exact h.1
    · exact allL_mem (l := k :: l) h.2 i hi

def rVC (P : Program) (all : List Oper) (Q : List AV → World → Prop) : Nat → List Bool → List AV → World → Prop
  | 0, listed, E, w => bif (Region.ready .any all.toArray listed.toArray).isEmpty then Q E w else False
  | fuel + 1, listed, E, w =>
    match Region.ready .any all.toArray listed.toArray with
    | [] => Q E w
    | r :: rs => match (r :: rs).find? fun i => match all[i]? with | some o => readB P o && Region.free .any all.toArray listed.toArray i | none => false with
      | some i => match all[i]? with
        | some o => gd all o E (fun E => pureVC P E o (fun v => rVC P all Q fuel (listed.set i true) (putE E o.dst v) w) w) (fun E => rVC P all Q fuel (listed.set i true) (putE E o.dst (.v undef)) w)
        | none => False
      | none => allL (r :: rs) fun i => match all[i]? with
        | some o => gd all o E (fun E => opVC P E o (fun v w' => bif lastB P all i then rVC P all Q fuel (listed.set i true) (putE E o.dst v) w' else (Fr w w' ∧ rVC P all Q fuel (listed.set i true) (putE E o.dst v) w')) w) (fun E => rVC P all Q fuel (listed.set i true) (putE E o.dst (.v undef)) w)
        | none => False

/-- As 'rVC', without the reads first: each order of all. -/
def aVC (P : Program) (all : List Oper) (Q : List AV → World → Prop) : Nat → List Bool → List AV → World → Prop
  | 0, listed, E, w => bif (Region.ready .any all.toArray listed.toArray).isEmpty then Q E w else False
  | fuel + 1, listed, E, w =>
    match Region.ready .any all.toArray listed.toArray with
    | [] => Q E w
    | r :: rs => match (r :: rs).find? fun i => match all[i]? with | some o => readB P o && !memS P o && Region.free .any all.toArray listed.toArray i | none => false with
      | some i => match all[i]? with
        | some o => gd all o E (fun E => pureVC P E o (fun v => aVC P all Q fuel (listed.set i true) (putE E o.dst v) w) w) (fun E => aVC P all Q fuel (listed.set i true) (putE E o.dst (.v undef)) w)
        | none => False
      | none => allL (r :: rs) fun i => match all[i]? with
        | some o => gd all o E (fun E => opVC P E o (fun v w' => aVC P all Q fuel (listed.set i true) (putE E o.dst v) w') w) (fun E => aVC P all Q fuel (listed.set i true) (putE E o.dst (.v undef)) w)
        | none => False

/-! ### Every order -/
section
variable {P : Program} {ops : Array Oper}
def opF (P : Program) (ops : Array Oper) (i : Nat) (K : Act → World → Prop) (a : Act) (w : World) : Prop :=
  match ops[i]? with
  | none => K a w
  | some o => if Region.wanted o (yielded ops a.tmps) = true then ∀ Q : Exit → Act → World → Prop, o.wp P a w K Q else K (a.put o.dst undef) w
theorem opF_mono {i : Nat} {a : Act} {w : World} {K K' : Act → World → Prop} (h : ∀ a w, K a w → K' a w) (hh : opF P ops i K a w) : opF P ops i K' a w := by
  unfold opF at *
  split
  · rename_i ho; simp only [ho] at hh; exact h _ _ hh
  · rename_i o ho
    simp only [ho] at hh
    split
    · rename_i hw; rw [if_pos hw] at hh; exact fun Q => Oper.wp_mono h (hh Q)
    · rename_i hw; rw [if_neg hw] at hh; exact h _ _ hh
theorem opF_wpOp {Q : Exit → Act → World → Prop} {i : Nat} {a : Act} {w : World} {K : Act → World → Prop} (hh : opF P ops i K a w) : wpOp P ops Q i K a w := by
  unfold opF at hh
  unfold wpOp
  split
  · rename_i ho; simp only [ho] at hh; exact hh
  · rename_i o ho
    simp only [ho] at hh
    split
    · rename_i hw; rw [if_pos hw] at hh; exact .inl (hh Q)
    · rename_i hw; rw [if_neg hw] at hh; exact hh

def wpF (P : Program) (ops : Array Oper) (lst : Nat → Bool) (Q : Act → World → Prop) : Nat → Array Bool → Act → World → Prop
  | 0, listed, a, w => Region.ready .any ops listed = [] ∧ Q a w
  | fuel + 1, listed, a, w => (Region.ready .any ops listed = [] → Q a w) ∧
      ∀ i ∈ Region.ready .any ops listed, opF P ops i (fun a' w' => (lst i = false → Fr w w') ∧ wpF P ops lst Q fuel (listed.setIfInBounds i true) a' w') a w
theorem wpAny_of_F {lst : Nat → Bool} {Q : Act → World → Prop} {Q' : Exit → Act → World → Prop} (hQ : ∀ a w, Q a w → Q' .normal a w) : ∀ {fuel : Nat} {listed : Array Bool} {a : Act} {w : World}, wpF P ops lst Q fuel listed a w → wpAny P .any ops Q' fuel listed a w
  | 0, _, _, _, h => ⟨h.1, hQ _ _ h.2⟩
  | _ + 1, _, _, _, h => ⟨fun h0 => hQ _ _ (h.1 h0), fun i hi => opF_wpOp (opF_mono (fun _ _ h => wpAny_of_F hQ h.2) (h.2 i hi))⟩

/-- In every world that extends w, the operation yields v and nothing else. -/
def YF (P : Program) (ops : Array Oper) (o : Oper) (v : Value) (a : Act) (w : World) : Prop :=
  (Region.wanted o (yielded ops a.tmps) = true ∧ ∀ w', (memS P o = true → Fr w w') → (execOp a.eval o).run P w' = .ok (.value v) w') ∨ (Region.wanted o (yielded ops a.tmps) = false ∧ v = undef)
theorem YF.of_same {o : Oper} {v : Value} {a a' : Act} {w : World} (hy : YF P ops o v a w) (he : execOp a'.eval o = execOp a.eval o) (hw : Region.wanted o (yielded ops a'.tmps) = Region.wanted o (yielded ops a.tmps)) : YF P ops o v a' w := by
  unfold YF at *
  rw [he, hw]
  exact hy
theorem YF.fr {o : Oper} {v : Value} {a : Act} {w w' : World} (hy : YF P ops o v a w) (hf : memS P o = true → Fr w w') : YF P ops o v a w' := by
  rcases hy with ⟨h1, h2⟩ | h
  · exact .inl ⟨h1, fun w'' h => h2 w'' fun hm => (hf hm).trans (h hm)⟩
  · exact .inr h
theorem YF.opF {i : Nat} {o : Oper} {v : Value} {a : Act} {w : World} (hi : ops[i]? = some o) (hy : YF P ops o v a w) {K : Act → World → Prop} (h : K (a.put o.dst v) w) : opF P ops i K a w := by
  unfold Fl.opF
  simp only [hi]
  rcases hy with ⟨hw, hv⟩ | ⟨hw, rfl⟩
  · rw [if_pos hw]
    intro Q
    simp only [Oper.wp, hv w (fun _ => Fr.refl w), Oper.upon]
    exact h
  · rw [if_neg (by rw [hw]; decide)]; exact h

theorem opF_put {j : Nat} {oi oj : Oper} {v : Value} (hj : ops[j]? = some oj) (hap : oi.apart ops oj = true) (hsi : ∀ cs b, oi.op ≠ .select cs b) (hsj : ∀ cs b, oj.op ≠ .select cs b)
    {K : Act → World → Prop} {a : Act} {w : World} (hy : YF P ops oi v a w) (h : opF P ops j K (a.put oi.dst v) w) : opF P ops j (fun a' w' => YF P ops oi v a' w ∧ K (a'.put oi.dst v) w') a w := by
  obtain ⟨h1, h2, h3⟩ := Oper.apart_spec hap
  have keep : ∀ (a : Act), YF P ops oi v a w → ∀ u, YF P ops oi v (a.put oj.dst u) w := fun a hy u => hy.of_same (execOp_put oi hsi a oj.dst u h3) (wanted_put oi a oj.dst u h3)
  have keepD : ∀ d, YF P ops oi v { a with defers := d :: a.defers } w := fun d => hy.of_same rfl rfl
  unfold opF at *
  simp only [hj] at *
  rw [wanted_put oj a oi.dst v h1] at h
  split
  · rename_i hw
    rw [if_pos hw] at h
    intro Q
    have h := h fun _ _ _ => False
    unfold Oper.wp at *
    rw [execOp_put oj hsj a oi.dst v h1] at h
    generalize (execOp a.eval oj).run P w = r at *
    cases r with
    | ok n w' =>
      cases n <;> simp only [Oper.upon] at h ⊢
      case value u => exact ⟨keep a hy u, by rw [← Act.put_comm a v u h2]; exact h⟩
      case skip => exact ⟨keep a hy _, by rw [← Act.put_comm a v undef h2]; exact h⟩
      case defer d =>
        refine ⟨keep _ (keepD d) _, ?_⟩
        rw [← Act.put_comm _ v undef h2, ← Act.put_defers]
        exact h
      case enter f args =>
        refine Calls.mono h fun e w'' he => ?_
        cases e with
        | returned u => exact ⟨keep a hy u, by rw [← Act.put_comm a v u h2]; exact he⟩
        | panicked c => exact he.elim
        | outgrown => obtain ⟨_, _, he⟩ := he; exact he.elim
      case row row args => exact Rows.mono h fun u w'' he => ⟨keep a hy u, by rw [← Act.put_comm a v u h2]; exact he⟩
    | halt x w' => cases x <;> simp only [Oper.upon] at h
  · rename_i hw
    rw [if_neg hw] at h
    exact ⟨keep a hy _, by rw [← Act.put_comm a v undef h2]; exact h⟩

def Closed (ops : Array Oper) (listed : Array Bool) : Prop := ∀ (k : Nat) (o : Oper), ops[k]? = some o → listed.getD k false = true → ∀ e ∈ o.after, Region.binds .any e = true → listed.getD e.on false = true
theorem Closed.set {listed : Array Bool} {i : Nat} (h : Closed ops listed) (hr : i ∈ Region.ready .any ops listed) : Closed ops (listed.setIfInBounds i true) := by
  intro k o hk hl e he hb
  by_cases hki : k = i
  · subst hki
    obtain ⟨_, o', ho', hall⟩ := mem_ready.1 hr
    obtain rfl : o = o' := by rw [hk] at ho'; injection ho'
    exact getD_set_true (hall e he hb)
  · rw [getD_set_ne false (Ne.symm hki)] at hl
    exact getD_set_true (h k o hk hl e he hb)
theorem anc_listed {all : List Oper} {listed : Array Bool} (hC : Closed all.toArray listed) : ∀ {f j i : Nat}, (∀ o, all[j]? = some o → ∀ e ∈ o.after, Region.binds .any e = true → listed.getD e.on false = true) → ancB all f j i = true → listed.getD i false = true
  | 0, _, _, _, h => by simp [ancB] at h
  | f + 1, j, i, hj, h => by
    unfold ancB at h
    split at h
    · cases h
    · rename_i o ho
      simp only [List.any_eq_true, Bool.and_eq_true, Bool.or_eq_true, beq_iff_eq] at h
      obtain ⟨e, he, hb, hor⟩ := h
      have hl := hj o ho e (by simpa using he) hb
      rcases hor with rfl | hor
      · exact hl
      · exact anc_listed hC (fun o' ho' e' he' hb' => hC _ o' (by simpa using ho') hl e' he' hb') hor
theorem last_listed {all : List Oper} {listed : Array Bool} {j i : Nat} (hC : Closed all.toArray listed) (hr : j ∈ Region.ready .any all.toArray listed) (hl : lastB P all j = true) {oi : Oper} (hi : all[i]? = some oi) (hmem : memS P oi = true) (hne : i ≠ j) : listed.getD i false = true := by
  unfold lastB at hl
  rw [List.all_eq_true] at hl
  have := hl i (List.mem_range.2 (List.getElem?_eq_some_iff.1 hi).1)
  simp only [Bool.or_eq_true, beq_iff_eq, hne, false_or, hi, hmem, Bool.not_true, Bool.false_eq_true] at this
  obtain ⟨_, o, ho, hall⟩ := mem_ready.1 hr
  exact anc_listed hC (fun o' ho' => by
    obtain rfl : o' = o := by
      have ho : all[j]? = some o := by simpa using ho
      rw [ho'] at ho; injection ho
    exact hall) this

theorem wpF_first {all : List Oper} {lst : Nat → Bool} {Q : Act → World → Prop} {i : Nat} {oi : Oper} {v : Value} (hlst : memS P oi = true → ∀ j, lst j = lastB P all j) (hi : all.toArray[i]? = some oi) (hsel : ∀ (j : Nat) (o : Oper) cs b, all.toArray[j]? = some o → o.op ≠ .select cs b) :
    ∀ (fuel : Nat) (listed : Array Bool) (a : Act) (w : World), Closed all.toArray listed →
      (∀ j oj, all.toArray[j]? = some oj → j ≠ i → listed.getD j true = false → (∀ e ∈ oj.after, Region.binds .any e = true → e.on ≠ i) → oi.apart all.toArray oj = true) →
      i ∈ Region.ready .any all.toArray listed → YF P all.toArray oi v a w →
      wpF P all.toArray lst Q fuel (listed.setIfInBounds i true) (a.put oi.dst v) w → wpF P all.toArray lst Q (fuel + 1) listed a w := by
  intro fuel
  induction fuel with
  | zero =>
    intro listed a w hC _ hr hy H
    refine ⟨fun h => (by rw [h] at hr; cases hr), fun j hj => ?_⟩
    by_cases hji : j = i
    · subst hji; exact hy.opF hi ⟨fun _ => Fr.refl w, H⟩
    · have := ready_mono hj hji
      rw [H.1] at this
      cases this
  | succ fuel ih =>
    intro listed a w hC hfree hr hy H
    refine ⟨fun h => (by rw [h] at hr; cases hr), fun j hj => ?_⟩
    by_cases hji : j = i
    · subst hji; exact hy.opF hi ⟨fun _ => Fr.refl w, H⟩
    · have h1 := H.2 j (ready_mono hj hji)
      obtain ⟨hjun, oj, hoj, hall⟩ := mem_ready.1 hj
      have hiun := (mem_ready.1 hr).1
      have hlisted : listed.getD i false = true → False := fun h => by
        rcases Nat.lt_or_ge i listed.size with h' | h'
        · simp [h'] at hiun h; rw [hiun] at h; cases h
        · simp [Array.getElem?_eq_none h'] at h
      have hnot : ∀ e ∈ oj.after, Region.binds .any e = true → e.on ≠ i := fun e he hb heq => hlisted (heq ▸ hall e he hb)
      have hlast : memS P oi = true → lst j = false := fun hmem => by
        rw [hlst hmem]
        cases hl : lastB P all j with
        | false => rfl
        | true => exact (hlisted (last_listed hC hj hl (by simpa using hi) hmem (Ne.symm hji))).elim
      have h2 := opF_put hoj (hfree j oj hoj hji hjun hnot) (fun cs b => hsel i oi cs b hi) (fun cs b => hsel j oj cs b hoj) hy h1
      have hfree' : ∀ k ok, all.toArray[k]? = some ok → k ≠ i → (listed.setIfInBounds j true).getD k true = false →
          (∀ e ∈ ok.after, Region.binds .any e = true → e.on ≠ i) → oi.apart all.toArray ok = true := fun k ok hk hki hun hno => by
        refine hfree k ok hk hki ?_ hno
        by_cases hjk : j = k
        · subst hjk; exact hjun
        · rw [getD_set_ne true hjk] at hun; exact hun
      refine opF_mono (fun a' w' h3 => ⟨fun h => h3.2.1 h, ih (listed.setIfInBounds j true) a' w' (hC.set hj) hfree' (ready_mono hr (Ne.symm hji)) (h3.1.fr fun hm => h3.2.1 (hlast hm)) ?_⟩) h2
      rw [Array.setIfInBounds_comm _ _ hji]
      exact h3.2.2
end

variable {dfs : List Deferred}
theorem gd_sound {all : List Oper} {o : Oper} {E : List AV} {go skip : List AV → Prop} (h : gd all o E go skip) :
    (Region.wanted o (yielded all.toArray (actsD dfs E).tmps) = true ∧ go E) ∨ (Region.wanted o (yielded all.toArray (actsD dfs E).tmps) = false ∧ skip E) := by
  unfold gd at h
  split at h
  · rename_i hg; exact .inl ⟨by simp [Region.wanted, hg], h⟩
  · rename_i j want hg
    split at h
    · rename_i d b hv
      have hw := (wanted_of (dfs := dfs) hg hv).1 b rfl
      have hE : E.set d (.v (.bool b)) = E := set_same (guardVal_spec hv).2
      cases b <;> cases want <;> simp only [cond_true, cond_false, hE] at h
      · exact .inl ⟨by rw [hw]; rfl, h⟩
      · exact .inr ⟨by rw [hw]; rfl, h⟩
      · exact .inr ⟨by rw [hw]; rfl, h⟩
      · exact .inl ⟨by rw [hw]; rfl, h⟩
    · rename_i hv
      exact .inr ⟨(wanted_of (dfs := dfs) hg hv).2 rfl, h⟩
    · exact h.elim

theorem r_sound {P : Program} {all : List Oper} {Q : List AV → World → Prop} (hcall : ∀ o ∈ all, ∀ f ∈ opFns o, callable P f = true) (hsel : Region.noSelect all.toArray = true) {Q' : Act → World → Prop} :
    ∀ {fuel : Nat} {listed : List Bool} {E : List AV} {w : World}, Closed all.toArray listed.toArray → rVC P all Q fuel listed E w →
    (∀ E' w', E'.length = E.length → (∀ d, (∀ o ∈ all, o.dst ≠ some d) → E'.getD d (.v undef) = E.getD d (.v undef)) → Q E' w' → Q' (actsD dfs E') w') → wpF P all.toArray (lastB P all) Q' fuel listed.toArray (actsD dfs E) w := by
  intro fuel
  induction fuel with
  | zero =>
    intro listed E w hC h hq
    unfold rVC at h
    cases hr : (Region.ready .any all.toArray listed.toArray).isEmpty with
    | false => rw [hr] at h; exact h.elim
    | true => rw [hr] at h; exact ⟨List.isEmpty_iff.1 hr, hq _ _ rfl (fun _ _ => rfl) h⟩
  | succ fuel ih =>
    intro listed E w hC h hq
    have hset : ∀ i, (listed.toArray.setIfInBounds i true) = (listed.set i true).toArray := fun i => by simp
    have NEXT : ∀ {o : Oper} {i : Nat} {v : AV} {w' : World}, all[i]? = some o → i ∈ Region.ready .any all.toArray listed.toArray → rVC P all Q fuel (listed.set i true) (putE E o.dst v) w' →
        wpF P all.toArray (lastB P all) Q' fuel (listed.toArray.setIfInBounds i true) ((actsD dfs E).put o.dst v.val) w' := fun {o i v w'} ho hr h => by
      rw [hset, acts_put]
      refine ih (by rw [← hset]; exact hC.set hr) h fun E' w'' hl hs hQ => hq E' w'' (hl.trans (putE_length ..)) (fun d hd => (hs d hd).trans (putE_getD (hd o (List.mem_of_getElem? ho)))) hQ
    unfold rVC at h
    split at h
    · rename_i hr
      exact ⟨fun _ => hq _ _ rfl (fun _ _ => rfl) h, by rw [hr]; simp⟩
    · rename_i r rs hr
      split at h
      · rename_i i hfind
        have hmem : i ∈ Region.ready .any all.toArray listed.toArray := by rw [hr]; exact List.mem_of_find?_eq_some hfind
        have hp := List.find?_some hfind
        split at h
        · rename_i o ho
          simp only [ho, Bool.and_eq_true] at hp
          have hoA : all.toArray[i]? = some o := by simpa using ho
          have hY : ∃ v : AV, YF P all.toArray o v.val (actsD dfs E) w ∧ rVC P all Q fuel (listed.set i true) (putE E o.dst v) w := by
            rcases gd_sound (dfs := dfs) h with ⟨hw, h⟩ | ⟨hw, h⟩
            · cases hm : memS P o with
              | true =>
                obtain ⟨v, hk, hrun⟩ := pure_sound h
                exact ⟨v, .inl ⟨hw, fun w' hf => by rw [acts_evalf]; exact hrun w' (hf hm).sub⟩, hk⟩
              | false =>
                obtain ⟨v, hk, hrun⟩ := pure_sound (pure_any (w0 := { w with heap := #[] }) hm h)
                exact ⟨v, .inl ⟨hw, fun w' _ => by rw [acts_evalf]; exact hrun w' fun k hk => by simp at hk⟩, hk⟩
            · exact ⟨.v undef, .inr ⟨hw, val_v _⟩, h⟩
          obtain ⟨v, hy, hk⟩ := hY
          exact wpF_first (fun _ _ => rfl) hoA (Region.noSelect_spec hsel) fuel _ _ _ hC (Region.free_spec hoA hp.2) hmem hy (NEXT ho hmem hk)
        · exact h.elim
      · refine ⟨fun h0 => (by rw [hr] at h0; cases h0), fun i hi => ?_⟩
        have h := allL_mem h i (by rw [← hr]; exact hi)
        split at h
        · rename_i o ho
          have hoA : all.toArray[i]? = some o := by simpa using ho
          unfold opF
          simp only [hoA]
          rcases gd_sound (dfs := dfs) h with ⟨hw, h⟩ | ⟨hw, h⟩
          · rw [if_pos hw]
            intro QQ
            refine op_sound (hcall o (List.mem_of_getElem? ho)) h fun v w' hk => ?_
            cases hl : lastB P all i with
            | true => rw [hl] at hk; exact ⟨fun h => (by cases h), NEXT ho hi hk⟩
            | false => rw [hl] at hk; exact ⟨fun _ => hk.1, NEXT ho hi hk.2⟩
          · rw [if_neg (by rw [hw]; decide)]
            have := NEXT (v := .v undef) ho hi h
            rw [val_v] at this
            exact ⟨fun _ => Fr.refl w, this⟩
        · exact h.elim
theorem a_sound {P : Program} {all : List Oper} {Q : List AV → World → Prop} (hcall : ∀ o ∈ all, ∀ f ∈ opFns o, callable P f = true) (hsel : Region.noSelect all.toArray = true) {Q' : Act → World → Prop} :
    ∀ {fuel : Nat} {listed : List Bool} {E : List AV} {w : World}, Closed all.toArray listed.toArray → aVC P all Q fuel listed E w →
    (∀ E' w', E'.length = E.length → (∀ d, (∀ o ∈ all, o.dst ≠ some d) → E'.getD d (.v undef) = E.getD d (.v undef)) → Q E' w' → Q' (actsD dfs E') w') → wpF P all.toArray (fun _ => true) Q' fuel listed.toArray (actsD dfs E) w := by
  intro fuel
  induction fuel with
  | zero =>
    intro listed E w hC h hq
    unfold aVC at h
    cases hr : (Region.ready .any all.toArray listed.toArray).isEmpty with
    | false => rw [hr] at h; exact h.elim
    | true => rw [hr] at h; exact ⟨List.isEmpty_iff.1 hr, hq _ _ rfl (fun _ _ => rfl) h⟩
  | succ fuel ih =>
    intro listed E w hC h hq
    have hset : ∀ i, (listed.toArray.setIfInBounds i true) = (listed.set i true).toArray := fun i => by simp
    have NEXT : ∀ {o : Oper} {i : Nat} {v : AV} {w' : World}, all[i]? = some o → i ∈ Region.ready .any all.toArray listed.toArray → aVC P all Q fuel (listed.set i true) (putE E o.dst v) w' →
        wpF P all.toArray (fun _ => true) Q' fuel (listed.toArray.setIfInBounds i true) ((actsD dfs E).put o.dst v.val) w' := fun {o i v w'} ho hr h => by
      rw [hset, acts_put]
      refine ih (by rw [← hset]; exact hC.set hr) h fun E' w'' hl hs hQ => hq E' w'' (hl.trans (putE_length ..)) (fun d hd => (hs d hd).trans (putE_getD (hd o (List.mem_of_getElem? ho)))) hQ
    unfold aVC at h
    split at h
    · rename_i hr
      exact ⟨fun _ => hq _ _ rfl (fun _ _ => rfl) h, by rw [hr]; simp⟩
    · rename_i r rs hr
      split at h
      · rename_i i hfind
        have hmem : i ∈ Region.ready .any all.toArray listed.toArray := by rw [hr]; exact List.mem_of_find?_eq_some hfind
        have hp := List.find?_some hfind
        split at h
        · rename_i o ho
          simp only [ho, Bool.and_eq_true, Bool.not_eq_true'] at hp
          have hoA : all.toArray[i]? = some o := by simpa using ho
          have hm := hp.1.2
          have hY : ∃ v : AV, YF P all.toArray o v.val (actsD dfs E) w ∧ aVC P all Q fuel (listed.set i true) (putE E o.dst v) w := by
            rcases gd_sound (dfs := dfs) h with ⟨hw, h⟩ | ⟨hw, h⟩
            · obtain ⟨v, hk, hrun⟩ := pure_sound (pure_any (w0 := { w with heap := #[] }) hm h)
              exact ⟨v, .inl ⟨hw, fun w' _ => by rw [acts_evalf]; exact hrun w' fun k hk => by simp at hk⟩, hk⟩
            · exact ⟨.v undef, .inr ⟨hw, val_v _⟩, h⟩
          obtain ⟨v, hy, hk⟩ := hY
          exact wpF_first (fun h => by rw [hm] at h; cases h) hoA (Region.noSelect_spec hsel) fuel _ _ _ hC (Region.free_spec hoA hp.2) hmem hy (NEXT ho hmem hk)
        · exact h.elim
      · refine ⟨fun h0 => (by rw [hr] at h0; cases h0), fun i hi => ?_⟩
        have h := allL_mem h i (by rw [← hr]; exact hi)
        split at h
        · rename_i o ho
          have hoA : all.toArray[i]? = some o := by simpa using ho
          unfold opF
          simp only [hoA]
          rcases gd_sound (dfs := dfs) h with ⟨hw, h⟩ | ⟨hw, h⟩
          · rw [if_pos hw]
            intro QQ
            exact op_sound (hcall o (List.mem_of_getElem? ho)) h fun v w' hk => ⟨fun h => (by cases h), NEXT ho hi hk⟩
          · rw [if_neg (by rw [hw]; decide)]
            have := NEXT (v := .v undef) ho hi h
            rw [val_v] at this
            exact ⟨fun _ => Fr.refl w, this⟩
        · exact h.elim
end Go.Fl
namespace Go.Fl
open Go.RowKit

/-- The blocks of X stay as they are. -/
def Agr (X : Nat → Prop) (w w' : World) : Prop := ∀ k o, X k → w.heap[k]? = some o → w'.heap[k]? = some o
theorem Agr.refl (X : Nat → Prop) (w : World) : Agr X w w := fun _ _ _ h => h
theorem Agr.trans {X : Nat → Prop} {a b c : World} (h : Agr X a b) (k : Agr X b c) : Agr X a c := fun j o hx ho => k j o hx (h j o hx ho)
theorem Agr.cell {X : Nat → Prop} {w w' : World} (h : Agr X w w') {a : Addr} {v : Value} (hx : X a.block) (hc : w.cell? a = some v) : w'.cell? a = some v := by
  have hlt := World.block_lt_of_cell? w _ hc
  have e : w'.heap[a.block]? = w.heap[a.block]? := (h a.block w.heap[a.block] hx (Array.getElem?_eq_getElem hlt)).trans (Array.getElem?_eq_getElem hlt).symm
  exact (World.cell?_of_block (w := w) e).trans hc
theorem ld_monoX : ∀ {k : Kd} {w : World} {a : Addr} {K K' : k.T → Prop}, (∀ x, K x → K' x) → ld k w a K → ld k w a K'
  | .B, _, _, _, _, h, ⟨x, hc, hk⟩ => ⟨x, hc, h _ hk⟩
  | .I _, _, _, _, _, h, ⟨x, hc, hk⟩ => ⟨x, hc, h _ hk⟩
  | .S, _, _, _, _, h, ⟨x, hc, hk⟩ => ⟨x, hc, h _ hk⟩
  | .P, _, _, _, _, h, ⟨x, hc, hk⟩ => ⟨x, hc, h _ hk⟩
  | .L, _, _, _, _, h, ⟨x, hc, hk⟩ => ⟨x, hc, h _ hk⟩
  | .M, _, _, _, _, h, ⟨x, hc, hk⟩ => ⟨x, hc, h _ hk⟩
  | .U, _, _, _, _, h, ⟨x, hc, hk, h1⟩ => ⟨x, hc, h _ hk, h1⟩
  | .nil, _, _, _, _, h, hk => h _ hk
  | .pair k1 k2, w, a, K, K', h, hk => by
    show ld k1 w a fun x => ld k2 w (a.add k1.size) fun y => K' (x, y)
    exact ld_monoX (k := k1) (fun x hh => ld_monoX (k := k2) (fun y hh2 => h (x, y) hh2) hh) hk
  | .row _, _, _, _, _, h, ⟨l, hc, hk⟩ => ⟨l, hc, h _ hk⟩
  | .tup _, _, _, _, _, _, hk => hk.elim
theorem ld_pick : ∀ {k : Kd} {w : World} {a : Addr} {K : k.T → Prop}, ld k w a K → ∃ y, K y ∧ ld k w a fun z => z = y
  | .B, _, _, _, ⟨x, hc, hk⟩ => ⟨x, hk, x, hc, rfl⟩
  | .I _, _, _, _, ⟨x, hc, hk⟩ => ⟨x, hk, x, hc, rfl⟩
  | .S, _, _, _, ⟨x, hc, hk⟩ => ⟨x, hk, x, hc, rfl⟩
  | .P, _, _, _, ⟨x, hc, hk⟩ => ⟨x, hk, x, hc, rfl⟩
  | .L, _, _, _, ⟨x, hc, hk⟩ => ⟨x, hk, x, hc, rfl⟩
  | .M, _, _, _, ⟨x, hc, hk⟩ => ⟨x, hk, x, hc, rfl⟩
  | .U, _, _, _, ⟨x, hc, hk, h1⟩ => ⟨x, hk, x, hc, rfl, h1⟩
  | .nil, _, _, _, hk => ⟨(), hk, rfl⟩
  | .pair k1 k2, w, a, K, h => by
    obtain ⟨x, hx, h1⟩ := ld_pick (k := k1) h
    obtain ⟨y, hy, h2⟩ := ld_pick (k := k2) hx
    refine ⟨(x, y), hy, ld_monoX (k := k1) (fun x' e => ?_) h1⟩
    subst e
    exact ld_monoX (k := k2) (fun y' e => by rw [e]) h2
  | .row _, _, _, _, ⟨l, hc, hk⟩ => ⟨l, hk, l, hc, rfl⟩
  | .tup _, _, _, _, hk => hk.elim
theorem ld_agr {X : Nat → Prop} {w w' : World} (h : Agr X w w') : ∀ {k : Kd} {a : Addr} {K : k.T → Prop}, X a.block → ld k w a K → ld k w' a K
  | .B, _, _, hx, ⟨x, hc, hk⟩ => ⟨x, h.cell hx hc, hk⟩
  | .I _, _, _, hx, ⟨x, hc, hk⟩ => ⟨x, h.cell hx hc, hk⟩
  | .S, _, _, hx, ⟨x, hc, hk⟩ => ⟨x, h.cell hx hc, hk⟩
  | .P, _, _, hx, ⟨x, hc, hk⟩ => ⟨x, h.cell hx hc, hk⟩
  | .L, _, _, hx, ⟨x, hc, hk⟩ => ⟨x, h.cell hx hc, hk⟩
  | .M, _, _, hx, ⟨x, hc, hk⟩ => ⟨x, h.cell hx hc, hk⟩
  | .U, _, _, hx, ⟨x, hc, hk⟩ => ⟨x, h.cell hx hc, hk⟩
  | .nil, _, _, _, hk => hk
  | .pair k1 k2, a, K, hx, hk => by
    have key : ∀ {x : k1.T}, ld k2 w (a.add k1.size) (fun y => K (x, y)) → ld k2 w' (a.add k1.size) (fun y => K (x, y)) := fun hh => ld_agr h (by rw [add_block]; exact hx) hh
    show ld k1 w' a fun x => ld k2 w' (a.add k1.size) fun y => K (x, y)
    exact ld_agr (k := k1) h hx (ld_monoX (k := k1) (fun x hh => key hh) hk)
  | .row n, a, K, hx, ⟨l, hc, hk⟩ => ⟨l, fun i hi => h.cell (by rw [add_block]; exact hx) (hc i hi), hk⟩
  | .tup _, _, _, _, hk => hk.elim
section
variable {P : Program} {ops : Array Oper} {X : Nat → Prop}
def wpX (X : Nat → Prop) (P : Program) (ops : Array Oper) (lst : Nat → Bool) (Q : Act → World → Prop) : Nat → Array Bool → Act → World → Prop
  | 0, listed, a, w => Region.ready .any ops listed = [] ∧ Q a w
  | fuel + 1, listed, a, w => (Region.ready .any ops listed = [] → Q a w) ∧
      ∀ i ∈ Region.ready .any ops listed, opF P ops i (fun a' w' => (lst i = false → Agr X w w') ∧ wpX X P ops lst Q fuel (listed.setIfInBounds i true) a' w') a w
theorem wpAny_of_X {lst : Nat → Bool} {Q : Act → World → Prop} {Q' : Exit → Act → World → Prop} (hQ : ∀ a w, Q a w → Q' .normal a w) : ∀ {fuel : Nat} {listed : Array Bool} {a : Act} {w : World}, wpX X P ops lst Q fuel listed a w → wpAny P .any ops Q' fuel listed a w
  | 0, _, _, _, h => ⟨h.1, hQ _ _ h.2⟩
  | _ + 1, _, _, _, h => ⟨fun h0 => hQ _ _ (h.1 h0), fun i hi => opF_wpOp (opF_mono (fun _ _ h => wpAny_of_X hQ h.2) (h.2 i hi))⟩

/-- In every world that extends w, the operation yields v and nothing else. -/
def YX (X : Nat → Prop) (P : Program) (ops : Array Oper) (o : Oper) (v : Value) (a : Act) (w : World) : Prop :=
  (Region.wanted o (yielded ops a.tmps) = true ∧ ∀ w', (memS P o = true → Agr X w w') → (execOp a.eval o).run P w' = .ok (.value v) w') ∨ (Region.wanted o (yielded ops a.tmps) = false ∧ v = undef)
theorem YX.of_same {o : Oper} {v : Value} {a a' : Act} {w : World} (hy : YX X P ops o v a w) (he : execOp a'.eval o = execOp a.eval o) (hw : Region.wanted o (yielded ops a'.tmps) = Region.wanted o (yielded ops a.tmps)) : YX X P ops o v a' w := by
  unfold YX at *
  rw [he, hw]
  exact hy
theorem YX.fr {o : Oper} {v : Value} {a : Act} {w w' : World} (hy : YX X P ops o v a w) (hf : memS P o = true → Agr X w w') : YX X P ops o v a w' := by
  rcases hy with ⟨h1, h2⟩ | h
  · exact .inl ⟨h1, fun w'' h => h2 w'' fun hm => (hf hm).trans (h hm)⟩
  · exact .inr h
theorem YX.opF {i : Nat} {o : Oper} {v : Value} {a : Act} {w : World} (hi : ops[i]? = some o) (hy : YX X P ops o v a w) {K : Act → World → Prop} (h : K (a.put o.dst v) w) : opF P ops i K a w := by
  unfold Fl.opF
  simp only [hi]
  rcases hy with ⟨hw, hv⟩ | ⟨hw, rfl⟩
  · rw [if_pos hw]
    intro Q
    simp only [Oper.wp, hv w (fun _ => Agr.refl X w), Oper.upon]
    exact h
  · rw [if_neg (by rw [hw]; decide)]; exact h

theorem opX_put {j : Nat} {oi oj : Oper} {v : Value} (hj : ops[j]? = some oj) (hap : oi.apart ops oj = true) (hsi : ∀ cs b, oi.op ≠ .select cs b) (hsj : ∀ cs b, oj.op ≠ .select cs b)
    {K : Act → World → Prop} {a : Act} {w : World} (hy : YX X P ops oi v a w) (h : opF P ops j K (a.put oi.dst v) w) : opF P ops j (fun a' w' => YX X P ops oi v a' w ∧ K (a'.put oi.dst v) w') a w := by
  obtain ⟨h1, h2, h3⟩ := Oper.apart_spec hap
  have keep : ∀ (a : Act), YX X P ops oi v a w → ∀ u, YX X P ops oi v (a.put oj.dst u) w := fun a hy u => hy.of_same (execOp_put oi hsi a oj.dst u h3) (wanted_put oi a oj.dst u h3)
  have keepD : ∀ d, YX X P ops oi v { a with defers := d :: a.defers } w := fun d => hy.of_same rfl rfl
  unfold opF at *
  simp only [hj] at *
  rw [wanted_put oj a oi.dst v h1] at h
  split
  · rename_i hw
    rw [if_pos hw] at h
    intro Q
    have h := h fun _ _ _ => False
    unfold Oper.wp at *
    rw [execOp_put oj hsj a oi.dst v h1] at h
    generalize (execOp a.eval oj).run P w = r at *
    cases r with
    | ok n w' =>
      cases n <;> simp only [Oper.upon] at h ⊢
      case value u => exact ⟨keep a hy u, by rw [← Act.put_comm a v u h2]; exact h⟩
      case skip => exact ⟨keep a hy _, by rw [← Act.put_comm a v undef h2]; exact h⟩
      case defer d =>
        refine ⟨keep _ (keepD d) _, ?_⟩
        rw [← Act.put_comm _ v undef h2, ← Act.put_defers]
        exact h
      case enter f args =>
        refine Calls.mono h fun e w'' he => ?_
        cases e with
        | returned u => exact ⟨keep a hy u, by rw [← Act.put_comm a v u h2]; exact he⟩
        | panicked c => exact he.elim
        | outgrown => obtain ⟨_, _, he⟩ := he; exact he.elim
      case row row args => exact Rows.mono h fun u w'' he => ⟨keep a hy u, by rw [← Act.put_comm a v u h2]; exact he⟩
    | halt x w' => cases x <;> simp only [Oper.upon] at h
  · rename_i hw
    rw [if_neg hw] at h
    exact ⟨keep a hy _, by rw [← Act.put_comm a v undef h2]; exact h⟩

theorem wpX_first {all : List Oper} {lst : Nat → Bool} {Q : Act → World → Prop} {i : Nat} {oi : Oper} {v : Value} (hlst : memS P oi = true → ∀ j, lst j = lastB P all j) (hi : all.toArray[i]? = some oi) (hsel : ∀ (j : Nat) (o : Oper) cs b, all.toArray[j]? = some o → o.op ≠ .select cs b) :
    ∀ (fuel : Nat) (listed : Array Bool) (a : Act) (w : World), Closed all.toArray listed →
      (∀ j oj, all.toArray[j]? = some oj → j ≠ i → listed.getD j true = false → (∀ e ∈ oj.after, Region.binds .any e = true → e.on ≠ i) → oi.apart all.toArray oj = true) →
      i ∈ Region.ready .any all.toArray listed → YX X P all.toArray oi v a w →
      wpX X P all.toArray lst Q fuel (listed.setIfInBounds i true) (a.put oi.dst v) w → wpX X P all.toArray lst Q (fuel + 1) listed a w := by
  intro fuel
  induction fuel with
  | zero =>
    intro listed a w hC _ hr hy H
    refine ⟨fun h => (by rw [h] at hr; cases hr), fun j hj => ?_⟩
    by_cases hji : j = i
    · subst hji; exact hy.opF hi ⟨fun _ => Agr.refl X w, H⟩
    · have := ready_mono hj hji
      rw [H.1] at this
      cases this
  | succ fuel ih =>
    intro listed a w hC hfree hr hy H
    refine ⟨fun h => (by rw [h] at hr; cases hr), fun j hj => ?_⟩
    by_cases hji : j = i
    · subst hji; exact hy.opF hi ⟨fun _ => Agr.refl X w, H⟩
    · have h1 := H.2 j (ready_mono hj hji)
      obtain ⟨hjun, oj, hoj, hall⟩ := mem_ready.1 hj
      have hiun := (mem_ready.1 hr).1
      have hlisted : listed.getD i false = true → False := fun h => by
        rcases Nat.lt_or_ge i listed.size with h' | h'
        · simp [h'] at hiun h; rw [hiun] at h; cases h
        · simp [Array.getElem?_eq_none h'] at h
      have hnot : ∀ e ∈ oj.after, Region.binds .any e = true → e.on ≠ i := fun e he hb heq => hlisted (heq ▸ hall e he hb)
      have hlast : memS P oi = true → lst j = false := fun hmem => by
        rw [hlst hmem]
        cases hl : lastB P all j with
        | false => rfl
        | true => exact (hlisted (last_listed hC hj hl (by simpa using hi) hmem (Ne.symm hji))).elim
      have h2 := opX_put hoj (hfree j oj hoj hji hjun hnot) (fun cs b => hsel i oi cs b hi) (fun cs b => hsel j oj cs b hoj) hy h1
      have hfree' : ∀ k ok, all.toArray[k]? = some ok → k ≠ i → (listed.setIfInBounds j true).getD k true = false →
          (∀ e ∈ ok.after, Region.binds .any e = true → e.on ≠ i) → oi.apart all.toArray ok = true := fun k ok hk hki hun hno => by
        refine hfree k ok hk hki ?_ hno
        by_cases hjk : j = k
        · subst hjk; exact hjun
        · rw [getD_set_ne true hjk] at hun; exact hun
      refine opF_mono (fun a' w' h3 => ⟨fun h => h3.2.1 h, ih (listed.setIfInBounds j true) a' w' (hC.set hj) hfree' (ready_mono hr (Ne.symm hji)) (h3.1.fr fun hm => h3.2.1 (hlast hm)) ?_⟩) h2
      rw [Array.setIfInBounds_comm _ _ hji]
      exact h3.2.2
end
/-- A read that may go first: a load from a block of X, or what looks at no memory. -/
def xrdB (P : Program) (o : Oper) : Bool := match o.op with | .load .. => true | _ => !memS P o
def loadX (P : Program) (X : Nat → Prop) (E : List AV) (o : Oper) (K : AV → Prop) (w : World) : Prop := match o.op with
  | .load t x => match rd E x with | .v (.pointer A) => nz A fun a => X a.block ∧ bif kdFits P t (kdOf P 12 t) then ld (kdOf P 12 t) w a fun y => K ((kdOf P 12 t).av y) else False | _ => False
  | _ => pureVC P E o K w
def xVC (P : Program) (all : List Oper) (X : Nat → Prop) (Q : List AV → World → Prop) : Nat → List Bool → List AV → World → Prop
  | 0, listed, E, w => bif (Region.ready .any all.toArray listed.toArray).isEmpty then Q E w else False
  | fuel + 1, listed, E, w =>
    match Region.ready .any all.toArray listed.toArray with
    | [] => Q E w
    | r :: rs => match (r :: rs).find? fun i => match all[i]? with | some o => readB P o && xrdB P o && Region.free .any all.toArray listed.toArray i | none => false with
      | some i => match all[i]? with
        | some o => gd all o E (fun E => loadX P X E o (fun v => xVC P all X Q fuel (listed.set i true) (putE E o.dst v) w) w) (fun E => xVC P all X Q fuel (listed.set i true) (putE E o.dst (.v undef)) w)
        | none => False
      | none => allL (r :: rs) fun i => match all[i]? with
        | some o => gd all o E (fun E => opVC P E o (fun v w' => bif lastB P all i then xVC P all X Q fuel (listed.set i true) (putE E o.dst v) w' else (Agr X w w' ∧ xVC P all X Q fuel (listed.set i true) (putE E o.dst v) w')) w) (fun E => xVC P all X Q fuel (listed.set i true) (putE E o.dst (.v undef)) w)
        | none => False
theorem loadX_sound {P : Program} {X : Nat → Prop} {E : List AV} {o : Oper} {K : AV → Prop} {w : World} (hx : xrdB P o = true) (h : loadX P X E o K w) :
    ∃ v : AV, K v ∧ ∀ w', (memS P o = true → Agr X w w') → (execOp (fun x => (rd E x).val) o).run P w' = .ok (.value v.val) w' := by
  obtain ⟨dst, op, ty, pos, after, guard⟩ := o
  cases hm : memS P ⟨dst, op, ty, pos, after, guard⟩ with
  | false =>
    have hp : pureVC P E ⟨dst, op, ty, pos, after, guard⟩ K w := by
      cases op <;> first | exact h | (simp [memS] at hm)
    obtain ⟨v, hk, hrun⟩ := pure_sound (pure_any (w0 := { w with heap := #[] }) hm hp)
    exact ⟨v, hk, fun w' _ => hrun w' fun k hk => by simp at hk⟩
  | true =>
    cases op with
    | load t x =>
      simp only [loadX] at h
      split at h
      · rename_i A hA
        obtain ⟨a, rfl, hxa, h⟩ := nz_elim h
        rw [Bool.cond_eq_ite] at h
        split at h
        · rename_i hf
          obtain ⟨y, hy, hl⟩ := ld_pick h
          refine ⟨_, hy, fun w' hw => ?_⟩
          obtain ⟨_, rfl, hr⟩ := ld_sound hf (ld_agr (hw hm) hxa hl)
          simp [execOp, hA, val_v, hr w' (Sub.refl w')]
        · exact h.elim
      · exact h.elim
    | _ => simp [xrdB, hm] at hx

variable {dfs : List Deferred}
theorem x_sound {P : Program} {X : Nat → Prop} {all : List Oper} {Q : List AV → World → Prop} (hcall : ∀ o ∈ all, ∀ f ∈ opFns o, callable P f = true) (hsel : Region.noSelect all.toArray = true) {Q' : Act → World → Prop} :
    ∀ {fuel : Nat} {listed : List Bool} {E : List AV} {w : World}, Closed all.toArray listed.toArray → xVC P all X Q fuel listed E w →
    (∀ E' w', E'.length = E.length → (∀ d, (∀ o ∈ all, o.dst ≠ some d) → E'.getD d (.v undef) = E.getD d (.v undef)) → Q E' w' → Q' (actsD dfs E') w') → wpX X P all.toArray (lastB P all) Q' fuel listed.toArray (actsD dfs E) w := by
  intro fuel
  induction fuel with
  | zero =>
    intro listed E w hC h hq
    unfold xVC at h
    cases hr : (Region.ready .any all.toArray listed.toArray).isEmpty with
    | false => rw [hr] at h; exact h.elim
    | true => rw [hr] at h; exact ⟨List.isEmpty_iff.1 hr, hq _ _ rfl (fun _ _ => rfl) h⟩
  | succ fuel ih =>
    intro listed E w hC h hq
    have hset : ∀ i, (listed.toArray.setIfInBounds i true) = (listed.set i true).toArray := fun i => by simp
    have NEXT : ∀ {o : Oper} {i : Nat} {v : AV} {w' : World}, all[i]? = some o → i ∈ Region.ready .any all.toArray listed.toArray → xVC P all X Q fuel (listed.set i true) (putE E o.dst v) w' →
        wpX X P all.toArray (lastB P all) Q' fuel (listed.toArray.setIfInBounds i true) ((actsD dfs E).put o.dst v.val) w' := fun {o i v w'} ho hr h => by
      rw [hset, acts_put]
      refine ih (by rw [← hset]; exact hC.set hr) h fun E' w'' hl hs hQ => hq E' w'' (hl.trans (putE_length ..)) (fun d hd => (hs d hd).trans (putE_getD (hd o (List.mem_of_getElem? ho)))) hQ
    unfold xVC at h
    split at h
    · rename_i hr
      exact ⟨fun _ => hq _ _ rfl (fun _ _ => rfl) h, by rw [hr]; simp⟩
    · rename_i r rs hr
      split at h
      · rename_i i hfind
        have hmem : i ∈ Region.ready .any all.toArray listed.toArray := by rw [hr]; exact List.mem_of_find?_eq_some hfind
        have hp := List.find?_some hfind
        split at h
        · rename_i o ho
          simp only [ho, Bool.and_eq_true] at hp
          have hoA : all.toArray[i]? = some o := by simpa using ho
          have hY : ∃ v : AV, YX X P all.toArray o v.val (actsD dfs E) w ∧ xVC P all X Q fuel (listed.set i true) (putE E o.dst v) w := by
            rcases gd_sound (dfs := dfs) h with ⟨hw, h⟩ | ⟨hw, h⟩
            · obtain ⟨v, hk, hrun⟩ := loadX_sound hp.1.2 h
              exact ⟨v, .inl ⟨hw, fun w' hf => by rw [acts_evalf]; exact hrun w' hf⟩, hk⟩
            · exact ⟨.v undef, .inr ⟨hw, val_v _⟩, h⟩
          obtain ⟨v, hy, hk⟩ := hY
          exact wpX_first (fun _ _ => rfl) hoA (Region.noSelect_spec hsel) fuel _ _ _ hC (Region.free_spec hoA hp.2) hmem hy (NEXT ho hmem hk)
        · exact h.elim
      · refine ⟨fun h0 => (by rw [hr] at h0; cases h0), fun i hi => ?_⟩
        have h := allL_mem h i (by rw [← hr]; exact hi)
        split at h
        · rename_i o ho
          have hoA : all.toArray[i]? = some o := by simpa using ho
          unfold opF
          simp only [hoA]
          rcases gd_sound (dfs := dfs) h with ⟨hw, h⟩ | ⟨hw, h⟩
          · rw [if_pos hw]
            intro QQ
            refine op_sound (hcall o (List.mem_of_getElem? ho)) h fun v w' hk => ?_
            cases hl : lastB P all i with
            | true => rw [hl] at hk; exact ⟨fun h => (by cases h), NEXT ho hi hk⟩
            | false => rw [hl] at hk; exact ⟨fun _ => hk.1, NEXT ho hi hk.2⟩
          · rw [if_neg (by rw [hw]; decide)]
            have := NEXT (v := .v undef) ho hi h
            rw [val_v] at this
            exact ⟨fun _ => Agr.refl X w, this⟩
        · exact h.elim
end Go.Fl
namespace Go.Fl
open Go.RowKit

/-- The operations of a region that draws its order, none of which writes. -/
def qVC (P : Program) (all : List Oper) (Q : List AV → Prop) : List Oper → List AV → World → Prop
  | [], E, _ => Q E
  | o :: rest, E, w =>
    let go (E : List AV) : Prop := match o.op with
      | .call c => match c.callee, c.args.toList with
        | .value (.func f), args => bif !hasBody P f then False else qcl P f (args.map fun x => (rd E x).val).toArray (kdOf P 12 o.type) w fun x => qVC P all Q rest (putE E o.dst ((kdOf P 12 o.type).av x)) w
        | _, _ => pureVC P E o (fun v => qVC P all Q rest (putE E o.dst v) w) w
      | _ => pureVC P E o (fun v => qVC P all Q rest (putE E o.dst v) w) w
    match o.guard with
    | none => go E
    | some (j, want) => match guardVal all E j with
      | some (d, .v (.bool b)) =>
        bif b then (match want with | true => go (E.set d (.v (.bool true))) | false => qVC P all Q rest (putE (E.set d (.v (.bool true))) o.dst (.v undef)) w)
        else (match want with | true => qVC P all Q rest (putE (E.set d (.v (.bool false))) o.dst (.v undef)) w | false => go (E.set d (.v (.bool false))))
      | some (_d, .v (.tuple ⟨[]⟩)) => qVC P all Q rest (putE E o.dst (.v undef)) w
      | _ => False

variable {dfs : List Deferred}
theorem q_sound {P : Program} {all : List Oper} {Q : List AV → Prop} {w : World} : ∀ {l : List Oper} {E : List AV}, (∀ o ∈ l, ∀ f ∈ opFns o, callable P f = true) → qVC P all Q l E w →
    ∀ {Q' : Act → Prop}, (∀ E', E'.length = E.length → (∀ d, (∀ o ∈ l, o.dst ≠ some d) → E'.getD d (.v undef) = E.getD d (.v undef)) → Q E' → Q' (actsD dfs E')) → wpQuiet P all.toArray (fun w' => ∃ n, w' = w.drewN n) Q' l (actsD dfs E) := by
  intro l
  induction l with
  | nil => exact fun hc h Q' hq => hq _ rfl (fun _ _ => rfl) h
  | cons o rest ih =>
    intro E hc h Q' hq
    have hcr : ∀ o ∈ rest, ∀ f ∈ opFns o, callable P f = true := fun o ho => hc o (List.mem_cons_of_mem _ ho)
    have NEXT : ∀ {E : List AV} {v : AV}, (∀ E', E'.length = E.length → (∀ d, (∀ p ∈ o :: rest, p.dst ≠ some d) → E'.getD d (.v undef) = E.getD d (.v undef)) → Q E' → Q' (actsD dfs E')) →
        qVC P all Q rest (putE E o.dst v) w → wpQuiet P all.toArray (fun w' => ∃ n, w' = w.drewN n) Q' rest ((actsD dfs E).put o.dst v.val) := fun {E v} hq h => by
      rw [acts_put]
      exact ih hcr h fun E' hl hs hQ => hq E' (hl.trans (putE_length ..)) (fun d hd => (hs d fun p hp => hd p (List.mem_cons_of_mem _ hp)).trans (putE_getD (hd o (List.mem_cons_self ..)))) hQ
    have PU : ∀ {E : List AV}, (∀ E', E'.length = E.length → (∀ d, (∀ p ∈ o :: rest, p.dst ≠ some d) → E'.getD d (.v undef) = E.getD d (.v undef)) → Q E' → Q' (actsD dfs E')) →
        pureVC P E o (fun v => qVC P all Q rest (putE E o.dst v) w) w → o.quiet P (actsD dfs E) (fun w' => ∃ n, w' = w.drewN n) (wpQuiet P all.toArray (fun w' => ∃ n, w' = w.drewN n) Q' rest) := fun {E} hq h => by
      obtain ⟨v, hk, hr⟩ := pure_sound h
      refine ⟨v.val, ?_, NEXT hq hk⟩
      rintro _ ⟨n, rfl⟩
      unfold Oper.quietAt
      rw [acts_evalf, hr (w.drewN n) (fun _ _ => rfl)]
      exact ⟨rfl, rfl⟩
    have GO : ∀ {E : List AV}, (∀ E', E'.length = E.length → (∀ d, (∀ p ∈ o :: rest, p.dst ≠ some d) → E'.getD d (.v undef) = E.getD d (.v undef)) → Q E' → Q' (actsD dfs E')) →
        (match o.op with
          | .call c => match c.callee, c.args.toList with
            | .value (.func f), args => bif !hasBody P f then False else qcl P f (args.map fun x => (rd E x).val).toArray (kdOf P 12 o.type) w fun x => qVC P all Q rest (putE E o.dst ((kdOf P 12 o.type).av x)) w
            | _, _ => pureVC P E o (fun v => qVC P all Q rest (putE E o.dst v) w) w
          | _ => pureVC P E o (fun v => qVC P all Q rest (putE E o.dst v) w) w) → o.quiet P (actsD dfs E) (fun w' => ∃ n, w' = w.drewN n) (wpQuiet P all.toArray (fun w' => ∃ n, w' = w.drewN n) Q' rest) := fun {E} hq h => by
      split at h
      · rename_i c hop
        split at h
        · rename_i f hcal
          have hcf : callable P f = true := hc o (List.mem_cons_self ..) f (by
            obtain ⟨dst, op, ty, pos, after, guard⟩ := o
            obtain ⟨callee, args, ats⟩ := c
            simp only at hop hcal
            subst hop hcal
            simp [opFns])
          cases hbo : hasBody P f with
          | false => rw [hbo] at h; exact h.elim
          | true =>
          rw [hbo] at h
          obtain ⟨x, hx, hk⟩ := h
          refine ⟨_, ?_, NEXT hq hk⟩
          rintro _ ⟨n, rfl⟩
          unfold Oper.quietAt
          have hr : (execOp (actsD dfs E).eval o).run P (w.drewN n) = .ok (.enter f (c.args.toList.map fun x => (rd E x).val).toArray) (w.drewN n) := by
            obtain ⟨dst, op, ty, pos, after, guard⟩ := o
            obtain ⟨callee, args, ats⟩ := c
            obtain ⟨args⟩ := args
            simp only at hop hcal
            subst hop hcal
            simp [execOp, resolve, invoke, Deferred.ofValue, acts_evalf, rd, run_callFunc hcf hbo, Act.eval]
          rw [hr]
          refine ⟨rfl, Calls.mono (hx n) ?_⟩
          rintro e w' ⟨y, he, rfl, m, rfl⟩
          exact ⟨he, m, rfl⟩
        · exact PU hq h
      · exact PU hq h
    rw [qVC] at h
    rw [wpQuiet]
    split at h
    · rename_i hg
      rw [if_pos (by simp [Region.wanted, hg])]
      exact GO hq h
    · rename_i j want hg
      split at h
      · rename_i d b hv
        have hw := (wanted_of (dfs := dfs) hg hv).1 b rfl
        have hE : E.set d (.v (.bool b)) = E := set_same (guardVal_spec hv).2
        cases b with
        | true =>
          simp only [cond_true, hE] at h
          cases want with
          | true => rw [if_pos (by rw [hw]; rfl)]; exact GO hq h
          | false => rw [if_neg (by rw [hw]; decide)]; exact NEXT (v := .v undef) hq h
        | false =>
          simp only [cond_false, hE] at h
          cases want with
          | true => rw [if_neg (by rw [hw]; decide)]; exact NEXT (v := .v undef) hq h
          | false => rw [if_pos (by rw [hw]; rfl)]; exact GO hq h
      · rename_i d hv
        have hw := (wanted_of (dfs := dfs) hg hv).2 rfl
        rw [if_neg (by rw [hw]; decide)]
        exact NEXT (v := .v undef) hq h
      · exact h.elim

/-! ### Loops -/
abbrev LA := List (Nat × Kd)
@[reducible] def TS : LA → Type
  | [] => Unit
  | (_, k) :: A => k.T × TS A

def unav : (k : Kd) → AV → (k.T → Prop) → Prop
  | .B, .v (.bool x), K => K x
  | .I k, .v (.int k' n), K => bif decide (k = k') then K n else False
  | .S, .v (.string x), K => K x
  | .P, .v (.pointer x), K => K x
  | .L, .v (.slice a n c), K => K ⟨a, n, c⟩
  | .M, .v (.map x), K => K x
  | .U, .v x, K => K x
  | .nil, .nil, K => K ()
  | .pair k1 k2, .pair x y, K => unav k1 x fun a => unav k2 y fun b => K (a, b)
  | .row n, .row m l, K => if h : m = n then K (h ▸ l) else False
  | .tup k, .tup x, K => unav k x K
  | _, _, _ => False
theorem unav_elim : ∀ {k : Kd} {x : AV} {K : k.T → Prop}, unav k x K → ∃ y, x = k.av y ∧ K y := by
  intro k
  induction k with
  | pair k1 k2 ih1 ih2 =>
    intro x K h
    cases x <;> first | exact h.elim | skip
    rename_i x y
    obtain ⟨a, rfl, ha⟩ := ih1 h
    obtain ⟨b, rfl, hb⟩ := ih2 ha
    exact ⟨(a, b), rfl, hb⟩
  | tup k ih =>
    intro x K h
    cases x <;> first | exact h.elim | skip
    rename_i x
    obtain ⟨a, rfl, ha⟩ := ih h
    exact ⟨a, rfl, ha⟩
  | row n =>
    intro x K h
    cases x <;> first | exact h.elim | skip
    rename_i m l
    simp only [unav] at h
    split at h
    · rename_i e; subst e; exact ⟨l, rfl, h⟩
    · exact h.elim
  | nil =>
    intro x K h
    cases x <;> first | exact h.elim | exact ⟨(), rfl, h⟩
  | I k =>
    intro x K h
    cases x <;> first | exact h.elim | skip
    rename_i x
    cases x <;> first | exact h.elim | skip
    rename_i k' n
    simp only [unav] at h
    cases hk : decide (k = k') with
    | false => rw [hk] at h; exact h.elim
    | true => rw [hk] at h; obtain rfl := of_decide_eq_true hk; exact ⟨n, rfl, h⟩
  | U =>
    intro x K h
    cases x <;> first | exact h.elim | exact ⟨_, rfl, h⟩
  | _ =>
    intro x K h
    cases x <;> first | exact h.elim | skip
    rename_i x
    cases x <;> first | exact h.elim | exact ⟨_, rfl, h⟩

def inT : (A : LA) → List AV → (TS A → Prop) → Prop
  | [], _, K => K ()
  | (d, k) :: A, E, K => unav k (E.getD d (.v undef)) fun x => inT A E fun s => K (x, s)
def outT : (A : LA) → TS A → List Nat → List AV → List AV
  | [], _, _, E => E
  | (d, k) :: A, s, ds, E => outT A s.2 ds (bif ds.contains d then E.set d (k.av s.1) else E)
def hav (D : Nat → AV) : List Nat → List AV → List AV
  | [], E => E
  | d :: ds, E => hav D ds (E.set d (D d))

theorem ext_getD {E F : List AV} (hl : E.length = F.length) (h : ∀ d, d < E.length → E.getD d (.v undef) = F.getD d (.v undef)) : E = F := by
  apply List.ext_getElem? 
  intro i
  by_cases hi : i < E.length
  · have := h i hi
    rw [List.getD_eq_getElem?_getD, List.getD_eq_getElem?_getD, List.getElem?_eq_getElem hi, List.getElem?_eq_getElem (hl ▸ hi)] at this
    rw [List.getElem?_eq_getElem hi, List.getElem?_eq_getElem (hl ▸ hi)]
    exact congrArg some this
  · rw [List.getElem?_eq_none (by omega), List.getElem?_eq_none (by omega)]

/-! ### A region whose values are known ahead: each operation once, whatever the order -/
def asT : (A : LA) → TS A → Nat → AV → Prop
  | [], _, _, _ => False
  | (d', k) :: A, s, d, v => bif d == d' then unav k v (fun x => s.1 = x) else asT A s.2 d v
def setT : (A : LA) → TS A → List AV → List AV
  | [], _, E => E
  | (d, k) :: A, s, E => (setT A s.2 E).set d (k.av s.1)
theorem setT_length : ∀ {A : LA} {s : TS A} {E : List AV}, (setT A s E).length = E.length
  | [], _, _ => rfl
  | (d, k) :: A, s, E => by rw [setT, List.length_set]; exact setT_length
theorem asT_eq : ∀ {A : LA} {s : TS A} {d : Nat} {v : AV} {E : List AV}, asT A s d v → d < E.length → v = (setT A s E).getD d (.v undef)
  | [], _, _, _, _, h, _ => h.elim
  | (d', k) :: A, s, d, v, E, h, hd => by
    rw [asT] at h
    rw [setT, List.getD_eq_getElem?_getD, List.getElem?_set]
    have hl : d' < (setT A s.2 E).length ↔ d' < E.length := by rw [setT_length]
    by_cases e : d = d'
    · subst e
      rw [beq_self_eq_true, cond_true] at h
      obtain ⟨y, rfl, rfl⟩ := unav_elim h
      rw [if_pos rfl, if_pos (hl.2 hd)]
      rfl
    · rw [beq_eq_false_iff_ne.2 e, cond_false] at h
      rw [if_neg (Ne.symm e), ← List.getD_eq_getElem?_getD]
      exact asT_eq h hd
theorem setT_other : ∀ {A : LA} {s : TS A} {d : Nat} {E : List AV}, (∀ p ∈ A, p.1 ≠ d) → (setT A s E).getD d (.v undef) = E.getD d (.v undef)
  | [], _, _, _, _ => rfl
  | (d', k) :: A, s, d, E, h => by
    rw [setT, List.getD_eq_getElem?_getD, List.getElem?_set, if_neg (h (d', k) List.mem_cons_self), ← List.getD_eq_getElem?_getD]
    exact setT_other fun p hp => h p (List.mem_cons_of_mem _ hp)
/-- No guards; what an operation waits for stands ahead of it, and it looks at nothing else of the region. -/
def iOK (A : LA) (all : List Oper) : Bool := (A.all fun p => all.any fun o => o.dst == some p.1) && (List.range all.length).all fun i => match all[i]? with
  | none => true
  | some o => o.guard.isNone && (o.after.toList.all fun e => !Region.binds .any e || decide (e.on < i)) && (List.range all.length).all fun j => match all[j]? with
    | some p => (match p.dst with | some d => !(o.looksAt all.toArray).contains d || o.after.toList.any fun e => Region.binds .any e && e.on == j | none => true)
    | none => true
theorem iOK_spec {A : LA} {all : List Oper} (h : iOK A all = true) : (∀ p ∈ A, ∃ o ∈ all, o.dst = some p.1) ∧ ∀ (i : Nat) (o : Oper), all[i]? = some o → o.guard = none ∧ (∀ e ∈ o.after, Region.binds .any e = true → e.on < i) ∧
    ∀ (j : Nat) (p : Oper) (d : Tmp), all[j]? = some p → p.dst = some d → d ∈ o.looksAt all.toArray → ∃ e ∈ o.after, Region.binds .any e = true ∧ e.on = j := by
  simp only [iOK, Bool.and_eq_true, List.all_eq_true, List.any_eq_true, List.mem_range] at h
  refine ⟨fun p hp => ?_, fun i o ho => ?_⟩
  · obtain ⟨o, h1, h2⟩ := h.1 p hp
    exact ⟨o, h1, by simpa using h2⟩
  · have h1 := h.2 i (List.getElem?_eq_some_iff.1 ho).1
    simp only [ho, Bool.and_eq_true, List.all_eq_true, List.mem_range] at h1
    obtain ⟨⟨h1, h2⟩, h3⟩ := h1
    refine ⟨by simpa using h1, fun e he hb => ?_, fun j p d hp hd hl => ?_⟩
    · have := h2 e (by simpa using he)
      simpa [hb] using this
    · have := h3 j (List.getElem?_eq_some_iff.1 hp).1
      simp only [hp, hd, Bool.or_eq_true, Bool.not_eq_true', List.any_eq_true, Bool.and_eq_true, beq_iff_eq] at this
      rcases this with h | ⟨e, he, hb, hj⟩
      · simp [hl] at h
      · exact ⟨e, by simpa using he, hb, hj⟩
/-- The operations that turn something, of those that it waits for. -/
def depE (all : List Oper) (o : Oper) : List Nat := o.after.toList.filterMap fun e => bif Region.binds .any e && (match all[e.on]? with | some p => effB p | none => false) then some e.on else none
def impL : List Nat → List Bool → Prop → Prop
  | [], _, R => R
  | j :: js, l, R => l.getD j false = true → impL js l R
theorem impL_elim : ∀ {js : List Nat} {l : List Bool} {R : Prop}, impL js l R → (∀ j ∈ js, l.getD j false = true) → R
  | [], _, _, h, _ => h
  | j :: js, l, R, h, hj => impL_elim (h (hj j List.mem_cons_self)) fun k hk => hj k (List.mem_cons_of_mem _ hk)
def iAll (P : Program) (all : List Oper) (A : LA) (s : TS A) (Inv : List Bool → World → Prop) (F : List AV) : List Oper → Nat → Prop → Prop
  | [], _, R => R
  | o :: l, i, R => (∀ (listed : List Bool) (w : World), listed.getD i true = false → impL (depE all o) listed (Inv listed w → opVC P F o (fun v w' => match o.dst with | some d => asT A s d v ∧ Inv (listed.set i true) w' | none => Inv (listed.set i true) w') w)) ∧ iAll P all A s Inv F l (i + 1) R
theorem iAll_elim {P : Program} {all : List Oper} {A : LA} {s : TS A} {Inv : List Bool → World → Prop} {F : List AV} {R : Prop} : ∀ {l : List Oper} {i : Nat}, iAll P all A s Inv F l i R →
    (∀ j o, l[j]? = some o → ∀ (listed : List Bool) (w : World), listed.getD (i + j) true = false → (∀ k ∈ depE all o, listed.getD k false = true) → Inv listed w → opVC P F o (fun v w' => match o.dst with | some d => asT A s d v ∧ Inv (listed.set (i + j) true) w' | none => Inv (listed.set (i + j) true) w') w) ∧ R
  | [], _, h => ⟨fun j o ho => by simp at ho, h⟩
  | o :: l, i, h => by
    obtain ⟨h1, h2⟩ := iAll_elim (l := l) h.2
    refine ⟨fun j o' ho => ?_, h2⟩
    cases j with
    | zero =>
      obtain rfl : o = o' := by simpa using ho
      exact fun listed w h1 h2 => impL_elim (h.1 listed w h1) h2
    | succ j =>
      have := h1 j o' (by simpa using ho)
      rw [show i + (j + 1) = i + 1 + j from by omega]
      exact this
def iVC (P : Program) (all : List Oper) (A : LA) (Q : List AV → World → Prop) (E : List AV) (w : World) : Prop :=
  ∃ (s : TS A) (Inv : List Bool → World → Prop), Inv (List.replicate all.length false) w ∧ iAll P all A s Inv (setT A s E) all 0 (∀ w', Inv (List.replicate all.length true) w' → Q (setT A s E) w')
theorem put_eq {a b : Act} {d : Option Tmp} {u v : Value} (hs : a.tmps.size = b.tmps.size) (h : a.put d u = a.put d v) : b.put d u = b.put d v := by
  cases d with
  | none => rfl
  | some d =>
    simp only [Act.put, Act.mk.injEq, and_true] at h ⊢
    rcases Nat.lt_or_ge d a.tmps.size with h1 | h1
    · have h2 := congrArg (fun t => t[d]?) h
      simp only [Array.getElem?_setIfInBounds, if_true, h1] at h2
      rw [Option.some.inj h2]
    · rw [Array.setIfInBounds_eq_of_size_le (by omega), Array.setIfInBounds_eq_of_size_le (by omega)]
theorem wp_tr {P : Program} {o : Oper} {a b : Act} {w : World} {K : AV → World → Prop} (he : execOp b.eval o = execOp a.eval o) (hs : a.tmps.size = b.tmps.size)
    (h : o.wp P a w (fun a' w' => ∃ v : AV, a' = a.put o.dst v.val ∧ K v w') (fun _ _ _ => False)) {Q : Exit → Act → World → Prop} : o.wp P b w (fun b' w' => ∃ v : AV, b' = b.put o.dst v.val ∧ K v w') Q := by
  unfold Oper.wp at *
  rw [he]
  generalize (execOp a.eval o).run P w = r at *
  cases r with
  | ok n w' =>
    cases n <;> simp only [Oper.upon] at h ⊢
    case value u => obtain ⟨v, h1, h2⟩ := h; exact ⟨v, put_eq hs h1, h2⟩
    case skip => obtain ⟨v, h1, h2⟩ := h; exact ⟨v, put_eq hs h1, h2⟩
    case defer d =>
      obtain ⟨v, h1, _⟩ := h
      have h3 := congrArg Act.defers h1
      have h4 : ∀ (x : Act) (e : Option Tmp) (y : Value), (x.put e y).defers = x.defers := fun x e y => by cases e <;> rfl
      rw [h4, h4] at h3
      have := congrArg List.length h3
      simp at this
    case enter f args =>
      refine Calls.mono h fun e w'' hh => ?_
      cases e with
      | returned u => obtain ⟨v, h1, h2⟩ := hh; exact ⟨v, put_eq hs h1, h2⟩
      | panicked c => exact hh.elim
      | outgrown => obtain ⟨_, _, hh⟩ := hh; exact hh.elim
    case row row args => exact Rows.mono h fun u w'' ⟨v, h1, h2⟩ => ⟨v, put_eq hs h1, h2⟩
  | halt x w' => cases x <;> simp only [Oper.upon] at h
theorem count_set {i : Nat} : ∀ {l : List Bool} {k : Nat}, l.getD i true = false → l.count false ≤ k + 1 → (l.set i true).count false ≤ k := by
  intro l
  induction l generalizing i with
  | nil => intro k h _; cases i <;> simp at h
  | cons b l ih =>
    intro k h hc
    cases i with
    | zero =>
      have hb : b = false := by simpa using h
      subst hb
      rw [List.set_cons_zero, List.count_cons_of_ne (by decide)]
      rw [List.count_cons_self] at hc
      omega
    | succ i =>
      rw [List.set_cons_succ]
      cases b with
      | true =>
        rw [List.count_cons_of_ne (by decide)] at hc ⊢
        exact ih (by simpa using h) hc
      | false =>
        rw [List.count_cons_self] at hc ⊢
        have h' : l.getD i true = false := by simpa using h
        cases k with
        | zero =>
          have h0 : l.count false = 0 := by omega
          have := List.count_eq_zero.1 h0
          have hm : false ∈ l := by
            rw [List.getD_eq_getElem?_getD] at h'
            cases hh : l[i]? with
            | none => rw [hh] at h'; cases h'
            | some b => rw [hh] at h'; have hb : b = false := h'; subst hb; exact List.mem_of_getElem? hh
          exact absurd hm this
        | succ k => have := ih h' (k := k) (by omega); omega
theorem all_listed : ∀ {l : List Bool}, l.count false = 0 → l = List.replicate l.length true
  | [], _ => rfl
  | true :: l, h => by rw [List.count_cons_of_ne (by decide)] at h; rw [List.length_cons, List.replicate_succ, ← all_listed h]
  | false :: l, h => by rw [List.count_cons_self] at h; omega
theorem i_sound {P : Program} {all : List Oper} {A : LA} {s : TS A} {Inv : List Bool → World → Prop} {E0 : List AV} (hcall : ∀ o ∈ all, ∀ f ∈ opFns o, callable P f = true) (hsel : Region.noSelect all.toArray = true) (hok : iOK A all = true)
    (hall : ∀ j o, all[j]? = some o → ∀ (listed : List Bool) (w : World), listed.getD j true = false → (∀ k ∈ depE all o, listed.getD k false = true) → Inv listed w → opVC P (setT A s E0) o (fun v w' => match o.dst with | some d => asT A s d v ∧ Inv (listed.set j true) w' | none => Inv (listed.set j true) w') w)
    {Q' : Exit → Act → World → Prop} (hfin : ∀ w, Inv (List.replicate all.length true) w → Q' .normal (actsD dfs (setT A s E0)) w) :
    ∀ {fuel : Nat} {listed : List Bool} {E : List AV} {w : World}, listed.length = all.length → listed.count false ≤ fuel → E.length = E0.length →
      (∀ d, E.getD d (.v undef) = (setT A s E0).getD d (.v undef) ∨ ∃ j o, all[j]? = some o ∧ listed.getD j true = false ∧ o.dst = some d) → Inv listed w →
      wpAny P .any all.toArray Q' fuel listed.toArray (actsD dfs E) w := by
  obtain ⟨_, hspec⟩ := iOK_spec hok
  have gdA : ∀ (l : List Bool) (j : Nat) (b : Bool), l.toArray.getD j b = l.getD j b := fun l j b => by simp
  have done : ∀ {listed : List Bool} {E : List AV} {w : World}, listed.length = all.length → listed.count false = 0 → E.length = E0.length →
      (∀ d, E.getD d (.v undef) = (setT A s E0).getD d (.v undef) ∨ ∃ j o, all[j]? = some o ∧ listed.getD j true = false ∧ o.dst = some d) → Inv listed w → Q' .normal (actsD dfs E) w := fun {listed E w} hl hc hE hd hI => by
    have h1 := all_listed hc
    rw [hl] at h1
    have h2 : E = setT A s E0 := ext_getD (by rw [setT_length, hE]) fun d _ => by
      rcases hd d with h | ⟨j, o, _, h, _⟩
      · exact h
      · rw [h1, List.getD_eq_getElem?_getD, List.getElem?_replicate] at h
        split at h <;> cases h
    rw [h2]
    exact hfin w (h1 ▸ hI)
  have least : ∀ {listed : List Bool}, listed.length = all.length → Region.ready .any all.toArray listed.toArray = [] → listed.count false = 0 := fun {listed} hl hr => by
    refine List.count_eq_zero.2 fun hm => ?_
    have key : ∀ j, j < listed.length → listed.getD j true = true := by
      intro j
      induction j using Nat.strongRecOn with
      | _ j ih =>
        intro hj
        cases hb : listed.getD j true with
        | true => rfl
        | false =>
          have hj' : j < all.length := by omega
          have : j ∈ Region.ready .any all.toArray listed.toArray := mem_ready.2 ⟨by rw [gdA]; exact hb, all[j], by simp [hj'], fun e he hbi => by
            have h1 := (hspec j all[j] (by simp [hj'])).2.1 e he hbi
            have h2 := ih e.on h1 (by omega)
            rw [gdA, List.getD_eq_getElem?_getD]
            rw [List.getD_eq_getElem?_getD] at h2
            rw [List.getElem?_eq_getElem (by omega)] at h2 ⊢
            exact h2⟩
          rw [hr] at this
          cases this
    obtain ⟨j, hj, h⟩ := List.getElem_of_mem hm
    have := key j hj
    rw [List.getD_eq_getElem?_getD, List.getElem?_eq_getElem hj, h] at this
    cases this
  intro fuel
  induction fuel with
  | zero =>
    intro listed E w hl hc hE hd hI
    refine ⟨?_, done hl (by omega) hE hd hI⟩
    rw [List.eq_nil_iff_forall_not_mem]
    intro j hj
    have h1 := (mem_ready.1 hj).1
    rw [gdA] at h1
    have := count_set h1 (k := 0) (by omega)
    have h0 : listed.count false = 0 := by omega
    have h2 := all_listed h0
    rw [h2, List.getD_eq_getElem?_getD, List.getElem?_replicate] at h1
    split at h1 <;> cases h1
  | succ fuel ih =>
    intro listed E w hl hc hE hd hI
    refine ⟨fun hr => done hl (least hl hr) hE hd hI, fun i hi => ?_⟩
    obtain ⟨h1, o, ho, hdep⟩ := mem_ready.1 hi
    rw [gdA] at h1
    have ho' : all[i]? = some o := by simpa using ho
    obtain ⟨hg, _, hlook⟩ := hspec i o ho'
    unfold wpOp
    simp only [ho]
    rw [if_pos (by simp [Region.wanted, hg])]
    left
    have hop := hall i o ho' listed w h1 (fun k hk => by
      simp only [depE, List.mem_filterMap] at hk
      obtain ⟨e, he, hk⟩ := hk
      cases hb : (Region.binds .any e && (match all[e.on]? with | some p => effB p | none => false)) with
      | false => rw [hb, cond_false] at hk; cases hk
      | true =>
        rw [hb, cond_true] at hk
        rw [Bool.and_eq_true] at hb
        rw [← Option.some.inj hk, ← gdA]
        exact hdep e (by simpa using he) hb.1) hI
    have hwp := op_sound (dfs := dfs) (next := fun a' w' => ∃ v : AV, a' = (actsD dfs (setT A s E0)).put o.dst v.val ∧ (match o.dst with | some d => asT A s d v ∧ Inv (listed.set i true) w' | none => Inv (listed.set i true) w')) (Q := fun _ _ _ => False)
      (hcall o (List.mem_of_getElem? ho')) hop fun v w' hk => ⟨v, rfl, hk⟩
    have hev : execOp (actsD dfs E).eval o = execOp (actsD dfs (setT A s E0)).eval o := by
      refine execOp_congr o (Region.noSelect_spec hsel i o · · ho) fun x hx => ?_
      rw [acts_eval, acts_eval]
      cases x with
      | tmp d =>
        rcases hd d with h | ⟨j, p, hp, hun, hdst⟩
        · show (E.getD d (.v undef)).val = _
          rw [h]; rfl
        · obtain ⟨e, he, hb, hj⟩ := hlook j p d hp hdst (List.mem_append_left _ (List.mem_filterMap.2 ⟨.tmp d, by simpa using hx, rfl⟩))
          have h2 := hdep e he hb
          rw [hj, gdA] at h2
          rw [List.getD_eq_getElem?_getD] at h2 hun
          cases hh : listed[j]? with
          | none => rw [hh] at h2; cases h2
          | some b => rw [hh] at h2 hun; have e1 : b = true := h2; have e2 : b = false := hun; rw [e1] at e2; cases e2
      | _ => rfl
    refine Oper.wp_mono ?_ (wp_tr hev (by simp [actsD, setT_length, hE]) hwp)
    rintro _ w' ⟨v, rfl, hk⟩
    rw [acts_put, show listed.toArray.setIfInBounds i true = (listed.set i true).toArray from by simp]
    have hi' : Inv (listed.set i true) w' := by
      cases hdst : o.dst with
      | none => rw [hdst] at hk; exact hk
      | some d => rw [hdst] at hk; exact hk.2
    refine ih (by rw [List.length_set]; exact hl) (count_set h1 hc) (by rw [putE_length]; exact hE) (fun d => ?_) hi'
    by_cases hdd : o.dst = some d
    · left
      rw [hdd] at hk
      rw [hdd, putE, List.getD_eq_getElem?_getD, List.getElem?_set, if_pos rfl]
      by_cases hlt : d < E.length
      · rw [if_pos hlt, asT_eq hk.1 (E := E0) (by omega)]
        rfl
      · rw [if_neg hlt, List.getD_eq_getElem?_getD, List.getElem?_eq_none (by rw [setT_length]; omega)]
    · rw [putE_getD hdd]
      rcases hd d with h | ⟨j, p, hp, hun, hdst⟩
      · exact .inl h
      · by_cases hji : j = i
        · subst hji
          rw [ho'] at hp
          obtain rfl := Option.some.inj hp
          exact absurd hdst hdd
        · refine .inr ⟨j, p, hp, ?_, hdst⟩
          rw [List.getD_eq_getElem?_getD, List.getElem?_set, if_neg (Ne.symm hji), ← List.getD_eq_getElem?_getD]
          exact hun

def lp {α : Type} (init : (α → Prop) → Prop) (w : World) (body : (Nat → AV) → (α → World → Prop) → α → World → Prop) : Prop :=
  ∃ (J : α → World → Prop) (μ : α → World → Nat), init (fun s => J s w) ∧ ∀ D s w', J s w' → body D (fun s' w'' => J s' w'' ∧ μ s' w'' < μ s w') s w'

/-- What follows, by a word of one's own between. -/
def jn {α : Type} (body : (Nat → AV) → α → World → Prop) (k : (α → World → Prop) → Prop) : Prop := ∃ J : α → World → Prop, (∀ D s w', J s w' → body D s w') ∧ k J

def firstReg : Code → Option Nat
  | .region id _ _ => some id
  | .seq a b => (firstReg a).or (firstReg b)
  | .cond _ a b => (firstReg a).or (firstReg b)
  | .block _ c => firstReg c
  | .loop c => firstReg c
  | _ => none
def dsts : Code → List Nat
  | .region _ ops _ => ops.toList.filterMap (·.dst)
  | .seq a b => dsts a ++ dsts b
  | .cond _ a b => dsts a ++ dsts b
  | .block _ c => dsts c
  | .loop c => dsts c
  | _ => []
def codeFns : Code → List FuncId
  | .region _ ops _ => ops.toList.flatMap opFns
  | .seq a b => codeFns a ++ codeFns b
  | .cond _ a b => codeFns a ++ codeFns b
  | .block _ c => codeFns c
  | .loop c => codeFns c
  | _ => []

/-- Behind some draws. -/
def dr (w : World) (K : World → Prop) : Prop := ∀ n, K (w.drewN n)

/-- What code asks. -/
def vc (P : Program) (an : Nat → LA) : Code → (Exit → List AV → World → Prop) → List AV → World → Prop
  | .skip, Q, E, w => Q .normal E w
  | .region _ ops false, Q, E, w => opsVC P ops.toList (fun E' w' => Q .normal E' w') ops.toList E w
  | .region id ops true, Q, E, w => bif (an (1000000 + id)).isEmpty then (bif P.follows .mixedOrders && Region.lexB .any ops then qVC P ops.toList (fun E' => dr w fun w' => Q .normal E' w') ops.toList E w else False)
    else bif (an (5000000 + id)).isEmpty then bif (an (6000000 + id)).isEmpty then (bif P.follows .mixedOrders && Region.noSelect ops then dr w fun w1 => bif (an (4000000 + id)).isEmpty then rVC P ops.toList (fun E' w' => Q .normal E' w') ops.toList.length (List.replicate ops.toList.length false) E w1
      else aVC P ops.toList (fun E' w' => Q .normal E' w') ops.toList.length (List.replicate ops.toList.length false) E w1 else False)
    else (bif P.follows .mixedOrders && Region.noSelect ops then dr w fun w1 => ∃ X : Nat → Prop, xVC P ops.toList X (fun E' w' => Q .normal E' w') ops.toList.length (List.replicate ops.toList.length false) E w1 else False)
    else (bif P.follows .mixedOrders && Region.noSelect ops && iOK (an (5000000 + id)).tail ops.toList then dr w fun w1 => iVC P ops.toList (an (5000000 + id)).tail (fun E' w' => Q .normal E' w') E w1 else False)
  | .seq a b, Q, E, w => bif (an (2000000 + (firstReg b).getD 0)).isEmpty then vc P an a (fun e E' w' => match e with | .normal => vc P an b Q E' w' | .exit i => Q (.exit i) E' w' | .ret => Q .ret E' w' | _ => False) E w
    else jn (α := TS (an (2000000 + (firstReg b).getD 0)).tail) (fun D s w' => vc P an b Q (outT (an (2000000 + (firstReg b).getD 0)).tail s (dsts a) (hav D (dsts a) E)) w')
      fun J => vc P an a (fun e E' w' => match e with | .normal => inT (an (2000000 + (firstReg b).getD 0)).tail E' (fun s => J s w') | .exit i => Q (.exit i) E' w' | .ret => Q .ret E' w' | _ => False) E w
  | .cond c x y, Q, E, w => match rd E c with
    | .v (.bool b) => bif b then vc P an x Q E w else vc P an y Q E w
    | _ => False
  | .block id c, Q, E, w => vc P an c (fun e E' w' => match e with | .normal => Q .normal E' w' | .exit i => (bif i == id then Q .normal E' w' else Q (.exit i) E' w') | .ret => Q .ret E' w' | _ => False) E w
  | .exit i, Q, E, w => Q (.exit i) E w
  | .ret, Q, E, w => Q .ret E w
  | .loop c, Q, E, w =>
    lp (α := TS (an ((firstReg c).getD 0))) (inT (an ((firstReg c).getD 0)) E) w fun D J s w' =>
      vc P an c (fun e E' w'' => match e with | .normal => inT (an ((firstReg c).getD 0)) E' (fun s' => J s' w'') | .exit i => Q (.exit i) E' w'' | .ret => Q .ret E' w'' | _ => False)
        (outT (an ((firstReg c).getD 0)) s (dsts c) (hav D (dsts c) E)) w'
  | _, _, _, _ => False

def Sim (ds : List Nat) (E E' : List AV) : Prop := E'.length = E.length ∧ ∀ d, d ∉ ds → E'.getD d (.v undef) = E.getD d (.v undef)
theorem Sim.refl (ds : List Nat) (E : List AV) : Sim ds E E := ⟨rfl, fun _ _ => rfl⟩
theorem Sim.trans {ds es fs : List Nat} {E F G : List AV} (h : Sim ds E F) (k : Sim es F G) (h1 : ∀ d ∈ ds, d ∈ fs) (h2 : ∀ d ∈ es, d ∈ fs) : Sim fs E G :=
  ⟨k.1.trans h.1, fun d hd => (k.2 d fun hm => hd (h2 d hm)).trans (h.2 d fun hm => hd (h1 d hm))⟩
theorem Sim.mono {ds fs : List Nat} {E F : List AV} (h : Sim ds E F) (h1 : ∀ d ∈ ds, d ∈ fs) : Sim fs E F := ⟨h.1, fun d hd => h.2 d fun hm => hd (h1 d hm)⟩

theorem hav_sim {D : Nat → AV} : ∀ {ds : List Nat} {E : List AV}, Sim ds E (hav D ds E)
  | [], E => Sim.refl _ _
  | d :: ds, E => by
    have h := hav_sim (D := D) (ds := ds) (E := E.set d (D d))
    refine ⟨h.1.trans (by simp), fun i hi => (h.2 i fun hm => hi (List.mem_cons_of_mem _ hm)).trans ?_⟩
    have hne : d ≠ i := fun e => hi (e ▸ List.mem_cons_self ..)
    simp [List.getD_eq_getElem?_getD, hne]
theorem hav_at {D : Nat → AV} : ∀ {ds : List Nat} {E : List AV} {d : Nat}, d ∈ ds → d < E.length → (hav D ds E).getD d (.v undef) = D d
  | e :: ds, E, d, h, hl => by
    by_cases hm : d ∈ ds
    · exact hav_at (ds := ds) hm (by simpa using hl)
    · have hde : d = e := (List.mem_cons.1 h).resolve_right hm
      subst hde
      have := (hav_sim (D := D) (ds := ds) (E := E.set d (D d))).2 d hm
      rw [show hav D (d :: ds) E = hav D ds (E.set d (D d)) from rfl, this]
      simp [List.getD_eq_getElem?_getD, hl]
theorem outT_sim : ∀ {A : LA} {s : TS A} {ds : List Nat} {E : List AV}, Sim ds E (outT A s ds E)
  | [], _, _, _ => Sim.refl _ _
  | (d, k) :: A, s, ds, E => by
    have h := outT_sim (A := A) (s := s.2) (ds := ds) (E := bif ds.contains d then E.set d (k.av s.1) else E)
    refine Sim.trans (ds := ds) ?_ h (fun _ h => h) (fun _ h => h)
    cases hc : ds.contains d with
    | false => exact Sim.refl _ _
    | true =>
      refine ⟨by simp, fun i hi => ?_⟩
      have hne : d ≠ i := fun e => hi (by rw [← e]; simpa using hc)
      simp [List.getD_eq_getElem?_getD, hne]

/-- Slots that read as a state says are what the state lays. -/
theorem inT_out : ∀ {A : LA} {F : List AV} {K : TS A → Prop}, inT A F K → ∃ s, K s ∧ ∀ {ds : List Nat} {G : List AV}, Sim ds G F → (∀ d, d ∈ ds → (∀ p ∈ A, p.1 ≠ d) → G.getD d (.v undef) = F.getD d (.v undef)) → outT A s ds G = F
  | [], F, K, h => ⟨(), h, fun {ds G} hG hd => ext_getD hG.1.symm fun d _ => by
      by_cases hm : d ∈ ds
      · exact hd d hm (fun p hp => by cases hp)
      · exact (hG.2 d hm).symm⟩
  | (d, k) :: A, F, K, h => by
    obtain ⟨x, hx, hK⟩ := unav_elim h
    obtain ⟨s, hs, ho⟩ := inT_out hK
    refine ⟨(x, s), hs, fun {ds G} hG hd => ?_⟩
    show outT A s ds (bif ds.contains d then G.set d (k.av x) else G) = F
    refine ho ?_ ?_
    · cases hc : ds.contains d with
      | false => exact hG
      | true => 
        refine ⟨by simpa using hG.1, fun i hi => ?_⟩
        have hne : d ≠ i := fun e => hi (by rw [← e]; simpa using hc)
        rw [cond_true]
        rw [show (G.set d (k.av x)).getD i (.v undef) = G.getD i (.v undef) from by simp [List.getD_eq_getElem?_getD, hne]]
        exact hG.2 i hi
    · intro i hi hA
      cases hc : ds.contains d with
      | false =>
        have hne : d ≠ i := fun e => by rw [e] at hc; simp [hi] at hc
        exact hd i hi fun p hp => by
          rcases List.mem_cons.1 hp with rfl | hp
          · exact hne
          · exact hA p hp
      | true =>
        rw [cond_true]
        by_cases e : d = i
        · subst e
          by_cases hl : d < G.length
          · rw [hx]; simp [List.getD_eq_getElem?_getD, hl]
          · rw [List.getD_eq_getElem?_getD, List.getD_eq_getElem?_getD, List.getElem?_eq_none (by simp; omega), List.getElem?_eq_none (by have := hG.1; omega)]
        · rw [show (G.set d (k.av x)).getD i (.v undef) = G.getD i (.v undef) from by simp [List.getD_eq_getElem?_getD, e]]
          exact hd i hi fun p hp => by
            rcases List.mem_cons.1 hp with rfl | hp
            · exact e
            · exact hA p hp

theorem ent_of {A : LA} {ds : List Nat} {E F : List AV} {K : TS A → Prop} (hF : Sim ds E F) (h : inT A F K) : ∃ s, K s ∧ outT A s ds (hav (fun d => F.getD d (.v undef)) ds E) = F := by
  obtain ⟨s, hs, ho⟩ := inT_out h
  refine ⟨s, hs, ho ?_ ?_⟩
  · have h1 := hav_sim (D := fun d => F.getD d (.v undef)) (ds := ds) (E := E)
    exact ⟨hF.1.trans h1.1.symm, fun d hd => (hF.2 d hd).trans (h1.2 d hd).symm⟩
  · intro d hd _
    by_cases hl : d < E.length
    · exact hav_at hd hl
    · have h1 := hav_sim (D := fun d => F.getD d (.v undef)) (ds := ds) (E := E)
      rw [List.getD_eq_getElem?_getD, List.getD_eq_getElem?_getD, List.getElem?_eq_none (by have := h1.1; omega), List.getElem?_eq_none (by have := hF.1; omega)]

theorem code_sound {P : Program} {an : Nat → LA} : ∀ {c : Code} {Q : Exit → List AV → World → Prop} {E : List AV} {w : World}, (∀ f ∈ codeFns c, callable P f = true) → vc P an c Q E w →
    c.wp P (fun e a w' => ∃ E', a = actsD dfs E' ∧ Sim (dsts c) E E' ∧ Q e E' w') (actsD dfs E) w := by
  intro c
  induction c with
  | skip => exact fun _ h => wp_skip ⟨_, rfl, Sim.refl _ _, h⟩
  | region id ops draw =>
    intro Q E w hc h
    obtain ⟨ops⟩ := ops
    have hc' : ∀ o ∈ ops, ∀ f ∈ opFns o, callable P f = true := fun o ho f hf => hc f (List.mem_flatMap.2 ⟨o, ho, hf⟩)
    have hS : ∀ {E'}, E'.length = E.length → (∀ d, (∀ o ∈ ops, o.dst ≠ some d) → E'.getD d (.v undef) = E.getD d (.v undef)) → Sim (dsts (.region id ⟨ops⟩ draw)) E E' := fun hl hd =>
      ⟨hl, fun d hm => hd d fun o ho e => hm (List.mem_filterMap.2 ⟨o, ho, e⟩)⟩
    cases draw with
    | false => exact wp_region_lit (ops_sound hc' h fun E' w' hl hd hQ => ⟨E', rfl, hS hl hd, hQ⟩)
    | true =>
      simp only [vc] at h
      cases hflag : (an (1000000 + id)).isEmpty with
      | true =>
        rw [hflag, cond_true, Bool.cond_eq_ite] at h
        split at h
        · rename_i hb
          simp only [Bool.and_eq_true] at hb
          exact wp_region_quiet_lit hb.1 hb.2 (q_sound hc' h fun E' hl hd hQ w' ⟨n, hn⟩ => ⟨E', rfl, hS hl hd, hn ▸ hQ n⟩)
        · exact h.elim
      | false =>
       rw [hflag, cond_false] at h
       cases hfive : (an (5000000 + id)).isEmpty with
       | false =>
        rw [hfive, cond_false, Bool.cond_eq_ite] at h
        split at h
        · rename_i hb
          simp only [Bool.and_eq_true] at hb
          obtain ⟨s, Inv, h0, h⟩ := h 1
          obtain ⟨hall, hfin⟩ := iAll_elim h
          have hkeys := (iOK_spec hb.2).1
          refine wp_region_any hb.1.1 ?_
          have := i_sound (dfs := dfs) (listed := List.replicate ops.length false) (fuel := ops.length) (E := E) (Q' := fun e a' w' => ∃ E', a' = actsD dfs E' ∧ Sim (dsts (.region id ⟨ops⟩ true)) E E' ∧ Q e E' w') hc' hb.1.2 hb.2 (fun j o ho listed w hl hd hi => by have := hall j o ho; rw [Nat.zero_add] at this; exact this listed w hl hd hi)
            (fun w' hi => ⟨_, rfl, hS setT_length fun d hd => setT_other fun p hp e => by obtain ⟨o, ho, hod⟩ := hkeys p hp; exact hd o ho (e ▸ hod), hfin w' hi⟩) (by simp) (by simp [List.count_replicate]) rfl (fun d => ?_) h0
          · rw [List.toArray_replicate] at this
            exact this
          · by_cases hd : ∃ o ∈ ops, o.dst = some d
            · obtain ⟨o, ho, hod⟩ := hd
              obtain ⟨j, hj, hjo⟩ := List.getElem_of_mem ho
              exact .inr ⟨j, o, by rw [List.getElem?_eq_getElem hj, hjo], by rw [List.getD_eq_getElem?_getD, List.getElem?_replicate, if_pos hj]; rfl, hod⟩
            · left
              rw [setT_other fun p hp e => ?_]
              obtain ⟨o, ho, hod⟩ := hkeys p hp
              exact hd ⟨o, ho, e ▸ hod⟩
        · exact h.elim
       | true =>
        rw [hfive, cond_true] at h
        cases hsix : (an (6000000 + id)).isEmpty with
        | false =>
         rw [hsix, cond_false, Bool.cond_eq_ite] at h
         split at h
         · rename_i hb
           simp only [Bool.and_eq_true] at hb
           obtain ⟨X, h⟩ := h 1
           refine wp_region_any hb.1 (wpAny_of_X (X := X) (lst := lastB P ops) (Q := fun a' w' => ∃ E', a' = actsD dfs E' ∧ Sim (dsts (.region id ⟨ops⟩ true)) E E' ∧ Q .normal E' w') (fun _ _ h => h) ?_)
           have := x_sound (dfs := dfs) hc' hb.2 (listed := List.replicate ops.length false) (Q' := fun a' w' => ∃ E', a' = actsD dfs E' ∧ Sim (dsts (.region id ⟨ops⟩ true)) E E' ∧ Q .normal E' w') (fun k o _ hl => absurd hl (by simp [Array.getElem?_replicate]; split <;> rfl)) h fun E' w' hl hd hQ => ⟨E', rfl, hS hl hd, hQ⟩
           rw [List.toArray_replicate] at this
           exact this
         · exact h.elim
        | true =>
        rw [hsix, cond_true, Bool.cond_eq_ite] at h
        split at h
        · rename_i hb
          simp only [Bool.and_eq_true] at hb
          cases hfull : (an (4000000 + id)).isEmpty with
          | true =>
            have h := h 1
            rw [hfull, cond_true] at h
            refine wp_region_any hb.1 (wpAny_of_F (lst := lastB P ops) (Q := fun a' w' => ∃ E', a' = actsD dfs E' ∧ Sim (dsts (.region id ⟨ops⟩ true)) E E' ∧ Q .normal E' w') (fun _ _ h => h) ?_)
            have := r_sound hc' hb.2 (listed := List.replicate ops.length false) (Q' := fun a' w' => ∃ E', a' = actsD dfs E' ∧ Sim (dsts (.region id ⟨ops⟩ true)) E E' ∧ Q .normal E' w') (fun k o _ hl => absurd hl (by simp [Array.getElem?_replicate]; split <;> rfl)) h fun E' w' hl hd hQ => ⟨E', rfl, hS hl hd, hQ⟩
            rw [List.toArray_replicate] at this
            exact this
          | false =>
            have h := h 1
            rw [hfull, cond_false] at h
            refine wp_region_any hb.1 (wpAny_of_F (lst := fun _ => true) (Q := fun a' w' => ∃ E', a' = actsD dfs E' ∧ Sim (dsts (.region id ⟨ops⟩ true)) E E' ∧ Q .normal E' w') (fun _ _ h => h) ?_)
            have := a_sound hc' hb.2 (listed := List.replicate ops.length false) (Q' := fun a' w' => ∃ E', a' = actsD dfs E' ∧ Sim (dsts (.region id ⟨ops⟩ true)) E E' ∧ Q .normal E' w') (fun k o _ hl => absurd hl (by simp [Array.getElem?_replicate]; split <;> rfl)) h fun E' w' hl hd hQ => ⟨E', rfl, hS hl hd, hQ⟩
            rw [List.toArray_replicate] at this
            exact this
        · exact h.elim
  | seq a b iha ihb =>
    intro Q E w hc h
    have L : ∀ d ∈ dsts a, d ∈ dsts (.seq a b) := fun d hd => List.mem_append_left _ hd
    have R : ∀ d ∈ dsts b, d ∈ dsts (.seq a b) := fun d hd => List.mem_append_right _ hd
    simp only [vc] at h
    cases hflag : (an (2000000 + (firstReg b).getD 0)).isEmpty with
    | true =>
      rw [hflag, cond_true] at h
      refine wp_seq (Code.wp_mono ?_ (iha (fun f hf => hc f (List.mem_append_left _ hf)) h))
      rintro e a' w' ⟨E', rfl, hs, hq⟩
      cases e with
      | normal =>
        refine Code.wp_mono ?_ (ihb (fun f hf => hc f (List.mem_append_right _ hf)) hq)
        rintro e a' w' ⟨E'', rfl, hs', hq'⟩
        exact ⟨E'', rfl, hs.trans hs' L R, hq'⟩
      | exit i => exact ⟨E', rfl, hs.mono L, hq⟩
      | ret => exact ⟨E', rfl, hs.mono L, hq⟩
      | _ => exact hq.elim
    | false =>
      rw [hflag, cond_false] at h
      obtain ⟨J, hJ, h⟩ := h
      refine wp_seq (Code.wp_mono ?_ (iha (fun f hf => hc f (List.mem_append_left _ hf)) h))
      rintro e a' w' ⟨E', rfl, hs, hq⟩
      cases e with
      | normal =>
        obtain ⟨s, hJs, he⟩ := ent_of hs hq
        have hb : vc P an b Q (outT (an (2000000 + (firstReg b).getD 0)).tail s (dsts a) (hav (fun d => E'.getD d (.v undef)) (dsts a) E)) w' := hJ (fun d => E'.getD d (.v undef)) s w' hJs
        rw [he] at hb
        refine Code.wp_mono ?_ (ihb (fun f hf => hc f (List.mem_append_right _ hf)) hb)
        rintro e a' w' ⟨E'', rfl, hs', hq'⟩
        exact ⟨E'', rfl, hs.trans hs' L R, hq'⟩
      | exit i => exact ⟨E', rfl, hs.mono L, hq⟩
      | ret => exact ⟨E', rfl, hs.mono L, hq⟩
      | _ => exact hq.elim
  | cond c x y ihx ihy =>
    intro Q E w hc h
    simp only [vc] at h
    split at h
    · rename_i b hb
      have hev : (actsD dfs E).eval c = .bool b := by rw [acts_eval, hb]; rfl
      cases b with
      | true =>
        refine wp_cond_true hev (Code.wp_mono ?_ (ihx (fun f hf => hc f (List.mem_append_left _ hf)) h))
        rintro e a' w' ⟨E', rfl, hs, hq⟩
        exact ⟨E', rfl, hs.mono fun d hd => List.mem_append_left _ hd, hq⟩
      | false =>
        refine wp_cond_false hev (Code.wp_mono ?_ (ihy (fun f hf => hc f (List.mem_append_right _ hf)) h))
        rintro e a' w' ⟨E', rfl, hs, hq⟩
        exact ⟨E', rfl, hs.mono fun d hd => List.mem_append_right _ hd, hq⟩
    · exact h.elim
  | block id c ih =>
    intro Q E w hc h
    refine wp_block (Code.wp_mono ?_ (ih hc h))
    rintro e a' w' ⟨E', rfl, hs, hq⟩
    cases e with
    | normal => exact ⟨E', rfl, hs, hq⟩
    | exit i =>
      simp only [Exit.inBlock]
      by_cases hi : i = id
      · subst hi
        rw [if_pos rfl]
        simp only [beq_self_eq_true, cond_true] at hq
        exact ⟨E', rfl, hs, hq⟩
      · rw [if_neg hi]
        dsimp only at hq
        rw [show (i == id) = false from by simpa using hi] at hq
        exact ⟨E', rfl, hs, hq⟩
    | ret => exact ⟨E', rfl, hs, hq⟩
    | _ => exact hq.elim
  | exit i => exact fun _ h => wp_exit ⟨_, rfl, Sim.refl _ _, h⟩
  | ret => exact fun _ h => wp_ret ⟨_, rfl, Sim.refl _ _, h⟩
  | loop c ih =>
    intro Q E w hc h
    obtain ⟨J, μ, h0, hstep⟩ := h
    have body : ∀ D s w', J s w' → c.wp P (fun e a w'' => ∃ E', a = actsD dfs E' ∧ Sim (dsts c) (outT (an ((firstReg c).getD 0)) s (dsts c) (hav D (dsts c) E)) E' ∧
        (match e with | .normal => inT (an ((firstReg c).getD 0)) E' (fun s' => J s' w'' ∧ μ s' w'' < μ s w') | .exit i => Q (.exit i) E' w'' | .ret => Q .ret E' w'' | _ => False)) (actsD dfs (outT (an ((firstReg c).getD 0)) s (dsts c) (hav D (dsts c) E))) w' :=
      fun D s w' hJ => ih hc (hstep D s w' hJ)
    generalize an ((firstReg c).getD 0) = A at J μ h0 hstep body
    have ent : ∀ {F : List AV} {K : TS A → Prop}, Sim (dsts c) E F → inT A F K → ∃ s, K s ∧ actsD dfs F = actsD dfs (outT A s (dsts c) (hav (fun d => F.getD d (.v undef)) (dsts c) E)) := fun {F K} hF h => by
      obtain ⟨s, hs, ho⟩ := inT_out h
      refine ⟨s, hs, ?_⟩
      rw [ho (ds := dsts c) (G := hav (fun d => F.getD d (.v undef)) (dsts c) E)]
      · have h1 := hav_sim (D := fun d => F.getD d (.v undef)) (ds := dsts c) (E := E)
        exact ⟨hF.1.trans h1.1.symm, fun d hd => (hF.2 d hd).trans (h1.2 d hd).symm⟩
      · intro d hd _
        by_cases hl : d < E.length
        · exact hav_at hd hl
        · have h1 := hav_sim (D := fun d => F.getD d (.v undef)) (ds := dsts c) (E := E)
          rw [List.getD_eq_getElem?_getD, List.getD_eq_getElem?_getD, List.getElem?_eq_none (by have := h1.1; omega), List.getElem?_eq_none (by have := hF.1; omega)]
    obtain ⟨s0, hs0, he0⟩ := ent (Sim.refl _ _) h0
    refine wp_loop_ghost (fun n a w' => ∃ s F, a = actsD dfs F ∧ Sim (dsts c) E F ∧ actsD dfs F = actsD dfs (outT A s (dsts c) (hav (fun d => F.getD d (.v undef)) (dsts c) E)) ∧ J s w' ∧ μ s w' = n) (μ s0 w) ⟨s0, E, rfl, Sim.refl _ _, he0, hs0, rfl⟩ ?_
    rintro n _ w' ⟨s, F, rfl, hF, he, hJ, rfl⟩
    rw [he]
    refine Code.wp_mono ?_ (body _ s w' hJ)
    rintro e a' w'' ⟨E', rfl, hs, hq⟩
    have hE' : Sim (dsts c) E E' := Sim.trans (Sim.trans hav_sim outT_sim (fun _ h => h) (fun _ h => h)) hs (fun _ h => h) (fun _ h => h)
    cases e with
    | normal =>
      obtain ⟨s', ⟨hJ', hμ⟩, he'⟩ := ent hE' hq
      exact ⟨μ s' w'', hμ, s', E', rfl, hE', he', hJ', rfl⟩
    | exit i => exact ⟨E', rfl, hE', hq⟩
    | ret => exact ⟨E', rfl, hE', hq⟩
    | _ => exact hq.elim
  | _ => exact fun _ h => h.elim

/-- The results are read. -/
def getR (P : Program) (E : List AV) (w : World) : List ResultVar → (AV → Prop) → Prop
  | [], K => K .nil
  | .tmp t :: rest, K => getR P E w rest fun a => K (.pair (E.getD t (.v undef)) a)
  | .cell d t :: rest, K => match E.getD d (.v undef) with
    | .v (.pointer (some ad)) => bif kdFits P t (kdOf P 12 t) then ld (kdOf P 12 t) w ad fun y => getR P E w rest fun a => K (.pair ((kdOf P 12 t).av y) a) else False
    | _ => False
def retK (k : Kd) (K : k.T → Prop) : List ResultVar → AV → Prop
  | [_], .pair x _ => unav k x K
  | _, ch => unav k (.tup ch) K
def retQ (P : Program) (fn : Func) (k : Kd) (R : k.T → World → Prop) : Exit → List AV → World → Prop
  | .normal, E, w => getR P E w fn.results.toList fun ch => retK k (fun y => R y w) fn.results.toList ch
  | .ret, E, w => getR P E w fn.results.toList fun ch => retK k (fun y => R y w) fn.results.toList ch
  | _, _, _ => False
theorem tup_elim {k : Kd} {K : k.T → Prop} {ch : AV} (h : unav k (.tup ch) K) (hl : ch.elems.length ≠ 1) : ∃ y, (match ch.elems with | [v] => v | l => .tuple l.toArray) = (k.av y).val ∧ K y := by
  obtain ⟨y, he, hy⟩ := unav_elim h
  refine ⟨y, ?_, hy⟩
  rw [← he]
  simp only [AV.val]
  generalize ch.elems = l at hl
  match l, hl with
  | [], _ => rfl
  | _ :: _ :: _, _ => rfl
theorem retK_elim {k : Kd} {K : k.T → Prop} {rs : List ResultVar} {ch : AV} (h : retK k K rs ch) (hl : ch.elems.length = rs.length) : ∃ y, (match ch.elems with | [v] => v | l => .tuple l.toArray) = (k.av y).val ∧ K y := by
  match rs, hl, h with
  | [], hl, h => exact tup_elim h (by rw [hl]; decide)
  | _ :: _ :: _, hl, h => exact tup_elim h (by rw [hl]; simp)
  | [r], hl, h =>
    cases ch with
    | pair x b =>
      obtain ⟨y, rfl, hy⟩ := unav_elim h
      refine ⟨y, ?_, hy⟩
      simp only [AV.elems, List.length_cons, List.length_nil, Nat.zero_add, Nat.add_eq_right, List.length_eq_zero_iff] at hl
      simp only [AV.elems, hl]
    | _ => simp [AV.elems] at hl

theorem kd_val_one {P : Program} {t : TypeId} {a : Addr} {w : World} {K : (kdOf P 12 t).T → Prop} (hf : kdFits P t (kdOf P 12 t) = true) (h : ld (kdOf P 12 t) w a K) :
    ∃ x, K x ∧ (loadVar t a).run P w = .ok ((kdOf P 12 t).av x).val w := by
  obtain ⟨x, hx, hr⟩ := ld_sound hf h
  refine ⟨x, hx, ?_⟩
  have := hr w (Sub.refl w)
  simpa [Instr.loadAt, Instr.sureAddr] using this

def resF (E : List AV) : ResultVar → Sem Value
  | .tmp t => pure ((acts E).tmps.getD t undef)
  | .cell a t => do loadVar t (← asAddr ((acts E).tmps.getD a undef))

theorem getR_sound {P : Program} {E : List AV} {w : World} : ∀ {rs : List ResultVar} {K : AV → Prop}, getR P E w rs K →
    ∃ ch, K ch ∧ (ch.elems).length = rs.length ∧ (rs.mapM (resF E)).run P w = .ok (ch.elems) w
  | [], K, h => ⟨.nil, h, rfl, by simp [AV.elems]⟩
  | .tmp t :: rest, K, h => by
    have h' : getR P E w rest fun a => K (.pair (E.getD t (.v undef)) a) := h
    obtain ⟨ch, hk, hl, hr⟩ := getR_sound h'
    refine ⟨_, hk, by simp [AV.elems, hl], ?_⟩
    rw [List.mapM_cons]
    simp only [Sem.run_bind, resF, acts_tmps, Sem.run_pure, Result.andThen_ok, hr]
    rfl
  | .cell d t :: rest, K, h => by
    simp only [getR] at h
    split at h
    · rename_i ad hd
      cases hf : kdFits P t (kdOf P 12 t) with
      | false => rw [hf] at h; exact h.elim
      | true =>
        rw [hf] at h
        obtain ⟨x, hx, hrun⟩ := kd_val_one hf h
        obtain ⟨ch, hk, hl, hr⟩ := getR_sound hx
        refine ⟨_, hk, by simp [AV.elems, hl], ?_⟩
        have hda : (acts E).tmps.getD d undef = .pointer (some ad) := by rw [acts_tmps, hd]; rfl
        rw [List.mapM_cons]
        simp only [Sem.run_bind, resF, hda, asAddr, Sem.run_pure, Result.andThen_ok, hr, hrun]
        rfl
    · exact h.elim

theorem results_sound {P : Program} {fn : Func} {E : List AV} {w : World} {K : AV → Prop} (h : getR P E w fn.results.toList K) :
    ∃ ch, K ch ∧ (ch.elems).length = fn.results.toList.length ∧ (results fn (acts E).tmps).run P w = .ok (match ch.elems with | [v] => v | l => .tuple l.toArray) w := by
  obtain ⟨ch, hk, hl, hr⟩ := getR_sound h
  refine ⟨ch, hk, hl, ?_⟩
  have e : results fn (acts E).tmps = (do let vs ← fn.results.mapM (resF E); pure (if h : vs.size = 1 then vs[0] else .tuple vs)) := by
    unfold results
    congr 1
  rw [e]
  generalize fn.results = rs at hl hr
  obtain ⟨rs⟩ := rs
  simp only [List.mapM_toArray, Sem.run_bind, Sem.run_map, hr, Sem.run_pure]
  generalize ch.elems = l
  match l with
  | [] => rfl
  | [v] => rfl
  | v :: u :: l => rfl

theorem calls_of_vc {P : Program} {f : FuncId} {fn : Func} {c : Code} {k : Kd} {w : World} {R : k.T → World → Prop} (hf : P.funcs[f]? = some fn) (hb : fn.body = some c) (hc : (codeFns c).all (callable P) = true)
    (an : Nat → LA) (args : List AV) (h : vc P an c (retQ P fn k R) (args ++ List.replicate (fn.ntmps - args.length) (.v undef)) w) : cl P f (args.map AV.val).toArray k w R := by
  refine calls_of_wp hf hb ?_
  have hE : ({ tmps := (args.map AV.val).toArray ++ Array.replicate (fn.ntmps - (args.map AV.val).toArray.size) undef, defers := [] } : Act) = acts (args ++ List.replicate (fn.ntmps - args.length) (.v undef)) := by
    simp [acts, actsD, val_v]
  rw [hE]
  have hR : ∀ {E : List AV} {w' : World}, (getR P E w' fn.results.toList fun ch => retK k (fun y => R y w') fn.results.toList ch) → ∃ v, (results fn (acts E).tmps).run P w' = .ok v w' ∧ ∃ x, Ending.returned v = .returned (k.av x).val ∧ R x w' := fun {E w'} h => by
    obtain ⟨ch, hk, hl, hr⟩ := results_sound h
    obtain ⟨y, hv, hy⟩ := retK_elim hk hl
    exact ⟨_, hr, y, by rw [hv], hy⟩
  refine Code.wp_mono ?_ (code_sound (fun g hg => List.all_eq_true.1 hc g hg) h)
  rintro e a w' ⟨E', rfl, _, hq⟩
  cases e with
  | normal => exact ⟨rfl, hR hq⟩
  | ret => exact ⟨rfl, hR hq⟩
  | _ => exact hq.elim

def bodyOf (fn : Func) : Code := fn.body.getD .skip
/-- A function's code asks this. -/
def fvc (P : Program) (an : Nat → LA) (fn : Func) (k : Kd) (args : List AV) (w : World) (R : k.T → World → Prop) : Prop :=
  vc P an (bodyOf fn) (retQ P fn k R) (args ++ List.replicate (fn.ntmps - args.length) (.v undef)) w
def fnOk (P : Program) (fn : Func) : Bool := fn.body.isSome && (codeFns (bodyOf fn)).all (callable P)
theorem cl_of {P : Program} {f : FuncId} {fn : Func} {k : Kd} {w : World} {R : k.T → World → Prop} (hf : P.funcs[f]? = some fn) (hb : fnOk P fn = true)
    {an : Nat → LA} {args : List AV} (h : fvc P an fn k args w R) : cl P f (args.map AV.val).toArray k w R := by
  simp only [fnOk, Bool.and_eq_true] at hb
  obtain ⟨c, hc⟩ := Option.isSome_iff_exists.1 hb.1
  have hbo : bodyOf fn = c := by simp [bodyOf, hc]
  rw [hbo] at hb
  unfold fvc at h
  rw [hbo] at h
  exact calls_of_vc hf hc hb.2 an args h
theorem cl_tie {P : Program} {f : FuncId} {fn : Func} {k : Kd} {w : World} {R : k.T → World → Prop} (hf : P.funcs[f]? = some fn) (hb : fnOk P fn = true) {an : Nat → LA} {args : List AV} {A : Prop} (e : A = fvc P an fn k args w R) (h : A) : cl P f (args.map AV.val).toArray k w R :=
  cl_of hf hb (Eq.mp e h)
end Go.Fl
namespace Go.Fl
open Go.RowKit

/-- A deferred function's body comes back; nothing is asked of how the frame below is left. -/
def dcl (P : Program) (f : FuncId) (args : Array Value) (w : World) (K : World → Prop) : Prop :=
  ∀ u : FrameMode, CallsD P f args u w fun e u' w' => u' = u ∧ ∃ v, e = .returned v ∧ K w'
theorem dcl.mono {P : Program} {f : FuncId} {args : Array Value} {w : World} {K K' : World → Prop} (h : dcl P f args w K) (hk : ∀ w', K w' → K' w') : dcl P f args w K' :=
  fun u => (h u).mono fun _ _ _ ⟨h1, v, h2, h3⟩ => ⟨h1, v, h2, hk _ h3⟩
/-- A function that is deferred: its code by the plain walk. -/
theorem dcl_of {P : Program} {f : FuncId} {fn : Func} {k : Kd} {w : World} {K : World → Prop} (hf : P.funcs[f]? = some fn) (hb : fnOk P fn = true)
    {an : Nat → LA} {args : List AV} (h : fvc P an fn k args w fun _ w' => K w') : dcl P f (args.map AV.val).toArray w K := by
  simp only [fnOk, Bool.and_eq_true] at hb
  obtain ⟨c, hc⟩ := Option.isSome_iff_exists.1 hb.1
  have hbo : bodyOf fn = c := by simp [bodyOf, hc]
  rw [hbo] at hb
  unfold fvc at h
  rw [hbo] at h
  intro u
  refine CallsD.mono (callsD_of_wp (u := u) (R := fun e w' => ∃ v, e = .returned v ∧ K w') hf hc ?_) fun _ _ _ h => h
  have hE : ({ tmps := (args.map AV.val).toArray ++ Array.replicate (fn.ntmps - (args.map AV.val).toArray.size) undef, defers := [] } : Act) = acts (args ++ List.replicate (fn.ntmps - args.length) (.v undef)) := by
    simp [acts, actsD, val_v]
  rw [hE]
  have hR : ∀ {E : List AV} {w' : World}, (getR P E w' fn.results.toList fun ch => retK k (fun _ => K w') fn.results.toList ch) → ∃ v, (results fn (acts E).tmps).run P w' = .ok v w' ∧ ∃ x, Ending.returned v = .returned x ∧ K w' := fun {E w'} h => by
    obtain ⟨ch, hk, hl, hr⟩ := results_sound h
    obtain ⟨y, hv, hy⟩ := retK_elim hk hl
    exact ⟨_, hr, _, rfl, hy⟩
  refine Code.wp_mono ?_ (code_sound (dfs := []) (fun g hg => List.all_eq_true.1 hb.2 g hg) h)
  rintro e a w' ⟨E', rfl, _, hq⟩
  cases e with
  | normal => exact ⟨rfl, hR hq⟩
  | ret => exact ⟨rfl, hR hq⟩
  | _ => exact hq.elim
/-- Calls that are deferred, the last one first. -/
abbrev Dq := List (FuncId × List AV)
def toD (ds : Dq) : List Deferred := ds.map fun d => { target := .fn (.func d.1) #[], args := (d.2.map AV.val).toArray }
def opsD (P : Program) (Q : List AV → Dq → World → Prop) : List Oper → List AV → Dq → World → Prop
  | [], E, ds, w => Q E ds w
  | o :: l, E, ds, w => match o.guard with
    | none => match o.op with
      | .defer { callee := .value (.func f), args, .. } => bif callable P f && hasBody P f && o.dst.isNone then opsD P Q l E ((f, args.toList.map (rd E)) :: ds) w else False
      | _ => opVC P E o (fun v w' => opsD P Q l (putE E o.dst v) ds w') w
    | some _ => False
def hasD : Code → Bool
  | .region _ ops _ => ops.toList.any fun o => match o.op with | .defer _ => true | _ => false
  | .seq a b => hasD a || hasD b
  | .cond _ a b => hasD a || hasD b
  | _ => false
def vcd (P : Program) (an : Nat → LA) : Code → (Exit → List AV → Dq → World → Prop) → List AV → Dq → World → Prop
  | .seq a b, Q, E, ds, w => bif hasD a || hasD b then vcd P an a (fun e E' ds' w' => match e with | .normal => vcd P an b Q E' ds' w' | .exit i => Q (.exit i) E' ds' w' | .ret => Q .ret E' ds' w' | _ => False) E ds w
    else vc P an (.seq a b) (fun e E' w' => Q e E' ds w') E w
  | .region id ops false, Q, E, ds, w => bif hasD (.region id ops false) then opsD P (fun E' ds' w' => Q .normal E' ds' w') ops.toList E ds w else vc P an (.region id ops false) (fun e E' w' => Q e E' ds w') E w
  | .cond c x y, Q, E, ds, w => bif hasD x || hasD y then (match rd E c with
      | .v (.bool b) => bif b then vcd P an x Q E ds w else vcd P an y Q E ds w
      | _ => False)
    else vc P an (.cond c x y) (fun e E' w' => Q e E' ds w') E w
  | c, Q, E, ds, w => vc P an c (fun e E' w' => Q e E' ds w') E w
def leaveD (P : Program) (fn : Func) (k : Kd) (R : k.T → World → Prop) (E : List AV) : Dq → World → Prop
  | [], w => getR P E w fn.results.toList fun ch => retK k (fun y => R y w) fn.results.toList ch
  | d :: ds, w => bif callable P d.1 && hasBody P d.1 then dcl P d.1 (d.2.map AV.val).toArray w fun w' => leaveD P fn k R E ds w' else False
def retD (P : Program) (fn : Func) (k : Kd) (R : k.T → World → Prop) : Exit → List AV → Dq → World → Prop
  | .normal, E, ds, w => leaveD P fn k R E ds w
  | .ret, E, ds, w => leaveD P fn k R E ds w
  | _, _, _, _ => False
def fvcD (P : Program) (an : Nat → LA) (fn : Func) (k : Kd) (args : List AV) (w : World) (R : k.T → World → Prop) : Prop :=
  vcd P an (bodyOf fn) (retD P fn k R) (args ++ List.replicate (fn.ntmps - args.length) (.v undef)) [] w
theorem opsD_sound {P : Program} {Q : List AV → Dq → World → Prop} {all : Array Oper} {Q' : Exit → Act → World → Prop} (hq : ∀ E ds w, Q E ds w → Q' .normal (actsD (toD ds) E) w) :
    ∀ {l : List Oper} {E : List AV} {ds : Dq} {w : World}, (∀ o ∈ l, ∀ f ∈ opFns o, callable P f = true) → opsD P Q l E ds w → wpList P all Q' l (actsD (toD ds) E) w
  | [], E, ds, w, _, h => hq _ _ _ h
  | o :: l, E, ds, w, hc, h => by
    have hl : ∀ o ∈ l, ∀ f ∈ opFns o, callable P f = true := fun o ho => hc o (List.mem_cons_of_mem _ ho)
    rw [opsD] at h
    rw [wpList]
    cases hg : o.guard with
    | some g => rw [hg] at h; exact h.elim
    | none =>
      rw [hg] at h
      rw [if_pos (by simp [Region.wanted, hg])]
      left
      dsimp only at h
      split at h
      · rename_i f args ats hop
        rw [Bool.cond_eq_ite] at h
        split at h
        · rename_i hb
          simp only [Bool.and_eq_true, Option.isNone_iff_eq_none] at hb
          unfold Oper.wp
          have hr : (execOp (actsD (toD ds) E).eval o).run P w = .ok (.defer { target := .fn (.func f) #[], args := ((args.toList.map (rd E)).map AV.val).toArray }) w := by
            obtain ⟨dst, op, ty, pos, after, guard⟩ := o
            obtain ⟨args⟩ := args
            simp only at hop
            subst hop
            simp [execOp, resolve, Deferred.ofValue, acts_evalf, rd, val_v, Function.comp_def]
          rw [hr, Oper.upon_defer, hb.2]
          exact opsD_sound hq hl h
        · exact h.elim
      · refine op_sound (hc o List.mem_cons_self) h fun v w' hk => ?_
        rw [acts_put]
        exact opsD_sound hq hl hk
theorem vcd_sound {P : Program} {an : Nat → LA} : ∀ {c : Code} {Q : Exit → List AV → Dq → World → Prop} {E : List AV} {ds : Dq} {w : World}, (∀ f ∈ codeFns c, callable P f = true) → vcd P an c Q E ds w →
    c.wp P (fun e a w' => ∃ E' ds', a = actsD (toD ds') E' ∧ Q e E' ds' w') (actsD (toD ds) E) w := by
  intro c
  have plain : ∀ {c : Code} {Q : Exit → List AV → Dq → World → Prop} {E : List AV} {ds : Dq} {w : World}, (∀ f ∈ codeFns c, callable P f = true) → vc P an c (fun e E' w' => Q e E' ds w') E w →
      c.wp P (fun e a w' => ∃ E' ds', a = actsD (toD ds') E' ∧ Q e E' ds' w') (actsD (toD ds) E) w := fun {c Q E ds w} hc h => by
    refine Code.wp_mono ?_ (code_sound (dfs := toD ds) hc h)
    rintro e a w' ⟨E', rfl, _, hq⟩
    exact ⟨E', ds, rfl, hq⟩
  induction c with
  | region id ops draw =>
    intro Q E ds w hc h
    cases draw with
    | true => exact plain hc h
    | false =>
      rw [vcd, Bool.cond_eq_ite] at h
      split at h
      · obtain ⟨ops⟩ := ops
        exact wp_region_lit (opsD_sound (Q' := fun e a w' => ∃ E' ds', a = actsD (toD ds') E' ∧ Q e E' ds' w') (fun E' ds' w' hq => ⟨E', ds', rfl, hq⟩) (fun o ho f hf => hc f (List.mem_flatMap.2 ⟨o, ho, hf⟩)) h)
      · exact plain hc h
  | seq a b iha ihb =>
    intro Q E ds w hc h
    rw [vcd, Bool.cond_eq_ite] at h
    split at h
    · refine wp_seq (Code.wp_mono ?_ (iha (fun f hf => hc f (List.mem_append_left _ hf)) h))
      rintro e a' w' ⟨E', ds', rfl, hq⟩
      cases e with
      | normal => exact ihb (fun f hf => hc f (List.mem_append_right _ hf)) hq
      | exit i => exact ⟨E', ds', rfl, hq⟩
      | ret => exact ⟨E', ds', rfl, hq⟩
      | _ => exact hq.elim
    · exact plain hc h
  | cond c x y ihx ihy =>
    intro Q E ds w hc h
    rw [vcd, Bool.cond_eq_ite] at h
    split at h
    · split at h
      · rename_i b hb
        have hev : (actsD (toD ds) E).eval c = .bool b := by rw [acts_eval, hb]; rfl
        cases b with
        | true => exact wp_cond_true hev (ihx (fun f hf => hc f (List.mem_append_left _ hf)) h)
        | false => exact wp_cond_false hev (ihy (fun f hf => hc f (List.mem_append_right _ hf)) h)
      · exact h.elim
    · exact plain hc h
  | _ =>
    intro Q E ds w hc h
    exact plain hc h
theorem leaves_of {P : Program} {fn : Func} {k : Kd} {R : k.T → World → Prop} {E : List AV} {dfs : List Deferred} : ∀ {ds : Dq} {w : World}, leaveD P fn k R E ds w →
    Leaves P fn (actsD dfs E).tmps (fun e w' => ∃ x, e = .returned (k.av x).val ∧ R x w') (toD ds) .returning w
  | [], w, h => by
    obtain ⟨ch, hk, hl, hr⟩ := results_sound h
    obtain ⟨y, hv, hy⟩ := retK_elim hk hl
    exact ⟨_, hr, y, by rw [hv], hy⟩
  | d :: ds, w, h => by
    rw [leaveD, Bool.cond_eq_ite] at h
    split at h
    · rename_i hb
      simp only [Bool.and_eq_true] at hb
      refine leaves_cons (f := d.1) (by simp) (by simp [invoke, run_callFunc hb.1 hb.2]) ((h .returning).mono ?_)
      rintro e u' w' ⟨rfl, v, rfl, hk⟩
      exact leaves_of hk
    · exact h.elim
theorem cl_ofD {P : Program} {f : FuncId} {fn : Func} {k : Kd} {w : World} {R : k.T → World → Prop} (hf : P.funcs[f]? = some fn) (hb : fnOk P fn = true)
    {an : Nat → LA} {args : List AV} (h : fvcD P an fn k args w R) : cl P f (args.map AV.val).toArray k w R := by
  simp only [fnOk, Bool.and_eq_true] at hb
  obtain ⟨c, hc⟩ := Option.isSome_iff_exists.1 hb.1
  have hbo : bodyOf fn = c := by simp [bodyOf, hc]
  rw [hbo] at hb
  unfold fvcD at h
  rw [hbo] at h
  refine calls_of_wp_defers hf hc ?_
  have hE : ({ tmps := (args.map AV.val).toArray ++ Array.replicate (fn.ntmps - (args.map AV.val).toArray.size) undef, defers := [] } : Act) = actsD (toD []) (args ++ List.replicate (fn.ntmps - args.length) (.v undef)) := by
    simp [actsD, val_v, toD]
  rw [hE]
  refine Code.wp_mono ?_ (vcd_sound (fun g hg => List.all_eq_true.1 hb.2 g hg) h)
  rintro e a w' ⟨E', ds', rfl, hq⟩
  cases e with
  | normal => exact leaves_of hq
  | ret => exact leaves_of hq
  | _ => exact hq.elim
theorem cl_tieD {P : Program} {f : FuncId} {fn : Func} {k : Kd} {w : World} {R : k.T → World → Prop} (hf : P.funcs[f]? = some fn) (hb : fnOk P fn = true) {an : Nat → LA} {args : List AV} {A : Prop} (e : A = fvcD P an fn k args w R) (h : A) : cl P f (args.map AV.val).toArray k w R :=
  cl_ofD hf hb (Eq.mp e h)
theorem dcl_tie {P : Program} {f : FuncId} {fn : Func} {k : Kd} {w : World} {K : World → Prop} (hf : P.funcs[f]? = some fn) (hb : fnOk P fn = true) {an : Nat → LA} {args : List AV} {A : Prop} (e : A = fvc P an fn k args w fun _ w' => K w') (h : A) : dcl P f (args.map AV.val).toArray w K :=
  dcl_of (k := k) hf hb (Eq.mp e h)
end Go.Fl
set_option linter.unusedVariables false
set_option maxHeartbeats 4000000
namespace Go.Proofs.YtoglafmpllimgaaGreatDoor
open Go.Fl
abbrev n_flumelaw14_BoxPasses : FuncId := 3
abbrev n_flumelaw14_awake : FuncId := 8
abbrev n_box_New : FuncId := 9
abbrev n_flumeref04_Put : FuncId := 10
abbrev n_box_Box_Lan : FuncId := 11
abbrev n_box_Box_Out : FuncId := 12
abbrev n_flumeref04_Get : FuncId := 13
abbrev n_box_Box_Wan : FuncId := 14
abbrev n_bytes_Equal : FuncId := 15
abbrev n_box_Box_Flows : FuncId := 16
abbrev n_flumelaw14_syn : FuncId := 17
abbrev n_box_Box_Ends : FuncId := 19
abbrev n_box_Box_Count : FuncId := 26
abbrev n_store_New : FuncId := 30
abbrev n_tunnel_New : FuncId := 31
abbrev n_rabin_New : FuncId := 32
abbrev n_flumeref04_Check : FuncId := 33
abbrev n_flumeref04_big : FuncId := 34
abbrev n_flumeref01_Inet : FuncId := 35
abbrev n_packet_Get : FuncId := 36
abbrev n_box_Box_made : FuncId := 37
abbrev n_box_Box_asked : FuncId := 38
abbrev n_box_Box_told : FuncId := 39
abbrev n_box_Box_pass : FuncId := 40
abbrev n_box_Box_pump : FuncId := 41
abbrev n_tunnel_Tunnel_Out : FuncId := 42
abbrev n_flumeref04_num : FuncId := 43
abbrev n_box_Box_over : FuncId := 44
abbrev n_tunnel_Tunnel_Epoch : FuncId := 45
abbrev n_tunnel_Tunnel_Take : FuncId := 46
abbrev n_box_Box_anew : FuncId := 47
abbrev n_record_Get : FuncId := 48
abbrev n_box_Box_note : FuncId := 49
abbrev n_tcp_Conn_End : FuncId := 50
abbrev n_dedup_Encoder_Waiting : FuncId := 51
abbrev n_dedup_Decoder_Held : FuncId := 52
abbrev n_tunnel_Tunnel_Me : FuncId := 53
abbrev n_tunnel_Tunnel_You : FuncId := 54
abbrev n_tunnel_Tunnel_Up : FuncId := 55
abbrev n_sync_atomic_Int64_Load : FuncId := 67
abbrev n_rabin_Deg : FuncId := 70
abbrev n_rabin_Prime : FuncId := 71
abbrev n_flumeref01_Words : FuncId := 72
abbrev n_flumeref01_Add : FuncId := 73
abbrev n_sums_Valid : FuncId := 74
abbrev n_packet_get2 : FuncId := 75
abbrev n_packet_get4 : FuncId := 76
abbrev n_packet_read : FuncId := 77
abbrev n_slices_Clone_byte_byte : FuncId := 78
abbrev n_packet_Put : FuncId := 79
abbrev n_box_Box_find : FuncId := 80
abbrev n_box_Box_asked_1 : FuncId := 81
abbrev n_tcp_Conn_Take : FuncId := 82
abbrev n_box_Box_full : FuncId := 83
abbrev n_box_Box_open : FuncId := 84
abbrev n_tcp_Accept : FuncId := 85
abbrev n_box_Box_isn : FuncId := 86
abbrev n_box_Box_send : FuncId := 87
abbrev n_packet_Probed : FuncId := 88
abbrev n_box_Box_put : FuncId := 91
abbrev n_sync_atomic_Int64_Add : FuncId := 92
abbrev n_box_Box_drain : FuncId := 93
abbrev n_box_Box_smash : FuncId := 94
abbrev n_box_Box_in : FuncId := 95
abbrev n_box_Box_out : FuncId := 96
abbrev n_tcp_Conn_Out : FuncId := 97
abbrev n_tunnel_Tunnel_made : FuncId := 98
abbrev n_box_Box_over_1 : FuncId := 99
abbrev n_tunnel_Tunnel_Hint : FuncId := 100
abbrev n_tunnel_Get : FuncId := 101
abbrev n_tunnel_Tunnel_hello : FuncId := 102
abbrev n_tunnel_Tunnel_say : FuncId := 103
abbrev n_tunnel_Tunnel_ack : FuncId := 104
abbrev n_tunnel_Tunnel_data : FuncId := 105
abbrev n_octet_Read : FuncId := 106
abbrev n_octet_Reader_Number : FuncId := 107
abbrev n_octet_Reader_End : FuncId := 110
abbrev n_slices_Clone_tunnel_sent_tunnel_sent : FuncId := 126
abbrev n_tcp_Conn_emit : FuncId := 129
abbrev n_slices_IndexFunc_box_flow_box_flow : FuncId := 130
abbrev n_sync_atomic_LoadInt64 : FuncId := 131
abbrev n_math_bits_Len64 : FuncId := 135
abbrev n_rabin_Mod : FuncId := 136
abbrev n_rabin_Mul : FuncId := 137
abbrev n_rabin_Gcd : FuncId := 138
abbrev n_sums_Inet : FuncId := 139
abbrev n_packet_Check : FuncId := 140
abbrev n_packet_options : FuncId := 141
abbrev n_slices_Concat_byte_byte : FuncId := 142
abbrev n_packet_two : FuncId := 143
abbrev n_packet_four : FuncId := 144
abbrev n_tcp_Conn_syn : FuncId := 152
abbrev n_sync_atomic_AddInt64 : FuncId := 155
abbrev n_record_Put : FuncId := 156
abbrev n_tunnel_Tunnel_Send : FuncId := 157
abbrev n_slices_Clone_api_Note_api_Note : FuncId := 158
abbrev n_errors_Is : FuncId := 159
abbrev n_sums_Open : FuncId := 171
abbrev n_octet_Reader_Text : FuncId := 172
abbrev n_tunnel_Check : FuncId := 173
abbrev n_tunnel_Tunnel_begin : FuncId := 174
abbrev n_tunnel_Put : FuncId := 175
abbrev n_slices_DeleteFunc_tunnel_sent_tunnel_sent : FuncId := 176
abbrev n_tunnel_Tunnel_ack_1 : FuncId := 177
abbrev n_tunnel_Tunnel_slide : FuncId := 178
abbrev n_octet_look : FuncId := 179
abbrev n_tcp_Conn_window : FuncId := 192
abbrev n_sums_fold : FuncId := 194
abbrev n_sums_words : FuncId := 195
abbrev n_packet_within : FuncId := 196
abbrev n_packet_host : FuncId := 197
abbrev n_slices_Grow_byte_byte : FuncId := 198
abbrev n_packet_lay_int : FuncId := 199
abbrev n_packet_lay_uint32 : FuncId := 200
abbrev n_octet_Number : FuncId := 208
abbrev n_slices_Clone_rows_byte_byte : FuncId := 211
abbrev n_sums_Crc : FuncId := 226
abbrev n_octet_Numbers : FuncId := 227
abbrev n_sums_Seal : FuncId := 228
abbrev n_octet_Text : FuncId := 229
abbrev n_slices_IndexFunc_tunnel_sent_tunnel_sent : FuncId := 230
abbrev n_math_bits_LeadingZeros8 : FuncId := 231
abbrev n_octet_more : FuncId := 232
abbrev n_math_bits_Len8 : FuncId := 251
abbrev t_ : TypeId := 0
abbrev t_int : TypeId := 3
abbrev t_uint8 : TypeId := 5
abbrev t_uint32 : TypeId := 22
abbrev t_s_api_Packet : TypeId := 23
abbrev t_s_uint8 : TypeId := 24
abbrev t_api_Packet : TypeId := 26
abbrev t_s_s_uint8 : TypeId := 35
abbrev t_s_api_Flow : TypeId := 41
abbrev t_api_Flow : TypeId := 50
abbrev t_api_Note : TypeId := 62
abbrev t_api_Frame : TypeId := 64
abbrev t_api_Count : TypeId := 72
abbrev t_box_Box : TypeId := 103
abbrev t_s_int : TypeId := 104
abbrev t_s_store_slot : TypeId := 151
abbrev t_map_api_Sum_int : TypeId := 154
abbrev t_store_Store : TypeId := 156
abbrev t_store_slot : TypeId := 158
abbrev t_s_tunnel_sent : TypeId := 159
abbrev t_map_int_s_uint8 : TypeId := 160
abbrev t_tunnel_Tunnel : TypeId := 164
abbrev t_rabin_Table : TypeId := 180
abbrev t_3_int : TypeId := 181
abbrev t_p_int : TypeId := 213
abbrev t_tcp_Conn : TypeId := 229
abbrev t_tunnel_sent : TypeId := 246
abbrev t_octet_Reader : TypeId := 279
abbrev g_sums_nibbles : Nat := 0
theorem b_sync_atomic_LoadInt64 : Tryz.prog.funcs[n_sync_atomic_LoadInt64]? = some Tryz.f131 := Tryz.func131
theorem b_sync_atomic_AddInt64 : Tryz.prog.funcs[n_sync_atomic_AddInt64]? = some Tryz.f155 := Tryz.func155
abbrev k_api_Packet : Kd := (.pair (.I .i64) (.pair (.I .i64) (.pair (.I .i64) (.pair (.I .i64) (.pair (.I .u32) (.pair (.I .u32) (.pair (.I .i64) (.pair (.I .i64) (.pair (.I .i64) (.pair (.I .i64) (.pair .L .nil)))))))))))
abbrev y_api_Packet : Type := (Int × (Int × (Int × (Int × (Int × (Int × (Int × (Int × (Int × (Int × (Sl × Unit)))))))))))
abbrev z_api_Packet : y_api_Packet := (0, (0, (0, (0, (0, (0, (0, (0, (0, (0, (⟨none, 0, 0⟩, ())))))))))))
abbrev k_api_Record : Kd := (.pair (.I .i64) (.pair (.I .i64) (.pair (.row 32) (.pair .L .nil))))
abbrev y_api_Record : Type := (Int × (Int × ({l : List Value // l.length = 32} × (Sl × Unit))))
abbrev z_api_Record : y_api_Record := (0, (0, ((zrow 32 (.int .u8 0)), (⟨none, 0, 0⟩, ()))))
abbrev k_api_Note : Kd := (.pair (.I .i64) (.pair (.I .i64) (.pair (.I .i64) (.pair (.I .i64) (.pair (.I .i64) (.pair k_api_Record .nil))))))
abbrev y_api_Note : Type := (Int × (Int × (Int × (Int × (Int × (y_api_Record × Unit))))))
abbrev z_api_Note : y_api_Note := (0, (0, (0, (0, (0, (z_api_Record, ()))))))
abbrev k_api_Frame : Kd := (.pair (.I .i64) (.pair (.I .i64) (.pair (.I .i64) (.pair (.I .i64) (.pair (.I .i64) (.pair (.I .i64) (.pair .L .nil)))))))
abbrev y_api_Frame : Type := (Int × (Int × (Int × (Int × (Int × (Int × (Sl × Unit)))))))
abbrev z_api_Frame : y_api_Frame := (0, (0, (0, (0, (0, (0, (⟨none, 0, 0⟩, ())))))))
abbrev k_api_Count : Kd := (.pair (.I .i64) (.pair (.I .i64) (.pair (.I .i64) (.pair (.I .i64) (.pair (.I .i64) (.pair (.I .i64) .nil))))))
abbrev y_api_Count : Type := (Int × (Int × (Int × (Int × (Int × (Int × Unit))))))
abbrev z_api_Count : y_api_Count := (0, (0, (0, (0, (0, (0, ()))))))
abbrev k_atomic_Int64 : Kd := (.pair .nil (.pair .nil (.pair (.I .i64) .nil)))
abbrev y_atomic_Int64 : Type := (Unit × (Unit × (Int × Unit)))
abbrev z_atomic_Int64 : y_atomic_Int64 := ((), ((), (0, ())))
abbrev k_box_tally : Kd := (.pair k_atomic_Int64 (.pair k_atomic_Int64 (.pair k_atomic_Int64 (.pair k_atomic_Int64 (.pair k_atomic_Int64 .nil)))))
abbrev y_box_tally : Type := (y_atomic_Int64 × (y_atomic_Int64 × (y_atomic_Int64 × (y_atomic_Int64 × (y_atomic_Int64 × Unit)))))
abbrev z_box_tally : y_box_tally := (z_atomic_Int64, (z_atomic_Int64, (z_atomic_Int64, (z_atomic_Int64, (z_atomic_Int64, ())))))
abbrev k_box_Box : Kd := (.pair k_box_tally (.pair (.I .i64) (.pair (.I .i64) (.pair (.I .u32) (.pair .P (.pair .P (.pair .P (.pair .L (.pair (.I .i64) (.pair .L (.pair .L (.pair .L .nil))))))))))))
abbrev k_api_End : Kd := (.pair (.I .i64) (.pair (.I .i64) (.pair (.I .i64) (.pair (.I .i64) (.pair (.I .i64) (.pair .B (.pair .B .nil)))))))
abbrev y_api_End : Type := (Int × (Int × (Int × (Int × (Int × (Bool × (Bool × Unit)))))))
abbrev k_store_row : Kd := (.pair .L (.pair .L (.pair (.I .i64) (.pair (.I .i64) .nil))))
abbrev y_store_row : Type := (Sl × (Sl × (Int × (Int × Unit))))
abbrev k_store_Store : Kd := (.pair k_store_row (.pair .M (.pair (.I .i64) (.pair (.I .i64) (.pair (.I .i64) .nil)))))
abbrev y_store_Store : Type := (y_store_row × (Option Nat × (Int × (Int × (Int × Unit)))))
abbrev k_store_slot : Kd := (.pair (.row 32) (.pair .L (.pair (.I .i64) (.pair (.I .i64) (.pair (.I .i64) .nil)))))
abbrev k_tunnel_session : Kd := (.pair .B (.pair (.I .i64) (.pair (.I .i64) (.pair .L (.pair .L (.pair (.I .i64) (.pair .M .nil)))))))
abbrev y_tunnel_session : Type := (Bool × (Int × (Int × (Sl × (Sl × (Int × (Option Nat × Unit)))))))
abbrev z_tunnel_session : y_tunnel_session := (false, (0, (0, (⟨none, 0, 0⟩, (⟨none, 0, 0⟩, (0, (none, ())))))))
abbrev k_tunnel_Tunnel : Kd := (.pair k_tunnel_session (.pair (.I .i64) (.pair (.I .i64) (.pair (.I .i64) (.pair (.I .i64) (.pair .L .nil))))))
abbrev y_tunnel_Tunnel : Type := (y_tunnel_session × (Int × (Int × (Int × (Int × (Sl × Unit))))))
abbrev k_atomic_Bool : Kd := (.pair .nil (.pair (.I .u32) .nil))
abbrev y_atomic_Bool : Type := (Unit × (Int × Unit))
abbrev z_atomic_Bool : y_atomic_Bool := ((), (0, ()))
abbrev k_sync_Mutex : Kd := (.pair (.I .i32) (.pair (.I .u32) .nil))
abbrev y_sync_Mutex : Type := (Int × (Int × Unit))
abbrev z_sync_Mutex : y_sync_Mutex := (0, (0, ()))
abbrev k_sync_Once : Kd := (.pair .nil (.pair k_atomic_Bool (.pair (.pair .nil (.pair k_sync_Mutex .nil)) .nil)))
abbrev y_sync_Once : Type := (Unit × (y_atomic_Bool × ((Unit × (y_sync_Mutex × Unit)) × Unit)))
abbrev z_sync_Once : y_sync_Once := ((), (z_atomic_Bool, (((), (z_sync_Mutex, ())), ())))
abbrev k_rabin_lazy : Kd := (.pair k_sync_Once (.pair (.row 256) (.pair (.row 256) .nil)))
abbrev y_rabin_lazy : Type := (y_sync_Once × ({l : List Value // l.length = 256} × ({l : List Value // l.length = 256} × Unit)))
abbrev z_rabin_lazy : y_rabin_lazy := (z_sync_Once, ((zrow 256 (.int .u64 0)), ((zrow 256 (.int .u64 0)), ())))
abbrev k_rabin_Table : Kd := (.pair k_rabin_lazy (.pair (.I .u64) .nil))
abbrev k_tunnel_sent : Kd := (.pair (.I .i64) (.pair .L (.pair (.I .i64) .nil)))
abbrev y_tunnel_sent : Type := (Int × (Sl × (Int × Unit)))
abbrev z_tunnel_sent : y_tunnel_sent := (0, (⟨none, 0, 0⟩, (0, ())))
end Go.Proofs.YtoglafmpllimgaaGreatDoor
set_option linter.unusedVariables false
set_option maxHeartbeats 4000000
namespace Go.Proofs.YtoglafmpllimgaaGreatDoor
open Go.Fl
/-- flume/flumelaw14.BoxPasses -/
def an_flumelaw14_BoxPasses : Nat → LA
  | 3 => [(5, (.I .i64)), (6, (.I .i64))] | 11 => [(59, (.I .i64))] | _ => []
def flumelaw14_BoxPasses (p0 : Int) (p1 : Sl) (Q : Bool → World → Prop) (w : World) : Prop :=
 let j1 := (fun (y87 : Int) (w88 : World) =>
   bif (decide ((p1.n : Int) > 200)) then
 (cl Tryz.prog n_flumelaw14_awake #[] .B w88 fun (x89 : Bool) w90 => Q x89 w90)
 else bif (decide (y87 > 32768)) then
 (cl Tryz.prog n_flumelaw14_awake #[] .B w88 fun (x91 : Bool) w92 => Q x91 w92)
 else cl Tryz.prog n_box_New #[.int .i64 3, .int .i64 1, .int .u32 p0] (.tup (.pair .P (.pair (.I .i64) .nil))) w88 fun (x93 : (Option Addr × (Int × Unit))) w94 => cl Tryz.prog n_box_New #[.int .i64 4, .int .i64 1, .int .u32 p0] (.tup (.pair .P (.pair (.I .i64) .nil))) w94 fun (x95 : (Option Addr × (Int × Unit))) w96 => lp (α := (Int × Unit)) (fun K => K (0, ())) w96 fun D99 J100 s97 w98 =>
 bif (decide (s97.1 < (p1.n : Int))) then
  (ixa p1.a p1.n s97.1 11 fun a101 => ld k_api_Packet w98 a101 fun (x102 : y_api_Packet) => nw w98 ((Kd.av k_api_Packet z_api_Packet).cells) t_api_Packet fun a103 w104 => st w104 a103 (Kd.av k_api_Packet x102) fun w105 => ld k_api_Packet w105 a103 fun (x106 : y_api_Packet) => nw w105 ((Kd.av k_api_Packet z_api_Packet).cells) t_api_Packet fun a107 w108 => st w108 a107 (Kd.av k_api_Packet x106) fun w109 => st1 w109 a107 (.int .i64 1) fun w110 => st1 w110 (a107.add 1) (.int .i64 2) fun w111 => st1 w111 (a107.add 8) (.int .i64 0) fun w112 => ld k_api_Packet w112 a107 fun (x113 : y_api_Packet) => cl Tryz.prog n_flumeref04_Put #[(Kd.av k_api_Packet x113).val] (.tup (.pair .L (.pair (.I .i64) .nil))) w112 fun (x114 : (Sl × (Int × Unit))) w115 => bif (x114.2.1 != 0) then
  (J100 ((IntKind.i64.wrap (s97.1 + 1)), ()) w115)
  else cl Tryz.prog n_box_Box_Lan #[.pointer x93.1, .slice x114.1.a x114.1.n x114.1.c] (.tup .nil) w115 fun (x116 : Unit) w117 => cl Tryz.prog n_box_Box_Out #[.pointer x93.1] (.tup (.pair .L (.pair .L .nil))) w117 fun (x118 : (Sl × (Sl × Unit))) w119 => bif ((x118.1.n : Int) != 0) then
  (Q false w119)
  else bif ((x118.2.1.n : Int) != 1) then
  (Q false w119)
  else ixa x118.2.1.a x118.2.1.n 0 1 fun a120 => ld .L w119 a120 fun (x121 : Sl) => cl Tryz.prog n_flumeref04_Get #[.slice x121.a x121.n x121.c] (.tup (.pair k_api_Packet (.pair (.I .i64) .nil))) w119 fun (x122 : (y_api_Packet × (Int × Unit))) w123 => nw w123 ((Kd.av k_api_Packet z_api_Packet).cells) t_api_Packet fun a124 w125 => st w125 a124 (Kd.av k_api_Packet x122.1) fun w126 => ld (.I .i64) w126 (a124.add 8) fun (x127 : Int) => bif (x122.2.1 != 0) then
  (Q false w126)
  else ld (.I .i64) w126 (a107.add 6) fun (x128 : Int) => bif (!((decide (x127 > 0)) == (x128 == 1))) then
  (Q false w126)
  else ixa x118.2.1.a x118.2.1.n 0 1 fun a129 => ld .L w126 a129 fun (x130 : Sl) => cl Tryz.prog n_box_Box_Wan #[.pointer x95.1, .slice x130.a x130.n x130.c] (.tup .nil) w126 fun (x131 : Unit) w132 => cl Tryz.prog n_box_Box_Out #[.pointer x95.1] (.tup (.pair .L (.pair .L .nil))) w132 fun (x133 : (Sl × (Sl × Unit))) w134 => bif ((x133.1.n : Int) != 1) then
  (Q false w134)
  else ixa x133.1.a x133.1.n 0 1 fun a135 => ld .L w134 a135 fun (x136 : Sl) => cl Tryz.prog n_bytes_Equal #[.slice x136.a x136.n x136.c, .slice x114.1.a x114.1.n x114.1.c] .B w134 fun (x137 : Bool) w138 => bif (!x137) then
  (Q false w138)
  else ld (.I .i64) w138 (a107.add 6) fun (x139 : Int) => bif (!(((x133.2.1.n : Int) == 1) == (x139 == 1))) then
  (Q false w138)
  else ld (.I .i64) w138 (a107.add 1) fun (x140 : Int) => ld (.I .i64) w138 a107 fun (x141 : Int) => st1 w138 a107 (.int .i64 x140) fun w142 => st1 w142 (a107.add 1) (.int .i64 x141) fun w143 => ld k_api_Packet w143 a107 fun (x144 : y_api_Packet) => cl Tryz.prog n_flumeref04_Put #[(Kd.av k_api_Packet x144).val] (.tup (.pair .L (.pair (.I .i64) .nil))) w143 fun (x145 : (Sl × (Int × Unit))) w146 => cl Tryz.prog n_box_Box_Lan #[.pointer x95.1, .slice x145.1.a x145.1.n x145.1.c] (.tup .nil) w146 fun (x147 : Unit) w148 => cl Tryz.prog n_box_Box_Out #[.pointer x95.1] (.tup (.pair .L (.pair .L .nil))) w148 fun (x149 : (Sl × (Sl × Unit))) w150 => bif ((x149.2.1.n : Int) != 1) then
  (Q false w150)
  else ixa x149.2.1.a x149.2.1.n 0 1 fun a151 => ld .L w150 a151 fun (x152 : Sl) => cl Tryz.prog n_bytes_Equal #[.slice x152.a x152.n x152.c, .slice x145.1.a x145.1.n x145.1.c] .B w150 fun (x153 : Bool) w154 => bif (!x153) then
  (Q false w154)
  else cl Tryz.prog n_box_Box_Wan #[.pointer x93.1, .slice x145.1.a x145.1.n x145.1.c] (.tup .nil) w154 fun (x155 : Unit) w156 => cl Tryz.prog n_box_Box_Out #[.pointer x93.1] (.tup (.pair .L (.pair .L .nil))) w156 fun (x157 : (Sl × (Sl × Unit))) w158 => bif ((x157.1.n : Int) != 1) then
  (Q false w158)
  else ixa x157.1.a x157.1.n 0 1 fun a159 => ld .L w158 a159 fun (x160 : Sl) => cl Tryz.prog n_bytes_Equal #[.slice x160.a x160.n x160.c, .slice x145.1.a x145.1.n x145.1.c] .B w158 fun (x161 : Bool) w162 => bif (!x161) then
  (Q false w162)
  else J100 ((IntKind.i64.wrap (s97.1 + 1)), ()) w162)
  else cl Tryz.prog n_box_Box_Flows #[.pointer x93.1] .L w98 fun (x163 : Sl) w164 => cl Tryz.prog n_box_Box_Flows #[.pointer x95.1] .L w164 fun (x165 : Sl) w166 => bif ((IntKind.i64.wrap ((x163.n : Int) + (x165.n : Int))) == 0) then
 (cl Tryz.prog n_flumelaw14_awake #[] .B w166 fun (x167 : Bool) w168 => Q x167 w168)
 else Q false w166);
 lp (α := (Int × (Int × Unit))) (fun K => K (0, (0, ()))) w fun D3 J4 s1 w2 =>
 bif (decide (s1.2.1 < (p1.n : Int))) then
  (bif (decide (s1.2.1 ≤ 200)) then
  (ixa p1.a p1.n s1.2.1 11 fun a5 => ld .L w2 (a5.add 10) fun (x6 : Sl) => J4 ((IntKind.i64.wrap (s1.1 + (min (x6.n : Int) 32768))), ((IntKind.i64.wrap (s1.2.1 + 1)), ())) w2)
  else j1 s1.1 w2)
  else j1 s1.1 w2
theorem flumelaw14_BoxPasses.t (p0 : Int) (p1 : Sl) (Q : Bool → World → Prop) (w : World) : flumelaw14_BoxPasses p0 p1 Q w = fvc Tryz.prog an_flumelaw14_BoxPasses Tryz.f3 .B [Kd.av (.I .u32) p0, Kd.av .L p1] w Q := by kernel_rfl
theorem flumelaw14_BoxPasses.k : fnOk Tryz.prog Tryz.f3 = true := by kernel_rfl
theorem flumelaw14_BoxPasses.cl {p0 : Int} {p1 : Sl} {Q : Bool → World → Prop} {w : World} (h : flumelaw14_BoxPasses p0 p1 Q w) : cl Tryz.prog n_flumelaw14_BoxPasses #[.int .u32 p0, .slice p1.a p1.n p1.c] .B w Q :=
  cl_tie Tryz.func3 flumelaw14_BoxPasses.k (args := [Kd.av (.I .u32) p0, Kd.av .L p1]) (flumelaw14_BoxPasses.t p0 p1 Q w) h

end Go.Proofs.YtoglafmpllimgaaGreatDoor
set_option linter.unusedVariables false
set_option maxHeartbeats 4000000
namespace Go.Proofs.YtoglafmpllimgaaGreatDoor
open Go.Fl
/-- flume/flumelaw14.awake -/
def an_flumelaw14_awake : Nat → LA
  | 1000011 => [(0, .nil)] | _ => []
def flumelaw14_awake  (Q : Bool → World → Prop) (w : World) : Prop :=
 cl Tryz.prog n_box_New #[.int .i64 3, .int .i64 0, .int .u32 0] (.tup (.pair .P (.pair (.I .i64) .nil))) w fun (x1 : (Option Addr × (Int × Unit))) w2 => cl Tryz.prog n_box_New #[.int .i64 4, .int .i64 0, .int .u32 0] (.tup (.pair .P (.pair (.I .i64) .nil))) w2 fun (x3 : (Option Addr × (Int × Unit))) w4 => bif (x1.2.1 != 0) then
 (Q false w4)
 else bif (x3.2.1 != 0) then
 (Q false w4)
 else cl Tryz.prog n_flumelaw14_syn #[] .L w4 fun (x5 : Sl) w6 => cl Tryz.prog n_box_Box_Lan #[.pointer x1.1, .slice x5.a x5.n x5.c] (.tup .nil) w6 fun (x7 : Unit) w8 => cl Tryz.prog n_box_Box_Out #[.pointer x1.1] (.tup (.pair .L (.pair .L .nil))) w8 fun (x9 : (Sl × (Sl × Unit))) w10 => bif ((x9.2.1.n : Int) != 1) then
 (Q false w10)
 else ixa x9.2.1.a x9.2.1.n 0 1 fun a11 => ld .L w10 a11 fun (x12 : Sl) => bif ((x12.n : Int) != 32) then
 (Q false w10)
 else ixa x9.2.1.a x9.2.1.n 0 1 fun a13 => ld .L w10 a13 fun (x14 : Sl) => cl Tryz.prog n_box_Box_Wan #[.pointer x3.1, .slice x14.a x14.n x14.c] (.tup .nil) w10 fun (x15 : Unit) w16 => cl Tryz.prog n_box_Box_Out #[.pointer x3.1] (.tup (.pair .L (.pair .L .nil))) w16 fun (x17 : (Sl × (Sl × Unit))) w18 => dr w18 fun w19 => bif ((x17.1.n : Int) != 1) then (Q false w19) else (ixa x17.1.a x17.1.n 0 1 fun a20 => ld .L w19 a20 fun (x21 : Sl) => cl Tryz.prog n_flumelaw14_syn #[] .L w19 fun (x22 : Sl) w23 => Fr w19 w23 ∧ cl Tryz.prog n_bytes_Equal #[.slice x21.a x21.n x21.c, .slice x22.a x22.n x22.c] .B w23 fun (x24 : Bool) w25 => bif (!x24) then (Q false w25) else (bif ((x17.2.1.n : Int) != 1) then
 (Q false w25)
 else ixa x17.2.1.a x17.2.1.n 0 1 fun a26 => ld .L w25 a26 fun (x27 : Sl) => cl Tryz.prog n_box_Box_Wan #[.pointer x1.1, .slice x27.a x27.n x27.c] (.tup .nil) w25 fun (x28 : Unit) w29 => cl Tryz.prog n_box_Box_Ends #[.pointer x1.1] (.tup (.pair (.I .i64) (.pair (.I .i64) (.pair (.I .i64) (.pair .B .nil))))) w29 fun (x30 : (Int × (Int × (Int × (Bool × Unit))))) w31 => bif (x30.2.1 == 1) then
 (bif (x30.2.2.1 == 1) then
 (bif x30.2.2.2.1 then
 (cl Tryz.prog n_box_Box_Count #[.pointer x1.1] k_api_Count w31 fun (x32 : y_api_Count) w33 => Q (x32.1 == 1) w33)
 else Q false w31)
 else Q false w31)
 else Q false w31))
theorem flumelaw14_awake.t  (Q : Bool → World → Prop) (w : World) : flumelaw14_awake  Q w = fvc Tryz.prog an_flumelaw14_awake Tryz.f8 .B [] w Q := by kernel_rfl
theorem flumelaw14_awake.k : fnOk Tryz.prog Tryz.f8 = true := by kernel_rfl
theorem flumelaw14_awake.cl  {Q : Bool → World → Prop} {w : World} (h : flumelaw14_awake  Q w) : cl Tryz.prog n_flumelaw14_awake #[] .B w Q :=
  cl_tie Tryz.func8 flumelaw14_awake.k (args := []) (flumelaw14_awake.t  Q w) h

/-- flume/box.New -/
def box_New (p0 : Int) (p1 : Int) (p2 : Int) (Q : (Option Addr × (Int × Unit)) → World → Prop) (w : World) : Prop :=
 let j1 := (fun  (w12 : World) =>
   nw w12 ((Kd.av k_box_Box (z_box_tally, (p0, (p1, (p2, (none, (none, (none, (⟨none, 0, 0⟩, (0, (⟨none, 0, 0⟩, (⟨none, 0, 0⟩, (⟨none, 0, 0⟩, ()))))))))))))).cells) t_box_Box fun a13 w14 => cl Tryz.prog n_store_New #[.int .i64 64, .int .i64 8192] (.tup (.pair .P (.pair (.I .i64) .nil))) w14 fun (x15 : (Option Addr × (Int × Unit))) w16 => st1 w16 (a13.add 8) (.pointer x15.1) fun w17 => cl Tryz.prog n_tunnel_New #[.int .i64 (IntKind.i64.wrap ((IntKind.i64.wrap (p1 * 2 ^ (min 20 64))) + 1))] (.tup (.pair .P (.pair (.I .i64) .nil))) w17 fun (x18 : (Option Addr × (Int × Unit))) w19 => st1 w19 (a13.add 9) (.pointer x18.1) fun w20 => cl Tryz.prog n_rabin_New #[.int .u64 2147483657] (.tup (.pair .P (.pair (.I .i64) .nil))) w20 fun (x21 : (Option Addr × (Int × Unit))) w22 => st1 w22 (a13.add 10) (.pointer x21.1) fun w23 => Q ((some a13), (0, ())) w23);
 bif (p0 != 3) then
 (bif (p0 != 4) then
 (Q (none, (140, ())) w)
 else bif (decide (p1 < 0)) then
 (Q (none, (140, ())) w)
 else bif (decide (p1 > 40)) then
 (Q (none, (140, ())) w)
 else j1 w)
 else bif (decide (p1 < 0)) then
 (Q (none, (140, ())) w)
 else bif (decide (p1 > 40)) then
 (Q (none, (140, ())) w)
 else j1 w
theorem box_New.t (p0 : Int) (p1 : Int) (p2 : Int) (Q : (Option Addr × (Int × Unit)) → World → Prop) (w : World) : box_New p0 p1 p2 Q w = fvc Tryz.prog (fun _ => []) Tryz.f9 (.tup (.pair .P (.pair (.I .i64) .nil))) [Kd.av (.I .i64) p0, Kd.av (.I .i64) p1, Kd.av (.I .u32) p2] w Q := by kernel_rfl
theorem box_New.k : fnOk Tryz.prog Tryz.f9 = true := by kernel_rfl
theorem box_New.cl {p0 : Int} {p1 : Int} {p2 : Int} {Q : (Option Addr × (Int × Unit)) → World → Prop} {w : World} (h : box_New p0 p1 p2 Q w) : cl Tryz.prog n_box_New #[.int .i64 p0, .int .i64 p1, .int .u32 p2] (.tup (.pair .P (.pair (.I .i64) .nil))) w Q :=
  cl_tie Tryz.func9 box_New.k (args := [Kd.av (.I .i64) p0, Kd.av (.I .i64) p1, Kd.av (.I .u32) p2]) (box_New.t p0 p1 p2 Q w) h

/-- flume/flumeref04.Put -/
def an_flumeref04_Put : Nat → LA
  | 1000005 => [(0, .nil)] | 1000007 => [(0, .nil)] | 1000009 => [(0, .nil)] | 1000010 => [(0, .nil)] | 6000005 => [(0, .nil)] | 6000007 => [(0, .nil)] | 6000009 => [(0, .nil)] | 6000010 => [(0, .nil)] | _ => []
def flumeref04_Put (p0 : y_api_Packet) (Q : (Sl × (Int × Unit)) → World → Prop) (w : World) : Prop :=
 nw w ((Kd.av k_api_Packet p0).cells) t_api_Packet fun a1 w2 => ld k_api_Packet w2 a1 fun (x3 : y_api_Packet) => cl Tryz.prog n_flumeref04_Check #[(Kd.av k_api_Packet x3).val] (.I .i64) w2 fun (x4 : Int) w5 => bif (x4 != 0) then
 (Q (⟨none, 0, 0⟩, (40, ())) w5)
 else let j2 := (fun (y162 : Sl) (w163 : World) =>
   let j3 := (fun (y241 : Sl) (w242 : World) =>
   nw w242 [.int .u8 70] t_uint8 fun a243 w244 => ld (.I .i64) w244 a1 fun (x245 : Int) => ld (.I .i64) w244 (a1.add 1) fun (x246 : Int) => ld (.I .i64) w244 (a1.add 6) fun (x247 : Int) => nw w244 [.int .u8 (IntKind.u8.wrap x245), .int .u8 (IntKind.u8.wrap x246), .int .u8 (IntKind.u8.wrap x247)] t_uint8 fun a248 w249 => app Tryz.prog t_s_uint8 t_s_uint8 ⟨(some a243), 1, 1⟩ ⟨(some a248), 3, 3⟩ w249 fun r250 w251 => dr w251 fun w253 => ∃ X252 : Nat → Prop, X252 (a1.add 2).block ∧ ld (.I .i64) w253 (a1.add 2) fun (x254 : Int) => X252 (a1.add 3).block ∧ ld (.I .i64) w253 (a1.add 3) fun (x255 : Int) => cl Tryz.prog n_flumeref04_big #[.int .i64 x254, .int .i64 2] .L w253 fun (x256 : Sl) w257 => Agr X252 w253 w257 ∧ app Tryz.prog t_s_uint8 t_s_uint8 r250 x256 w257 fun r258 w259 => Agr X252 w257 w259 ∧ cl Tryz.prog n_flumeref04_big #[.int .i64 x255, .int .i64 2] .L w259 fun (x260 : Sl) w261 => app Tryz.prog t_s_uint8 t_s_uint8 r258 x260 w261 fun r262 w263 => dr w263 fun w265 => ∃ X264 : Nat → Prop, X264 (a1.add 4).block ∧ ld (.I .u32) w265 (a1.add 4) fun (x266 : Int) => X264 (a1.add 5).block ∧ ld (.I .u32) w265 (a1.add 5) fun (x267 : Int) => cl Tryz.prog n_flumeref04_big #[.int .i64 (IntKind.i64.wrap x266), .int .i64 4] .L w265 fun (x268 : Sl) w269 => Agr X264 w265 w269 ∧ app Tryz.prog t_s_uint8 t_s_uint8 r262 x268 w269 fun r270 w271 => Agr X264 w269 w271 ∧ cl Tryz.prog n_flumeref04_big #[.int .i64 (IntKind.i64.wrap x267), .int .i64 4] .L w271 fun (x272 : Sl) w273 => app Tryz.prog t_s_uint8 t_s_uint8 r270 x272 w273 fun r274 w275 => ld (.I .i64) w275 (a1.add 7) fun (x276 : Int) => cl Tryz.prog n_flumeref04_big #[.int .i64 x276, .int .i64 2] .L w275 fun (x277 : Sl) w278 => app Tryz.prog t_s_uint8 t_s_uint8 r274 x277 w278 fun r279 w280 => nw w280 [.int .u8 (IntKind.u8.wrap (y241.n : Int)), .int .u8 0] t_uint8 fun a281 w282 => app Tryz.prog t_s_uint8 t_s_uint8 ⟨(some a281), 2, 2⟩ y241 w282 fun r283 w284 => ld .L w284 (a1.add 10) fun (x285 : Sl) => app Tryz.prog t_s_uint8 t_s_uint8 r283 x285 w284 fun r286 w287 => nw w287 [] t_uint8 fun a288 w289 => app Tryz.prog t_s_uint8 t_s_uint8 ⟨(some a288), 0, 0⟩ r279 w289 fun r290 w291 => nw w291 [.int .u8 0, .int .u8 0] t_uint8 fun a292 w293 => app Tryz.prog t_s_uint8 t_s_uint8 r290 ⟨(some a292), 2, 2⟩ w293 fun r294 w295 => app Tryz.prog t_s_uint8 t_s_uint8 r294 r286 w295 fun r296 w297 => nw w297 [.slice r296.a r296.n r296.c] t_s_uint8 fun a298 w299 => cl Tryz.prog n_flumeref01_Inet #[.slice (some a298) 1 1] (.I .u16) w299 fun (x300 : Int) w301 => cl Tryz.prog n_flumeref04_big #[.int .i64 (IntKind.i64.wrap x300), .int .i64 2] .L w301 fun (x302 : Sl) w303 => app Tryz.prog t_s_uint8 t_s_uint8 r279 x302 w303 fun r304 w305 => app Tryz.prog t_s_uint8 t_s_uint8 r304 r286 w305 fun r306 w307 => Q (r306, (0, ())) w307);
 ld (.I .i64) w163 (a1.add 9) fun (x164 : Int) => bif (x164 != 0) then
 (dr w163 fun w166 => ∃ X165 : Nat → Prop, X165 (a1.add 9).block ∧ ld (.I .i64) w166 (a1.add 9) fun (x167 : Int) => nw w166 [.int .u8 2, .int .u8 4] t_uint8 fun a168 w169 => Agr X165 w166 w169 ∧ app Tryz.prog t_s_uint8 t_s_uint8 y162 ⟨(some a168), 2, 2⟩ w169 fun r170 w171 => Agr X165 w169 w171 ∧ cl Tryz.prog n_flumeref04_big #[.int .i64 x167, .int .i64 2] .L w171 fun (x172 : Sl) w173 => app Tryz.prog t_s_uint8 t_s_uint8 r170 x172 w173 fun r174 w175 => j3 r174 w175)
 else j3 y162 w163);
 ld (.I .i64) w5 (a1.add 8) fun (x6 : Int) => bif (x6 != 0) then
 (dr w5 fun w8 => ∃ X7 : Nat → Prop, X7 (a1.add 8).block ∧ ld (.I .i64) w8 (a1.add 8) fun (x9 : Int) => nw w8 [.int .u8 1, .int .u8 10] t_uint8 fun a10 w11 => Agr X7 w8 w11 ∧ app Tryz.prog t_s_uint8 t_s_uint8 ⟨none, 0, 0⟩ ⟨(some a10), 2, 2⟩ w11 fun r12 w13 => Agr X7 w11 w13 ∧ cl Tryz.prog n_flumeref04_big #[.int .i64 x9, .int .i64 8] .L w13 fun (x14 : Sl) w15 => app Tryz.prog t_s_uint8 t_s_uint8 r12 x14 w15 fun r16 w17 => j2 r16 w17)
 else j2 ⟨none, 0, 0⟩ w5
theorem flumeref04_Put.t (p0 : y_api_Packet) (Q : (Sl × (Int × Unit)) → World → Prop) (w : World) : flumeref04_Put p0 Q w = fvc Tryz.prog an_flumeref04_Put Tryz.f10 (.tup (.pair .L (.pair (.I .i64) .nil))) [Kd.av k_api_Packet p0] w Q := by kernel_rfl
theorem flumeref04_Put.k : fnOk Tryz.prog Tryz.f10 = true := by kernel_rfl
theorem flumeref04_Put.cl {p0 : y_api_Packet} {Q : (Sl × (Int × Unit)) → World → Prop} {w : World} (h : flumeref04_Put p0 Q w) : cl Tryz.prog n_flumeref04_Put #[(Kd.av k_api_Packet p0).val] (.tup (.pair .L (.pair (.I .i64) .nil))) w Q :=
  cl_tie Tryz.func10 flumeref04_Put.k (args := [Kd.av k_api_Packet p0]) (flumeref04_Put.t p0 Q w) h
end Go.Proofs.YtoglafmpllimgaaGreatDoor
