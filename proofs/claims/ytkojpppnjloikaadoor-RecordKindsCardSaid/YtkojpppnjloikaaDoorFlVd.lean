/- The rest of 'vc': operations that write, make memory or call; code; that it suffices. -/
import Derived.Test.YtkojpppnjloikaaDoorFlVc
namespace Go.Fl
open Go.RowKit

def hasBody (P : Program) (f : FuncId) : Bool := match P.funcs[f]? with | some fn => fn.body.isSome | none => false
/-- A function that the machine answers itself. -/
def ex (P : Program) (f : FuncId) (args : Array Value) (k : Kd) (w : World) (K : k.T → World → Prop) : Prop :=
  ∃ x w', (callFunc f args).run P w = .ok (.value (k.av x).val) w' ∧ K x w'

/-- A call of a function value. -/
def clv (P : Program) (v : Value) (args : Array Value) (k : Kd) (w : World) (K : k.T → World → Prop) : Prop :=
  ∃ f first captured, v = .func (.func f) first captured ∧ (∃ fn, P.funcs[f]? = some fn ∧ fn.body.isSome = true ∧ (fn.name != "runtime.NumGoroutine") = true) ∧ cl P f (first ++ args ++ captured) k w K
/-- What an operation asks. -/
def opVC (P : Program) (E : List AV) (o : Oper) (K : AV → World → Prop) (w : World) : Prop :=
  match o.op with
  | .alloc e => match (P.info? e).bind (·.zero) with
    | some z => nw w z.cells.toList e fun a w' => K (.v (.pointer (some a))) w'
    | none => False
  | .box e x => bif (rd E x).isTup then False else nw w (rd E x).cells e fun a w' => K (.v (.pointer (some a))) w'
  | .store t x y => match rd E x with
    | .v (.pointer A) => nz A fun a => bif !(rd E y).isTup && (rd E y).size == P.cellsOf t && !(P.cellsOf t == 0) then st w a (rd E y) fun w' => K (.v undef) w' else False
    | _ => False
  | .buildSlice t len parts => match P.underlying t with
    | some (.slice e) => bif (parts.toList.map (·.1) == List.range len) && (parts.toList.all fun p => !(rd E p.2).isTup && (rd E p.2).size == P.cellsOf e) && decide (len * P.cellsOf e ≤ 16777216) && !(P.cellsOf e == 0) && (((P.info? e).bind (·.zero)).isSome)
        then nw w (parts.toList.flatMap fun p => (rd E p.2).cells) e fun a w' => K (.v (.slice (some a) len len)) w' else False
    | _ => False
  | .makeSlice t l c => match rd E l, rd E c with
    | .v (.int .i64 l), .v (.int .i64 c) => mks P t l c w fun r w' => K (.v (.slice r.a r.n r.c)) w'
    | _, _ => False
  | .call c => match c.callee, c.args.toList, c.argTypes.toList with
    | .builtin .append, [x, y], [t, t'] => match rd E x, rd E y with
      | .v (.slice A n c), .v (.slice B m d) => bif t == t' then app P t o.type ⟨A, n, c⟩ ⟨B, m, d⟩ w fun r w' => K (.v (.slice r.a r.n r.c)) w' else False
      | _, _ => rn P (Builtin.append_ #[t, t'] o.type #[(rd E x).val, (rd E y).val]) .L w fun r w' => K (.v (.slice r.a r.n r.c)) w'
    | .value (.func f), args, _ => bif hasBody P f then cl P f (args.map fun x => (rd E x).val).toArray (kdOf P 12 o.type) w fun x w' => K ((kdOf P 12 o.type).av x) w'
      else ex P f (args.map fun x => (rd E x).val).toArray (kdOf P 12 o.type) w fun x w' => K ((kdOf P 12 o.type).av x) w'
    | .value x, args, _ => clv P (rd E x).val (args.map fun x => (rd E x).val).toArray (kdOf P 12 o.type) w fun x w' => K ((kdOf P 12 o.type).av x) w'
    | .builtin .copy, args, _ => rn P (Builtin.copy_ c.argTypes o.type (args.map fun x => (rd E x).val).toArray) (kdOf P 12 o.type) w fun x w' => K ((kdOf P 12 o.type).av x) w'
    | .builtin .clear, args, _ => rn P (Builtin.clear_ c.argTypes o.type (args.map fun x => (rd E x).val).toArray) (kdOf P 12 o.type) w fun x w' => K ((kdOf P 12 o.type).av x) w'
    | .builtin .delete, args, _ => rn P (Builtin.delete_ c.argTypes o.type (args.map fun x => (rd E x).val).toArray) (kdOf P 12 o.type) w fun x w' => K ((kdOf P 12 o.type).av x) w'
    | .builtin .cap, args, _ => rn P (Builtin.cap_ c.argTypes o.type (args.map fun x => (rd E x).val).toArray) (kdOf P 12 o.type) w fun x w' => K ((kdOf P 12 o.type).av x) w'
    | _, _, _ => pureVC P E o (fun v => K v w) w
  | .makeMap t r => rn P (Instr.makeMap t (r.map fun x => (rd E x).val)) .M w fun m w' => K (.v (.map m)) w'
  | .mapUpdate t m k x => ru P (Instr.mapUpdate t (rd E m).val (rd E k).val (rd E x).val) w fun w' => K (.v undef) w'
  | .makeFunc fn first captured => K (.v (.func fn (first.map fun x => (rd E x).val) (captured.map fun x => (rd E x).val))) w
  | .range t x => rn P (Instr.range t (rd E x).val) .U w fun v w' => K (.v v) w'
  | .next it s => rn P (Instr.next (rd E it).val s o.type) (kdOf P 12 o.type) w fun x w' => K ((kdOf P 12 o.type).av x) w'
  | .typeAssert x t1 t2 ok => rn P (Instr.typeAssert (rd E x).val t1 t2 ok) (kdOf P 12 o.type) w fun x w' => K ((kdOf P 12 o.type).av x) w'
  | .convert src dst x => match P.underlying src, P.underlying dst with
    | some .string, some (.slice _) => rn P (convert src dst (rd E x).val) .L w fun r w' => K (.v (.slice r.a r.n r.c)) w'
    | some (.slice _), some (.slice _) => rn P (convert src dst (rd E x).val) .L w fun r w' => K (.v (.slice r.a r.n r.c)) w'
    | _, _ => pureVC P E o (fun v => K v w) w
  | _ => pureVC P E o (fun v => K v w) w

def acts (E : List AV) : Act := { tmps := (E.map AV.val).toArray, defers := [] }
theorem acts_eval (E : List AV) (x : Operand) : (acts E).eval x = (rd E x).val := by
  cases x with
  | tmp t =>
    simp only [Act.eval, acts, rd]
    simp only [Array.getD_eq_getD_getElem?, List.getElem?_toArray, List.getElem?_map, List.getD_eq_getElem?_getD]
    cases E[t]? <;> rfl
  | _ => rfl
theorem acts_evalf (E : List AV) : (acts E).eval = fun x => (rd E x).val := funext (acts_eval E)
def putE (E : List AV) : Option Tmp → AV → List AV
  | some d, v => E.set d v
  | none, _ => E
theorem acts_put (E : List AV) (d : Option Tmp) (v : AV) : (acts E).put d v.val = acts (putE E d v) := by
  cases d with
  | none => rfl
  | some d => simp [Act.put, acts, putE, List.map_set]

/-- A function that a call may name: it has a body, and is not one that the machine answers itself. -/
def callable (P : Program) (f : FuncId) : Bool := match P.funcs[f]? with | some fn => bif fn.body.isSome then fn.name != "runtime.NumGoroutine" else true | none => false
def opFns (o : Oper) : List FuncId := match o.op with | .call { callee := .value (.func f), .. } => [f] | _ => []

theorem run_callFunc {P : Program} {f : FuncId} (h : callable P f = true) (hb : hasBody P f = true) (args : Array Value) (w : World) : (callFunc f args).run P w = .ok (.enter f args) w := by
  unfold callable at h
  split at h
  · rename_i fn hf
    have hb' : fn.body.isSome = true := by simpa [hasBody, hf] using hb
    rw [hb', cond_true] at h
    simp only [bne_iff_ne, ne_eq] at h
    have hn : ¬ fn.body = none := by intro e; rw [e] at hb'; cases hb'
    simp [callFunc, program, Sem.run, hf, h, hn]
  · cases h

theorem run_stL {P : Program} {a : Addr} : ∀ {vs : List Value} {w : World} {i : Nat} {K : World → Prop}, stL a w i vs K → ∃ w', (storeCells a vs i).run P w = .ok () w' ∧ K w'
  | [], w, i, K, h => ⟨w, rfl, h⟩
  | v :: vs, w, i, K, ⟨h1, ⟨u, hu⟩, hf, h⟩ => by
    obtain ⟨w', hr, hk⟩ := run_stL (P := P) h
    refine ⟨w', ?_, hk⟩
    simp only [storeCells, Sem.run_bind]
    rw [run_store P w (a.add i) v .plain h1]
    simp only [hu, hf]
    simpa using hr

theorem stL_append {a : Addr} : ∀ {xs ys : List Value} {w : World} {i : Nat} {K : World → Prop}, stL a w i xs (fun w' => stL a w' (i + xs.length) ys K) → stL a w i (xs ++ ys) K
  | [], ys, w, i, K, h => h
  | v :: xs, ys, w, i, K, ⟨h1, hu, hf, h⟩ => ⟨h1, hu, hf, stL_append (by simpa [Nat.add_assoc, Nat.add_comm 1] using h)⟩
theorem stL_mono {a : Addr} : ∀ {xs : List Value} {w : World} {i : Nat} {K K' : World → Prop}, stL a w i xs K → (∀ w', K w' → K' w') → stL a w i xs K'
  | [], _, _, _, _, h, hk => hk _ h
  | _ :: _, _, _, _, _, ⟨h1, hu, hf, h⟩, hk => ⟨h1, hu, hf, stL_mono h hk⟩
theorem stL_shift {a : Addr} {j : Nat} : ∀ {xs : List Value} {w : World} {i : Nat} {K : World → Prop}, stL (a.add j) w i xs K → stL a w (j + i) xs K
  | [], _, _, _, h => h
  | v :: vs, w, i, K, ⟨h1, hst⟩ => by
    rw [add_add] at hst
    obtain ⟨hu, hf, h⟩ := hst
    exact ⟨h1, hu, hf, by have := stL_shift h; rwa [← Nat.add_assoc] at this⟩
theorem st_stL {a : Addr} : ∀ {v : AV} {w : World} {K : World → Prop} {i : Nat}, st w (a.add i) v K → stL a w i v.cells K
  | .v x, w, K, i, h => by
    cases h1 : x.oneCell' with
    | false => simp only [st, h1] at h; exact h.elim
    | true =>
      simp only [st, h1] at h
      have hx : x.cells = #[x] := by cases x <;> first | rfl | simp [Value.oneCell'] at h1
      rw [show (AV.v x).cells = [x] from by simp [AV.cells, hx]]
      exact ⟨h1, h⟩
  | .nil, w, K, i, h => h
  | .pair x y, w, K, i, h => by
    refine stL_append (stL_mono (st_stL (v := x) h) fun w' h' => ?_)
    rw [AV.cells_length]
    rw [add_add] at h'
    exact st_stL h'
  | .row _ l, w, K, i, h => by have := stL_shift h; rw [Nat.add_zero] at this; exact this
  | .tup _, w, K, i, h => h.elim

theorem fill_row {size : Nat} : ∀ (parts : List (Nat × Value)) (n k : Nat) (zero : List Value), parts.map (·.1) = List.range' k n → (∀ p ∈ parts, p.2.cells.size = size) → zero.length = n * size → ∀ (done : List Value), done.length = k * size →
    Instr.fill (fun i => some (i * size, size)) (done ++ zero).toArray parts = some (done ++ parts.flatMap fun p => p.2.cells.toList).toArray := by
  intro parts
  induction parts with
  | nil => 
    intro n k zero hp _ hz done hd
    have hn : n = 0 := by cases n <;> simp_all [List.range'_succ]
    subst hn
    have : zero = [] := List.eq_nil_of_length_eq_zero (by simpa using hz)
    subst this
    simp [Instr.fill]
  | cons p parts ih =>
    intro n k zero hp hs hz done hd
    obtain ⟨j, v⟩ := p
    cases n with
    | zero => simp at hp
    | succ n =>
      simp only [List.map_cons, List.range'_succ, List.cons.injEq] at hp
      obtain ⟨rfl, hp⟩ := hp
      have hv : v.cells.size = size := hs _ (List.mem_cons_self ..)
      simp only [Instr.fill]
      rw [if_neg (by simp [hv, hz, hd, Nat.succ_mul] <;> omega)]
      have hsplit : zero = zero.take size ++ zero.drop size := (List.take_append_drop ..).symm
      have hf := foldl_set (vs := v.cells.toList) done (zero.take size) (zero.drop size) (by simp [hv, hz, Nat.succ_mul] <;> omega)
      rw [List.append_assoc, ← hsplit] at hf
      have hzi : v.cells.zipIdx.foldl (fun cs x => cs.setIfInBounds (j * size + x.2) x.1) (done ++ zero).toArray = (done ++ v.cells.toList ++ zero.drop size).toArray := by
        rw [← hf, hd, ← Array.foldl_toList, Array.toList_zipIdx]
      rw [show (v.cells.zipIdx.foldl (fun cs (c, j_1) => cs.setIfInBounds (j * size + j_1) c) (done ++ zero).toArray) = v.cells.zipIdx.foldl (fun cs x => cs.setIfInBounds (j * size + x.2) x.1) (done ++ zero).toArray from rfl, hzi]
      rw [ih n (j + 1) (zero.drop size) hp (fun p hp => hs p (List.mem_cons_of_mem _ hp)) (by simp [hz, Nat.succ_mul]) (done ++ v.cells.toList) (by simp [hv, hd, Nat.succ_mul])]
      simp

theorem run_box {P : Program} (e : TypeId) (v : Value) (w : World) : (Instr.box e v).run P w = .ok (.pointer (some ⟨w.heap.size, 0, none⟩)) (w.alloc (.cells v.cells e)) := by
  simp [Instr.box, newVar, newRow, newObj, Sem.run]
theorem run_alloc {P : Program} {e : TypeId} {i : TypeInfo} {z : Value} (hi : P.info? e = some i) (hz : i.zero = some z) (w : World) :
    (Instr.alloc e true (.tuple #[])).run P w = .ok (.pointer (some ⟨w.heap.size, 0, none⟩)) (w.alloc (.cells z.cells e)) := by
  simp [Instr.alloc, zeroValue, typeInfo, program, Sem.run, hi, hz, newVar, newRow, newObj]

theorem run_storeAt {P : Program} {t : TypeId} {a : Addr} {v : AV} {w : World} {K : World → Prop} (ht : v.isTup = false) (hs : v.size = P.cellsOf t) (hz : (P.cellsOf t == 0) = false) (h : st w a v K) :
    ∃ w', (Instr.storeAt t (.pointer (some a)) v.val).run P w = .ok () w' ∧ K w' := by
  have h' : st w (a.add 0) v K := by rwa [show a.add 0 = a from rfl]
  obtain ⟨w', hr, hk⟩ := run_stL (P := P) (st_stL h')
  obtain ⟨i, hi⟩ := Option.isSome_iff_exists.1 (cellsOf_isSome hz)
  refine ⟨w', ?_, hk⟩
  have hsz : v.val.cells.size = i.size := by rw [val_size ht, hs]; simp [Program.cellsOf, hi]
  simp [Instr.storeAt, Instr.sureAddr, storeVar, sizeOf, typeInfo, program, Sem.run, hi, hsz, val_cells ht, hr]

theorem run_buildSlice {P : Program} {t e : TypeId} {i : TypeInfo} {z : Value} {len : Nat} {parts : Array (Nat × Value)} {cs : List Value} (ht : P.underlying t = some (.slice e)) (hi : P.info? e = some i) (hz : i.zero = some z)
    (hm : len * i.size ≤ 16777216) (hf : ∀ zs : List Value, zs.length = len * i.size → Instr.fill (fun j => some (j * i.size, i.size)) zs.toArray parts.toList = some cs.toArray) (w : World) :
    (Instr.buildSlice t len parts).run P w = .ok (.slice (some ⟨w.heap.size, 0, none⟩) len len) (w.alloc (.cells cs.toArray e)) := by
  have key : ∀ zero : Array Value, Instr.fill (fun j => some (j * i.size, i.size)) ((Array.range (len * i.size)).map (zero[· % zero.size]!)) parts.toList = some cs.toArray := fun zero => by
    have := hf ((Array.range (len * i.size)).map (zero[· % zero.size]!)).toList (by simp)
    rwa [Array.toArray_toList] at this
  unfold Instr.buildSlice
  simp only [Sem.run_bind, run_underlying ht, Result.andThen_ok, sizeOf, typeInfo, program, Sem.run, hi, Sem.run_pure]
  rw [if_neg (by omega)]
  by_cases h0 : len * i.size = 0
  · have hk := key #[]
    simp only [h0, if_true, Sem.run_bind, Sem.run_pure, Result.andThen_ok] at hk ⊢
    rw [hk]
    simp [newRow, newObj, Sem.run]
  · simp [h0, zeroValue, typeInfo, program, Sem.run, hi, hz, key, newRow, newObj]

theorem op_sound {P : Program} {E : List AV} {o : Oper} {K : AV → World → Prop} {w : World} (hc : ∀ f ∈ opFns o, callable P f = true) (h : opVC P E o K w) {next : Act → World → Prop} {Q : Exit → Act → World → Prop}
    (hn : ∀ v w', K v w' → next ((acts E).put o.dst v.val) w') : o.wp P (acts E) w next Q := by
  have V : ∀ {v : AV} {w' : World}, (execOp (acts E).eval o).run P w = .ok (.value v.val) w' → K v w' → o.wp P (acts E) w next Q := fun {v w'} hr hk => by
    unfold Oper.wp; rw [hr, Oper.upon_value]; exact hn v w' hk
  have PU : pureVC P E o (fun v => K v w) w → o.wp P (acts E) w next Q := fun h => by
    obtain ⟨v, hk, hr⟩ := pure_sound h
    exact V (by rw [acts_evalf]; exact hr w (Sub.refl w)) hk
  have RN : ∀ {s : Sem Value} {k : Kd} {K' : k.T → World → Prop}, execOp (fun x => (rd E x).val) o = (do pure (.value (← s))) → rn P s k w K' → (∀ y w', K' y w' → K (k.av y) w') → o.wp P (acts E) w next Q := fun {s k K'} he ⟨x, w', hr, hk⟩ hK =>
    V (v := k.av x) (w' := w') (by rw [acts_evalf, he, Sem.run_bind, hr]; rfl) (hK _ _ hk)
  obtain ⟨dst, op, ty, pos, after, guard⟩ := o
  unfold opVC at h
  cases op with
  | alloc e =>
    dsimp only at h
    split at h
    · rename_i z hz
      obtain ⟨i, hi, hz⟩ := Option.bind_eq_some_iff.1 hz
      refine V ?_ h
      simp [execOp, run_alloc hi hz, val_v]
    · exact h.elim
  | box e x =>
    dsimp only at h
    cases ht : (rd E x).isTup with
    | true => rw [ht] at h; exact h.elim
    | false =>
      rw [ht] at h
      refine V ?_ h
      simp [execOp, run_box, val_v, acts_eval, ← val_cells ht]
  | store t x y =>
    dsimp only at h
    split at h
    · rename_i A hx
      obtain ⟨a, rfl, h⟩ := nz_elim h
      cases hb : !(rd E y).isTup && (rd E y).size == P.cellsOf t && !(P.cellsOf t == 0) with
      | false => rw [hb] at h; exact h.elim
      | true =>
        rw [hb] at h
        simp only [Bool.and_eq_true, Bool.not_eq_true', beq_iff_eq] at hb
        obtain ⟨w', hr, hk⟩ := run_storeAt hb.1.1 hb.1.2 hb.2 h
        unfold Oper.wp
        simp only [execOp, acts_eval, hx, val_v, Sem.run_bind, hr, Result.andThen_ok, Sem.run_pure, Oper.upon_skip]
        exact hn _ _ hk
    · exact h.elim
  | buildSlice t len parts =>
    obtain ⟨parts⟩ := parts
    dsimp only at h
    split at h
    · rename_i e ht
      rw [Bool.cond_eq_ite] at h
      split at h
      · rename_i hb
        simp only [Bool.and_eq_true, beq_iff_eq, Bool.not_eq_true', List.all_eq_true, decide_eq_true_eq] at hb
        obtain ⟨⟨⟨⟨hidx, hall⟩, hmax⟩, hz⟩, hzero⟩ := hb
        obtain ⟨z, hzv⟩ := Option.isSome_iff_exists.1 hzero
        obtain ⟨i, hi, hiz⟩ := Option.bind_eq_some_iff.1 hzv
        have hsz : P.cellsOf e = i.size := by simp [Program.cellsOf, hi]
        refine V ?_ h
        have hfill : ∀ zs : List Value, zs.length = len * i.size →
            Instr.fill (fun j => some (j * i.size, i.size)) zs.toArray (parts.map fun p => (p.1, (rd E p.2).val)) = some (parts.flatMap fun p => (rd E p.2).cells).toArray := fun zs hzs => by
          have := fill_row (size := i.size) (parts.map fun p => (p.1, (rd E p.2).val)) len 0 zs (by rw [List.map_map, ← List.range_eq_range', ← hidx]; rfl)
            (fun p hp => by
              obtain ⟨q, hq, rfl⟩ := List.mem_map.1 hp
              obtain ⟨h1, h2⟩ := hall q hq
              exact (val_size h1).trans (h2.trans hsz)) hzs [] (by simp)
          rw [List.nil_append] at this
          rw [this]
          congr 2
          rw [List.nil_append, List.flatMap_map]
          have : ∀ l : List (Nat × Operand), (∀ p ∈ l, (rd E p.2).isTup = false) → (l.flatMap fun p => (rd E p.2).val.cells.toList) = l.flatMap fun p => (rd E p.2).cells := by
            intro l hl
            induction l with
            | nil => rfl
            | cons p l ih => simp only [List.flatMap_cons]; rw [val_cells (hl p (List.mem_cons_self ..)), ih fun q hq => hl q (List.mem_cons_of_mem _ hq)]
          exact this _ fun p hp => (hall p hp).1
        have hr := run_buildSlice (P := P) (len := len) (parts := (parts.map fun p => (p.1, (rd E p.2).val)).toArray) ht hi hiz (by rw [← hsz]; exact hmax) (fun zs hzs => hfill zs hzs) w
        simp only [execOp, acts_eval, Sem.run_bind]
        rw [show (Array.map (fun x => (x.1, (rd E x.2).val)) ⟨parts⟩) = (parts.map fun p => (p.1, (rd E p.2).val)).toArray from List.map_toArray, hr]
        rfl
      · exact h.elim
    · exact h.elim
  | makeSlice t l c =>
    dsimp only at h
    split at h
    · rename_i l' c' hl hc'
      obtain ⟨r, w', hr, hk⟩ := h
      refine V ?_ hk
      simp [execOp, acts_eval, hl, hc', val_v, hr]
    · exact h.elim
  | call c =>
    obtain ⟨callee, args, ats⟩ := c
    obtain ⟨args⟩ := args
    obtain ⟨ats⟩ := ats
    dsimp only at h
    split at h
    · rename_i x y t t'
      split at h
      · rename_i A n c B m d hx hy
        cases hb : t == t' with
        | false => rw [hb] at h; exact h.elim
        | true =>
          rw [hb] at h
          obtain rfl := eq_of_beq hb
          obtain ⟨r, w', hr, hk⟩ := h
          refine V ?_ hk
          simp [execOp, resolve, invoke, builtin, acts_eval, hx, hy, val_v, hr]
      · exact RN (by simp [execOp, resolve, invoke, builtin]) h fun _ _ h => h
    · rename_i f
      have hcal : callable P f = true := hc f (by simp [opFns])
      cases hbo : hasBody P f with
      | false =>
        rw [hbo] at h
        obtain ⟨x, w', hr, hk⟩ := h
        refine V ?_ hk
        have hρ : (acts E).eval (.func f) = .func (.func f) #[] #[] := rfl
        rw [← acts_evalf E] at hr
        generalize (acts E).eval = ρ at hr hρ
        simpa [execOp, resolve, invoke, Deferred.ofValue, hρ] using hr
      | true =>
      rw [hbo] at h
      unfold Oper.wp
      have hr : (execOp (acts E).eval ⟨dst, .call ⟨.value (.func f), ⟨args⟩, ⟨ats⟩⟩, ty, pos, after, guard⟩).run P w = .ok (.enter f (args.map fun x => (rd E x).val).toArray) w := by
        simp [execOp, resolve, invoke, Deferred.ofValue, acts_evalf, rd, run_callFunc hcal hbo, Act.eval]
      rw [hr, Oper.upon_enter]
      refine Calls.mono h fun e w' ⟨x, he, hk⟩ => ?_
      subst he
      exact hn _ _ hk
    · rename_i x _
      obtain ⟨f, first, captured, hv, ⟨fn, hf, hb, hn'⟩, hcl⟩ := h
      have hcal : callable P f = true := by simp only [callable, hf, hb, cond_true]; exact hn'
      have hbo : hasBody P f = true := by simp only [hasBody, hf, hb]
      unfold Oper.wp
      have hr : (execOp (acts E).eval ⟨dst, .call ⟨.value x, ⟨args⟩, ⟨ats⟩⟩, ty, pos, after, guard⟩).run P w = .ok (.enter f (first ++ (args.map fun x => (rd E x).val).toArray ++ captured)) w := by
        simp [execOp, resolve, invoke, Deferred.ofValue, acts_evalf, hv, run_callFunc hcal hbo]
      rw [hr, Oper.upon_enter]
      refine Calls.mono hcl fun e w' ⟨x, he, hk⟩ => ?_
      subst he
      exact hn _ _ hk
    · exact RN (by simp [execOp, resolve, invoke, builtin]) h fun _ _ h => h
    · exact RN (by simp [execOp, resolve, invoke, builtin]) h fun _ _ h => h
    · exact RN (by simp [execOp, resolve, invoke, builtin]) h fun _ _ h => h
    · exact RN (by simp [execOp, resolve, invoke, builtin]) h fun _ _ h => h
    · exact PU h
  | makeMap t r => exact RN rfl h fun _ _ h => h
  | mapUpdate t m k x =>
    obtain ⟨w', hr, hk⟩ := h
    unfold Oper.wp
    simp only [execOp, acts_eval, Sem.run_bind, hr, Result.andThen_ok, Sem.run_pure, Oper.upon_skip]
    exact hn _ _ hk
  | makeFunc fn first captured => exact V (v := .v (.func fn (first.map fun x => (rd E x).val) (captured.map fun x => (rd E x).val))) (by rw [acts_evalf]; rfl) h
  | range t x => exact RN rfl h fun _ _ h => h
  | next it s => exact RN rfl h fun _ _ h => h
  | typeAssert x t1 t2 ok => exact RN rfl h fun _ _ h => h
  | convert src d x =>
    dsimp only at h
    split at h
    · exact RN rfl h fun _ _ h => h
    · exact RN rfl h fun _ _ h => h
    · exact PU h
  | _ => exact PU h

/-! ### Code -/
def guardVal (all : List Oper) (E : List AV) (j : Nat) : Option (Tmp × AV) := match all[j]? with
  | some { dst := some d, .. } => some (d, E.getD d (.v undef))
  | _ => none

/-- The operations of a region, one behind the other. -/
def opsVC (P : Program) (all : List Oper) (Q : List AV → World → Prop) : List Oper → List AV → World → Prop
  | [], E, w => Q E w
  | o :: rest, E, w => match o.guard with
    | none => opVC P E o (fun v w' => opsVC P all Q rest (putE E o.dst v) w') w
    | some (j, want) => match guardVal all E j with
      | some (d, .v (.bool b)) =>
        bif b then (match want with | true => opVC P (E.set d (.v (.bool true))) o (fun v w' => opsVC P all Q rest (putE (E.set d (.v (.bool true))) o.dst v) w') w | false => opsVC P all Q rest (putE (E.set d (.v (.bool true))) o.dst (.v undef)) w)
        else (match want with | true => opsVC P all Q rest (putE (E.set d (.v (.bool false))) o.dst (.v undef)) w | false => opVC P (E.set d (.v (.bool false))) o (fun v w' => opsVC P all Q rest (putE (E.set d (.v (.bool false))) o.dst v) w') w)
      | some (_d, .v (.tuple ⟨[]⟩)) => opsVC P all Q rest (putE E o.dst (.v undef)) w
      | _ => False

theorem set_same {E : List AV} {d : Nat} {v : AV} (h : E.getD d (.v undef) = v) : E.set d v = E := by
  apply List.ext_getElem?
  intro i
  rw [List.getElem?_set]
  split
  · rename_i e; subst e
    split
    · rename_i hlt
      rw [List.getD_eq_getElem?_getD, List.getElem?_eq_getElem hlt] at h
      rw [List.getElem?_eq_getElem hlt, ← h]; rfl
    · rename_i hlt; rw [List.getElem?_eq_none (by omega)]
  · rfl

theorem putE_length (E : List AV) (d : Option Tmp) (v : AV) : (putE E d v).length = E.length := by cases d <;> simp [putE]
theorem putE_getD {E : List AV} {d : Option Tmp} {v : AV} {i : Nat} (h : d ≠ some i) : (putE E d v).getD i (.v undef) = E.getD i (.v undef) := by
  cases d with
  | none => rfl
  | some d =>
    have hne : d ≠ i := fun e => h (by rw [e])
    simp [putE, List.getD_eq_getElem?_getD, hne]

theorem acts_tmps (E : List AV) (d : Nat) : (acts E).tmps.getD d undef = (E.getD d (.v undef)).val := acts_eval E (.tmp d)

theorem guardVal_spec {all : List Oper} {E : List AV} {j d : Nat} {v : AV} (h : guardVal all E j = some (d, v)) : (all.toArray[j]?).bind (·.dst) = some d ∧ E.getD d (.v undef) = v := by
  unfold guardVal at h
  split at h
  · rename_i d' _ _ _ _ _ hj
    simp only [Option.some.injEq, Prod.mk.injEq] at h
    obtain ⟨rfl, h⟩ := h
    exact ⟨by simp [hj], h⟩
  · cases h
theorem wanted_of {all : List Oper} {E : List AV} {j d : Nat} {v : AV} {want : Bool} {o : Oper} (hg : o.guard = some (j, want)) (h : guardVal all E j = some (d, v)) :
    (∀ b, v = .v (.bool b) → Region.wanted o (yielded all.toArray (acts E).tmps) = (b == want)) ∧ (v = .v (.tuple #[]) → Region.wanted o (yielded all.toArray (acts E).tmps) = false) := by
  obtain ⟨hd, hv⟩ := guardVal_spec h
  have ht : (acts E).tmps[d]? = (E[d]?).map AV.val := by simp [acts]
  rw [List.getD_eq_getElem?_getD] at hv
  refine ⟨fun b hb => ?_, fun hb => ?_⟩
  · subst hb
    have he : E[d]? = some (.v (.bool b)) := by
      cases hE : E[d]? with
      | none => rw [hE] at hv; injection hv with hv; cases hv
      | some x => rw [hE] at hv; exact congrArg some hv
    simp only [Region.wanted, hg, yielded, hd, Option.bind_some, ht, he, Option.map_some, val_v]
    cases b <;> cases want <;> rfl
  · subst hb
    have hy : yielded all.toArray (acts E).tmps j = none := by
      simp only [yielded, hd, Option.bind_some, ht]
      cases hE : E[d]? with
      | none => rfl
      | some x => rw [hE] at hv; obtain rfl : x = .v (.tuple #[]) := hv; rfl
    simp [Region.wanted, hg, hy]

theorem ops_sound {P : Program} {all : List Oper} {Q : List AV → World → Prop} : ∀ {l : List Oper} {E : List AV} {w : World}, (∀ o ∈ l, ∀ f ∈ opFns o, callable P f = true) → opsVC P all Q l E w → 
    ∀ {Q' : Exit → Act → World → Prop}, (∀ E' w', E'.length = E.length → (∀ d, (∀ o ∈ l, o.dst ≠ some d) → E'.getD d (.v undef) = E.getD d (.v undef)) → Q E' w' → Q' .normal (acts E') w') → wpList P all.toArray Q' l (acts E) w := by
  intro l
  induction l with
  | nil => exact fun hc h Q' hq => hq _ _ rfl (fun _ _ => rfl) h
  | cons o rest ih =>
    intro E w hc h Q' hq
    have hcr : ∀ o ∈ rest, ∀ f ∈ opFns o, callable P f = true := fun o ho => hc o (List.mem_cons_of_mem _ ho)
    have RUN : ∀ {E : List AV}, (∀ E' w', E'.length = E.length → (∀ d, (∀ p ∈ o :: rest, p.dst ≠ some d) → E'.getD d (.v undef) = E.getD d (.v undef)) → Q E' w' → Q' .normal (acts E') w') →
        opVC P E o (fun v w' => opsVC P all Q rest (putE E o.dst v) w') w → o.wp P (acts E) w (wpList P all.toArray Q' rest) Q' := fun {E} hq h =>
      op_sound (hc o (List.mem_cons_self ..)) h fun v w' hk => by
        rw [acts_put]
        exact ih hcr hk fun E' w'' hl hs hQ => hq E' w'' (hl.trans (putE_length ..)) (fun d hd => (hs d fun p hp => hd p (List.mem_cons_of_mem _ hp)).trans (putE_getD (hd o (List.mem_cons_self ..)))) hQ
    have SKIP : ∀ {E : List AV}, (∀ E' w', E'.length = E.length → (∀ d, (∀ p ∈ o :: rest, p.dst ≠ some d) → E'.getD d (.v undef) = E.getD d (.v undef)) → Q E' w' → Q' .normal (acts E') w') →
        opsVC P all Q rest (putE E o.dst (.v undef)) w → wpList P all.toArray Q' rest ((acts E).put o.dst undef) w := fun {E} hq h => by
      have := acts_put E o.dst (.v undef)
      rw [val_v] at this
      rw [this]
      exact ih hcr h fun E' w'' hl hs hQ => hq E' w'' (hl.trans (putE_length ..)) (fun d hd => (hs d fun p hp => hd p (List.mem_cons_of_mem _ hp)).trans (putE_getD (hd o (List.mem_cons_self ..)))) hQ
    rw [opsVC] at h
    rw [wpList]
    split at h
    · rename_i hg
      rw [if_pos (by simp [Region.wanted, hg])]
      exact .inl (RUN hq h)
    · rename_i j want hg
      split at h
      · rename_i d b hv
        have hw := (wanted_of hg hv).1 b rfl
        have hE : E.set d (.v (.bool b)) = E := by
          unfold guardVal at hv
          split at hv
          · simp only [Option.some.injEq, Prod.mk.injEq] at hv
            obtain ⟨rfl, hv⟩ := hv
            exact set_same hv
          · cases hv
        cases b with
        | true =>
          simp only [cond_true, hE] at h
          cases want with
          | true => rw [if_pos (by rw [hw]; rfl)]; exact .inl (RUN hq h)
          | false => rw [if_neg (by rw [hw]; decide)]; exact SKIP hq h
        | false =>
          simp only [cond_false, hE] at h
          cases want with
          | true => rw [if_neg (by rw [hw]; decide)]; exact SKIP hq h
          | false => rw [if_pos (by rw [hw]; rfl)]; exact .inl (RUN hq h)
      · rename_i d hv
        have hw := (wanted_of hg hv).2 rfl
        rw [if_neg (by rw [hw]; decide)]
        exact SKIP hq h
      · exact h.elim
end Go.Fl
