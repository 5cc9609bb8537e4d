/- Contracts and plain laws that the claims of this seat lean on, put together. -/
import Derived.Test.YtkaombhkepopgaaDoorM2
import Derived.Stop.BytesEq
import Derived.ProofKit
import Derived.OpenShut
import Derived.SizedLaws
namespace Go.Fl

abbrev NtT := Int × Int × Int × Int × Int × RecT × Unit
abbrev n5 (p : NtT) : List Value := [.int .i64 p.1, .int .i64 p.2.1, .int .i64 p.2.2.1, .int .i64 p.2.2.2.1, .int .i64 p.2.2.2.2.1]
/-- A note's cells. -/
def ntL (p : NtT) : List Value := n5 p ++ rcL p.2.2.2.2.2.1 []
theorem ntL_eq (p : NtT) : (([.int .i64 p.1, .int .i64 p.2.1, .int .i64 p.2.2.1, .int .i64 p.2.2.2.1, .int .i64 p.2.2.2.2.1] : List Value) ++ ((([.int .i64 p.2.2.2.2.2.1.1, .int .i64 p.2.2.2.2.2.1.2.1] : List Value) ++ (p.2.2.2.2.2.1.2.2.1.1 ++ ([.slice p.2.2.2.2.2.1.2.2.2.1.a p.2.2.2.2.2.1.2.2.2.1.n p.2.2.2.2.2.1.2.2.2.1.c] : List Value))) ++ ([] : List Value))) = ntL p := by
  rw [List.append_nil]; rfl
theorem ntL_length (p : NtT) : (ntL p).length = 40 := by simp [ntL, rcL_length]
theorem nzS {a : Addr} {K : Addr → Prop} (h : K a) : nz (some a) K := h
theorem rdAt {w : World} {g i n : Nat} {cs vs : List Value} {t : TypeId} {f : Nat × Nat} (h : w.heap[g]? = some (.cells cs.toArray t f)) (hv : (cs.drop i).take n = vs) : Rd w (some ⟨g, i, none⟩) vs := by
  intro j u hu
  refine ⟨_, rfl, ?_⟩
  rw [addOff, cell_of_row w g (i + j) cs.toArray t f h]
  have : ((cs.drop i).take n)[j]? = some u := by rw [hv]; exact hu
  rw [List.getElem?_take] at this
  split at this
  · rw [List.getElem?_drop] at this; simpa using this
  · cases this
theorem slA {P : Program} {t e : TypeId} {n : Nat} (ht : P.underlying t = some (.array n e)) (hs : ∀ w, (sizeOf e).run P w = .ok 1 w) {a : Addr} {w : World} {K : Sl → Prop} (k : K ⟨some a, n, n⟩) : qn P (Instr.sliceAt t (.pointer (some a)) none none none) .L w K :=
  ⟨_, fun w' _ => by
    simp [Instr.sliceAt, Instr.sliceBounds, run_underlying ht, Instr.sureAddr, hs, Addr.add]
    rfl, k⟩
/-- A pointer of a known block is read. -/
theorem ixP {w : World} {g n : Nat} {cs : List Value} {t : TypeId} {f : Nat × Nat} {i : Int} {v : Option Addr} {K : Option Addr → Prop} (h : w.heap[g]? = some (.cells cs.toArray t f)) (h0 : 0 ≤ i) (hn : i < n) (hi : cs[i.toNat]? = some (.pointer v)) (k : K v) :
    ixa (some ⟨g, 0, none⟩) n i 1 fun a => ld .P w a K := by
  refine ⟨h0, hn, ?_⟩
  show ld .P w (atOff ⟨g, 0, none⟩ i 1) K
  rw [atH]
  exact ldP0 h (by simpa using hi) k

/-- A note is stored into a block. -/
theorem stNote {w : World} {g : Nat} {q : NtT} {t : TypeId} (hg : w.heap[g]? = some (.cells (ntL q).toArray t (0, 0))) (p : NtT) (hone : ∀ v ∈ p.2.2.2.2.2.1.2.2.1.1, v.oneCell' = true) {K : World → Prop}
    (hk : ∀ w', w'.heap[g]? = some (.cells (ntL p).toArray t (0, 0)) → w.grownBy w' (some g) → w'.heap.size = w.heap.size → K w') :
    st1 w ⟨g, 0, none⟩ (.int .i64 p.1) fun w1 => st1 w1 ((⟨g, 0, none⟩ : Addr).add 1) (.int .i64 p.2.1) fun w2 => st1 w2 (((⟨g, 0, none⟩ : Addr).add 1).add 1) (.int .i64 p.2.2.1) fun w3 => st1 w3 ((((⟨g, 0, none⟩ : Addr).add 1).add 1).add 1) (.int .i64 p.2.2.2.1) fun w4 => st1 w4 (((((⟨g, 0, none⟩ : Addr).add 1).add 1).add 1).add 1) (.int .i64 p.2.2.2.2.1) fun w5 =>
      st1 w5 ((((((⟨g, 0, none⟩ : Addr).add 1).add 1).add 1).add 1).add 1) (.int .i64 p.2.2.2.2.2.1.1) fun w6 => st1 w6 (((((((⟨g, 0, none⟩ : Addr).add 1).add 1).add 1).add 1).add 1).add 1) (.int .i64 p.2.2.2.2.2.1.2.1) fun w7 => stL ((((((((⟨g, 0, none⟩ : Addr).add 1).add 1).add 1).add 1).add 1).add 1).add 1) w7 0 p.2.2.2.2.2.1.2.2.1.1 fun w8 => st1 w8 (((((((((⟨g, 0, none⟩ : Addr).add 1).add 1).add 1).add 1).add 1).add 1).add 1).add 32) (.slice p.2.2.2.2.2.1.2.2.2.1.a p.2.2.2.2.2.1.2.2.2.1.n p.2.2.2.2.2.1.2.2.2.1.c) K := by
  refine st0 hg (by simp [ntL_length]) fun w1 h1 g1 s1 => ?_
  rw [addOff]
  have k1 : w1.heap[g]? = some (.cells (((.int .i64 p.1 :: (ntL q).tail) : List Value)).toArray t (0, 0)) := by rw [h1]; simp [ntL]
  refine st0 k1 (by simp [ntL_length]) fun w2 h2 g2 s2 => ?_
  rw [addOff]
  have k2 : w2.heap[g]? = some (.cells (((.int .i64 p.1 :: .int .i64 p.2.1 :: (ntL q).tail.tail) : List Value)).toArray t (0, 0)) := by rw [h2]; simp [ntL]
  refine st0 k2 (by simp [ntL_length]) fun w3 h3 g3 s3 => ?_
  rw [addOff]
  have k3 : w3.heap[g]? = some (.cells (((.int .i64 p.1 :: .int .i64 p.2.1 :: .int .i64 p.2.2.1 :: (ntL q).tail.tail.tail) : List Value)).toArray t (0, 0)) := by rw [h3]; simp [ntL]
  refine st0 k3 (by simp [ntL_length]) fun w4 h4 g4 s4 => ?_
  rw [addOff]
  have k4 : w4.heap[g]? = some (.cells (((.int .i64 p.1 :: .int .i64 p.2.1 :: .int .i64 p.2.2.1 :: .int .i64 p.2.2.2.1 :: (ntL q).tail.tail.tail.tail) : List Value)).toArray t (0, 0)) := by rw [h4]; simp [ntL]
  refine st0 k4 (by simp [ntL_length]) fun w5 h5 g5 s5 => ?_
  rw [addOff]
  have k5 : w5.heap[g]? = some (.cells (n5 p ++ rcL q.2.2.2.2.2.1 []).toArray t (0, 0)) := by rw [h5]; simp [ntL]
  refine stRec (pre := n5 p) (post := []) (q := q.2.2.2.2.2.1) k5 p.2.2.2.2.2.1 hone fun w' hb hg' hs' => hk w' hb (((((g1.trans g2).trans g3).trans g4).trans g5).trans hg') (by omega)
abbrev ntK : Kd := .pair (.I .i64) (.pair (.I .i64) (.pair (.I .i64) (.pair (.I .i64) (.pair (.I .i64) (.pair (.pair (.I .i64) (.pair (.I .i64) (.pair (.row 32) (.pair .L .nil)))) .nil)))))
/-- A note is read. -/
theorem ldNote {w : World} {g : Nat} {p : NtT} {t : TypeId} {f : Nat × Nat} (hg : w.heap[g]? = some (.cells (ntL p).toArray t f)) {K : NtT → Prop} (hk : K p) : ld ntK w ⟨g, 0, none⟩ K := by
  obtain ⟨k, a, b, c, d, r, ⟨⟩⟩ := p
  refine ⟨k, ?_, a, ?_, b, ?_, c, ?_, d, ?_, ?_⟩
  · rw [cell_of_row w g _ _ t f hg]; rfl
  · show w.cell? ((⟨g, 0, none⟩ : Addr).add 1) = _
    rw [addOff, cell_of_row w g _ _ t f hg]; rfl
  · show w.cell? (((⟨g, 0, none⟩ : Addr).add 1).add 1) = _
    rw [addOff, addOff, cell_of_row w g _ _ t f hg]; rfl
  · show w.cell? ((((⟨g, 0, none⟩ : Addr).add 1).add 1).add 1) = _
    rw [addOff, addOff, addOff, cell_of_row w g _ _ t f hg]; rfl
  · show w.cell? (((((⟨g, 0, none⟩ : Addr).add 1).add 1).add 1).add 1) = _
    rw [addOff, addOff, addOff, addOff, cell_of_row w g _ _ t f hg]; rfl
  · show ld _ w ((((((⟨g, 0, none⟩ : Addr).add 1).add 1).add 1).add 1).add 1) _
    rw [addOff, addOff, addOff, addOff, addOff]
    exact ldRec (pre := n5 (k, a, b, c, d, r, ())) (post := []) hg (K := fun r => K (k, a, b, c, d, r, ())) hk

/-- Which numbers a note of a kind has. -/
def offs (k : Int) : List Nat := if k = 1 then [1, 2, 3] else if k = 2 ∨ k = 5 ∨ k = 6 then [1, 4] else if k = 3 ∨ k = 4 then [1] else []
theorem offs_mem {k : Int} {o : Nat} (h : o ∈ offs k) : o = 1 ∨ o = 2 ∨ o = 3 ∨ o = 4 := by
  unfold offs at h
  split at h
  · simp at h; omega
  · split at h
    · simp at h; omega
    · split at h
      · simp at h; omega
      · simp at h
theorem offs_len (k : Int) : (offs k).length ≤ 3 := by
  unfold offs
  repeat (split; simp)
  simp
/-- A note's numbers. -/
def nv (p : NtT) (o : Nat) : Int := ([p.1, p.2.1, p.2.2.1, p.2.2.2.1, p.2.2.2.2.1] : List Int).getD o 0
theorem ntL_at (p : NtT) {o : Nat} (h : o < 5) : (ntL p).toArray[o]? = some (.int .i64 (nv p o)) := by
  obtain rfl | rfl | rfl | rfl | rfl : o = 0 ∨ o = 1 ∨ o = 2 ∨ o = 3 ∨ o = 4 := by omega
  all_goals rfl
/-- A note with some of the numbers alone. -/
def bareN (p : NtT) (os : List Nat) : NtT := (p.1, if 1 ∈ os then p.2.1 else 0, if 2 ∈ os then p.2.2.1 else 0, if 3 ∈ os then p.2.2.2.1 else 0, if 4 ∈ os then p.2.2.2.2.1 else 0, p.2.2.2.2.2.1, ())
theorem bareN_set (p : NtT) (os : List Nat) {o : Nat} (h : o = 1 ∨ o = 2 ∨ o = 3 ∨ o = 4) : (ntL (bareN p os)).toArray.setIfInBounds o (.int .i64 (nv p o)) = (ntL (bareN p (os ++ [o]))).toArray := by
  rcases h with rfl | rfl | rfl | rfl <;> simp [ntL, bareN, nv]
/-- A row of pointers to a block's cells. -/
def Pts (w : World) (base g : Nat) (os : List Nat) (r : Sl) : Prop := r.n = os.length ∧ (os ≠ [] → ∃ b t, r.a = some ⟨b, 0, none⟩ ∧ base ≤ b ∧ w.heap[b]? = some (.cells (os.map fun o => Value.pointer (some ⟨g, o, none⟩)).toArray t (0, 0)))
theorem Pts.fr {w w' : World} {base g : Nat} {os : List Nat} {r : Sl} (h : Pts w base g os r) (hf : Fr w w') : Pts w' base g os r :=
  ⟨h.1, fun hne => by obtain ⟨b, t, ha, hb, hh⟩ := h.2 hne; exact ⟨b, t, ha, hb, hf.heap hh⟩⟩
theorem Pts.kp {w w' : World} {base g c : Nat} {os : List Nat} {r : Sl} (h : Pts w base g os r) (hg : w.grownBy w' (some c)) (hc : c < base) : Pts w' base g os r :=
  ⟨h.1, fun hne => by
    obtain ⟨b, t, ha, hb, hh⟩ := h.2 hne
    exact ⟨b, t, ha, hb, (hg.block b (Array.getElem?_eq_some_iff.1 hh).1 (by simp; omega)).trans hh⟩⟩
theorem Pts.ix {w : World} {base g : Nat} {os : List Nat} {r : Sl} (h : Pts w base g os r) {i : Nat} (hi : i < os.length) {K : Option Addr → Prop} (k : K (some ⟨g, os[i], none⟩)) : ixa r.a r.n (i : Int) 1 fun a => ld .P w a K := by
  obtain ⟨b, t, ha, hb, hh⟩ := h.2 (by intro e; rw [e] at hi; simp at hi)
  rw [ha, h.1]
  exact ixP hh (by omega) (by omega) (by rw [Int.toNat_natCast, List.getElem?_map, List.getElem?_eq_getElem hi]; rfl) k
/-- Is the record empty? -/
def emptyR (q : RecT) (d : List UInt8) : Prop := q.1 = 0 ∧ q.2.1 = 0 ∧ d = List.replicate 32 0 ∧ q.2.2.2.1.n = 0
instance (q : RecT) (d : List UInt8) : Decidable (emptyR q d) := by unfold emptyR; infer_instance
/-- May a record be? -/
def chkS (k s : Int) (n : Nat) : Int := if ((k = 1 ∧ n = 0) ∨ (k = 2 ∧ (n : Int) = s) ∨ (k = 3 ∧ n ≤ 256)) ∧ 1 ≤ s ∧ s ≤ 256 then 0 else 100
/-- May a note be? -/
def FitP (p : NtT) (d : List UInt8) : Prop := offs p.1 ≠ [] ∧ (∀ o ∈ offs p.1, 1 ≤ nv p o ∧ nv p o ≤ 1073741824) ∧ (p.1 = 1 → p.2.2.1 ≤ 65535 ∧ p.2.2.2.1 ≤ 65535) ∧ (∀ o ∈ ([1, 2, 3, 4] : List Nat), o ∉ offs p.1 → nv p o = 0) ∧
  (p.1 ≠ 2 → emptyR p.2.2.2.2.2.1 d) ∧ (p.1 = 2 → chkS p.2.2.2.2.2.1.1 p.2.2.2.2.2.1.2.1 p.2.2.2.2.2.1.2.2.2.1.n = 0)
instance (p : NtT) (d : List UInt8) : Decidable (FitP p d) := by unfold FitP; infer_instance
def fitS (p : NtT) (d : List UInt8) : Int := if FitP p d then 0 else 100
theorem bare_same (p : NtT) (os : List Nat) : (((bareN p os).2.1 = p.2.1 ∧ (bareN p os).2.2.1 = p.2.2.1 ∧ (bareN p os).2.2.2.1 = p.2.2.2.1 ∧ (bareN p os).2.2.2.2.1 = p.2.2.2.2.1) ↔ ∀ o ∈ ([1, 2, 3, 4] : List Nat), o ∉ os → nv p o = 0) := by
  have e (x : Int) (P : Prop) [Decidable P] : ((if P then x else 0) = x) ↔ (¬P → x = 0) := by
    split
    · rename_i h; simp [h]
    · rename_i h; simp [h]; exact eq_comm
  simp only [bareN, e, List.mem_cons, List.not_mem_nil, or_false, forall_eq_or_imp, forall_eq]
  rfl
/-- A record's bytes. -/
def recB (k s : Int) (d l : List UInt8) : List UInt8 := numsB [k, s] ++ d ++ (numB l.length ++ l)
/-- A note's bytes. -/
def noteB (p : NtT) (d l : List UInt8) : List UInt8 := numB p.1.toNat ++ numsB ((offs p.1).map (nv p)) ++ (if p.1 = 2 then recB p.2.2.2.2.2.1.1 p.2.2.2.2.2.1.2.1 d l else [])
end Go.Fl
namespace Go.Proofs.YtkaombhkepopgaaDoor
open Go.RowKit Go.Fl

abbrev rcV (p : RecT) : Value := .agg ((([.int .i64 p.1, .int .i64 p.2.1] : List Value) ++ (p.2.2.1.1 ++ ([.slice p.2.2.2.1.a p.2.2.2.1.n p.2.2.2.1.c] : List Value)))).toArray
theorem sumGuard : Tryd.prog.eqGuardType Tryd.prog.depth t_api_Sum = false := by kernel_rfl
theorem size_u8 (w : World) : (sizeOf t_uint8).run Tryd.prog w = .ok 1 w := by
  obtain ⟨i, z, hi, hz, hsize, hby, hzs⟩ := slB.info
  simp [sizeOf, typeInfo, hi, hsize]
theorem sumEq {a b : List UInt8} (ha : a.length = 32) (hb : b.length = 32) (w : World) : (Op.equalIn 10000 t_api_Sum (.agg (u8s a).toArray) (.agg (u8s b).toArray)).run Tryd.prog w = .ok (a == b) w :=
  run_equalIn_bytes w 9998 t_api_Sum t_uint8 32 u_api_Sum u_uint8 size_u8 a b ha hb
theorem qnEq {a b : List UInt8} (ha : a.length = 32) (hb : b.length = 32) {w : World} {K : Bool → Prop} (k : K (decide (a = b))) : qn Tryd.prog (do eqGuard .eql t_api_Sum (.const .nilIface) (.const .nilIface) (.agg (u8s a).toArray) (.agg (u8s b).toArray); binOp .eql t_api_Sum (.agg (u8s a).toArray) (.agg (u8s b).toArray)) .B w K := by
  refine ⟨decide (a = b), fun w' _ => ?_, k⟩
  rw [Sem.run_bind]
  have h1 : (eqGuard .eql t_api_Sum (.const .nilIface) (.const .nilIface) (.agg (u8s a).toArray) (.agg (u8s b).toArray)).run Tryd.prog w' = .ok () w' := by simp [eqGuard, program, Sem.run]
  rw [h1, Result.andThen_ok, run_eql_struct, sumEq ha hb]
  simp only [Result.andThen_ok]
  rw [show (a == b) = decide (a = b) from by rw [Bool.eq_iff_iff]; simp]
  rfl
theorem qnNe {a b : List UInt8} (ha : a.length = 32) (hb : b.length = 32) {w : World} {K : Bool → Prop} (k : K (!decide (a = b))) : qn Tryd.prog (do eqGuard .neq t_api_Sum (.const .nilIface) (.const .nilIface) (.agg (u8s a).toArray) (.agg (u8s b).toArray); binOp .neq t_api_Sum (.agg (u8s a).toArray) (.agg (u8s b).toArray)) .B w K := by
  refine ⟨!decide (a = b), fun w' _ => ?_, k⟩
  rw [Sem.run_bind]
  have h1 : (eqGuard .neq t_api_Sum (.const .nilIface) (.const .nilIface) (.agg (u8s a).toArray) (.agg (u8s b).toArray)).run Tryd.prog w' = .ok () w' := by simp [eqGuard, program, Sem.run]
  rw [h1, Result.andThen_ok, run_neq_struct, sumEq ha hb]
  simp only [Result.andThen_ok]
  rw [show (a == b) = decide (a = b) from by rw [Bool.eq_iff_iff]; simp]
  rfl
theorem Check_ok {p : RecT} {w : World} : cl Tryd.prog n_record_Check #[rcV p] (.I .i64) w fun (r : Int) w' => r = chkS p.1 p.2.1 p.2.2.2.1.n ∧ Fr w w' := by
  refine record_Check.cl (p0 := p) ?_
  unfold record_Check
  rw [rcL_nil]
  refine nwI fun a1 w2 ha hs hf hb _ => ?_
  have hr := p.2.2.1.2
  have c0 : (rcL p []).toArray[0]? = some (.int .i64 p.1) := rfl
  have c1 : (rcL p []).toArray[1]? = some (.int .i64 p.2.1) := rfl
  have c34 : (rcL p []).toArray[34]? = some (.slice p.2.2.2.1.a p.2.2.2.1.n p.2.2.2.1.c) := by
    have e : rcL p [] = ([Value.int .i64 p.1, .int .i64 p.2.1] ++ p.2.2.1.1) ++ [slV p.2.2.2.1] := by simp [rcL]
    rw [e, List.getElem?_toArray, List.getElem?_append_right (by simp [hr]), List.length_append, hr]
    rfl
  generalize rcL p [] = cs at *
  rw [addOff, addOff]
  refine ldL0 (s := p.2.2.2.1) hb c34 ?_
  intro j1
  have hj : ∀ y : Bool, (y = true ↔ ((p.1 = 1 ∧ p.2.2.2.1.n = 0) ∨ (p.1 = 2 ∧ (p.2.2.2.1.n : Int) = p.2.1) ∨ (p.1 = 3 ∧ p.2.2.2.1.n ≤ 256))) → j1 y w2 := by
    intro y hy
    show bif (!y) then _ else _
    unfold chkS
    cases y with
    | false =>
      refine bT rfl ⟨?_, hf⟩
      rw [if_neg fun h => by have := hy.2 h.1; cases this]
    | true =>
      refine bF rfl ?_
      have h := hy.1 rfl
      refine ldI0 hb c1 (bD (fun h1 => ⟨?_, hf⟩) fun h1 => ldI0 hb c1 (bD (fun h2 => ⟨?_, hf⟩) fun h2 => ⟨?_, hf⟩))
      · rw [if_neg (by omega)]
      · rw [if_neg (by omega)]
      · rw [if_pos ⟨h, by omega, by omega⟩]
  clear_value j1
  refine ldI0 hb c0 ?_
  refine bE ?_ ?_ <;> intro h1
  · refine ldL0 (s := p.2.2.2.1) hb c34 (hj _ ?_)
    simp [h1]
  refine bE ?_ ?_ <;> intro h2
  · refine ldL0 (s := p.2.2.2.1) hb c34 (ldI0 hb c1 (hj _ ?_))
    simp [h2]
  refine bE ?_ ?_ <;> intro h3
  · refine hj _ ?_
    simp [h3]
    omega
  · refine hj false ?_
    simp [h1, h2, h3]
/-- The record of nothing. -/
def rc0 : RecT := (0, 0, zrow 32 (.int .u8 0), ⟨none, 0, 0⟩, ())
theorem rc0_one : ∀ v ∈ rc0.2.2.1.1, v.oneCell' = true := fun v hv => by
  simp only [rc0, zrow] at hv
  rw [List.eq_of_mem_replicate hv]
  rfl
/-- What is made of a chunk. -/
def MakeP (w : World) (b : List UInt8) (known : Bool) (r : RecT × Int × Unit) : Prop :=
  if b.length < 1 ∨ b.length > 256 then r = (rc0, 100, ())
  else r.2 = (0, ()) ∧ r.1.2.1 = b.length ∧ r.1.2.2.1.1 = u8s (dig b) ∧
    (if known then r.1.1 = 1 ∧ r.1.2.2.2.1 = ⟨none, 0, 0⟩ else if (shortS b).length < b.length then r.1.1 = 3 ∧ Bs w r.1.2.2.2.1 (shortS b) else r.1.1 = 2 ∧ Bs w r.1.2.2.2.1 b)
/-- What is made of a chunk: its data are the call's own. -/
def MakeO (w : World) (base : Nat) (b : List UInt8) (known : Bool) (r : RecT × Int × Unit) : Prop :=
  if b.length < 1 ∨ b.length > 256 then r = (rc0, 100, ())
  else r.2 = (0, ()) ∧ r.1.2.1 = b.length ∧ r.1.2.2.1.1 = u8s (dig b) ∧
    (if known then r.1.1 = 1 ∧ r.1.2.2.2.1 = ⟨none, 0, 0⟩ else if (shortS b).length < b.length then r.1.1 = 3 ∧ OwB w base t_uint8 r.1.2.2.2.1 (shortS b) else r.1.1 = 2 ∧ OwB w base t_uint8 r.1.2.2.2.1 b)
theorem MakeO.p {w : World} {base : Nat} {b : List UInt8} {known : Bool} {r : RecT × Int × Unit} (h : MakeO w base b known r) : MakeP w b known r := by
  unfold MakeO at h
  unfold MakeP
  split at h
  · rename_i h1; rw [if_pos h1]; exact h
  · rename_i h1
    rw [if_neg h1]
    refine ⟨h.1, h.2.1, h.2.2.1, ?_⟩
    have := h.2.2.2
    split at this
    · rename_i h2; rw [if_pos h2]; exact this
    · rename_i h2
      rw [if_neg h2]
      split at this
      · rename_i h3; rw [if_pos h3]; exact ⟨this.1, this.2.bs⟩
      · rename_i h3; rw [if_neg h3]; exact ⟨this.1, this.2.bs⟩
theorem Make_own {s : Sl} {b : List UInt8} {known : Bool} {w : World} (hd : Dig w) (hs : Bs w s b) (hl : b.length ≤ 140737488351232) :
    cl Tryd.prog n_record_Make #[.slice s.a s.n s.c, .bool known] (.tup (.pair (.pair (.I .i64) (.pair (.I .i64) (.pair (.row 32) (.pair .L .nil)))) (.pair (.I .i64) .nil))) w fun (r : RecT × Int × Unit) w' => MakeO w' w.heap.size b known r ∧ Fr w w' := by
  refine record_Make.cl ?_
  unfold record_Make
  have hn := hs.len
  refine nwI fun a1 w2 ha1 hs2 hf2 hb1 _ => ?_
  refine nwI fun a3 w4 ha3 hs4 hf4 hb3 _ => ?_
  have hf4' := hf2.trans hf4
  refine (Of_ok (x := s) (hd.fr hf4') hb3 (hs.fr hf4') (by omega)).mono ?_
  rintro ⟨x5, hx5⟩ w6 ⟨hx, hf6⟩
  dsimp only at hx
  have hdl := dig_length b
  obtain ⟨d, hdg⟩ : ∃ d, dig b = d := ⟨_, rfl⟩
  rw [hdg] at hx hdl
  subst hx
  have hf6' := hf4'.trans hf6
  refine nwI fun a7 w8 ha7 hs8 hf8 hb7 _ => ?_
  have hf8' := hf6'.trans hf8
  have h1at := ((hf4.trans hf6).trans hf8).heap hb1
  have hlt1 := hf4.size
  have hlt6 := hf6.size
  have hone := u8s_one d
  refine stRec (pre := []) (post := []) (q := rc0) hb7 (1, (s.n : Int), ⟨u8s d, hx5⟩, ⟨none, 0, 0⟩, ()) hone fun w12 hb12 hg12 hs12 => ?_
  have hf12 : Fr w w12 := hf8'.on (grown_below hg12 (by have := hf2.size; omega) hf8'.size)
  have h1at12 : w12.heap[a1]? = some (.cells (rcL rc0 []).toArray t_api_Record (0, 0)) := by
    rw [hg12.block a1 (Array.getElem?_eq_some_iff.1 h1at).1 (by simp; omega)]; exact h1at
  intro j1
  /- the results' block is written and read -/
  have fin : ∀ (u : World) (p : RecT) (e : Int) (K : RecT × Int × Unit → World → Prop), (∀ v ∈ p.2.2.1.1, v.oneCell' = true) → Fr w u → (∃ q : RecT, u.heap[a1]? = some (.cells ([] ++ rcL q []).toArray t_api_Record (0, 0))) → (∀ u', Fr w u' → (∀ k, k < u.heap.size → k ≠ a1 → u'.heap[k]? = u.heap[k]?) → K (p, e, ()) u') →
      st1 u ⟨a1, 0, none⟩ (.int .i64 p.1) fun w1 => st1 w1 ((⟨a1, 0, none⟩ : Addr).add 1) (.int .i64 p.2.1) fun w2 => stL (((⟨a1, 0, none⟩ : Addr).add 1).add 1) w2 0 p.2.2.1.1 fun w3 => st1 w3 ((((⟨a1, 0, none⟩ : Addr).add 1).add 1).add 32) (.slice p.2.2.2.1.a p.2.2.2.1.n p.2.2.2.1.c) fun w4 =>
        ld (.pair (.I .i64) (.pair (.I .i64) (.pair (.row 32) (.pair .L .nil)))) w4 ⟨a1, 0, none⟩ fun (r : RecT) => K ((r.1, (r.2.1, (r.2.2.1, (r.2.2.2.1, ())))), (e, ())) w4 := by
    rintro u p e K hp hfu ⟨q, hq⟩ hK
    refine stRec (pre := []) (post := []) (q := q) hq p hp fun u' hb' hg' hs' => ?_
    refine ldRec (pre := []) (post := []) (p := p) hb' ?_
    exact hK u' (hfu.on (grown_below hg' (by omega) hfu.size)) fun k hk hne => hg'.block k hk (by simp; omega)
  have hj : ∀ y : Bool, (y = true ↔ (b.length < 1 ∨ b.length > 256)) → j1 y w12 := by
    intro y hy
    show bif y then _ else _
    cases y with
    | true =>
      refine bT rfl ?_
      refine fin w12 rc0 100 (fun r w' => MakeO w' w.heap.size b known r ∧ Fr w w') rc0_one hf12 ⟨rc0, h1at12⟩ fun u' hf _ => ⟨?_, hf⟩
      unfold MakeO
      rw [if_pos (hy.1 rfl)]
    | false =>
      refine bF rfl ?_
      have hbd : ¬(b.length < 1 ∨ b.length > 256) := fun h => by have := hy.2 h; cases this
      cases known with
      | true =>
        refine bT rfl ?_
        refine ldRec (pre := []) (post := []) hb12 ?_
        refine fin w12 (1, (s.n : Int), ⟨u8s d, hx5⟩, ⟨none, 0, 0⟩, ()) 0 (fun r w' => MakeO w' w.heap.size b true r ∧ Fr w w') hone hf12 ⟨rc0, h1at12⟩ fun u' hf _ => ⟨?_, hf⟩
        unfold MakeO
        rw [if_neg hbd]
        exact ⟨rfl, by dsimp only; omega, by rw [hdg], rfl, rfl⟩
      | false =>
        refine bF rfl ?_
        refine (Clone_byte_ok (hs.fr hf12) (by omega)).mono ?_
        rintro x31 w32 ⟨h31, hf32⟩
        have hb32 := hf32.heap hb12
        have hf32' := hf12.trans hf32
        have h1at32 := hf32.heap h1at12
        have hne17 : a1 ≠ a7 := by have := hf4.size; omega
        have ha7w : w.heap.size ≤ a7 := by have := hf6'.size; omega
        have ha1w : a1 < w32.heap.size := (Array.getElem?_eq_some_iff.1 h1at32).1
        refine stKD (p := (1, (s.n : Int), ⟨u8s d, hx5⟩, ⟨none, 0, 0⟩, ())) hb32 fun w34 hb34 hg34 hs34 => ?_
        have hf34 : Fr w w34 := hf32'.on (grown_below hg34 ha7w hf32'.size)
        have h1at34 : w34.heap[a1]? = _ := (hg34.block a1 ha1w (by simp; omega)).trans h1at32
        have h31a7 : ∀ ad, x31.a = some ad → ad.block ≠ a7 ∧ ad.block ≠ a1 := fun ad had => by
          have := (h31.own ad had).1
          have := (Array.getElem?_eq_some_iff.1 hb12).1
          have := (Array.getElem?_eq_some_iff.1 h1at12).1
          omega
        have h31' : OwB w34 w.heap.size t_uint8 x31 b := (h31.mono hf12.size).kp (kp_grown hg34) fun ad had => (h31a7 ad had).1
        intro j2
        have hj2 : ∀ (u : World) (k : Int) (x : Sl) (l : List UInt8), Fr w u → u.heap[a7]? = some (.cells (rcL (k, (s.n : Int), ⟨u8s d, hx5⟩, x, ()) []).toArray t_api_Record (0, 0)) → u.heap[a1]? = some (.cells (rcL rc0 []).toArray t_api_Record (0, 0)) → OwB u w.heap.size t_uint8 x l → (∀ ad, x.a = some ad → ad.block ≠ a1) →
            (if (shortS b).length < b.length then k = 3 ∧ l = shortS b else k = 2 ∧ l = b) → j2 u := by
          intro u k x l hfu h7 h1 hx hxa hkl
          show ld _ u ⟨a7, 0, none⟩ _
          refine ldRec (pre := []) (post := []) (p := (k, (s.n : Int), ⟨u8s d, hx5⟩, x, ())) h7 ?_
          refine fin u (k, (s.n : Int), ⟨u8s d, hx5⟩, x, ()) 0 (fun r w' => MakeO w' w.heap.size b false r ∧ Fr w w') hone hfu ⟨rc0, h1⟩ fun u' hf' hk' => ⟨?_, hf'⟩
          have hx' : OwB u' w.heap.size t_uint8 x l := hx.kp (S := fun k => k ≠ a1) (fun k hk hne => hk' k hk hne) hxa
          unfold MakeO
          rw [if_neg hbd]
          refine ⟨rfl, by dsimp only; omega, by rw [hdg], ?_⟩
          rw [if_neg (by decide)]
          split
          · rename_i hlt; rw [if_pos hlt] at hkl; obtain ⟨rfl, rfl⟩ := hkl; exact ⟨rfl, hx'⟩
          · rename_i hlt; rw [if_neg hlt] at hkl; obtain ⟨rfl, rfl⟩ := hkl; exact ⟨rfl, hx'⟩
        clear_value j2
        refine (Shorten_ok (hs.fr hf34) (by omega)).mono ?_
        rintro x35 w36 ⟨h35, hf36⟩
        have h35n := h35.len
        have hb36 := hf36.heap hb34
        have h1at36 := hf36.heap h1at34
        refine bD ?_ ?_ <;> intro hlt
        · refine stKD hb36 fun w38 hb38 hg38 hs38 => ?_
          have hs34' := hf34.size
          have l7 := (Array.getElem?_eq_some_iff.1 hb34).1
          have l1 := (Array.getElem?_eq_some_iff.1 h1at34).1
          refine hj2 w38 3 x35 (shortS b) ((hf34.trans hf36).on (grown_below hg38 ha7w (hf34.trans hf36).size)) hb38 ((hg38.block a1 (Array.getElem?_eq_some_iff.1 h1at36).1 (by simp; omega)).trans h1at36) ((h35.mono hf34.size).kp (kp_grown hg38) fun ad had => by have := (h35.own ad had).1; omega) (fun ad had => by have := (h35.own ad had).1; omega) ?_
          rw [if_pos (by omega)]
          exact ⟨rfl, rfl⟩
        · refine hj2 w36 2 x31 b (hf34.trans hf36) hb36 h1at36 (h31'.fr hf36) (fun ad had => (h31a7 ad had).2) ?_
          rw [if_neg (by omega)]
          exact ⟨rfl, rfl⟩
  clear_value j1
  refine bD ?_ ?_ <;> intro h1
  · exact hj true ⟨fun _ => by omega, fun _ => rfl⟩
  · exact hj _ (by rw [decide_eq_true_iff]; omega)
theorem Make_ok {s : Sl} {b : List UInt8} {known : Bool} {w : World} (hd : Dig w) (hs : Bs w s b) (hl : b.length ≤ 140737488351232) :
    cl Tryd.prog n_record_Make #[.slice s.a s.n s.c, .bool known] (.tup (.pair (.pair (.I .i64) (.pair (.I .i64) (.pair (.row 32) (.pair .L .nil)))) (.pair (.I .i64) .nil))) w fun (r : RecT × Int × Unit) w' => MakeP w' b known r ∧ Fr w w' :=
  (Make_own hd hs hl).mono fun _ _ h => ⟨h.1.p, h.2⟩
end Go.Proofs.YtkaombhkepopgaaDoor
namespace Go.Proofs.YtkaombhkepopgaaDoor
open Go.RowKit Go.Fl

/-- What is opened of a record. -/
def openS (k s : Int) (d l : List UInt8) : List UInt8 × Int :=
  if chkS k s l.length ≠ 0 then ([], 100) else if k = 1 then ([], 110)
  else if k = 3 ∧ ((restS l s).2 ≠ 0 ∨ ((restS l s).1.length : Int) ≠ s) then ([], 100)
  else if dig (if k = 3 then (restS l s).1 else l) = d then (if k = 3 then (restS l s).1 else l, 0) else ([], 111)
theorem chkS_ok {k s : Int} {n : Nat} (h : chkS k s n = 0) : ((k = 1 ∧ n = 0) ∨ (k = 2 ∧ (n : Int) = s) ∨ (k = 3 ∧ n ≤ 256)) ∧ 1 ≤ s ∧ s ≤ 256 := by
  unfold chkS at h
  split at h
  · assumption
  · cases h
theorem rc_c34 (p : RecT) : (rcL p []).toArray[34]? = some (slV p.2.2.2.1) := by
  have e : rcL p [] = ([Value.int .i64 p.1, .int .i64 p.2.1] ++ p.2.2.1.1) ++ [slV p.2.2.2.1] := by simp [rcL]
  have hr := p.2.2.1.2
  rw [e, List.getElem?_toArray, List.getElem?_append_right (by simp [hr]), List.length_append, hr]
  rfl
theorem Open_ok {p : RecT} {d l : List UInt8} {w : World} (hd : Dig w) (hp : p.2.2.1.1 = u8s d) (hl : Bs w p.2.2.2.1 l) (hll : l.length ≤ 140737488351232) :
    cl Tryd.prog n_record_Open #[rcV p] (.tup (.pair .L (.pair (.I .i64) .nil))) w fun (r : Sl × Int × Unit) w' => OwB w' w.heap.size t_uint8 r.1 (openS p.1 p.2.1 d l).1 ∧ r.2 = ((openS p.1 p.2.1 d l).2, ()) ∧ Fr w w' := by
  refine record_Open.cl (p0 := p) ?_
  unfold record_Open
  rw [rcL_nil]
  have hn := hl.len
  have hdl : d.length = 32 := by have := p.2.2.1.2; rw [hp, u8s_length] at this; exact this
  refine nwI fun a1 w2 ha hs2 hf2 hb _ => ?_
  refine ldRec (pre := []) (post := []) hb ?_
  refine (Check_ok (p := p)).mono ?_
  rintro e w5 ⟨rfl, hf5⟩
  have hb5 := hf5.heap hb
  have hf5' := hf2.trans hf5
  rw [hn]
  refine bNe ?_ ?_ <;> intro hc
  · have e : openS p.1 p.2.1 d l = ([], 100) := by rw [openS, if_pos hc]
    have e1 : chkS p.1 p.2.1 l.length = 100 := by unfold chkS at hc ⊢; split at hc; exact absurd rfl hc; rw [if_neg (by assumption)]
    rw [e, e1]
    exact ⟨OwB.nil _ _ _, rfl, hf5'⟩
  have hok := chkS_ok hc
  have c0 : (rcL p []).toArray[0]? = some (.int .i64 p.1) := rfl
  have c1 : (rcL p []).toArray[1]? = some (.int .i64 p.2.1) := rfl
  rw [addOff, addOff, addOff]
  refine ldL0 (s := p.2.2.2.1) hb5 (rc_c34 p) ?_
  refine (Clone_byte_ok (hl.fr hf5') (by omega)).mono ?_
  rintro x7 w8 ⟨h7, hf8⟩
  have hf8' := hf5'.trans hf8
  have hb8 := hf8.heap hb5
  intro j1
  have hj : ∀ (y : Sl) (u : World) (m : List UInt8), OwB u w.heap.size t_uint8 y m → w.heap.size < u.heap.size → m.length ≤ 1048576 → Fr w u → u.heap[a1]? = some (.cells (rcL p []).toArray t_api_Record (0, 0)) → (openS p.1 p.2.1 d l = if dig m = d then (m, 0) else ([], 111)) → j1 y u := by
    intro y u m hy hus hm hfu hbu ho
    show dr u _
    intro n
    have hfn := Fr.drewN u n
    refine ldRow (vs := u8s d) (hfn.heap hbu) (by rw [← hp, Nat.zero_add]; unfold rcL; rw [show ((Value.int .i64 p.1 :: .int .i64 p.2.1 :: (p.2.2.1.1 ++ (slV p.2.2.2.1 :: []))).drop 2) = p.2.2.1.1 ++ [slV p.2.2.2.1] from rfl, List.take_left' p.2.2.1.2]) (by rw [u8s_length, hdl]) ?_
    refine nwI fun a26 w27 ha26 hs27 hf27 hb27 _ => ⟨hf27, ?_⟩
    have hfw := (hfu.trans hfn).trans hf27
    refine (Of_ok (x := y) (hd.fr hfw) hb27 ((hy.fr (hfn.trans hf27)).bs) (by omega)).mono ?_
    rintro ⟨x28, hx28⟩ w29 ⟨hx, hf29⟩
    refine ⟨hf29, ?_⟩
    dsimp only at hx ⊢
    subst hx
    have hdm := dig_length m
    refine qnNe hdm hdl ?_
    rw [ho]
    by_cases h : dig m = d
    · rw [if_pos h, decide_eq_true h]
      exact ⟨hy.fr ((hfn.trans hf27).trans hf29), rfl, hfw.trans hf29⟩
    · rw [if_neg h, decide_eq_false h]
      exact ⟨OwB.nil _ _ _, rfl, hfw.trans hf29⟩
  clear_value j1
  refine ldI0 hb8 c0 ?_
  refine bE ?_ ?_ <;> intro h1
  · have e : openS p.1 p.2.1 d l = ([], 110) := by rw [openS, if_neg (by omega), if_pos h1]
    rw [e]
    exact ⟨OwB.nil _ _ _, rfl, hf8'⟩
  refine bE ?_ ?_ <;> intro h3
  · refine ldL0 (s := p.2.2.2.1) hb8 (rc_c34 p) (ldI0 hb8 c1 ?_)
    refine (Restore_ok (hl.fr hf8') (by omega) (by omega)).mono ?_
    rintro ⟨x12, e12, ⟨⟩⟩ w13 ⟨h12, he, hf13⟩
    dsimp only at h12 he ⊢
    obtain ⟨rfl, _⟩ := Prod.mk.inj he
    have hb13 := hf13.heap hb8
    have hlen := h12.len
    have hf13' := hf8'.trans hf13
    refine bNe ?_ ?_ <;> intro hr
    · have e : openS p.1 p.2.1 d l = ([], 100) := by rw [openS, if_neg (by omega), if_neg h1, if_pos ⟨h3, .inl (by omega)⟩]
      rw [e]
      exact ⟨OwB.nil _ _ _, rfl, hf13'⟩
    refine ldI0 hb13 c1 ?_
    refine bNe ?_ ?_ <;> intro hr2
    · have e : openS p.1 p.2.1 d l = ([], 100) := by rw [openS, if_neg (by omega), if_neg h1, if_pos ⟨h3, .inr (by omega)⟩]
      rw [e]
      exact ⟨OwB.nil _ _ _, rfl, hf13'⟩
    refine hj x12 w13 _ (h12.mono hf8'.size) (by have := hf5.size; have := hf8.size; have := hf13.size; omega) (by omega) hf13' hb13 ?_
    rw [openS, if_neg (by omega), if_neg h1, if_neg (by omega), if_pos h3]
  · refine hj x7 w8 l (h7.mono hf5'.size) (by have := hf5.size; have := hf8.size; omega) (by omega) hf8' hb8 ?_
    rw [openS, if_neg (by omega), if_neg h1, if_neg (by omega), if_neg h3]
end Go.Proofs.YtkaombhkepopgaaDoor
namespace Go.Fl

theorem add_zero' (a : Addr) : a.add 0 = a := by simp [Addr.add]
/-- A value that lies anywhere is read. -/
theorem ldAt : ∀ (k : Kd) (x : k.T), (k.av x).okLd = true → ∀ {w : World} {a : Addr} {K : k.T → Prop}, (∀ (j : Nat) v, (k.av x).cells[j]? = some v → w.cell? (a.add j) = some v) → K x → ld k w a K
  | .nil, (), _, _, _, _, _, hk => hk
  | .pair k1 k2, (x, y), hx, w, a, K, h, hk => by
    simp only [Kd.av, AV.okLd, Bool.and_eq_true] at hx
    simp only [Kd.av, AV.cells] at h
    have hl : (k1.av x).cells.length = k1.size := ld_all.kd_size k1 x hx.1
    refine ldAt k1 x hx.1 (fun j v hj => h j v (by rw [List.getElem?_append_left (List.getElem?_eq_some_iff.1 hj).1]; exact hj)) ?_
    refine ldAt k2 y hx.2 (fun j v hj => ?_) hk
    rw [add_add, ← hl]
    exact h _ v (by rw [List.getElem?_append_right (by omega), Nat.add_sub_cancel_left]; exact hj)
  | .row n, l, _, w, a, K, h, hk => ⟨l, fun i hi => h i _ (List.getElem?_eq_getElem hi), hk⟩
  | .B, b, _, w, a, K, h, hk => ⟨b, by have := h 0 _ rfl; rwa [add_zero'] at this, hk⟩
  | .I k, b, _, w, a, K, h, hk => ⟨b, by have := h 0 _ rfl; rwa [add_zero'] at this, hk⟩
  | .S, b, _, w, a, K, h, hk => ⟨b, by have := h 0 _ rfl; rwa [add_zero'] at this, hk⟩
  | .P, b, _, w, a, K, h, hk => ⟨b, by have := h 0 _ rfl; rwa [add_zero'] at this, hk⟩
  | .L, b, _, w, a, K, h, hk => ⟨b, by have := h 0 _ rfl; rwa [add_zero'] at this, hk⟩
  | .M, b, _, w, a, K, h, hk => ⟨b, by have := h 0 _ rfl; rwa [add_zero'] at this, hk⟩
  | .U, b, hx, w, a, K, h, hk => ⟨b, by have := h 0 b (by simp [Kd.av, AV.cells, one_cells hx]); rwa [add_zero'] at this, hk, hx⟩
  | .tup _, _, hx, _, _, _, _, _ => by cases hx
theorem flat_get {E : Type} {f : E → List Value} {sz : Nat} (hlen : ∀ x, (f x).length = sz) : ∀ {xs : List E} {i j : Nat} (_ : i < xs.length), j < sz → (xs.flatMap f)[i * sz + j]? = (f xs[i])[j]?
  | [], _, _, h, _ => by simp at h
  | x :: xs, 0, j, _, hj => by
    rw [List.flatMap_cons, Nat.zero_mul, Nat.zero_add, List.getElem?_append_left (by rw [hlen]; exact hj)]
    rfl
  | x :: xs, i + 1, j, h, hj => by
    rw [List.flatMap_cons, List.getElem?_append_right (by rw [hlen, Nat.succ_mul]; omega), hlen, show (i + 1) * sz + j - sz = i * sz + j from by rw [Nat.succ_mul]; omega]
    exact flat_get hlen (by simpa using h) hj
theorem flat_len {E : Type} {f : E → List Value} {sz : Nat} (hlen : ∀ x, (f x).length = sz) : ∀ xs : List E, (xs.flatMap f).length = xs.length * sz
  | [] => by simp
  | x :: xs => by rw [List.flatMap_cons, List.length_append, hlen, flat_len hlen xs, List.length_cons, Nat.succ_mul]; omega
/-- One of a row of structs. -/
theorem ixE {E : Type} {f : E → List Value} {sz : Nat} (hlen : ∀ x, (f x).length = sz) {w : World} {s : Sl} {xs : List E} {i : Nat} {K : Addr → Prop} (hr : Rd w s.a (xs.flatMap f)) (hl : s.n = xs.length) (hi : i < xs.length) (hs : 0 < sz)
    (h : ∀ a, (∀ (j : Nat) v, (f xs[i])[j]? = some v → w.cell? (a.add j) = some v) → K a) : ixa s.a s.n (i : Int) sz K := by
  refine ⟨by omega, by omega, ?_⟩
  have hlt : ∀ j, j < sz → ∃ v, (xs.flatMap f)[i * sz + j]? = some v := fun j hj => by
    rw [flat_get hlen hi hj]
    exact ⟨_, List.getElem?_eq_getElem (by rw [hlen]; exact hj)⟩
  obtain ⟨v0, h0⟩ := hlt 0 hs
  obtain ⟨ad, ha, _⟩ := hr _ _ h0
  rw [ha]
  refine h _ fun j v hj => ?_
  have hjs : j < sz := by rw [← hlen xs[i]]; exact (List.getElem?_eq_some_iff.1 hj).1
  obtain ⟨ad', ha', hc⟩ := hr (i * sz + j) v (by rw [flat_get hlen hi hjs]; exact hj)
  rw [ha] at ha'
  cases ha'
  rw [atOff_eq, add_add, Int.toNat_natCast]
  exact hc
/-- A row of structs that nobody turns. -/
structure RwG (w : World) (Z : Nat → Prop) {E : Type} (f : E → List Value) (s : Sl) (xs : List E) : Prop where
  rd : Rd w s.a (xs.flatMap f)
  len : s.n = xs.length
  cap : s.n ≤ s.c
  cold : xs ≠ [] → ∀ ad, s.a = some ad → ¬Z ad.block
section
variable {E : Type} {f : E → List Value} {sz : Nat} {w : World} {Z : Nat → Prop} {s : Sl} {xs : List E}
theorem flat_ne (_hlen : ∀ x, (f x).length = sz) (_hs : 0 < sz) {xs : List E} (h : xs.flatMap f ≠ []) : xs ≠ [] := fun e => h (by rw [e]; rfl)
theorem flat_ne' (hlen : ∀ x, (f x).length = sz) (hs : 0 < sz) {xs : List E} (h : xs ≠ []) : xs.flatMap f ≠ [] := fun e => by
  have := congrArg List.length e
  rw [flat_len hlen, List.length_nil] at this
  have : xs.length = 0 := by
    rcases Nat.mul_eq_zero.1 this with h1 | h1
    · exact h1
    · omega
  exact h (List.eq_nil_of_length_eq_zero this)
theorem RwG.nil (w : World) (Z : Nat → Prop) (f : E → List Value) (c : Nat) : RwG w Z f ⟨none, 0, c⟩ [] := ⟨Rd.nil _ _, rfl, Nat.zero_le _, fun h => absurd rfl h⟩
theorem RwG.mv {F Z' : Nat → Prop} {w' : World} (h : RwG w Z f s xs) (hlen : ∀ x, (f x).length = sz) (hs : 0 < sz) (hm : Mv F w w') (hF : ∀ k, F k → Z k ∨ w.heap.size ≤ k) (hZ : ∀ k, Z' k → Z k ∨ w.heap.size ≤ k) : RwG w' Z' f s xs := by
  have hlt : xs ≠ [] → ∀ ad, s.a = some ad → ad.block < w.heap.size := fun hx => h.rd.lt (flat_ne' hlen hs hx)
  refine ⟨h.rd.mv hm fun hx ad ha hf => ?_, h.len, h.cap, fun hx ad ha hz => ?_⟩
  · have hx := flat_ne hlen hs hx
    rcases hF _ hf with h1 | h1
    · exact h.cold hx ad ha h1
    · have := hlt hx ad ha; omega
  · rcases hZ _ hz with h1 | h1
    · exact h.cold hx ad ha h1
    · have := hlt hx ad ha; omega
theorem RwG.own {base : Nat} {e : TypeId} (h : w.ownsRow base e sz (.slice s.a s.n s.c) s.n (xs.flatMap f)) (hlen : ∀ x, (f x).length = sz) (hs : 0 < sz) (hZ : ∀ k, Z k → k < base) : RwG w Z f s xs := by
  refine ⟨Rd.of_own h, ?_, ?_, fun _ ad ha hz => ?_⟩
  · have := h.1
    rw [flat_len hlen] at this
    exact (Nat.eq_of_mul_eq_mul_right hs this).symm
  · rcases h.2 with ⟨hv, hn⟩ | ⟨g, cap, cur, hv, _, _, hc, _⟩
    · injection hv with _ h1 h2; omega
    · injection hv with _ h1 h2; omega
  · have := World.ownsRow.lt h ad.block (by rw [ha]; rfl)
    have := hZ _ hz
    omega
/-- One of a row is read. -/
theorem RwG.ix (h : RwG w Z f s xs) (hlen : ∀ x, (f x).length = sz) (hs : 0 < sz) {i : Int} {j : Nat} (hij : i = (j : Int)) (hj : j < xs.length) {K : Addr → Prop}
    (hk : ∀ a, (∀ (o : Nat) v, (f xs[j])[o]? = some v → w.cell? (a.add o) = some v) → K a) : ixa s.a s.n i sz K := by
  subst hij
  exact ixE hlen h.rd h.len hj hs hk
/-- A part of a row. -/
theorem RwG.cut (h : RwG w Z f s xs) (hlen : ∀ x, (f x).length = sz) (_hs : 0 < sz) {i j : Nat} (hij : i ≤ j) (hj : j ≤ xs.length) : RwG w Z f (cut s i j sz) ((xs.take j).drop i) := by
  have hl := h.len
  have hc := h.cap
  have hsp : xs.flatMap f = (xs.take i).flatMap f ++ (((xs.take j).drop i).flatMap f ++ (xs.drop j).flatMap f) := by
    rw [← List.flatMap_append, ← List.flatMap_append]
    congr 1
    have e1 : xs.take j = xs.take i ++ (xs.take j).drop i := by
      have := List.take_append_drop i (xs.take j)
      rw [List.take_take, Nat.min_eq_left hij] at this
      exact this.symm
    rw [← List.append_assoc, ← e1, List.take_append_drop]
  have hd : Rd w (s.a.map (·.add (i * sz))) (((xs.take j).drop i).flatMap f) := by
    have h1 := h.rd.drop (i * sz)
    rw [hsp, List.drop_left' (by rw [flat_len hlen, List.length_take]; congr 1; omega)] at h1
    have h2 := h1.take (((xs.take j).drop i).flatMap f).length
    rw [List.take_left' rfl] at h2
    exact h2
  have hne : (xs.take j).drop i ≠ [] → xs ≠ [] := fun h e => h (by rw [e]; simp)
  refine ⟨?_, by simp [Fl.cut, List.length_take]; omega, by simp [Fl.cut]; omega, fun hx ad ha => ?_⟩
  · unfold Fl.cut
    by_cases hci : s.c = i
    · simp only [hci, if_true]
      have : (xs.take j).drop i = [] := by rw [List.drop_eq_nil_iff, List.length_take]; omega
      rw [this]; exact Rd.nil _ _
    · rw [if_neg hci, show (fun x => atOff x (i : Int) sz) = fun x : Addr => x.add (i * sz) from by funext x; rw [atOff_eq, Int.toNat_natCast]]
      exact hd
  · unfold Fl.cut at ha
    split at ha
    · exact h.cold (hne hx) ad ha
    · cases hs' : s.a with
      | none => rw [hs'] at ha; cases ha
      | some ad' =>
        rw [hs'] at ha
        simp only [Option.map_some, Option.some.injEq] at ha
        rw [← ha, atOff_eq, add_block]
        exact h.cold (hne hx) ad' hs'
/-- A part, as code asks for it. -/
theorem RwG.sls (h : RwG w Z f s xs) (hlen : ∀ x, (f x).length = sz) (hs : 0 < sz) {l m : Int} {i j : Nat} (hl : l = (i : Int)) (hm : m = (j : Int)) (hij : i ≤ j) (hj : j ≤ xs.length) {K : Sl → Prop}
    (hk : ∀ r, RwG w Z f r ((xs.take j).drop i) → K r) : Fl.sls s l m sz K := by
  subst hl hm
  have := h.len
  have := h.cap
  exact ⟨by omega, by omega, by omega, hk _ (h.cut hlen hs hij hj)⟩
/-- A copy of a row: of its own structs alone. -/
theorem cloneG' {P : Program} {t ty e : TypeId} {bytes : Nat} (hT : SlT P t e sz bytes) (h : RwG w Z f s xs) (hlen : ∀ x, (f x).length = sz) (hs : 0 < sz) (h1 : ∀ x ∈ xs, ∀ v ∈ f x, v.oneCell' = true) (hby : xs.length * bytes ≤ 140737488355328) (hl : xs.length ≤ 140737488355328)
    {K : Sl → World → Prop} (hk : ∀ (r : Sl) w', w'.ownsRow w.heap.size e sz (.slice r.a r.n r.c) r.n (xs.flatMap f) → r.n = xs.length → Fr w w' → K r w') :
    bif s.a.isNone then K ⟨none, 0, 0⟩ w else nw w [] e fun a1 w2 => app P t ty ⟨some a1, 0, 0⟩ s w2 fun r w' => K r w' := by
  refine bB ?_ ?_ <;> intro hn
  · have : xs = [] := by
      have hr := h.rd
      cases hxs : xs with
      | nil => rfl
      | cons x l =>
        exfalso
        have hp := flat_ne' hlen hs (xs := xs) (by rw [hxs]; simp)
        obtain ⟨v, rest, hv⟩ := List.exists_cons_of_ne_nil hp
        obtain ⟨ad, ha, _⟩ := hr 0 v (by rw [hv]; rfl)
        rw [ha] at hn; cases hn
    subst this
    exact hk _ _ (World.ownsRow_nil _ _ _ _) rfl (Fr.refl w)
  · refine nwI fun b w2 hb2 hs2 hf2 hblk _ => ?_
    have hll := h.len
    refine app0V hT (base := w.heap.size) hblk (by omega) (h.rd.below hf2) (by rw [flat_len hlen, hll]) (fun v hv => by
      obtain ⟨x, hx1, hx⟩ := List.mem_flatMap.1 hv
      exact h1 x hx1 v hx) (by rw [hll]; exact hby) (by rw [hll]; exact hl) hf2.size fun r w3 hrn ho hf3 => hk r w3 (hrn ▸ hrn ▸ ho) (by omega) (hf2.trans hf3)
/-- A row of structs, cut in three. -/
theorem flat_split (_hlen : ∀ x, (f x).length = sz) {xs : List E} {j : Nat} (hj : j < xs.length) (y : E) :
    xs.flatMap f = (xs.take j).flatMap f ++ f xs[j] ++ (xs.drop (j + 1)).flatMap f ∧ (xs.set j y).flatMap f = (xs.take j).flatMap f ++ f y ++ (xs.drop (j + 1)).flatMap f := by
  have e1 : xs = xs.take j ++ [xs[j]] ++ xs.drop (j + 1) := by
    rw [List.append_assoc, List.singleton_append, ← List.drop_eq_getElem_cons hj, List.take_append_drop]
  have e2 : xs.set j y = xs.take j ++ [y] ++ xs.drop (j + 1) := by
    rw [List.set_eq_take_append_cons_drop, if_pos hj, List.append_assoc, List.singleton_append]
  refine ⟨?_, ?_⟩
  · conv => lhs; rw [e1]
    rw [List.flatMap_append, List.flatMap_append, List.flatMap_singleton]
  · rw [e2, List.flatMap_append, List.flatMap_append, List.flatMap_singleton]
/-- One of an own row is stored. -/
theorem own_st {base : Nat} {e : TypeId} (h : w.ownsRow base e sz (.slice s.a s.n s.c) s.n (xs.flatMap f)) (hlen : ∀ x, (f x).length = sz) (hs : 0 < sz) {i : Int} {j : Nat} (hij : i = (j : Int)) (hj : j < xs.length) (y : E) (v : AV) (hv : v.okSt = true) (hc : v.cells = f y) {K : World → Prop}
    (hk : ∀ w', w'.ownsRow base e sz (.slice s.a s.n s.c) s.n ((xs.set j y).flatMap f) → w.grownBy w' (Value.slice s.a s.n s.c).ownBlock → w'.heap.size = w.heap.size → K w') : ixa s.a s.n i sz fun a => st w a v K := by
  have hn : xs.length = s.n := by
    have := h.1
    rw [flat_len hlen] at this
    exact Nat.eq_of_mul_eq_mul_right hs this
  subst hij
  have h1 := h.1
  rcases h.2 with ⟨_, hz⟩ | ⟨g, cap, cur, hsl, hb, hg, hnc, hcm, hsz, ht⟩
  · omega
  have ha : s.a = some ⟨g, 0, none⟩ := by injection hsl
  refine ⟨by omega, by omega, ?_⟩
  rw [ha]
  obtain ⟨e1, e2⟩ := flat_split (f := f) hlen hj y
  have hpre : ((xs.take j).flatMap f).length = j * sz := by rw [flat_len hlen, List.length_take, Nat.min_eq_left (Nat.le_of_lt hj)]
  have hcur : cur = ((xs.take j).flatMap f ++ f xs[j] ++ ((xs.drop (j + 1)).flatMap f ++ cur.toList.drop (s.n * sz))).toArray := by
    rw [← List.append_assoc, ← e1, ← ht, List.take_append_drop]
  show st w (atOff ⟨g, 0, none⟩ (j : Int) sz) v K
  rw [atOff_eq, addOff, Int.toNat_natCast, Nat.zero_add, ← hpre]
  refine st_all v hv (q := f xs[j]) (post := (xs.drop (j + 1)).flatMap f ++ cur.toList.drop (s.n * sz)) (t := e) (by rw [hg, ← hcur]) (by rw [hlen, ← AV.cells_length, hc, hlen]) fun w' hb' hgr hsz' => hk w' ⟨by rw [← h1, e1, e2]; simp [hlen], .inr ⟨g, cap, _, hsl, hb, hb', hnc, hcm, ?_, ?_⟩⟩ (by rw [ha]; exact hgr) hsz'
  · rw [← hsz]
    conv => rhs; rw [hcur]
    simp [hc, hlen]
  · rw [hc, ← List.append_assoc, ← e2]
    show List.take (s.n * sz) (((xs.set j y).flatMap f ++ cur.toList.drop (s.n * sz))) = _
    rw [List.take_left' (by rw [flat_len hlen, List.length_set, hn])]
end
end Go.Fl
namespace Go.Proofs.YtkaombhkepopgaaDoor
open Go.RowKit Go.Fl

abbrev keptL (a : y_dedup_kept) : List Value := (Kd.av k_dedup_kept a).cells
theorem keptL_len (a : y_dedup_kept) : (keptL a).length = 34 := by
  have := a.2.1.2
  simp only [keptL, Kd.av, AV.cells, List.length_append, this]
  rfl
theorem keptL_one (a : y_dedup_kept) (h : ∀ v ∈ a.2.1.1, v.oneCell' = true) : ∀ v ∈ keptL a, v.oneCell' = true := fun v hv => by
  simp only [keptL, Kd.av, AV.cells, List.mem_append] at hv
  rcases hv with hv | hv | hv | hv
  · simp only [Value.cells, List.mem_singleton] at hv; rw [hv]; rfl
  · exact h v hv
  · simp only [Value.cells, List.mem_singleton] at hv; rw [hv]; rfl
  · cases hv
abbrev heldL (a : y_dedup_held) : List Value := (Kd.av k_dedup_held a).cells
theorem heldL_len (a : y_dedup_held) : (heldL a).length = 2 := rfl
theorem heldL_one (a : y_dedup_held) : ∀ v ∈ heldL a, v.oneCell' = true := fun v hv => by
  have hv : v ∈ [slV a.1, Value.bool a.2.1] := hv
  simp only [List.mem_cons, List.not_mem_nil, or_false] at hv
  rcases hv with rfl | rfl <;> rfl
/-- The digest's tables lie in memory, and nobody turns them. -/
structure DigZ (w : World) (Z : Nat → Prop) : Prop where
  dig : Dig w
  n1 : ¬Z g_digest_first
  n2 : ¬Z g_digest_rounds
theorem Glob.lt {w : World} {g : Nat} {l : List Int} (h : Glob w g l) (hl : 0 < l.length) : g < w.heap.size := World.block_lt_of_cell? w _ (h 0 hl)
theorem Glob.mv {w w' : World} {E : Nat → Prop} {g : Nat} {l : List Int} (h : Glob w g l) (hl : 0 < l.length) (hm : Mv E w w') (hE : ¬E g) : Glob w' g l := fun i hi => by
  have e : w'.heap[g]? = w.heap[g]? := hm.block _ (Glob.lt h hl) hE
  exact (World.cell?_of_block (w := w) (by exact e)).trans (h i hi)
theorem DigZ.mv {w w' : World} {Z Z' E : Nat → Prop} (h : DigZ w Z) (hm : Mv E w w') (hE : ∀ k, E k → Z k ∨ w.heap.size ≤ k) (hZ : ∀ k, Z' k → Z k ∨ w.heap.size ≤ k) : DigZ w' Z' := by
  have l1 := Glob.lt h.dig.first (by decide)
  have l2 := Glob.lt h.dig.rounds (by decide)
  refine ⟨⟨Glob.mv h.dig.first (by decide) hm fun he => ?_, Glob.mv h.dig.rounds (by decide) hm fun he => ?_⟩, fun hz => ?_, fun hz => ?_⟩
  · rcases hE _ he with h1 | h1
    · exact h.n1 h1
    · omega
  · rcases hE _ he with h1 | h1
    · exact h.n2 h1
    · omega
  · rcases hZ _ hz with h1 | h1
    · exact h.n1 h1
    · omega
  · rcases hZ _ hz with h1 | h1
    · exact h.n2 h1
    · omega
theorem DigZ.fr {w w' : World} {Z : Nat → Prop} (h : DigZ w Z) (hf : Fr w w') : DigZ w' Z := h.mv (E := fun _ => False) (Mv.of_fr hf) (fun _ h => h.elim) fun _ h => .inl h
/-- An encoder over plain data: each chunk, and whether it is pinned. -/
structure En where
  list : List (List UInt8 × Bool)
  done : Nat
def KeptP (w : World) (Z : Nat → Prop) (a : y_dedup_kept) (b : List UInt8 × Bool) : Prop := a.2.1.1 = u8s (dig b.1) ∧ Cb w Z a.1 b.1 ∧ a.2.2.1 = b.2
abbrev encC (gs : Nat) (s : Sl) (n : Int) : List Value := (Kd.av k_dedup_Encoder (some ⟨gs, 0, none⟩, s, n, ())).cells
structure EncR (w : World) (Z : Nat → Prop) (g gs : Nat) (e : En) (s : Sl) (hs : List y_dedup_kept) : Prop where
  cells : w.heap[g]? = some (.cells (encC gs s e.done).toArray t_dedup_Encoder (0, 0))
  row : RwG w Z keptL s hs
  all : All2 (KeptP w Z) hs e.list
def Enc (w : World) (Z : Nat → Prop) (g gs : Nat) (e : En) : Prop := (∃ s hs, EncR w Z g gs e s hs) ∧ ∀ b ∈ e.list, 1 ≤ b.1.length ∧ b.1.length ≤ 256
/-- A decoder: each chunk, and whether it is there. -/
structure De where
  list : List (List UInt8 × Bool)
  done : Nat
def HeldP (w : World) (Z : Nat → Prop) (a : y_dedup_held) (b : List UInt8 × Bool) : Prop := Cb w Z a.1 b.1 ∧ a.2.1 = b.2
structure DecR (w : World) (Z : Nat → Prop) (g gs : Nat) (e : De) (s : Sl) (hs : List y_dedup_held) : Prop where
  cells : w.heap[g]? = some (.cells (encC gs s e.done).toArray t_dedup_Decoder (0, 0))
  row : RwG w Z heldL s hs
  all : All2 (HeldP w Z) hs e.list
def Dec (w : World) (Z : Nat → Prop) (g gs : Nat) (e : De) : Prop := (∃ s hs, DecR w Z g gs e s hs) ∧ ∀ b ∈ e.list, b.1.length ≤ 8192
section
variable {w w' : World} {Z Z' E : Nat → Prop} {g gs : Nat}
theorem KeptP.mv {a : y_dedup_kept} {b : List UInt8 × Bool} (h : KeptP w Z a b) (hm : Mv E w w') (hE : ∀ k, E k → Z k ∨ w.heap.size ≤ k) (hZ : ∀ k, Z' k → Z k ∨ w.heap.size ≤ k) : KeptP w' Z' a b := ⟨h.1, h.2.1.mv hm hE hZ, h.2.2⟩
theorem HeldP.mv {a : y_dedup_held} {b : List UInt8 × Bool} (h : HeldP w Z a b) (hm : Mv E w w') (hE : ∀ k, E k → Z k ∨ w.heap.size ≤ k) (hZ : ∀ k, Z' k → Z k ∨ w.heap.size ≤ k) : HeldP w' Z' a b := ⟨h.1.mv hm hE hZ, h.2⟩
theorem EncR.lt {e : En} {s : Sl} {hs : List y_dedup_kept} (h : EncR w Z g gs e s hs) : g < w.heap.size := (Array.getElem?_eq_some_iff.1 h.cells).1
theorem DecR.lt {e : De} {s : Sl} {hs : List y_dedup_held} (h : DecR w Z g gs e s hs) : g < w.heap.size := (Array.getElem?_eq_some_iff.1 h.cells).1
theorem EncR.mv {e : En} {s : Sl} {hs : List y_dedup_kept} (h : EncR w Z g gs e s hs) (hm : Mv E w w') (hE : ∀ k, E k → (Z k ∧ k ≠ g) ∨ w.heap.size ≤ k) (hZ : ∀ k, Z' k → Z k ∨ w.heap.size ≤ k) : EncR w' Z' g gs e s hs := by
  have hEZ : ∀ k, E k → Z k ∨ w.heap.size ≤ k := fun k hk => (hE k hk).imp And.left id
  refine ⟨hm.heap h.cells fun he => ?_, h.row.mv keptL_len (by decide) hm hEZ hZ, h.all.mono fun a b _ _ hr => hr.mv hm hEZ hZ⟩
  rcases hE g he with h1 | h1
  · exact h1.2 rfl
  · have := h.lt; omega
theorem DecR.mv {e : De} {s : Sl} {hs : List y_dedup_held} (h : DecR w Z g gs e s hs) (hm : Mv E w w') (hE : ∀ k, E k → (Z k ∧ k ≠ g) ∨ w.heap.size ≤ k) (hZ : ∀ k, Z' k → Z k ∨ w.heap.size ≤ k) : DecR w' Z' g gs e s hs := by
  have hEZ : ∀ k, E k → Z k ∨ w.heap.size ≤ k := fun k hk => (hE k hk).imp And.left id
  refine ⟨hm.heap h.cells fun he => ?_, h.row.mv heldL_len (by decide) hm hEZ hZ, h.all.mono fun a b _ _ hr => hr.mv hm hEZ hZ⟩
  rcases hE g he with h1 | h1
  · exact h1.2 rfl
  · have := h.lt; omega
theorem Enc.mv {e : En} (h : Enc w Z g gs e) (hm : Mv E w w') (hE : ∀ k, E k → (Z k ∧ k ≠ g) ∨ w.heap.size ≤ k) (hZ : ∀ k, Z' k → Z k ∨ w.heap.size ≤ k) : Enc w' Z' g gs e := by
  obtain ⟨⟨s, hs, h1⟩, h2⟩ := h
  exact ⟨⟨s, hs, h1.mv hm hE hZ⟩, h2⟩
theorem Dec.mv {e : De} (h : Dec w Z g gs e) (hm : Mv E w w') (hE : ∀ k, E k → (Z k ∧ k ≠ g) ∨ w.heap.size ≤ k) (hZ : ∀ k, Z' k → Z k ∨ w.heap.size ≤ k) : Dec w' Z' g gs e := by
  obtain ⟨⟨s, hs, h1⟩, h2⟩ := h
  exact ⟨⟨s, hs, h1.mv hm hE hZ⟩, h2⟩
theorem Enc.fr {e : En} (h : Enc w Z g gs e) (hf : Fr w w') : Enc w' Z g gs e := h.mv (E := fun _ => False) (Mv.of_fr hf) (fun _ h => h.elim) fun _ h => .inl h
theorem Dec.fr {e : De} (h : Dec w Z g gs e) (hf : Fr w w') : Dec w' Z g gs e := h.mv (E := fun _ => False) (Mv.of_fr hf) (fun _ h => h.elim) fun _ h => .inl h
theorem EncR.fr {e : En} {s : Sl} {hs : List y_dedup_kept} (h : EncR w Z g gs e s hs) (hf : Fr w w') : EncR w' Z g gs e s hs := h.mv (E := fun _ => False) (Mv.of_fr hf) (fun _ h => h.elim) fun _ h => .inl h
theorem DecR.fr {e : De} {s : Sl} {hs : List y_dedup_held} (h : DecR w Z g gs e s hs) (hf : Fr w w') : DecR w' Z g gs e s hs := h.mv (E := fun _ => False) (Mv.of_fr hf) (fun _ h => h.elim) fun _ h => .inl h
theorem Enc.lt {e : En} (h : Enc w Z g gs e) : g < w.heap.size := by
  obtain ⟨⟨s, hs, h1⟩, _⟩ := h; exact h1.lt
theorem Dec.lt {e : De} (h : Dec w Z g gs e) : g < w.heap.size := by
  obtain ⟨⟨s, hs, h1⟩, _⟩ := h; exact h1.lt
theorem EncR.n {e : En} {s : Sl} {hs : List y_dedup_kept} (h : EncR w Z g gs e s hs) : s.n = e.list.length := by rw [h.row.len, h.all.length]
theorem DecR.n {e : De} {s : Sl} {hs : List y_dedup_held} (h : DecR w Z g gs e s hs) : s.n = e.list.length := by rw [h.row.len, h.all.length]
section
variable {e : En} {s : Sl} {hs : List y_dedup_kept}
theorem emade_ok (h : EncR w Z g gs e s hs) : cl Tryd.prog n_dedup_Encoder_made #[.pointer (some ⟨g, 0, none⟩)] .B w fun (r : Bool) w' => r = true ∧ w = w' := by
  refine dedup_Encoder_made.cl ?_
  unfold dedup_Encoder_made
  refine bT rfl ?_
  dsimp -zeta only [nz]
  exact ldP0 (p := some ⟨gs, 0, none⟩) h.cells rfl ⟨rfl, rfl⟩
theorem Sent_ok (h : EncR w Z g gs e s hs) (hd : e.done ≤ 1073741824) (hl : e.list.length ≤ 1073741824) : cl Tryd.prog n_dedup_Encoder_Sent #[.pointer (some ⟨g, 0, none⟩)] (.I .i64) w fun (r : Int) w' => r = (e.done : Int) + e.list.length ∧ Fr w w' := by
  refine dedup_Encoder_Sent.cl ?_
  unfold dedup_Encoder_Sent
  refine (emade_ok h).mono ?_
  rintro _ _ ⟨rfl, rfl⟩
  refine bF rfl ?_
  dsimp -zeta only [nz]
  rw [addOff]
  refine ldI0 (n := (e.done : Int)) h.cells rfl ?_
  rw [addOff]
  refine ldL0 (s := s) h.cells rfl ?_
  intro n7
  rw [h.n, i64w (by omega) (by omega)]
  exact ⟨rfl, Fr.drewN _ _⟩
theorem Waiting_ok (h : EncR w Z g gs e s hs) : cl Tryd.prog n_dedup_Encoder_Waiting #[.pointer (some ⟨g, 0, none⟩)] (.I .i64) w fun (r : Int) w' => r = (e.list.length : Int) ∧ w = w' := by
  refine dedup_Encoder_Waiting.cl ?_
  unfold dedup_Encoder_Waiting
  refine (emade_ok h).mono ?_
  rintro _ _ ⟨rfl, rfl⟩
  refine bF rfl ?_
  dsimp -zeta only [nz]
  rw [addOff]
  refine ldL0 (s := s) h.cells rfl ?_
  rw [h.n]
  exact ⟨rfl, rfl⟩
end
section
variable {e : De} {s : Sl} {hs : List y_dedup_held}
theorem dmade_ok (h : DecR w Z g gs e s hs) : cl Tryd.prog n_dedup_Decoder_made #[.pointer (some ⟨g, 0, none⟩)] .B w fun (r : Bool) w' => r = true ∧ w = w' := by
  refine dedup_Decoder_made.cl ?_
  unfold dedup_Decoder_made
  refine bT rfl ?_
  dsimp -zeta only [nz]
  exact ldP0 (p := some ⟨gs, 0, none⟩) h.cells rfl ⟨rfl, rfl⟩
theorem dDone_ok (h : DecR w Z g gs e s hs) : cl Tryd.prog n_dedup_Decoder_Done #[.pointer (some ⟨g, 0, none⟩)] (.I .i64) w fun (r : Int) w' => r = (e.done : Int) ∧ w = w' := by
  refine dedup_Decoder_Done.cl ?_
  unfold dedup_Decoder_Done
  refine (dmade_ok h).mono ?_
  rintro _ _ ⟨rfl, rfl⟩
  refine bF rfl ?_
  dsimp -zeta only [nz]
  rw [addOff]
  exact ldI0 (n := (e.done : Int)) h.cells rfl ⟨rfl, rfl⟩
theorem Held_ok (h : DecR w Z g gs e s hs) : cl Tryd.prog n_dedup_Decoder_Held #[.pointer (some ⟨g, 0, none⟩)] (.I .i64) w fun (r : Int) w' => r = (e.list.length : Int) ∧ w = w' := by
  refine dedup_Decoder_Held.cl ?_
  unfold dedup_Decoder_Held
  refine (dmade_ok h).mono ?_
  rintro _ _ ⟨rfl, rfl⟩
  refine bF rfl ?_
  dsimp -zeta only [nz]
  rw [addOff]
  refine ldL0 (s := s) h.cells rfl ?_
  rw [h.n]
  exact ⟨rfl, rfl⟩
end
theorem NewE_ok {G F : Nat → Prop} {s : Sto} {x : Sx} {a : Nat} (h : Stor w G F a s x) (Z : Nat → Prop) : cl Tryd.prog n_dedup_NewEncoder #[.pointer (some ⟨a, 0, none⟩)] .P w fun (r : Option Addr) w' => ∃ g, r = some ⟨g, 0, none⟩ ∧ g = w.heap.size ∧ Enc w' Z g a ⟨[], 0⟩ ∧ Fr w w' := by
  refine dedup_NewEncoder.cl ?_
  unfold dedup_NewEncoder
  refine (sMade_ok h).mono ?_
  rintro _ _ ⟨rfl, rfl⟩
  refine bF rfl ?_
  refine nwI fun g w4 hg hs4 hf4 hb4 _ => ⟨g, rfl, hg, ⟨⟨⟨none, 0, 0⟩, [], hb4, RwG.nil _ _ _ _, trivial⟩, fun b hb => by cases hb⟩, hf4⟩
theorem NewD_ok {G F : Nat → Prop} {s : Sto} {x : Sx} {a : Nat} (h : Stor w G F a s x) (Z : Nat → Prop) : cl Tryd.prog n_dedup_NewDecoder #[.pointer (some ⟨a, 0, none⟩)] .P w fun (r : Option Addr) w' => ∃ g, r = some ⟨g, 0, none⟩ ∧ g = w.heap.size ∧ Dec w' Z g a ⟨[], 0⟩ ∧ Fr w w' := by
  refine dedup_NewDecoder.cl ?_
  unfold dedup_NewDecoder
  refine (sMade_ok h).mono ?_
  rintro _ _ ⟨rfl, rfl⟩
  refine bF rfl ?_
  refine nwI fun g w4 hg hs4 hf4 hb4 _ => ⟨g, rfl, hg, ⟨⟨⟨none, 0, 0⟩, [], hb4, RwG.nil _ _ _ _, trivial⟩, fun b hb => by cases hb⟩, hf4⟩
end
end Go.Proofs.YtkaombhkepopgaaDoor
namespace Go.Proofs.YtkaombhkepopgaaDoor
open Go.RowKit Go.Fl

theorem useL_mem {l : List Ch} {k : Nat} {c : Ch} (h : c ∈ useL l k) : c ∈ l := by
  unfold useL at h
  rcases List.mem_append.1 h with h | h
  · exact List.mem_of_mem_eraseIdx h
  · cases hk : l[k]? with
    | none => rw [hk] at h; cases h
    | some c' =>
      rw [hk] at h
      have : c = c' := by simpa using h
      rw [this]; exact List.mem_of_getElem? hk
theorem shrinkL_mem {most room n : Nat} {c : Ch} : ∀ {k : Nat} {l : List Ch}, c ∈ shrinkL most room n k l → c ∈ l
  | 0, _, h => h
  | k + 1, l, h => by
    unfold shrinkL at h
    split at h
    · exact h
    · exact List.mem_of_mem_eraseIdx (shrinkL_mem h)
/-- No chunk is held more often than that. -/
def PB (s : Sto) (n : Nat) : Prop := ∀ c ∈ s.l, c.pins ≤ n
theorem PB.mono {s : Sto} {n m : Nat} (h : PB s n) (hm : n ≤ m) : PB s m := fun c hc => Nat.le_trans (h c hc) hm
theorem PB.put {s : Sto} {n : Nat} (h : PB s n) (d b : List UInt8) : PB (s.put d b).1 n := by
  unfold Sto.put
  split
  · exact fun c hc => h c (useL_mem hc)
  · split
    · exact h
    · intro c hc
      rcases List.mem_append.1 hc with hc | hc
      · exact h c (shrinkL_mem hc)
      · rw [List.mem_singleton] at hc
        rw [hc]; exact Nat.zero_le _
theorem PB.get {s : Sto} {n : Nat} (h : PB s n) (d : List UInt8) : PB (s.get d).1 n := by
  unfold Sto.get
  split
  · exact fun c hc => h c (useL_mem hc)
  · exact h
theorem modify_mem {v : Nat → Nat} {c : Ch} : ∀ {l : List Ch} {k : Nat}, c ∈ l.modify k (fun c => { c with pins := v c.pins }) → c ∈ l ∨ ∃ c' ∈ l, c.pins = v c'.pins
  | [], k, h => by cases k <;> cases h
  | a :: l, 0, h => by
    rw [List.modify_zero_cons] at h
    rcases List.mem_cons.1 h with rfl | h
    · exact .inr ⟨a, by simp, rfl⟩
    · exact .inl (by simp [h])
  | a :: l, k + 1, h => by
    rw [List.modify_succ_cons] at h
    rcases List.mem_cons.1 h with rfl | h
    · exact .inl (by simp)
    · rcases modify_mem h with h | ⟨c', h1, h2⟩
      · exact .inl (by simp [h])
      · exact .inr ⟨c', by simp [h1], h2⟩
theorem PB.pin {s : Sto} {n : Nat} (h : PB s n) (d : List UInt8) : PB (s.pin d).1 (n + 1) := by
  unfold Sto.pin
  split
  · intro c hc
    rcases modify_mem (v := fun n => n + 1) hc with hc | ⟨c', h1, h2⟩
    · have := h c hc; omega
    · have := h c' h1; omega
  · exact h.mono (by omega)
theorem PB.unpin {s : Sto} {n : Nat} (h : PB s n) (d : List UInt8) : PB (s.unpin d).1 n := by
  unfold Sto.unpin
  split
  · split
    · exact h
    · intro c hc
      rcases modify_mem (v := fun n => n - 1) hc with hc | ⟨c', h1, h2⟩
      · exact h c hc
      · have := h c' h1; omega
  · exact h
theorem slKept : SlT Tryd.prog t_s_dedup_kept t_dedup_kept 34 64 := SlT.mk' (z := .agg (keptL z_dedup_kept).toArray) (by kernel_rfl) (by kernel_rfl) rfl (by decide)
theorem slHeld : SlT Tryd.prog t_s_dedup_held t_dedup_held 2 32 := SlT.mk' (z := .agg (heldL z_dedup_held).toArray) (by kernel_rfl) (by kernel_rfl) rfl (by decide)
/-- What is made of a chunk: its data are cold. -/
def MakeC (w : World) (Z : Nat → Prop) (b : List UInt8) (known : Bool) (p : RecT) : Prop :=
  p.2.1 = b.length ∧ p.2.2.1.1 = u8s (dig b) ∧ (if known then p.1 = 1 ∧ p.2.2.2.1 = ⟨none, 0, 0⟩ else if (shortS b).length < b.length then p.1 = 3 ∧ Cb w Z p.2.2.2.1 (shortS b) else p.1 = 2 ∧ Cb w Z p.2.2.2.1 b)
theorem MakeO.cold {w : World} {Z : Nat → Prop} {base : Nat} {b : List UInt8} {known : Bool} {r : RecT × Int × Unit} (h : MakeO w base b known r) (h1 : 1 ≤ b.length) (h2 : b.length ≤ 256) (hZ : ∀ k, Z k → k < base) : r.2 = (0, ()) ∧ MakeC w Z b known r.1 := by
  unfold MakeO at h
  rw [if_neg (by omega)] at h
  refine ⟨h.1, h.2.1, h.2.2.1, ?_⟩
  have h3 := h.2.2.2
  split
  · rename_i hk; rw [if_pos hk] at h3; exact h3
  · rename_i hk
    rw [if_neg hk] at h3
    split
    · rename_i hs; rw [if_pos hs] at h3; exact ⟨h3.1, Cb.own h3.2 hZ⟩
    · rename_i hs; rw [if_neg hs] at h3; exact ⟨h3.1, Cb.own h3.2 hZ⟩
theorem MakeC.mv {w w' : World} {Z Z' E : Nat → Prop} {b : List UInt8} {known : Bool} {p : RecT} (h : MakeC w Z b known p) (hm : Mv E w w') (hE : ∀ k, E k → Z k ∨ w.heap.size ≤ k) (hZ : ∀ k, Z' k → Z k ∨ w.heap.size ≤ k) : MakeC w' Z' b known p := by
  refine ⟨h.1, h.2.1, ?_⟩
  have h3 := h.2.2
  split
  · rename_i hk; rw [if_pos hk] at h3; exact h3
  · rename_i hk
    rw [if_neg hk] at h3
    split
    · rename_i hs; rw [if_pos hs] at h3; exact ⟨h3.1, h3.2.mv hm hE hZ⟩
    · rename_i hs; rw [if_neg hs] at h3; exact ⟨h3.1, h3.2.mv hm hE hZ⟩
theorem MakeO.map {w w' : World} {base base' : Nat} {b : List UInt8} {known : Bool} {r : RecT × Int × Unit} (h : MakeO w base b known r) (hk : ∀ l, OwB w base t_uint8 r.1.2.2.2.1 l → OwB w' base' t_uint8 r.1.2.2.2.1 l) : MakeO w' base' b known r := by
  unfold MakeO at h ⊢
  split
  · rename_i h1; rw [if_pos h1] at h; exact h
  · rename_i h1
    rw [if_neg h1] at h
    refine ⟨h.1, h.2.1, h.2.2.1, ?_⟩
    have h3 := h.2.2.2
    split
    · rename_i hs; rw [if_pos hs] at h3; exact h3
    · rename_i hs
      rw [if_neg hs] at h3
      split
      · rename_i hs; rw [if_pos hs] at h3; exact ⟨h3.1, hk _ h3.2⟩
      · rename_i hs; rw [if_neg hs] at h3; exact ⟨h3.1, hk _ h3.2⟩
theorem MakeO.mono {w : World} {base base' : Nat} {b : List UInt8} {known : Bool} {r : RecT × Int × Unit} (h : MakeO w base b known r) (hb : base' ≤ base) : MakeO w base' b known r := h.map fun _ ho => ho.mono hb
theorem MakeO.fr' {w w' : World} {base : Nat} {b : List UInt8} {known : Bool} {r : RecT × Int × Unit} (h : MakeO w base b known r) (hf : Fr w w') : MakeO w' base b known r := h.map fun _ ho => ho.fr hf
theorem MakeO.other {w w' : World} {base g : Nat} {b : List UInt8} {known : Bool} {r : RecT × Int × Unit} {cs : Array Value} {f : Nat × Nat} (h : MakeO w base b known r) (hg : w.heap[g]? = some (.cells cs t_api_Record f)) (hgr : w.grownBy w' (some g)) : MakeO w' base b known r :=
  h.map fun _ ho => ho.mv (Mv.of_grown (F := fun k => k = g) hgr rfl) fun _ ha => own_neC ho hg (by decide) ha
theorem MakeO.one {w : World} {base : Nat} {b : List UInt8} {known : Bool} {r : RecT × Int × Unit} (h : MakeO w base b known r) : ∀ v ∈ r.1.2.2.1.1, v.oneCell' = true := by
  unfold MakeO at h
  split at h
  · rw [h]; exact rc0_one
  · rw [h.2.2.1]; exact u8s_one _
/-- A chunk was added. -/
def addS (e : En) (s : Sto) (b : List UInt8) : En × Sto :=
  ({ e with list := e.list ++ [(b, decide (((s.put (dig b) b).1.pin (dig b)).2 = 0))] }, ((s.put (dig b) b).1.pin (dig b)).1)
theorem rc_av (p : RecT) : (Kd.av k_api_Record p).cells = rcL p [] := by
  simp [Kd.av, AV.cells, Value.cells, rcL]
theorem rc_okSt {p : RecT} (h : ∀ v ∈ p.2.2.1.1, v.oneCell' = true) : (Kd.av k_api_Record p).okSt = true := by
  simp only [Kd.av, AV.okSt, Bool.and_eq_true, List.all_eq_true]
  exact ⟨rfl, rfl, h, rfl, trivial⟩
theorem rc_okLd (p : RecT) : (Kd.av k_api_Record p).okLd = true := rfl
/-- A record is stored as a whole; read. -/
theorem stR {w : World} {g : Nat} {q : RecT} (p : RecT) (hone : ∀ v ∈ p.2.2.1.1, v.oneCell' = true) {K : World → Prop} (h : w.heap[g]? = some (.cells (rcL q []).toArray t_api_Record (0, 0)))
    (hk : ∀ w', w'.heap[g]? = some (.cells (rcL p []).toArray t_api_Record (0, 0)) → w.grownBy w' (some g) → w'.heap.size = w.heap.size → K w') : st w ⟨g, 0, none⟩ (Kd.av k_api_Record p) K :=
  stW _ (rc_okSt hone) h (by rw [← AV.cells_length, rc_av, rcL_length, rcL_length]) fun w' hb hg hs => hk w' (by rw [hb, rc_av]) hg hs
theorem ldR {w : World} {g : Nat} {p : RecT} {f : Nat × Nat} {K : RecT → Prop} (h : w.heap[g]? = some (.cells (rcL p []).toArray t_api_Record f)) (hk : K p) : ld k_api_Record w ⟨g, 0, none⟩ K :=
  ldW (k := k_api_Record) (x := p) (by rw [rc_av]; exact h) rfl hk
theorem u8s_hone (d : List UInt8) {p : RecT} (h : p.2.2.1.1 = u8s d) : ∀ v ∈ p.2.2.1.1, v.oneCell' = true := by rw [h]; exact u8s_one d
theorem avZ : (Kd.av k_api_Record z_api_Record).cells = rcL rc0 [] := rc_av rc0
theorem Clone_kept_ok {w : World} {Z : Nat → Prop} {s : Sl} {hs : List y_dedup_kept} (h : RwG w Z keptL s hs) (hone : ∀ y ∈ hs, ∀ v ∈ y.2.1.1, v.oneCell' = true) (hl : hs.length ≤ 1073741824) :
    cl Tryd.prog n_slices_Clone_dedup_kept_dedup_kept #[.slice s.a s.n s.c] .L w fun (r : Sl) w' => w'.ownsRow w.heap.size t_dedup_kept 34 (.slice r.a r.n r.c) r.n (hs.flatMap keptL) ∧ r.n = hs.length ∧ Fr w w' := by
  refine slices_Clone_dedup_kept_dedup_kept.cl (p0 := s) ?_
  unfold slices_Clone_dedup_kept_dedup_kept
  exact cloneG' (K := fun r w' => w'.ownsRow w.heap.size t_dedup_kept 34 (.slice r.a r.n r.c) r.n (hs.flatMap keptL) ∧ r.n = hs.length ∧ Fr w w') slKept h keptL_len (by decide) (fun y hy => keptL_one y (hone y hy)) (by omega) (by omega) fun r w' h1 h2 h3 => ⟨h1, h2, h3⟩
theorem Clone_held_ok {w : World} {Z : Nat → Prop} {s : Sl} {hs : List y_dedup_held} (h : RwG w Z heldL s hs) (hl : hs.length ≤ 1073741824) :
    cl Tryd.prog n_slices_Clone_dedup_held_dedup_held #[.slice s.a s.n s.c] .L w fun (r : Sl) w' => w'.ownsRow w.heap.size t_dedup_held 2 (.slice r.a r.n r.c) r.n (hs.flatMap heldL) ∧ r.n = hs.length ∧ Fr w w' := by
  refine slices_Clone_dedup_held_dedup_held.cl (p0 := s) ?_
  unfold slices_Clone_dedup_held_dedup_held
  exact cloneG' (K := fun r w' => w'.ownsRow w.heap.size t_dedup_held 2 (.slice r.a r.n r.c) r.n (hs.flatMap heldL) ∧ r.n = hs.length ∧ Fr w w') slHeld h heldL_len (by decide) (fun y _ => heldL_one y) (by omega) (by omega) fun r w' h1 h2 h3 => ⟨h1, h2, h3⟩
section
variable {w : World} {G F : Nat → Prop} {a g : Nat} {s : Sto} {x : Sx} {e : En}
theorem Add_ok {p : Sl} {b : List UInt8} (hS : Stor w G F a s x) (hE : Enc w (Zg G F) g a e) (hG : G g) (hD : DigZ w (Zg G F)) (hb : Cb w (Zg G F) p b) (hbl : b.length ≤ 140737488351232) (hdn : e.done ≤ 1073741000) (hln : e.list.length ≤ 8) (hP : PB s 1073741800) :
    cl Tryd.prog n_dedup_Encoder_Add #[.pointer (some ⟨g, 0, none⟩), .slice p.a p.n p.c] (.tup (.pair (.I .i64) (.pair k_api_Record (.pair (.I .i64) .nil)))) w fun (r : Int × RecT × Int × Unit) w' =>
      (((8 ≤ e.list.length ∧ r = (0, rc0, 7, ())) ∨ (e.list.length < 8 ∧ (b.length < 1 ∨ b.length > 256) ∧ r = (0, rc0, 100, ()))) ∧ Fr w w') ∨
      (e.list.length < 8 ∧ 1 ≤ b.length ∧ b.length ≤ 256 ∧ r.1 = (e.done : Int) + e.list.length + 1 ∧ r.2.2 = (0, ()) ∧ ∃ F' x', MakeC w' (Zg G F') b (s.has (dig b)) r.2.1 ∧ Stor w' G F' a (addS e s b).2 x' ∧ Enc w' (Zg G F') g a (addS e s b).1 ∧ Mv (fun k => F k ∨ k = g) w w' ∧ ∀ k, F' k → F k ∨ w.heap.size ≤ k) := by
  refine dedup_Encoder_Add.cl ?_
  unfold dedup_Encoder_Add
  have hpn := hb.bs.len
  obtain ⟨⟨sl, hs, hR⟩, hEb⟩ := hE
  have hsn := hR.n
  have hgl := hR.lt
  rw [avZ]
  refine nwI fun a1 w2 ha1 hs2 hf2 hb1 _ => ?_
  have hR2 := hR.fr hf2
  refine (emade_ok hR2).mono ?_
  rintro _ _ ⟨rfl, rfl⟩
  refine bF rfl ?_
  dsimp -zeta only [nz]
  rw [addOff]
  refine ldL0 (s := sl) hR2.cells rfl ?_
  rw [hsn]
  have h0 : ∀ {u : World}, Fr w u → u.heap[a1]? = some (.cells (rcL rc0 []).toArray t_api_Record (0, 0)) → ∀ {K : RecT → World → Prop}, (∀ u', Fr w u' → K rc0 u') →
      st u ⟨a1, 0, none⟩ (Kd.av k_api_Record (0, (0, ((zrow 32 (.int .u8 0)), (⟨none, 0, 0⟩, ()))))) fun w5 => ld k_api_Record w5 ⟨a1, 0, none⟩ fun (r6 : y_api_Record) => K r6 w5 := by
    intro u hfu hu Q hQ
    refine stR rc0 rc0_one hu fun w5 hb5 g5 s5 => ?_
    exact ldR hb5 (hQ w5 (Mv.on (F := fun k => k = a1) hfu (Mv.of_grown g5 rfl) fun j hj => by omega))
  refine bD ?_ ?_ <;> intro h8
  · exact h0 hf2 hb1 fun u' hu' => .inl ⟨.inl ⟨by omega, rfl⟩, hu'⟩
  refine nwI fun a11 w12 ha11 hs12 hf12 hb11 _ => ?_
  have hf12' := hf2.trans hf12
  refine (Of_ok (x := p) (hD.dig.fr hf12') hb11 (hb.bs.fr hf12') hbl).mono ?_
  rintro ⟨x13, hx13⟩ w14 ⟨hx, hf14⟩
  dsimp only at hx
  subst hx
  have hdl := dig_length b
  have hf14' := hf12'.trans hf14
  have hz32 : (zrow 32 (.int .u8 0)).1 = u8s (List.replicate 32 0) := by simp [zrow, u8s]
  rw [hz32]
  refine nwI fun a15 w16 ha15 hs16 hf16 hb15 _ => ?_
  have hf16' := hf14'.trans hf16
  refine stL_row hb15 (by simp [u8s_length, hdl]) (u8s_one _) fun w17 hb17 g17 s17 => ?_
  have hb17 : w17.heap[a15]? = some (.cells (u8s (dig b)).toArray t_api_Sum (0, 0)) := by
    rw [hb17]; simp [u8s_length, hdl]
  have hz14 : w2.heap.size ≤ w14.heap.size := Nat.le_trans hf12.size hf14.size
  have hz2 := hf2.size
  have hf17 : Fr w w17 := Mv.on (F := fun k => k = a15) hf16' (Mv.of_grown g17 rfl) fun j hj => by omega
  have hb1_17 : w17.heap[a1]? = some (.cells (rcL rc0 []).toArray t_api_Record (0, 0)) := by
    have h1 := hf16.heap (hf14.heap (hf12.heap hb1))
    exact (g17.block a1 (by have := (Array.getElem?_eq_some_iff.1 h1).1; omega) fun e => by have := Option.some.inj e; omega).trans h1
  have hgF : ¬F g := hS.gf g hG
  obtain ⟨Gp, hGp⟩ : ∃ Gp : Nat → Prop, Gp = fun k => G k ∨ k = a1 := ⟨_, rfl⟩
  have hGp1 : ∀ k, G k → Gp k := fun k hk => by rw [hGp]; exact .inl hk
  have hGp2 : Gp a1 := by rw [hGp]; exact .inr rfl
  have hGp3 : ∀ k, Gp k → G k ∨ w.heap.size ≤ k := fun k hk => by
    rw [hGp] at hk
    exact hk.imp id fun e' => by omega
  have hZp : ∀ k, Zg Gp F k → Zg G F k ∨ w.heap.size ≤ k := fun k hk => by
    rcases hk with hk | hk
    · exact (hGp3 k hk).imp .inl id
    · exact .inl (.inr hk)
  have hS7 : Stor w17 Gp F a s x := hS.other (E := fun _ => False) (Mv.of_fr hf17) (fun _ h => h.elim) hGp3 fun k hk => by
    rw [hGp] at hk
    rcases hk with hk | hk
    · exact Nat.lt_of_lt_of_le (hS.gl k hk) hf17.size
    · rw [hk]; exact (Array.getElem?_eq_some_iff.1 hb1_17).1
  have hR7 : EncR w17 (Zg Gp F) g a e sl hs := hR.mv (E := fun _ => False) (Mv.of_fr hf17) (fun _ h => h.elim) hZp
  have hb7 : Cb w17 (Zg Gp F) p b := hb.mv (Mv.of_fr (F := fun _ => False) hf17) (fun _ h => h.elim) hZp
  have hz17 := hf17.size
  intro j1
  have J1 : ∀ (u : World) (gb : Nat) (q : RecT) (err : Int), Fr w17 u → u.heap[a1]? = some (.cells (rcL rc0 []).toArray t_api_Record (0, 0)) → u.heap[a15]? = some (.cells (u8s (dig b)).toArray t_api_Sum (0, 0)) → w17.heap.size ≤ gb → u.heap[gb]? = some (.cells (rcL q []).toArray t_api_Record (0, 0)) →
      MakeO u w17.heap.size b (s.has (dig b)) (q, err, ()) → j1 (some ⟨gb, 0, none⟩) err u := by
    intro u gb q err hfu hu1 hu15 hgb hub hM
    have hub_lt := (Array.getElem?_eq_some_iff.1 hub).1
    have hu15_lt := (Array.getElem?_eq_some_iff.1 hu15).1
    have hu1_lt := (Array.getElem?_eq_some_iff.1 hu1).1
    have hzu := hfu.size
    unfold j1
    by_cases hbad : b.length < 1 ∨ b.length > 256
    · unfold MakeO at hM
      rw [if_pos hbad] at hM
      injection hM with e1 e2
      injection e2 with e2 _
      subst e1 e2
      refine bT rfl ?_
      exact h0 (hf17.trans hfu) hu1 fun u' hu' => .inl ⟨.inr ⟨by omega, hbad, rfl⟩, hu'⟩
    have hZlt : ∀ k, Zg Gp F k → k < w17.heap.size := fun k hk => by
      rcases hk with hk | hk
      · exact hS7.gl k hk
      · exact hS7.fl k hk
    obtain ⟨eM, hMC⟩ := hM.cold (Z := Zg Gp F) (by omega) (by omega) hZlt
    injection eM with eM _
    subst eM
    refine bF rfl ?_
    intro n80
    have hf80 := hfu.trans (Fr.drewN u n80)
    have hz80 : (u.drewN n80).heap.size = u.heap.size := rfl
    have hu15_80 := (Fr.drewN u n80).heap hu15
    have hub_80 := (Fr.drewN u n80).heap hub
    have hfu80 := Fr.drewN u n80
    have hu1_80 := (Fr.drewN u n80).heap hu1
    generalize u.drewN n80 = w80 at *
    have hS80 := hS7.fr hf80
    have hR80 := hR7.fr hf80
    have hb80 : Cb w80 (Zg Gp F) p b := hb7.mv (Mv.of_fr (F := fun _ => False) hf80) (fun _ h => h.elim) fun _ h => .inl h
    refine ldP0 (p := some ⟨a, 0, none⟩) hR80.cells rfl ?_
    refine ldR0 hu15_80 (by rw [u8s_length, hdl]) ?_
    refine (sPut_ok hS80 hdl hb80 (by omega)).mono ?_
    rintro r84 w85 ⟨_, F1, x1, hS85, v85, hF1⟩
    intro n86
    have v86 : Mv F w80 _ := v85.trans (Mv.of_fr (F := F) (Fr.drewN w85 n86)) fun j hj => .inl hj
    have hS86 := hS85.fr (Fr.drewN w85 n86)
    generalize w85.drewN n86 = w86 at *
    have hFn : ∀ k, w.heap.size ≤ k → ¬F k := fun k hk hf => by have := hS.fl k hf; omega
    have hF1n : ∀ k, w.heap.size ≤ k → k < w80.heap.size → ¬F1 k := fun k hk hk2 hf => by
      rcases hF1 k hf with h1 | h1
      · exact hFn k hk h1
      · omega
    have hg1 : ¬F1 g := hS85.gf g (hGp1 g hG)
    have hEZ : ∀ k, F k → (Zg Gp F k ∧ k ≠ g) ∨ w80.heap.size ≤ k := fun k hk => .inl ⟨.inr hk, fun e => hgF (e ▸ hk)⟩
    have hZ1 : ∀ k, Zg Gp F1 k → Zg Gp F k ∨ w80.heap.size ≤ k := fun k hk => by
      rcases hk with hk | hk
      · exact .inl (.inl hk)
      · exact (hF1 k hk).imp .inr id
    have hR86 : EncR w86 (Zg Gp F1) g a e sl hs := hR80.mv v86 hEZ hZ1
    refine ldP0 (p := some ⟨a, 0, none⟩) hR86.cells rfl ?_
    refine ldR0 (v86.heap hu15_80 (hFn _ (by omega))) (by rw [u8s_length, hdl]) ?_
    have hP1 : PB (s.put (dig b) b).1 1073741800 := hP.put _ _
    refine (Pin_ok hS86 hdl (hP1.mono (by decide))).mono ?_
    rintro r90 w91 ⟨hr90, x2, hS91, v91⟩
    intro n92
    have v92 : Mv F1 w86 _ := v91.trans (Mv.of_fr (F := F1) (Fr.drewN w91 n92)) fun j hj => .inl hj
    have hS92 := hS91.fr (Fr.drewN w91 n92)
    generalize w91.drewN n92 = w92 at *
    have hR92 : EncR w92 (Zg Gp F1) g a e sl hs := hR86.mv v92 (fun k hk => .inl ⟨.inr hk, fun e => hg1 (e ▸ hk)⟩) fun _ h => .inl h
    have hb92 : Cb w92 (Zg Gp F1) p b := (hb80.mv v86 (fun k hk => .inl (.inr hk)) hZ1).mv v92 (fun k hk => .inl (.inr hk)) fun _ h => .inl h
    have hx15_92 := v92.heap (v86.heap hu15_80 (hFn _ (by omega))) (hF1n _ (by omega) (by omega))
    have hub_92 := v92.heap (v86.heap hub_80 (hFn _ (by omega))) (hF1n _ (by omega) (by omega))
    have hu1_92 := v92.heap (v86.heap hu1_80 (hFn _ (by omega))) (hF1n _ (by omega) (by omega))
    have hz92 : w80.heap.size ≤ w92.heap.size := Nat.le_trans v86.size v92.size
    have hg92 := hR92.lt
    refine ldL0 (s := sl) hR92.cells rfl ?_
    refine ldR0 hx15_92 (by rw [u8s_length, hdl]) ?_
    have hlen : hs.length = e.list.length := hR.all.length
    have hone : ∀ y ∈ hs, ∀ v ∈ y.2.1.1, v.oneCell' = true := fun y hy v hv => by
      obtain ⟨k, hk, rfl⟩ := List.mem_iff_getElem.1 hy
      have := (hR.all.get hk (by omega)).1
      rw [this] at hv
      exact u8s_one _ v hv
    refine (Clone_kept_ok hR92.row hone (by omega)).mono ?_
    rintro x96 w97 ⟨ho96, hn96, hf97⟩
    refine ⟨hf97, ?_⟩
    have hb97 : Cb w97 (Zg Gp F1) p b := hb92.mv (Mv.of_fr (F := fun _ => False) hf97) (fun _ h => h.elim) fun _ h => .inl h
    refine (Clone_byte_ok hb97.bs (by omega)).mono ?_
    rintro x98 w99 ⟨ho98, hf99⟩
    refine ⟨hf99, ?_⟩
    rw [List.append_nil]
    refine nwI fun a100 w101 ha100 hs101 hf101 hb101 hr101 => ?_
    have hf101' : Fr w97 w101 := hf99.trans hf101
    have ho96' := own_kept ho96 hf101'
    have hxn : x96.n = e.list.length := hn96.trans hlen
    have hf92_101 : Fr w92 w101 := hf97.trans hf101'
    obtain ⟨pin, hpin⟩ : ∃ pin : Bool, (r90 == 0) = pin := ⟨_, rfl⟩
    rw [hpin] at hr101
    have hpinE : pin = decide (((s.put (dig b) b).1.pin (dig b)).2 = 0) := by
      rw [← hpin, hr90]
      by_cases h5 : ((s.put (dig b) b).1.pin (dig b)).2 = 0
      · rw [h5]; rfl
      · rw [decide_eq_false h5]; exact beq_eq_false_iff_ne.2 h5
    obtain ⟨nw, hnw⟩ : ∃ y : y_dedup_kept, y = (x98, (⟨u8s (dig b), by rw [u8s_length, hdl]⟩, (pin, ()))) := ⟨_, rfl⟩
    have hr101' : Rd w101 (some ⟨a100, 0, none⟩) (keptL nw) := by rw [hnw]; exact hr101
    refine app_own slKept (base := w92.heap.size) (news := keptL nw) ho96' hr101' (by rw [keptL_len, Nat.one_mul]) (keptL_one nw (by rw [hnw]; exact u8s_one _)) (by dsimp only; omega) (by dsimp only; omega) hf92_101.size fun r102 w103 hn102 ho102 hg103 hat => ?_
    have hf92_103 : Fr w92 w103 := hf92_101.on ((Below.refl _ _).grown hg103 hf92_101.size fun q' hq' => (World.ownsRow.lt ho96' q' hq').1)
    have hR103 := hR92.fr hf92_103
    refine st0 hR103.cells (by show 1 < 3; decide) fun w105 hb105 g105 s105 => ?_
    have hc105 : w105.heap[g]? = some (.cells (encC a r102 e.done).toArray t_dedup_Encoder (0, 0)) := hb105
    have v105 : Mv (fun k => k = g) w103 w105 := Mv.of_grown g105 rfl
    have ho105 := own_kp ho102 v105.kp fun ad ha e' => by
      have := (World.ownsRow.lt ho102 ad.block (by rw [ha]; rfl)).1
      omega
    have hZ92 : ∀ k, Zg Gp F1 k → k < w92.heap.size := fun k hk => by
      rcases hk with hk | hk
      · exact hS92.gl k hk
      · exact hS92.fl k hk
    have v92_105 : Mv (fun k => k = g) w92 w105 := (Mv.of_fr hf92_103).trans v105 fun j hj => .inl hj
    have hgZ : ∀ k, k = g → Zg Gp F1 k ∨ w92.heap.size ≤ k := fun k hk => .inl (.inl (hk ▸ hGp1 g hG))
    have e105 : hs.flatMap keptL ++ keptL nw = (hs ++ [nw]).flatMap keptL := by rw [List.flatMap_append, List.flatMap_singleton]
    rw [e105] at ho105
    have ho98' : OwB w105 w97.heap.size t_uint8 x98 b := by
      have h1 : OwB w101 w97.heap.size t_uint8 x98 b := ho98.fr hf101
      have h2 : OwB w103 w97.heap.size t_uint8 x98 b := h1.mv (mv_own hg103) fun ad ha => fun ⟨ad', ha', e'⟩ => by
        exact own_ne ho96' h1 (by decide) ha' ha e'
      exact h2.mv v105 fun ad ha e' => by have := (ho98.own ad ha).1; have := hf97.size; omega
    have hR105 : EncR w105 (Zg Gp F1) g a (addS e s b).1 r102 (hs ++ [nw]) := by
      refine ⟨hc105, RwG.own ho105 keptL_len (by decide) hZ92, ?_⟩
      refine All2.append (hR92.all.mono fun y z _ _ hr => hr.mv v92_105 hgZ fun _ h => .inl h) ⟨⟨?_, ?_, ?_⟩, trivial⟩
      · rw [hnw]
      · rw [hnw]
        exact Cb.own ho98' fun k hk => by have := hZ92 k hk; have := hf97.size; omega
      · rw [hnw]; exact hpinE
    intro n106
    have hf106 := Fr.drewN w105 n106
    have hR106 := hR105.fr hf106
    have v106 : Mv (fun k => k = g) w92 _ := v92_105.trans (Mv.of_fr (F := fun k => k = g) hf106) fun j hj => .inl hj
    generalize w105.drewN n106 = w106 at *
    have hng : ∀ {k}, w.heap.size ≤ k → ¬(k = g) := fun {k} hk e' => by omega
    refine ldR (v106.heap hub_92 (hng (by omega))) ?_
    have hl' : (addS e s b).1.list.length = e.list.length + 1 := by simp [addS]
    refine (Sent_ok hR106 (by show e.done ≤ _; omega) (by rw [hl']; omega)).mono ?_
    rintro r109 w110 ⟨rfl, hf110⟩
    refine ⟨hf110, ?_⟩
    have hone_q : ∀ v ∈ q.2.2.1.1, v.oneCell' = true := u8s_hone (dig b) hMC.2.1
    refine stR q hone_q (hf110.heap (v106.heap hu1_92 (hng (by omega)))) fun w111 hb111 g111 s111 => ?_
    refine ldR hb111 (.inr ⟨by omega, by omega, by omega, ?_, rfl, F1, x2, ?_⟩)
    · rw [hl']
      show (e.done : Int) + ((e.list.length + 1 : Nat) : Int) = _
      push_cast; omega
    have v110_111 : Mv (fun k => k = a1) w106 w111 := by
      have h1 : Mv (fun k => k = a1) w110 w111 := Mv.of_grown g111 rfl
      exact (Mv.of_fr (F := fun k => k = a1) hf110).trans h1 fun j hj => .inl hj
    have v111 : Mv (fun k => k = g ∨ k = a1) w92 w111 := by
      have h1 : Mv (fun k => k = g ∨ k = a1) w92 w106 := v106.mono fun k hk => .inl (.inl hk)
      exact h1.trans v110_111 fun j hj => .inl (.inr hj)
    have ha1F : ¬F1 a1 := hF1n a1 (by omega) (by omega)
    -- everything that turned
    have vall : Mv (fun k => F k ∨ k = g) w w111 := by
      have h0' : Mv (fun k => F k ∨ k = g) w w80 := Mv.of_fr (hf17.trans hf80)
      have h1 : Mv (fun k => F k ∨ k = g) w w86 := h0'.trans (v86.mono fun k hk => .inl (.inl hk) : Mv (fun k => F k ∨ k = g) w80 w86) fun j hj => .inl hj
      have h2 : Mv (fun k => F k ∨ k = g) w w92 := h1.trans v92 fun j hj => (hF1 j hj).imp .inl fun h => by have := hf80.size; omega
      exact h2.trans v111 fun j hj => by
        rcases hj with hj | hj
        · exact .inl (.inr hj)
        · right; omega
    have hZback : ∀ k, Zg G F1 k → Zg Gp F1 k ∨ w92.heap.size ≤ k := fun k hk => .inl (by
      rcases hk with hk | hk
      · exact .inl (hGp1 k hk)
      · exact .inr hk)
    refine ⟨?_, ?_, ?_, vall, fun k hk => (hF1 k hk).imp id fun h => by have := hf80.size; omega⟩
    · have h1 : MakeC w80 (Zg Gp F) b (s.has (dig b)) q := hMC.mv (Mv.of_fr (F := fun _ => False) hfu80) (fun _ h => h.elim) fun _ h => .inl h
      have h2 : MakeC w92 (Zg Gp F1) b (s.has (dig b)) q := (h1.mv v86 (fun k hk => .inl (.inr hk)) hZ1).mv v92 (fun k hk => .inl (.inr hk)) fun _ h => .inl h
      refine h2.mv v111 (fun k hk => ?_) hZback
      rcases hk with rfl | rfl
      · exact .inl (.inl (hGp1 _ hG))
      · exact .inl (.inl hGp2)
    · refine hS92.other v111 (fun k hk => ?_) (fun k hk => .inl (hGp1 k hk)) fun k hk => ?_
      · rcases hk with rfl | rfl
        · exact .inl ⟨hGp1 _ hG, hg1⟩
        · exact .inl ⟨hGp2, ha1F⟩
      · exact Nat.lt_of_lt_of_le (hS.gl k hk) vall.size
    · refine ⟨⟨r102, hs ++ [nw], hR106.mv v110_111 (fun k hk => ?_) fun k hk => ?_⟩, fun z hz => ?_⟩
      · subst hk
        exact .inl ⟨.inl hGp2, by omega⟩
      · exact .inl (by
          rcases hk with hk | hk
          · exact .inl (hGp1 k hk)
          · exact .inr hk)
      · rcases List.mem_append.1 hz with hz | hz
        · exact hEb z hz
        · rw [List.mem_singleton] at hz
          rw [hz]
          show 1 ≤ b.length ∧ b.length ≤ 256
          omega
  clear_value j1
  have fin : ∀ (v : World) (gb : Nat) (q : RecT) (err : Int), Fr w17 v → v.heap[gb]? = some (.cells (rcL rc0 []).toArray t_api_Record (0, 0)) → w17.heap.size ≤ gb → MakeO v w17.heap.size b (s.has (dig b)) (q, err, ()) →
      st v ⟨gb, 0, none⟩ (Kd.av k_api_Record q) fun w28 => j1 (some ⟨gb, 0, none⟩) err w28 := by
    intro v gb q err hfv hgb hgl' hM
    refine stR q hM.one hgb fun w28 hb28 g28 s28 => ?_
    have hf28 : Fr w17 w28 := Mv.on (F := fun k => k = gb) hfv (Mv.of_grown g28 rfl) fun j hj => by omega
    exact J1 w28 gb q err hf28 (hf28.heap hb1_17) (hf28.heap hb17) hgl' hb28 (hM.other hgb g28)
  intro n18
  have hf18 := Fr.drewN w17 n18
  have hR18 := hR7.fr hf18
  have hS18 := hS7.fr hf18
  have hb18 := hf18.heap hb17
  have hD17 : DigZ w17 (Zg G F) := hD.fr hf17
  have hbs18 : Bs w17 p b := hb7.bs
  generalize w17.drewN n18 = w18 at *
  refine ldP0 (p := some ⟨a, 0, none⟩) hR18.cells rfl ?_
  refine ldR0 hb18 (by rw [u8s_length, hdl]) ?_
  refine ⟨?_, ?_⟩
  · refine (Has_ok hS18 hdl).mono ?_
    rintro _ w23 ⟨rfl, hf23⟩
    have hf23' := hf18.trans hf23
    refine ⟨?_, ?_⟩
    · refine (Make_own (hD17.dig.fr hf23') (hbs18.fr hf23') hbl).mono ?_
      rintro ⟨q, err, ⟨⟩⟩ w25 ⟨hM, hf25⟩
      have hf25' := hf23'.trans hf25
      refine nwI fun a26 w27 ha26 hs27 hf27 hb27 _ => ⟨hf27, ?_⟩
      exact fin w27 a26 q err (hf25'.trans hf27) hb27 (by have := hf25'.size; omega) ((hM.mono hf23'.size).fr' hf27)
    · refine nwI fun a29 w30 ha29 hs30 hf30 hb30 _ => ⟨hf30, ?_⟩
      have hf30' := hf23'.trans hf30
      refine (Make_own (hD17.dig.fr hf30') (hbs18.fr hf30') hbl).mono ?_
      rintro ⟨q, err, ⟨⟩⟩ w32 ⟨hM, hf32⟩
      exact fin w32 a29 q err (hf30'.trans hf32) (hf32.heap hb30) (by have := hf23'.size; omega) (hM.mono hf30'.size)
  · refine nwI fun a34 w35 ha34 hs35 hf35 hb35 _ => ⟨hf35, ?_⟩
    have hf35' := hf18.trans hf35
    refine (Has_ok (hS18.fr hf35) hdl).mono ?_
    rintro _ w37 ⟨rfl, hf37⟩
    have hf37' := hf35'.trans hf37
    refine (Make_own (hD17.dig.fr hf37') (hbs18.fr hf37') hbl).mono ?_
    rintro ⟨q, err, ⟨⟩⟩ w39 ⟨hM, hf39⟩
    exact fin w39 a34 q err (hf37'.trans hf39) (hf39.heap (hf37.heap hb35)) (by have := hf18.size; omega) (hM.mono hf37'.size)
end
end Go.Proofs.YtkaombhkepopgaaDoor
namespace Go.Proofs.YtkaombhkepopgaaDoor
open Go.RowKit Go.Fl

/-- What was held is let go. -/
def letS (s : Sto) : List (List UInt8 × Bool) → Sto
  | [] => s
  | b :: l => letS (if b.2 then (s.unpin (dig b.1)).1 else s) l
theorem letS_snoc : ∀ (l : List (List UInt8 × Bool)) (s : Sto) (b : List UInt8 × Bool), letS s (l ++ [b]) = if b.2 then ((letS s l).unpin (dig b.1)).1 else letS s l
  | [], _, _ => rfl
  | _c :: l, _s, b => letS_snoc l _ b
theorem PB.lets {n : Nat} : ∀ (l : List (List UInt8 × Bool)) {s : Sto}, PB s n → PB (letS s l) n
  | [], _, h => h
  | b :: l, s, h => by
    unfold letS
    refine PB.lets l ?_
    split
    · exact h.unpin _
    · exact h
theorem kept_okSt (y : y_dedup_kept) (h : ∀ v ∈ y.2.1.1, v.oneCell' = true) : (Kd.av k_dedup_kept y).okSt = true := by
  simp only [Kd.av, AV.okSt, Bool.and_eq_true, List.all_eq_true]
  exact ⟨rfl, h, rfl, trivial⟩
theorem keptL_eq (y : y_dedup_kept) : keptL y = slV y.1 :: (y.2.1.1 ++ [.bool y.2.2.1]) := by
  simp [keptL, Kd.av, AV.cells, Value.cells]
theorem kept_33 (y : y_dedup_kept) : (keptL y).toArray[33]? = some (.bool y.2.2.1) := by
  rw [keptL_eq, List.getElem?_toArray, List.getElem?_cons_succ, List.getElem?_append_right (by rw [y.2.1.2]; exact Nat.le_refl _), y.2.1.2]
  rfl
section
variable {w : World} {G F : Nat → Prop} {a g : Nat} {s : Sto} {x : Sx} {e : En}
theorem Miss_ok {Z : Nat → Prop} {p1 : Int} (hE : Enc w Z g a e) (hD : DigZ w Z) (hdn : e.done ≤ 1073741000) (hln : e.list.length ≤ 8) :
    cl Tryd.prog n_dedup_Encoder_Miss #[.pointer (some ⟨g, 0, none⟩), .int .i64 p1] (.tup (.pair k_api_Record (.pair (.I .i64) .nil))) w fun (r : RecT × Int × Unit) w' =>
      (((p1 ≤ e.done ∨ p1 > (e.done : Int) + e.list.length) ∧ r = (rc0, 110, ())) ∨
      (∃ (k : Nat) (b : List UInt8 × Bool), p1 = (e.done : Int) + k + 1 ∧ e.list[k]? = some b ∧ MakeO w' w.heap.size b.1 false r)) ∧ Fr w w' := by
  refine dedup_Encoder_Miss.cl ?_
  unfold dedup_Encoder_Miss
  obtain ⟨⟨sl, hs, hR⟩, hEb⟩ := hE
  have hsn := hR.n
  rw [avZ]
  refine nwI fun a1 w2 ha1 hs2 hf2 hb1 _ => ?_
  have hR2 := hR.fr hf2
  refine (emade_ok hR2).mono ?_
  rintro _ _ ⟨rfl, rfl⟩
  refine bF rfl ?_
  dsimp -zeta only [nz]
  rw [addOff]
  refine ldI0 (n := (e.done : Int)) hR2.cells rfl ?_
  have h0 : ∀ {u : World}, Fr w u → u.heap[a1]? = some (.cells (rcL rc0 []).toArray t_api_Record (0, 0)) → ∀ {K : RecT → World → Prop}, (∀ u', Fr w u' → K rc0 u') →
      st u ⟨a1, 0, none⟩ (Kd.av k_api_Record (0, (0, ((zrow 32 (.int .u8 0)), (⟨none, 0, 0⟩, ()))))) fun w5 => ld k_api_Record w5 ⟨a1, 0, none⟩ fun (r6 : y_api_Record) => K r6 w5 := by
    intro u hfu hu Q hQ
    refine stR rc0 rc0_one hu fun w5 hb5 g5 s5 => ?_
    exact ldR hb5 (hQ w5 (Mv.on (F := fun k => k = a1) hfu (Mv.of_grown g5 rfl) fun j hj => by omega))
  refine bD ?_ ?_ <;> intro h8
  · exact h0 hf2 hb1 fun u' hu' => ⟨.inl ⟨.inl h8, rfl⟩, hu'⟩
  refine (Sent_ok hR2 (by omega) (by omega)).mono ?_
  rintro _ w10 ⟨rfl, hf10⟩
  have hf10' := hf2.trans hf10
  have hb10 := hf10.heap hb1
  refine bD ?_ ?_ <;> intro h9
  · exact h0 hf10' hb10 fun u' hu' => ⟨.inl ⟨.inr h9, rfl⟩, hu'⟩
  intro n15
  have hf15 := hf10'.trans (Fr.drewN w10 n15)
  have hb15 := (Fr.drewN w10 n15).heap hb10
  generalize w10.drewN n15 = w15 at *
  have hR15 := hR.fr hf15
  rw [addOff]
  refine ldL0 (s := sl) hR15.cells rfl ?_
  refine ldI0 (n := (e.done : Int)) hR15.cells rfl ?_
  rw [i64w (n := p1 - (e.done : Int)) (by omega) (by omega), i64w (by omega) (by omega)]
  obtain ⟨k, hk⟩ : ∃ k : Nat, p1 = (e.done : Int) + k + 1 := ⟨(p1 - e.done - 1).toNat, by omega⟩
  have hlen : hs.length = e.list.length := hR.all.length
  have hkl : k < hs.length := by omega
  refine hR15.row.ix keptL_len (by decide) (show _ = (k : Int) by omega) hkl fun a20 hc => ?_
  have hK := hR15.all.get hkl (by omega)
  have hc0 := hc 0 (slV hs[k].1) (by rw [keptL_eq]; rfl)
  rw [Addr.add0] at hc0
  refine ⟨hs[k].1, hc0, ?_⟩
  have hb := hEb _ (List.getElem_mem (show k < e.list.length by omega))
  refine (Make_own (hD.fr hf15).dig hK.2.1.bs (by omega)).mono ?_
  rintro ⟨q, err, ⟨⟩⟩ w23 ⟨hM, hf23⟩
  have hf23' := hf15.trans hf23
  have hb23 := hf23.heap hb15
  refine stR q hM.one hb23 fun w24 hb24 g24 s24 => ?_
  refine ldR hb24 ⟨.inr ⟨k, e.list[k], hk, List.getElem?_eq_getElem _, (hM.other hb23 g24).mono hf15.size⟩, Mv.on (F := fun k => k = a1) hf23' (Mv.of_grown g24 rfl) fun j hj => by omega⟩
theorem Done_ok {p1 : Int} (hS : Stor w G F a s x) (hE : Enc w (Zg G F) g a e) (hG : G g) (hdn : e.done ≤ 1073741000) (hln : e.list.length ≤ 8) (hP : PB s 1073741800) :
    cl Tryd.prog n_dedup_Encoder_Done #[.pointer (some ⟨g, 0, none⟩), .int .i64 p1] (.I .i64) w fun (r : Int) w' =>
      ((p1 < e.done ∨ p1 > (e.done : Int) + e.list.length) ∧ r = 112 ∧ Fr w w') ∨
      (∃ k, k ≤ e.list.length ∧ p1 = (e.done : Int) + k ∧ r = 0 ∧ ∃ x', Stor w' G F a (letS s (e.list.take k)) x' ∧ Enc w' (Zg G F) g a ⟨e.list.drop k, e.done + k⟩ ∧ Mv (fun k => F k ∨ k = g) w w') := by
  refine dedup_Encoder_Done.cl ?_
  unfold dedup_Encoder_Done
  obtain ⟨⟨sl, hs, hR⟩, hEb⟩ := hE
  have hsn := hR.n
  have hgl := hR.lt
  refine (emade_ok hR).mono ?_
  rintro _ _ ⟨rfl, rfl⟩
  refine bF rfl ?_
  dsimp -zeta only [nz]
  rw [addOff]
  refine ldI0 (n := (e.done : Int)) hR.cells rfl ?_
  refine bD ?_ ?_ <;> intro h1
  · exact .inl ⟨.inl h1, rfl, Fr.refl w⟩
  refine (Sent_ok hR (by omega) (by omega)).mono ?_
  rintro _ w6 ⟨rfl, hf6⟩
  have hR6 := hR.fr hf6
  refine bD ?_ ?_ <;> intro h2
  · exact .inl ⟨.inr h2, rfl, hf6⟩
  obtain ⟨m, hm⟩ : ∃ m : Nat, p1 = (e.done : Int) + m := ⟨(p1 - e.done).toNat, by omega⟩
  have hlen : hs.length = e.list.length := hR.all.length
  have hml : m ≤ e.list.length := by omega
  rw [addOff]
  refine ldL0 (s := sl) hR6.cells rfl ?_
  refine ldI0 (n := (e.done : Int)) hR6.cells rfl ?_
  rw [i64w (n := p1 - (e.done : Int)) (by omega) (by omega)]
  refine hR6.row.sls keptL_len (by decide) (i := 0) (j := m) rfl (by omega) (Nat.zero_le _) (by omega) fun r11 hr11 => ?_
  rw [List.drop_zero] at hr11
  have hrn := hr11.len
  rw [List.length_take] at hrn
  have hgF : ¬F g := hS.gf g hG
  intro n12
  have hf12 := hf6.trans (Fr.drewN w6 n12)
  have hr12 := hr11.mv (E := y_dedup_kept) keptL_len (by decide) (Mv.of_fr (F := fun _ => False) (Fr.drewN w6 n12)) (fun _ h => h.elim) (fun _ h => .inl h)
  generalize w6.drewN n12 = w12 at *
  have hR12 := hR.fr hf12
  have hS12 := hS.fr hf12
  refine lpI (fun (s' : Int × Unit) v => ∃ k : Nat, k ≤ m ∧ s'.1 = (k : Int) ∧ ∃ x', Stor v G F a (letS s (e.list.take k)) x' ∧ Mv F w12 v) (fun s' _ => m - s'.1.toNat) ⟨0, Nat.zero_le _, rfl, x, hS12, Mv.refl _ _⟩ ?_
  rintro D ⟨i', ⟨⟩⟩ v ⟨k, hk, e', x', hSv, hv⟩
  dsimp -zeta only at e' ⊢
  subst e'
  have hZF : ∀ k, F k → (Zg G F k ∧ k ≠ g) ∨ w12.heap.size ≤ k := fun k hk => .inl ⟨.inr hk, fun e' => hgF (e' ▸ hk)⟩
  have hRv := hR12.mv hv hZF fun _ h => .inl h
  have hrv := hr12.mv keptL_len (by decide) hv (fun k hk => .inl (.inr hk)) (fun _ h => .inl h)
  refine bD ?_ ?_ <;> intro hi
  · have hkm : k < m := by omega
    have hkt : k < (hs.take m).length := by rw [List.length_take]; omega
    refine hrv.ix keptL_len (by decide) rfl hkt fun a17 hc => ?_
    have hel : (hs.take m)[k] = hs[k] := by rw [List.getElem_take]
    rw [hel] at hc
    have hK := hRv.all.get (i := k) (by omega) (by omega)
    refine ldAt k_dedup_kept hs[k] rfl hc ?_
    refine nwI fun a19 w20 ha19 hs20 hf20 hb20 _ => ?_
    have hone : ∀ v ∈ hs[k].2.1.1, v.oneCell' = true := by rw [hK.1]; exact u8s_one _
    refine stW (Kd.av k_dedup_kept hs[k]) (kept_okSt _ hone) hb20 (by rfl) fun w21 hc21 g21 s21 => ?_
    have hf21 : Fr v w21 := Mv.on (F := fun k => k = a19) hf20 (Mv.of_grown g21 rfl) fun j hj => by omega
    rw [addOff]
    refine ldB0 hc21 (kept_33 _) ?_
    have hS21 := hSv.fr hf21
    have hR21 := hRv.fr hf21
    have e1 : e.list.take (k + 1) = e.list.take k ++ [e.list[k]] := by rw [List.take_add_one, List.getElem?_eq_getElem (by omega)]; rfl
    rw [i64w (by omega) (by omega)]
    have hv21 : Mv F w12 w21 := hv.trans (Mv.of_fr (F := F) hf21) fun j hj => .inl hj
    refine bB ?_ ?_ <;> intro hp
    · intro n23
      have hS23 := hS21.fr (Fr.drewN w21 n23)
      have hR23 := hR21.fr (Fr.drewN w21 n23)
      have hc23 := (Fr.drewN w21 n23).heap hc21
      have hv23 : Mv F w12 _ := hv21.trans (Mv.of_fr (F := F) (Fr.drewN w21 n23)) fun j hj => .inl hj
      generalize w21.drewN n23 = w23 at *
      refine ldP0 (p := some ⟨a, 0, none⟩) hR23.cells rfl ?_
      rw [addOff]
      refine ldRow (vs := u8s (dig e.list[k].1)) hc23 (by
        show ((keptL hs[k]).drop 1).take 32 = _
        rw [keptL_eq, ← hK.1]
        exact List.take_left' hs[k].2.1.2) (by rw [u8s_length, dig_length]) ?_
      refine (Unpin_ok hS23 (dig_length _) ((hP.lets _).mono (by decide))).mono ?_
      rintro r27 w28 ⟨_, x28, hS28, v28⟩
      refine ⟨⟨k + 1, hkm, by push_cast; rfl, x28, ?_, hv23.trans v28 fun j hj => .inl hj⟩, by omega⟩
      rw [e1, letS_snoc, if_pos (by rw [← hK.2.2]; exact hp)]
      exact hS28
    · refine ⟨⟨k + 1, hkm, by push_cast; rfl, x', ?_, hv21⟩, by omega⟩
      rw [e1, letS_snoc, if_neg (by rw [← hK.2.2, hp]; decide)]
      exact hS21
  · have hkm : k = m := by omega
    subst hkm
    intro n29
    have hv29 : Mv F w12 _ := hv.trans (Mv.of_fr (F := F) (Fr.drewN v n29)) fun j hj => .inl hj
    have hS29 := hSv.fr (Fr.drewN v n29)
    have hR29 := hRv.fr (Fr.drewN v n29)
    generalize v.drewN n29 = w29 at *
    refine ldL0 (s := sl) hR29.cells rfl ?_
    refine ldI0 (n := (e.done : Int)) hR29.cells rfl ?_
    rw [i64w (n := p1 - (e.done : Int)) (by omega) (by omega)]
    refine hR29.row.sls keptL_len (by decide) (i := k) (j := hs.length) (by omega) (by omega) (by omega) (Nat.le_refl _) fun r34 hr34 => ?_
    rw [List.take_length] at hr34
    have hone : ∀ y ∈ hs.drop k, ∀ v ∈ y.2.1.1, v.oneCell' = true := fun y hy v hv => by
      obtain ⟨j, hj, rfl⟩ := List.mem_iff_getElem.1 (List.mem_of_mem_drop hy)
      have := (hR.all.get hj (by omega)).1
      rw [this] at hv
      exact u8s_one _ v hv
    refine (Clone_kept_ok hr34 hone (by rw [List.length_drop]; omega)).mono ?_
    rintro r35 w36 ⟨ho36, hn36, hf36⟩
    have hR36 := hR29.fr hf36
    have hS36 := hS29.fr hf36
    refine st0 hR36.cells (by show 1 < 3; decide) fun w38 hb38 g38 s38 => ?_
    have hc38 : w38.heap[g]? = some (.cells (encC a r35 e.done).toArray t_dedup_Encoder (0, 0)) := hb38
    refine st0 hc38 (by show 2 < 3; decide) fun w40 hb40 g40 s40 => ?_
    have hc40 : w40.heap[g]? = some (.cells (encC a r35 ((e.done + k : Nat) : Int)).toArray t_dedup_Encoder (0, 0)) := by
      rw [hb40, hm]; rfl
    have v40 : Mv (fun k => k = g) w36 w40 := (Mv.of_grown g38 rfl : Mv (fun k => k = g) w36 w38).trans (Mv.of_grown (F := fun k => k = g) g40 rfl) fun j hj => .inl hj
    have hg29 : g < w29.heap.size := hR29.lt
    have hZ29 : ∀ k, Zg G F k → k < w29.heap.size := fun k hk => by
      rcases hk with hk | hk
      · exact hS29.gl k hk
      · exact hS29.fl k hk
    have ho40 := own_kp ho36 v40.kp fun ad ha e' => by
      have := (World.ownsRow.lt ho36 ad.block (by rw [ha]; rfl)).1
      omega
    have v29 : Mv (fun k => k = g) w29 w40 := (Mv.of_fr (F := fun k => k = g) hf36).trans v40 fun j hj => .inl hj
    have hgZ : ∀ k, k = g → Zg G F k ∨ w29.heap.size ≤ k := fun k hk => .inl (.inl (hk ▸ hG))
    refine .inr ⟨k, hml, hm, rfl, x', ?_, ⟨⟨r35, hs.drop k, hc40, RwG.own ho40 keptL_len (by decide) hZ29, ?_⟩, fun b hb => hEb b (List.mem_of_mem_drop hb)⟩, ?_⟩
    · exact hS29.other v29 (fun k hk => .inl ⟨hk ▸ hG, hk ▸ hgF⟩) (fun k hk => .inl hk) fun k hk => Nat.lt_of_lt_of_le (hS29.gl k hk) v29.size
    · exact (hR29.all.drop k).mono fun y z _ _ hr => hr.mv v29 hgZ fun _ h => .inl h
    · have h1 : Mv (fun k => F k ∨ k = g) w w29 := (Mv.of_fr hf12).trans hv29 fun j hj => .inl (.inl hj)
      exact h1.trans v29 fun j hj => .inl (.inr hj)
theorem Close_ok (hS : Stor w G F a s x) (hE : Enc w (Zg G F) g a e) (hG : G g) (hdn : e.done ≤ 1073741000) (hln : e.list.length ≤ 8) (hP : PB s 1073741800) :
    cl Tryd.prog n_dedup_Encoder_Close #[.pointer (some ⟨g, 0, none⟩)] (.tup .nil) w fun (_ : Unit) w' =>
      ∃ x', Stor w' G F a (letS s e.list) x' ∧ Enc w' (Zg G F) g a ⟨[], e.done + e.list.length⟩ ∧ Mv (fun k => F k ∨ k = g) w w' := by
  refine dedup_Encoder_Close.cl ?_
  unfold dedup_Encoder_Close
  have hE' := hE
  obtain ⟨⟨sl, hs, hR⟩, hEb⟩ := hE'
  refine (Sent_ok hR (by omega) (by omega)).mono ?_
  rintro _ w2 ⟨rfl, hf2⟩
  refine (Done_ok (hS.fr hf2) (hE.fr hf2) hG hdn hln hP).mono ?_
  rintro r w4 (⟨h1, _, _⟩ | ⟨k, hk, e1, _, x', h1, h2, h3⟩)
  · exfalso; omega
  · have hkl : k = e.list.length := by omega
    subst hkl
    rw [List.take_length] at h1
    rw [List.drop_length] at h2
    exact ⟨x', h1, h2, (Mv.of_fr hf2).trans h3 fun j hj => .inl hj⟩
end
end Go.Proofs.YtkaombhkepopgaaDoor
namespace Go.Proofs.YtkaombhkepopgaaDoor
open Go.RowKit Go.Fl

/-- What a decoder makes of a record. -/
def opnS (s : Sto) (k z : Int) (d l : List UInt8) : Sto × List UInt8 × Int :=
  if k = 1 ∧ chkS k z l.length = 0 then
    (if (s.get d).2.2 ≠ 0 ∨ ((s.get d).2.1.length : Int) ≠ z ∨ dig (s.get d).2.1 ≠ d then ((s.get d).1, [], 110) else ((s.get d).1, (s.get d).2.1, 0))
  else ((if (openS k z d l).2 = 0 then (s.put d (openS k z d l).1).1 else s), openS k z d l)
theorem openS_len (k z : Int) (d l : List UInt8) : (openS k z d l).1.length ≤ 256 := by
  unfold openS
  split
  · exact Nat.zero_le _
  · rename_i hc
    obtain ⟨h1, h2, h3⟩ := chkS_ok (Classical.not_not.1 hc)
    split
    · exact Nat.zero_le _
    · rename_i hk
      split
      · exact Nat.zero_le _
      · rename_i hr
        by_cases hk3 : k = 3
        · rw [if_pos hk3]
          have : ((restS l z).1.length : Int) = z := Classical.byContradiction fun hh => hr ⟨hk3, .inr hh⟩
          split
          · show (restS l z).1.length ≤ 256; omega
          · exact Nat.zero_le _
        · rw [if_neg hk3]
          split
          · show l.length ≤ 256
            rcases h1 with h1 | h1 | h1
            · exact absurd h1.1 hk
            · omega
            · exact absurd h1.1 hk3
          · exact Nat.zero_le _
theorem opnS_len (s : Sto) (k z : Int) (d l : List UInt8) : (opnS s k z d l).2.1.length ≤ 256 := by
  unfold opnS
  split
  · rename_i hc
    split
    · exact Nat.zero_le _
    · rename_i hg
      have : ((s.get d).2.1.length : Int) = z := Classical.byContradiction fun hh => hg (.inr (.inl hh))
      have := (chkS_ok hc.2).2
      dsimp only
      omega
  · exact openS_len ..
/-- A record was taken. -/
def takeS (e : De) (s : Sto) (i k z : Int) (d l : List UInt8) : De × Sto × Int :=
  if i < 1 ∨ i - e.done - 1 > e.list.length ∨ i - e.done - 1 ≥ 8 then (e, s, 112)
  else if i - e.done - 1 < 0 ∨ (e.list[(i - e.done - 1).toNat]?).map (·.2) = some true then (e, s, 0)
  else if (opnS s k z d l).2.2 ≠ 0 ∧ (opnS s k z d l).2.2 ≠ 110 then (e, (opnS s k z d l).1, (opnS s k z d l).2.2)
  else ({ e with list := if i - e.done - 1 = e.list.length then e.list ++ [((opnS s k z d l).2.1, decide ((opnS s k z d l).2.2 = 0))] else e.list.set (i - e.done - 1).toNat ((opnS s k z d l).2.1, decide ((opnS s k z d l).2.2 = 0)) }, (opnS s k z d l).1, (opnS s k z d l).2.2)
/-- The next chunk, and what is left. -/
def peekS (e : De) : List UInt8 × Bool := match e.list with
  | (b, true) :: _ => (b, true)
  | _ => ([], false)
theorem peekS_cons {e : De} {b : List UInt8 × Bool} {t : List (List UInt8 × Bool)} (h : e.list = b :: t) : peekS e = if b.2 then (b.1, true) else ([], false) := by
  unfold peekS
  rw [h]
  obtain ⟨y, z⟩ := b
  cases z <;> rfl
def popS (e : De) : De := if (peekS e).2 then ⟨e.list.drop 1, e.done + 1⟩ else e
section
variable {w : World} {G F : Nat → Prop} {a g : Nat} {s : Sto} {x : Sx} {e : De}
theorem Stor.get_len (h : Stor w G F a s x) (d : List UInt8) : (s.get d).2.1.length ≤ 8192 := by
  unfold Sto.get
  split
  · rename_i k hk
    obtain ⟨c, hc, _, _⟩ := findI_some hk
    have h1 := bytesL_erase hc
    have h2 := h.fit
    have h3 := h.sz.2
    rw [hc]
    show c.data.length ≤ _
    omega
  · exact Nat.zero_le _
theorem heldL_eq (y : y_dedup_held) : heldL y = [slV y.1, .bool y.2.1] := rfl
theorem Peek_ok {Z : Nat → Prop} (hE : Dec w Z g a e) :
    cl Tryd.prog n_dedup_Decoder_Peek #[.pointer (some ⟨g, 0, none⟩)] (.tup (.pair .L (.pair .B .nil))) w fun (r : Sl × Bool × Unit) w' => OwB w' w.heap.size t_uint8 r.1 (peekS e).1 ∧ r.2 = ((peekS e).2, ()) ∧ Fr w w' := by
  refine dedup_Decoder_Peek.cl ?_
  unfold dedup_Decoder_Peek
  obtain ⟨⟨sl, hs, hR⟩, hEb⟩ := hE
  have hsn := hR.n
  refine (dmade_ok hR).mono ?_
  rintro _ _ ⟨rfl, rfl⟩
  refine bF rfl ?_
  dsimp -zeta only [nz]
  rw [addOff]
  refine ldL0 (s := sl) hR.cells rfl ?_
  have hlen : hs.length = e.list.length := hR.all.length
  refine bE ?_ ?_ <;> intro h0
  · have : e.list = [] := List.eq_nil_of_length_eq_zero (by omega)
    have ep : peekS e = ([], false) := by unfold peekS; rw [this]
    rw [ep]
    exact ⟨OwB.nil _ _ _, rfl, Fr.refl w⟩
  have hpos : 0 < hs.length := by omega
  refine ldL0 (s := sl) hR.cells rfl ?_
  refine hR.row.ix heldL_len (by decide) (j := 0) rfl hpos fun a7 hc => ?_
  have hK := hR.all.get hpos (by omega)
  refine ⟨hs[0].2.1, hc 1 _ rfl, ?_⟩
  obtain ⟨b, bt, hbt⟩ : ∃ b bt, e.list = b :: bt := List.exists_cons_of_length_pos (by omega)
  have hb0 : e.list[0] = b := by simp only [hbt, List.getElem_cons_zero]
  rw [hb0] at hK
  rw [hK.2]
  refine bB ?_ ?_ <;> intro hb
  · have hb' : b.2 = false := by simpa using hb
    have ep : peekS e = ([], false) := by rw [peekS_cons hbt, hb']; rfl
    rw [ep]
    exact ⟨OwB.nil _ _ _, rfl, Fr.refl w⟩
  · have hb' : b.2 = true := by simpa using hb
    have ep : peekS e = (b.1, true) := by rw [peekS_cons hbt, hb']; rfl
    refine ldL0 (s := sl) hR.cells rfl ?_
    refine hR.row.ix heldL_len (by decide) (j := 0) rfl hpos fun a11 hc => ?_
    have hc0 := hc 0 (slV hs[0].1) rfl
    rw [Addr.add0] at hc0
    refine ⟨hs[0].1, hc0, ?_⟩
    have hbl := hEb b (by rw [hbt]; simp)
    refine (Clone_byte_ok hK.1.bs (by omega)).mono ?_
    rintro x13 w14 ⟨ho, hf⟩
    rw [ep]
    exact ⟨ho, rfl, hf⟩
theorem Pop_ok {Z : Nat → Prop} (hE : Dec w Z g a e) (hZ : ∀ k, Z k → k < w.heap.size) (hg : Z g) (hdn : e.done ≤ 1073741000) (hln : e.list.length ≤ 8) :
    cl Tryd.prog n_dedup_Decoder_Pop #[.pointer (some ⟨g, 0, none⟩)] (.tup (.pair .L (.pair .B .nil))) w fun (r : Sl × Bool × Unit) w' => OwB w' w.heap.size t_uint8 r.1 (peekS e).1 ∧ r.2 = ((peekS e).2, ()) ∧ Dec w' Z g a (popS e) ∧ Mv (fun k => k = g) w w' := by
  refine dedup_Decoder_Pop.cl ?_
  unfold dedup_Decoder_Pop
  refine (Peek_ok hE).mono ?_
  rintro ⟨r1, ok, ⟨⟩⟩ w2 ⟨ho, h2, hf2⟩
  dsimp -zeta only at h2 ⊢
  injection h2 with h2 _
  subst h2
  have hE2 := hE.fr hf2
  refine bB ?_ ?_ <;> intro hok
  · obtain ⟨⟨sl, hs, hR⟩, hEb⟩ := hE
    have hsn := hR.n
    have hlen : hs.length = e.list.length := hR.all.length
    have hpos : 0 < e.list.length := by
      rcases hl : e.list with _ | ⟨b, t⟩
      · unfold peekS at hok; rw [hl] at hok; cases hok
      · simp
    have ep : popS e = ⟨e.list.drop 1, e.done + 1⟩ := by unfold popS; rw [if_pos hok]
    rw [ep]
    intro n3
    have hf3 := hf2.trans (Fr.drewN w2 n3)
    have ho3 := ho.fr (Fr.drewN w2 n3)
    generalize w2.drewN n3 = w3 at *
    have hR3 := hR.fr hf3
    dsimp -zeta only [nz]
    rw [addOff]
    refine ldL0 (s := sl) hR3.cells rfl ?_
    refine hR3.row.sls heldL_len (by decide) (i := 1) (j := hs.length) rfl (by omega) (by omega) (Nat.le_refl _) fun r6 hr6 => ?_
    rw [List.take_length] at hr6
    rw [addOff]
    refine ldI0 (n := (e.done : Int)) hR3.cells rfl ?_
    refine (Clone_held_ok hr6 (by rw [List.length_drop]; omega)).mono ?_
    rintro r9 w10 ⟨ho10, hn10, hf10⟩
    refine ⟨hf10, ?_⟩
    have hR10 := hR3.fr hf10
    refine st0 hR10.cells (by show 1 < 3; decide) fun w12 hb12 g12 s12 => ?_
    have hc12 : w12.heap[g]? = some (.cells (encC a r9 e.done).toArray t_dedup_Decoder (0, 0)) := hb12
    refine st0 hc12 (by show 2 < 3; decide) fun w14 hb14 g14 s14 => ?_
    have hc14 : w14.heap[g]? = some (.cells (encC a r9 ((e.done + 1 : Nat) : Int)).toArray t_dedup_Decoder (0, 0)) := by
      rw [hb14, i64w (by omega) (by omega)]; rfl
    have v14 : Mv (fun k => k = g) w10 w14 := (Mv.of_grown g12 rfl : Mv (fun k => k = g) w10 w12).trans (Mv.of_grown (F := fun k => k = g) g14 rfl) fun j hj => .inl hj
    have hg3 : g < w3.heap.size := hR3.lt
    have hgl := hR.lt
    have v3 : Mv (fun k => k = g) w3 w14 := (Mv.of_fr (F := fun k => k = g) hf10).trans v14 fun j hj => .inl hj
    have ho14 := own_kp ho10 v14.kp fun ad ha e' => by
      have := (World.ownsRow.lt ho10 ad.block (by rw [ha]; rfl)).1
      omega
    have hgZ : ∀ k, k = g → Z k ∨ w3.heap.size ≤ k := fun k hk => .inl (hk ▸ hg)
    refine ⟨(ho3.fr hf10).mv v14 fun ad ha e' => by have := (ho.own ad ha).1; omega, rfl, ⟨⟨r9, hs.drop 1, hc14, RwG.own ho14 heldL_len (by decide) fun k hk => Nat.lt_of_lt_of_le (hZ k hk) hf3.size, ?_⟩, fun b hb => hEb b (List.mem_of_mem_drop hb)⟩, (Mv.of_fr hf3).trans v3 fun j hj => .inl hj⟩
    exact (hR3.all.drop 1).mono fun y z _ _ hr => hr.mv v3 hgZ fun _ h => .inl h
  · have ep : popS e = e := by unfold popS; rw [if_neg (by rw [hok]; decide)]
    rw [ep]
    exact ⟨ho, rfl, hE2, Mv.of_fr hf2⟩
theorem dopen_ok {Z : Nat → Prop} {p : RecT} {d l : List UInt8} (hS : Stor w G F a s x) (hE : Dec w Z g a e) (hZ : DigZ w (Zg G F)) (hp : p.2.2.1.1 = u8s d) (hl : Bs w p.2.2.2.1 l) (hll : l.length ≤ 140737488351232) :
    cl Tryd.prog n_dedup_Decoder_open #[.pointer (some ⟨g, 0, none⟩), (Kd.av k_api_Record p).val] (.tup (.pair .L (.pair (.I .i64) .nil))) w fun (r : Sl × Int × Unit) w' =>
      r.2 = ((opnS s p.1 p.2.1 d l).2.2, ()) ∧ ∃ F' x', Cb w' (Zg G F') r.1 (opnS s p.1 p.2.1 d l).2.1 ∧ Stor w' G F' a (opnS s p.1 p.2.1 d l).1 x' ∧ Mv F w w' ∧ ∀ k, F' k → F k ∨ w.heap.size ≤ k := by
  refine dedup_Decoder_open.cl (p1 := p) ?_
  unfold dedup_Decoder_open
  obtain ⟨⟨sl, hs, hR⟩, hEb⟩ := hE
  have hn := hl.len
  have hdl : d.length = 32 := by have := p.2.2.1.2; rw [hp, u8s_length] at this; exact this
  rw [rc_av p]
  refine nwI fun a1 w2 ha hs2 hf2 hb _ => ?_
  have hsum : ∀ {u : World}, u.heap[a1]? = some (.cells (rcL p []).toArray t_api_Record (0, 0)) → ∀ {K : {l : List Value // l.length = 32} → Prop}, (∀ h, K ⟨u8s d, h⟩) → ld (.row 32) u ⟨a1, 2, none⟩ K := by
    intro u hu K hK
    refine ldRow (vs := u8s d) hu (by rw [← hp]; unfold rcL; rw [show ((Value.int .i64 p.1 :: .int .i64 p.2.1 :: (p.2.2.1.1 ++ (slV p.2.2.2.1 :: []))).drop 2) = p.2.2.1.1 ++ [slV p.2.2.2.1] from rfl, List.take_left' p.2.2.1.2]) (by rw [u8s_length, hdl]) (hK _)
  have hZlt : ∀ k, Zg G F k → k < w.heap.size := fun k hk => by
    rcases hk with hk | hk
    · exact hS.gl k hk
    · exact hS.fl k hk
  intro j2
  have J2 : ∀ u : World, Fr w u → u.heap[a1]? = some (.cells (rcL p []).toArray t_api_Record (0, 0)) → ¬(p.1 = 1 ∧ chkS p.1 p.2.1 l.length = 0) → j2 u := by
    intro u hfu hub hno
    have eo : opnS s p.1 p.2.1 d l = ((if (openS p.1 p.2.1 d l).2 = 0 then (s.put d (openS p.1 p.2.1 d l).1).1 else s), openS p.1 p.2.1 d l) := by unfold opnS; rw [if_neg hno]
    unfold j2
    rw [eo]
    refine ldR hub ?_
    refine (Open_ok (hZ.fr hfu).dig hp (hl.fr hfu) hll).mono ?_
    rintro ⟨r48, err, ⟨⟩⟩ w49 ⟨ho, he, hf49⟩
    dsimp -zeta only at ho he ⊢
    injection he with he _
    have hol := openS_len p.1 p.2.1 d l
    generalize openS p.1 p.2.1 d l = oo at *
    subst he
    have hf49' := hfu.trans hf49
    have ho' : OwB w49 w.heap.size t_uint8 r48 oo.1 := ho.mono hfu.size
    refine bE ?_ ?_ <;> intro h0
    · intro n50
      have hf50 := hf49'.trans (Fr.drewN w49 n50)
      have ho50 := ho'.fr (Fr.drewN w49 n50)
      have hb50 := (Fr.drewN w49 n50).heap (hf49.heap hub)
      generalize w49.drewN n50 = w50 at *
      refine ldP0 (p := some ⟨a, 0, none⟩) (hR.fr hf50).cells rfl ?_
      rw [addOff]
      refine hsum hb50 fun _ => ?_
      have hCb : Cb w50 (Zg G F) r48 oo.1 := Cb.own ho50 hZlt
      refine (sPut_ok (hS.fr hf50) hdl hCb (by omega)).mono ?_
      rintro r54 w55 ⟨_, F1, x1, hS55, v55, hF1⟩
      refine ⟨rfl, F1, x1, ?_, ?_, (Mv.of_fr (F := F) hf50).trans v55 fun j hj => .inl hj, fun k hk => (hF1 k hk).imp id fun h => Nat.le_trans hf50.size h⟩
      · exact hCb.mv v55 (fun k hk => .inl (.inr hk)) fun k hk => by
          rcases hk with hk | hk
          · exact .inl (.inl hk)
          · exact (hF1 k hk).imp .inr id
      · rw [if_pos h0]; exact hS55
    · refine ⟨rfl, F, x, Cb.own ho' hZlt, ?_, Mv.of_fr hf49', fun k hk => .inl hk⟩
      rw [if_neg h0]
      exact hS.fr hf49'
  clear_value j2
  intro j1
  have J1 : ∀ (y : Bool) (u : World), Fr w u → u.heap[a1]? = some (.cells (rcL p []).toArray t_api_Record (0, 0)) → (y = true ↔ p.1 = 1 ∧ chkS p.1 p.2.1 l.length = 0) → j1 y u := by
    intro y u hfu hub hy
    unfold j1
    refine bB ?_ ?_ <;> intro h0
    · have hyes := hy.1 h0
      have eo : opnS s p.1 p.2.1 d l = if (s.get d).2.2 ≠ 0 ∨ ((s.get d).2.1.length : Int) ≠ p.2.1 ∨ dig (s.get d).2.1 ≠ d then ((s.get d).1, [], 110) else ((s.get d).1, (s.get d).2.1, 0) := by unfold opnS; rw [if_pos hyes]
      rw [eo]
      intro n23
      have hf23 := hfu.trans (Fr.drewN u n23)
      have hb23 := (Fr.drewN u n23).heap hub
      generalize u.drewN n23 = w23 at *
      refine ldP0 (p := some ⟨a, 0, none⟩) (hR.fr hf23).cells rfl ?_
      rw [addOff]
      refine hsum hb23 fun _ => ?_
      have hFn : ∀ k, w.heap.size ≤ k → ¬F k := fun k hk hf => by have := hS.fl k hf; omega
      have hgl := hS.get_len d
      refine (sGet_ok (hS.fr hf23) hdl).mono ?_
      rintro ⟨r27, err, ⟨⟩⟩ w28 ⟨ho, he, x1, hS28, v28⟩
      dsimp -zeta only at ho he ⊢
      injection he with he _
      generalize s.get d = q at *
      subst he
      have hb28 := v28.heap hb23 (hFn a1 (by omega))
      have v28' : Mv F w w28 := (Mv.of_fr hf23).trans v28 fun j hj => .inl hj
      intro n29
      have hb29 := (Fr.drewN w28 n29).heap hb28
      have hS29 := hS28.fr (Fr.drewN w28 n29)
      have ho29 := ho.fr (Fr.drewN w28 n29)
      have v29 : Mv F w _ := v28'.trans (Mv.of_fr (F := F) (Fr.drewN w28 n29)) fun j hj => .inl hj
      generalize w28.drewN n29 = w29 at *
      have hmiss : ∀ (v : World) (c : Prop) [Decidable c], Fr w29 v → c → (2 = 2 ∧ True) → (((⟨none, 0, 0⟩, (110, ())) : Sl × Int × Unit).2 = ((if c then (q.1, ([] : List UInt8), (110 : Int)) else (q.1, q.2.1, 0)).2.2, ()) ∧
          ∃ F' x', Cb v (Zg G F') (⟨none, 0, 0⟩ : Sl) (if c then (q.1, ([] : List UInt8), (110 : Int)) else (q.1, q.2.1, 0)).2.1 ∧ Stor v G F' a (if c then (q.1, ([] : List UInt8), (110 : Int)) else (q.1, q.2.1, 0)).1 x' ∧ Mv F w v ∧ ∀ k, F' k → F k ∨ w.heap.size ≤ k) := by
        intro v c _ hfv hc _
        rw [if_pos hc]
        exact ⟨rfl, F, x1, Cb.nil _ _ _, hS29.fr hfv, v29.trans (Mv.of_fr (F := F) hfv) fun j hj => .inl hj, fun k hk => .inl hk⟩
      refine bNe ?_ ?_ <;> intro h1
      · exact hmiss w29 _ (Fr.refl _) (.inl h1) ⟨rfl, trivial⟩
      rw [addOff]
      refine ldI0 (n := p.2.1) hb29 rfl ?_
      have hrn := ho29.len
      refine bNe ?_ ?_ <;> intro h2
      · exact hmiss w29 _ (Fr.refl _) (.inr (.inl (by omega))) ⟨rfl, trivial⟩
      refine hsum hb29 fun _ => ?_
      refine nwI fun a32 w33 ha32 hs33 hf33 hb33 _ => ⟨hf33, ?_⟩
      have hD29 : DigZ w29 (Zg G F) := hZ.mv v29 (fun k hk => .inl (.inr hk)) fun k hk => .inl hk
      refine (Of_ok (x := r27) (hD29.fr hf33).dig hb33 (ho29.fr hf33).bs (by omega)).mono ?_
      rintro ⟨x34, hx34⟩ w35 ⟨hx, hf35⟩
      dsimp only at hx
      subst hx
      refine ⟨hf35, ?_⟩
      refine qnNe (dig_length _) hdl ?_
      have hf35' := hf33.trans hf35
      refine bB ?_ ?_ <;> intro h3
      · exact hmiss w35 _ hf35' (.inr (.inr (by simpa using h3))) ⟨rfl, trivial⟩
      · rw [if_neg (by
          rintro (h | h | h)
          · exact h h1
          · omega
          · have : dig q.2.1 = d := by simpa using h3
            exact h this)]
        refine ⟨rfl, F, x1, Cb.own (ho29.fr hf35') fun k hk => Nat.lt_of_lt_of_le (hZlt k hk) hf23.size, hS29.fr hf35', v29.trans (Mv.of_fr (F := F) hf35') fun j hj => .inl hj, fun k hk => .inl hk⟩
    · exact J2 u hfu hub fun h => by rw [hy.2 h] at h0; cases h0
  clear_value j1
  refine ldI0 (n := p.1) hb rfl ?_
  refine bE ?_ ?_ <;> intro h1
  · refine ldR hb ?_
    refine (Check_ok (p := p)).mono ?_
    rintro r w6 ⟨rfl, hf6⟩
    refine J1 _ w6 (hf2.trans hf6) (hf6.heap hb) ?_
    rw [hn, beq_iff_eq]
    exact ⟨fun h => ⟨h1, h⟩, fun h => h.2⟩
  · exact J1 _ w2 hf2 hb ⟨fun h => (by cases h), fun h => absurd h.1 h1⟩
theorem Take_ok {p : RecT} {d l : List UInt8} {p1 : Int} (hS : Stor w G F a s x) (hE : Dec w (Zg G F) g a e) (hG : G g) (hZ : DigZ w (Zg G F)) (hp : p.2.2.1.1 = u8s d) (hl : Bs w p.2.2.2.1 l) (hll : l.length ≤ 140737488351232) (hdn : e.done ≤ 1073741000) (hln : e.list.length ≤ 8) (hi : p1 ≤ 9223372036854775807) :
    cl Tryd.prog n_dedup_Decoder_Take #[.pointer (some ⟨g, 0, none⟩), .int .i64 p1, (Kd.av k_api_Record p).val] (.I .i64) w fun (r : Int) w' =>
      r = (takeS e s p1 p.1 p.2.1 d l).2.2 ∧ ∃ F' x', Stor w' G F' a (takeS e s p1 p.1 p.2.1 d l).2.1 x' ∧ Dec w' (Zg G F') g a (takeS e s p1 p.1 p.2.1 d l).1 ∧ Mv (fun k => F k ∨ k = g) w w' ∧ ∀ k, F' k → F k ∨ w.heap.size ≤ k := by
  refine dedup_Decoder_Take.cl (p2 := p) ?_
  unfold dedup_Decoder_Take
  have hE' := hE
  obtain ⟨⟨sl, hs, hR⟩, hEb⟩ := hE'
  have hsn := hR.n
  have hlen : hs.length = e.list.length := hR.all.length
  have hgF : ¬F g := hS.gf g hG
  rw [rc_av p]
  refine nwI fun a1 w2 ha1 hs2 hf2 hb1 _ => ?_
  have hR2 := hR.fr hf2
  refine (dmade_ok hR2).mono ?_
  rintro _ _ ⟨rfl, rfl⟩
  refine bF rfl ?_
  dsimp -zeta only [nz]
  rw [addOff]
  refine ldI0 (n := (e.done : Int)) hR2.cells rfl ?_
  have same : ∀ {u : World}, Fr w u → ∃ F' x', Stor u G F' a s x' ∧ Dec u (Zg G F') g a e ∧ Mv (fun k => F k ∨ k = g) w u ∧ ∀ k, F' k → F k ∨ w.heap.size ≤ k :=
    fun hfu => ⟨F, x, hS.fr hfu, hE.fr hfu, Mv.of_fr hfu, fun k hk => .inl hk⟩
  intro j2
  have J2 : 1 ≤ p1 → 0 ≤ p1 - e.done - 1 → p1 - e.done - 1 ≤ e.list.length → p1 - e.done - 1 < 8 → (e.list[(p1 - e.done - 1).toNat]?).map (·.2) ≠ some true → j2 w2 := by
    intro h1 h2 h3 h4 h5
    have et : takeS e s p1 p.1 p.2.1 d l = if (opnS s p.1 p.2.1 d l).2.2 ≠ 0 ∧ (opnS s p.1 p.2.1 d l).2.2 ≠ 110 then (e, (opnS s p.1 p.2.1 d l).1, (opnS s p.1 p.2.1 d l).2.2)
      else ({ e with list := if p1 - e.done - 1 = e.list.length then e.list ++ [((opnS s p.1 p.2.1 d l).2.1, decide ((opnS s p.1 p.2.1 d l).2.2 = 0))] else e.list.set (p1 - e.done - 1).toNat ((opnS s p.1 p.2.1 d l).2.1, decide ((opnS s p.1 p.2.1 d l).2.2 = 0)) }, (opnS s p.1 p.2.1 d l).1, (opnS s p.1 p.2.1 d l).2.2) := by
      unfold takeS
      rw [if_neg (by omega), if_neg (by
        rintro (h | h)
        · omega
        · exact h5 h)]
    unfold j2
    rw [et]
    refine ldR hb1 ?_
    refine (dopen_ok (hS.fr hf2) (hE.fr hf2) (hZ.fr hf2) hp (hl.fr hf2) hll).mono ?_
    rintro ⟨r53, err, ⟨⟩⟩ w54 ⟨he, F1, x1, hC, hS54, v54, hF1⟩
    dsimp -zeta only at hC he ⊢
    injection he with he _
    have hol := opnS_len s p.1 p.2.1 d l
    generalize opnS s p.1 p.2.1 d l = oo at *
    subst he
    have hF1' : ∀ k, F1 k → F k ∨ w.heap.size ≤ k := fun k hk => (hF1 k hk).imp id fun h => Nat.le_trans hf2.size h
    have v54' : Mv F w w54 := (Mv.of_fr hf2).trans v54 fun j hj => .inl hj
    have hEZ : ∀ k, F k → (Zg G F k ∧ k ≠ g) ∨ w.heap.size ≤ k := fun k hk => .inl ⟨.inr hk, fun e' => hgF (e' ▸ hk)⟩
    have hZ1 : ∀ k, Zg G F1 k → Zg G F k ∨ w.heap.size ≤ k := fun k hk => by
      rcases hk with hk | hk
      · exact .inl (.inl hk)
      · exact (hF1' k hk).imp .inr id
    have hE54 : Dec w54 (Zg G F1) g a e := hE.mv v54' hEZ hZ1
    have hR54 : DecR w54 (Zg G F1) g a e sl hs := hR.mv v54' hEZ hZ1
    obtain ⟨k, hk⟩ : ∃ k : Nat, p1 = (e.done : Int) + k + 1 := ⟨(p1 - e.done - 1).toNat, by omega⟩
    have hat : IntKind.i64.wrap (IntKind.i64.wrap (p1 - (e.done : Int)) - 1) = (k : Int) := by rw [i64w (n := p1 - (e.done : Int)) (by omega) (by omega), i64w (by omega) (by omega)]; omega
    have hat2 : (p1 - e.done - 1).toNat = k := by omega
    rw [hat, hat2]
    have hg1 : ¬F1 g := hS54.gf g hG
    have hZlt : ∀ {u : World}, w54.heap.size ≤ u.heap.size → ∀ k, Zg G F1 k → k < u.heap.size := fun hu k hk => by
      rcases hk with hk | hk
      · exact Nat.lt_of_lt_of_le (hS54.gl k hk) hu
      · exact Nat.lt_of_lt_of_le (hS54.fl k hk) hu
    intro j3
    have J3 : ¬(oo.2.2 ≠ 0 ∧ oo.2.2 ≠ 110) → j3 w54 := by
      intro hoo
      unfold j3
      rw [if_neg hoo]
      refine ldL0 (s := sl) hR54.cells rfl ?_
      refine (Clone_held_ok hR54.row (by omega)).mono ?_
      rintro x74 w75 ⟨ho75, hn75, hf75⟩
      have hS75 := hS54.fr hf75
      have hR75 := hR54.fr hf75
      have hC75 : Cb w75 (Zg G F1) r53 oo.2.1 := hC.mv (Mv.of_fr (F := fun _ => False) hf75) (fun _ h => h.elim) fun _ h => .inl h
      obtain ⟨nw, hnw⟩ : ∃ y : y_dedup_held, y = (r53, (decide (oo.2.2 = 0), ())) := ⟨_, rfl⟩
      have hav : (Kd.av k_dedup_held (r53, ((oo.2.2 == 0), ()))).cells = heldL nw := by
        rw [hnw]
        show [slV r53, Value.bool (oo.2.2 == 0)] = [slV r53, Value.bool (decide (oo.2.2 = 0))]
        congr 3
      -- the list is stored
      have fin : ∀ (v : World) (r : Sl) (hs' : List y_dedup_held) (l' : List (List UInt8 × Bool)), Fr w54 v → v.ownsRow w54.heap.size t_dedup_held 2 (.slice r.a r.n r.c) r.n (hs'.flatMap heldL) →
          All2 (HeldP v (Zg G F1)) hs' l' → (∀ b ∈ l', b.1.length ≤ 8192) →
          st1 v ⟨g, 1, none⟩ (.slice r.a r.n r.c) fun u => oo.2.2 = oo.2.2 ∧ ∃ F' x', Stor u G F' a oo.1 x' ∧ Dec u (Zg G F') g a { e with list := l' } ∧ Mv (fun k => F k ∨ k = g) w u ∧ ∀ k, F' k → F k ∨ w.heap.size ≤ k := by
        intro v r hs' l' hfv ho ha hb
        have hRv := hR54.fr hfv
        refine st0 hRv.cells (by show 1 < 3; decide) fun u hbu gu su => ?_
        have hcu : u.heap[g]? = some (.cells (encC a r e.done).toArray t_dedup_Decoder (0, 0)) := hbu
        have vu : Mv (fun k => k = g) v u := Mv.of_grown gu rfl
        have hou := own_kp ho vu.kp fun ad ha e' => by
          have := (World.ownsRow.lt ho ad.block (by rw [ha]; rfl)).1
          have := hR54.lt
          omega
        have hSv := hS54.fr hfv
        refine ⟨rfl, F1, x1, hSv.other vu (fun k hk => .inl ⟨hk ▸ hG, hk ▸ hg1⟩) (fun k hk => .inl hk) (fun k hk => Nat.lt_of_lt_of_le (hSv.gl k hk) vu.size), ⟨⟨r, hs', hcu, RwG.own hou heldL_len (by decide) (hZlt (Nat.le_refl _)), ?_⟩, hb⟩, ?_, hF1'⟩
        · exact ha.mono fun y z _ _ hr => hr.mv vu (fun k hk => .inl (.inl (hk ▸ hG))) fun _ h => .inl h
        · have h1 : Mv (fun k => F k ∨ k = g) w v := (v54'.mono fun k hk => .inl (.inl hk) : Mv (fun k => F k ∨ k = g) w w54).trans (Mv.of_fr (F := F) hfv) fun j hj => .inl (.inl hj)
          exact h1.trans vu fun j hj => .inl (.inr hj)
      have hx74n : x74.n = e.list.length := hn75.trans hlen
      have hall75 : All2 (HeldP w75 (Zg G F1)) hs e.list := hR75.all
      refine bE ?_ ?_ <;> intro hkl
      · have hkn : k = e.list.length := by omega
        refine nwI fun a76 w77 ha76 hs77 hf77 hb77 hr77 => ?_
        have ho77 := own_kept ho75 hf77
        refine app_own slHeld (base := w54.heap.size) (news := heldL z_dedup_held) ho77 hr77 rfl (heldL_one _) (by dsimp only; omega) (by dsimp only; omega) (by have := hf75.size; omega) fun r78 w79 hn78 ho78 hg79 hat79 => ?_
        have hf54_77 := hf75.trans hf77
        have hf79 : Fr w54 w79 := hf54_77.on ((Below.refl _ _).grown hg79 hf54_77.size fun q' hq' => (World.ownsRow.lt ho77 q' hq').1)
        have e1 : hs.flatMap heldL ++ heldL z_dedup_held = (hs ++ [z_dedup_held]).flatMap heldL := by rw [List.flatMap_append, List.flatMap_singleton]
        rw [e1] at ho78
        refine own_st (f := heldL) ho78 heldL_len (by decide) (j := k) rfl (by rw [List.length_append, List.length_singleton]; omega) nw _ rfl hav fun w81 ho81 g81 s81 => ?_
        have hf81 : Fr w54 w81 := hf79.on ((Below.refl _ _).grown g81 hf79.size fun q' hq' => (World.ownsRow.lt ho78 q' hq').1)
        have hset : (hs ++ [z_dedup_held]).set k nw = hs ++ [nw] := by
          rw [List.set_append_right _ _ (by omega), show k - hs.length = 0 from by omega]; rfl
        rw [hset] at ho81
        rw [if_pos (show p1 - (e.done : Int) - 1 = (e.list.length : Int) by omega)]
        refine fin w81 r78 _ _ hf81 ho81 ?_ ?_
        · refine All2.append (hR54.all.mono fun y z _ _ hr => hr.mv (Mv.of_fr (F := fun _ => False) hf81) (fun _ h => h.elim) fun _ h => .inl h) ⟨⟨?_, ?_⟩, trivial⟩
          · rw [hnw]; exact hC.mv (Mv.of_fr (F := fun _ => False) hf81) (fun _ h => h.elim) fun _ h => .inl h
          · rw [hnw]
        · intro b hb
          rcases List.mem_append.1 hb with hb | hb
          · exact hEb b hb
          · rw [List.mem_singleton] at hb; rw [hb]; show oo.2.1.length ≤ _; omega
      · have hkn : k < e.list.length := by omega
        refine own_st (f := heldL) ho75 heldL_len (by decide) (j := k) rfl (by omega) nw _ rfl hav fun w85 ho85 g85 s85 => ?_
        have hf85 : Fr w54 w85 := hf75.on ((Below.refl _ _).grown g85 hf75.size fun q' hq' => (World.ownsRow.lt ho75 q' hq').1)
        rw [if_neg (show ¬(p1 - (e.done : Int) - 1 = (e.list.length : Int)) by omega)]
        refine fin w85 x74 _ _ hf85 ho85 ?_ ?_
        · refine All2.of_get (by rw [List.length_set, List.length_set, hlen]) fun i h1 h2 => ?_
          rw [List.getElem_set, List.getElem_set]
          split
          · rw [hnw]; exact ⟨hC.mv (Mv.of_fr (F := fun _ => False) hf85) (fun _ h => h.elim) fun _ h => .inl h, rfl⟩
          · exact (hR54.all.get (by simpa using h1) (by simpa using h2)).mv (Mv.of_fr (F := fun _ => False) hf85) (fun _ h => h.elim) fun _ h => .inl h
        · intro b hb
          rcases List.mem_or_eq_of_mem_set hb with hb | hb
          · exact hEb b hb
          · rw [hb]; show oo.2.1.length ≤ _; omega
    clear_value j3
    refine bNe ?_ ?_ <;> intro h6
    · refine bNe ?_ ?_ <;> intro h7
      · rw [if_pos ⟨h6, h7⟩]
        exact ⟨rfl, F1, x1, hS54, hE54, v54'.mono fun k hk => .inl (.inl hk), hF1'⟩
      · exact J3 fun h => h.2 h7
    · exact J3 fun h => h.1 h6
  clear_value j2
  have e112 : (p1 < 1 ∨ p1 - e.done - 1 > e.list.length ∨ p1 - e.done - 1 ≥ 8) → takeS e s p1 p.1 p.2.1 d l = (e, s, 112) := fun h => by unfold takeS; rw [if_pos h]
  have e0 : ¬(p1 < 1 ∨ p1 - e.done - 1 > e.list.length ∨ p1 - e.done - 1 ≥ 8) → (p1 - e.done - 1 < 0 ∨ (e.list[(p1 - e.done - 1).toNat]?).map (·.2) = some true) → takeS e s p1 p.1 p.2.1 d l = (e, s, 0) := fun h h' => by unfold takeS; rw [if_neg h, if_pos h']
  refine bD ?_ ?_ <;> intro h1
  · rw [e112 (.inl h1)]
    exact ⟨rfl, same hf2⟩
  rw [i64w (n := p1 - (e.done : Int)) (by omega) (by omega), i64w (by omega) (by omega)]
  rw [addOff]
  refine ldL0 (s := sl) hR2.cells rfl ?_
  refine bD ?_ ?_ <;> intro h2
  · rw [e112 (.inr (.inl (by omega)))]
    exact ⟨rfl, same hf2⟩
  refine bD ?_ ?_ <;> intro h3
  · rw [e112 (.inr (.inr (by omega)))]
    exact ⟨rfl, same hf2⟩
  refine bD ?_ ?_ <;> intro h4
  · rw [e0 (by omega) (.inl (by omega))]
    exact ⟨rfl, same hf2⟩
  refine ldL0 (s := sl) hR2.cells rfl ?_
  refine bD ?_ ?_ <;> intro h5
  · have hk : (p1 - e.done - 1).toNat < e.list.length := by omega
    refine ldL0 (s := sl) hR2.cells rfl ?_
    refine hR2.row.ix heldL_len (by decide) (j := (p1 - e.done - 1).toNat) (by omega) (by omega) fun a13 hc => ?_
    have hK := hR2.all.get (i := (p1 - e.done - 1).toNat) (by omega) hk
    refine ⟨hs[(p1 - e.done - 1).toNat].2.1, hc 1 _ rfl, ?_⟩
    rw [hK.2]
    refine bB ?_ ?_ <;> intro hb
    · rw [e0 (by omega) (.inr (by rw [List.getElem?_eq_getElem hk, Option.map_some, hb]))]
      exact ⟨rfl, same hf2⟩
    · exact J2 (by omega) (by omega) (by omega) (by omega) (by rw [List.getElem?_eq_getElem hk, Option.map_some, hb]; simp)
  · exact J2 (by omega) (by omega) (by omega) (by omega) (by rw [List.getElem?_eq_none (by omega)]; simp)
end
end Go.Proofs.YtkaombhkepopgaaDoor
namespace Go.Fl

/-- Only blocks of Z turned; Z' has none of the old ones that Z had not. -/
structure Stp (w : World) (Z : Nat → Prop) (w' : World) (Z' : Nat → Prop) : Prop where
  mv : Mv Z w w'
  sub : ∀ k, Z' k → Z k ∨ w.heap.size ≤ k
section
variable {w w' w'' : World} {Z Z' Z'' : Nat → Prop}
theorem Stp.refl (w : World) (Z : Nat → Prop) : Stp w Z w Z := ⟨Mv.refl _ _, fun _ h => .inl h⟩
theorem Stp.of_fr (h : Fr w w') : Stp w Z w' Z := ⟨Mv.of_fr h, fun _ h => .inl h⟩
theorem Stp.trans (h : Stp w Z w' Z') (k : Stp w' Z' w'' Z'') : Stp w Z w'' Z'' :=
  ⟨h.mv.trans k.mv h.sub, fun j hj => by
    rcases k.sub j hj with h1 | h1
    · exact h.sub j h1
    · have := h.mv.size; right; omega⟩
theorem Stp.fr (h : Stp w Z w' Z') (k : Fr w' w'') : Stp w Z w'' Z' := h.trans (Stp.of_fr k)
theorem Stp.pre (h : Fr w w') (k : Stp w' Z w'' Z') : Stp w Z w'' Z' := (Stp.of_fr h).trans k
theorem Stp.heap (h : Stp w Z w' Z') {g : Nat} {o : Obj} (hg : w.heap[g]? = some o) (hz : ¬Z g) : w'.heap[g]? = some o := h.mv.heap hg hz
theorem Stp.not (h : Stp w Z w' Z') {g : Nat} (hg : g < w.heap.size) (hz : ¬Z g) : ¬Z' g := fun hz' => by
  rcases h.sub g hz' with h1 | h1
  · exact hz h1
  · omega
theorem Stp.size (h : Stp w Z w' Z') : w.heap.size ≤ w'.heap.size := h.mv.size
theorem Stp.cb (h : Stp w Z w' Z') {s : Sl} {l : List UInt8} (hc : Cb w Z s l) : Cb w' Z' s l := hc.mv h.mv (fun _ hk => .inl hk) h.sub
/-- Bytes that were there ahead of all that turns. -/
theorem Cb.old {w0 : World} {s : Sl} {l : List UInt8} (h : Bs w0 s l) (hf : Fr w0 w) (hZ : ∀ k, Z k → w0.heap.size ≤ k) : Cb w Z s l :=
  ⟨h.fr hf, fun hl ad ha hz => by have := h.lt hl ad ha; have := hZ _ hz; omega⟩
end
/-- []byte of a new row of bytes: where it lies. -/
theorem nwConv' {P : Program} {t e : TypeId} {cs : List Value} {n : Nat} {l : List UInt8} {w : World} {K : Sl → World → Prop} (ht : P.underlying t = some (.slice e)) (he : P.underlying e = some (.int .u8)) (hcs : cs = u8s l) (hn : n = l.length)
    (h : ∀ r w', r.a = some ⟨w.heap.size, 0, none⟩ → Bs w' r l → Fr w w' → K r w') : nw w cs e fun a w2 => rn P (convert t t (.slice (some a) n n)) .L w2 K := by
  subst hcs hn
  refine nwI fun b w2 hb hsz hf hblk hrd => ?_
  have hrun : (convert t t (.slice (some ⟨b, 0, none⟩) l.length l.length)).run P w2 = .ok (.slice (some ⟨b, 0, none⟩) l.length l.length) (w2.freeze ⟨b, (u8s l).toArray.size, none⟩ 1) := by
    simp [convert, run_underlying ht, run_underlying he, markStringish, World.shape?, hblk]
  refine ⟨⟨some ⟨b, 0, none⟩, l.length, l.length⟩, _, hrun, h _ _ (by rw [hb]) ?_ ?_⟩
  · refine ⟨fun j u hu => ?_, rfl, Nat.le_refl _⟩
    obtain ⟨ad, ha, hc⟩ := hrd j u hu
    refine ⟨ad, ha, ?_⟩
    rw [← hc]
    cases ha
    have e1 : ((⟨b, 0, none⟩ : Addr).add j).block = b := add_block _ _
    unfold World.cell? World.freeze
    simp only [Nat.one_ne_zero, if_false, Array.getElem?_modify, e1, hblk, if_true, Option.map_some]
  · have hs := hf.size
    refine ⟨hf.os, hf.tape, hf.output, by simpa [World.freeze] using hs, fun k hk => ?_⟩
    rw [← hf.block k hk]
    simp only [World.freeze, Nat.one_ne_zero, if_false, Array.getElem?_modify]
    rw [if_neg (by omega)]
/-- Bytes in a block that does not belong to Z. -/
theorem Cb.at {w : World} {Z : Nat → Prop} {s : Sl} {l : List UInt8} {b o : Nat} (h : Bs w s l) (ha : s.a = some ⟨b, o, none⟩) (hz : ¬Z b) : Cb w Z s l := ⟨h, fun _ ad had => by rw [ha] at had; cases had; exact hz⟩
end Go.Fl
namespace Go.Proofs.YtkaombhkepopgaaDoor
open Go.RowKit Go.Fl

abbrev GZ (F : Nat → Prop) (ge gd : Nat) : Nat → Prop := fun k => F k ∨ k = ge ∨ k = gd
abbrev Zz (FA FB : Nat → Prop) (ge gd : Nat) : Nat → Prop := fun k => FA k ∨ FB k ∨ k = ge ∨ k = gd
theorem zgA (FA FB : Nat → Prop) (ge gd : Nat) : Zg (GZ FB ge gd) FA = Zz FA FB ge gd := by
  funext k
  apply propext
  constructor
  · rintro (h | h)
    · exact .inr h
    · exact .inl h
  · rintro (h | h)
    · exact .inr h
    · exact .inl h
theorem zgB (FA FB : Nat → Prop) (ge gd : Nat) : Zg (GZ FA ge gd) FB = Zz FA FB ge gd := by
  funext k
  apply propext
  constructor
  · rintro ((h | h) | h)
    · exact .inl h
    · exact .inr (.inr h)
    · exact .inr (.inl h)
  · rintro (h | h | h)
    · exact .inl (.inl h)
    · exact .inr h
    · exact .inl (.inr h)
/-- Two stores, an encoder over the one, a decoder over the other; Z: their blocks. -/
structure Two (w0 w : World) (Z : Nat → Prop) (ga gb ge gd : Nat) (sa sb : Sto) (e : En) (d : De) : Prop where
  ex : ∃ FA FB xa xb, Z = Zz FA FB ge gd ∧ Stor w (GZ FB ge gd) FA ga sa xa ∧ Stor w (GZ FA ge gd) FB gb sb xb ∧ Enc w Z ge ga e ∧ Dec w Z gd gb d
  tab : DigZ w Z
  base : ∀ k, Z k → w0.heap.size ≤ k
  ne : ge ≠ gd
  fr : Fr w0 w
section
variable {w0 w w' : World} {Z : Nat → Prop} {ga gb ge gd : Nat} {sa sb : Sto} {e : En} {d : De}
theorem Two.other (h : Two w0 w Z ga gb ge gd sa sb e d) (hf : Fr w w') : Two w0 w' Z ga gb ge gd sa sb e d := by
  obtain ⟨⟨FA, FB, xa, xb, hZ, h1, h2, h3, h4⟩, h5, h6, h7, h8⟩ := h
  exact ⟨⟨FA, FB, xa, xb, hZ, h1.fr hf, h2.fr hf, h3.fr hf, h4.fr hf⟩, h5.fr hf, h6, h7, h8.trans hf⟩
/-- The first store, and the encoder, went on. -/
theorem Two.actA {FA FB FA' : Nat → Prop} {xa' : Sx} {sa' : Sto} {e' : En} {xa xb : Sx} (hZ : Z = Zz FA FB ge gd) (h1 : Stor w (GZ FB ge gd) FA ga sa xa) (h2 : Stor w (GZ FA ge gd) FB gb sb xb) (h4 : Dec w Z gd gb d) (h5 : DigZ w Z) (h6 : ∀ k, Z k → w0.heap.size ≤ k) (h7 : ge ≠ gd) (h8 : Fr w0 w)
    (k1 : Stor w' (GZ FB ge gd) FA' ga sa' xa') (k3 : Enc w' (Zg (GZ FB ge gd) FA') ge ga e') (km : Mv (fun k => FA k ∨ k = ge) w w') (ks : ∀ k, FA' k → FA k ∨ w.heap.size ≤ k) :
    Two w0 w' (Zz FA' FB ge gd) ga gb ge gd sa' sb e' d ∧ Stp w Z w' (Zz FA' FB ge gd) := by
  subst hZ
  have hE : ∀ k, (FA k ∨ k = ge) → (Zz FA FB ge gd k ∧ k ≠ gd) := fun k hk => by
    rcases hk with hk | hk
    · exact ⟨.inl hk, fun e' => h1.gf gd (.inr (.inr rfl)) (e' ▸ hk)⟩
    · exact ⟨.inr (.inr (.inl hk)), fun e' => h7 (hk.symm.trans e')⟩
  have hsub : ∀ k, Zz FA' FB ge gd k → Zz FA FB ge gd k ∨ w.heap.size ≤ k := fun k hk => by
    rcases hk with hk | hk
    · exact (ks k hk).imp .inl id
    · exact .inl (.inr hk)
  refine ⟨⟨⟨FA', FB, xa', xb, rfl, k1, ?_, zgA FA' FB ge gd ▸ k3, ?_⟩, ?_, ?_, h7, ?_⟩, km.mono fun k hk => .inl (hE k hk).1, hsub⟩
  · refine h2.other km (fun k hk => .inl ?_) (fun k hk => ?_) fun k hk => ?_
    · rcases hk with hk | hk
      · exact ⟨.inl hk, h2.gf k (.inl hk)⟩
      · exact ⟨.inr (.inl hk), h2.gf k (.inr (.inl hk))⟩
    · rcases hk with hk | hk
      · exact (ks k hk).imp .inl id
      · exact .inl (.inr hk)
    · rcases hk with hk | hk
      · exact k1.fl k hk
      · exact k1.gl k (.inr hk)
  · exact h4.mv km (fun k hk => .inl (hE k hk)) hsub
  · exact h5.mv km (fun k hk => .inl (hE k hk).1) hsub
  · intro k hk
    rcases hsub k hk with h | h
    · exact h6 k h
    · exact Nat.le_trans h8.size h
  · exact Mv.on h8 km fun j hj => h6 j (hE j hj).1
/-- The second store, and the decoder, went on. -/
theorem Two.actB {FA FB FB' : Nat → Prop} {xb' : Sx} {sb' : Sto} {d' : De} {xa xb : Sx} (hZ : Z = Zz FA FB ge gd) (h1 : Stor w (GZ FB ge gd) FA ga sa xa) (h2 : Stor w (GZ FA ge gd) FB gb sb xb) (h3 : Enc w Z ge ga e) (h5 : DigZ w Z) (h6 : ∀ k, Z k → w0.heap.size ≤ k) (h7 : ge ≠ gd) (h8 : Fr w0 w)
    (k1 : Stor w' (GZ FA ge gd) FB' gb sb' xb') (k3 : Dec w' (Zg (GZ FA ge gd) FB') gd gb d') (km : Mv (fun k => FB k ∨ k = gd) w w') (ks : ∀ k, FB' k → FB k ∨ w.heap.size ≤ k) :
    Two w0 w' (Zz FA FB' ge gd) ga gb ge gd sa sb' e d' ∧ Stp w Z w' (Zz FA FB' ge gd) := by
  subst hZ
  have hE : ∀ k, (FB k ∨ k = gd) → (Zz FA FB ge gd k ∧ k ≠ ge) := fun k hk => by
    rcases hk with hk | hk
    · exact ⟨.inr (.inl hk), fun e' => h2.gf ge (.inr (.inl rfl)) (e' ▸ hk)⟩
    · exact ⟨.inr (.inr (.inr hk)), fun e' => h7 (e'.symm.trans hk)⟩
  have hsub : ∀ k, Zz FA FB' ge gd k → Zz FA FB ge gd k ∨ w.heap.size ≤ k := fun k hk => by
    rcases hk with hk | hk | hk
    · exact .inl (.inl hk)
    · exact (ks k hk).imp (fun h => .inr (.inl h)) id
    · exact .inl (.inr (.inr hk))
  refine ⟨⟨⟨FA, FB', xa, xb', rfl, ?_, k1, ?_, zgB FA FB' ge gd ▸ k3⟩, ?_, ?_, h7, ?_⟩, km.mono fun k hk => .inl (hE k hk).1, hsub⟩
  · refine h1.other km (fun k hk => .inl ?_) (fun k hk => ?_) fun k hk => ?_
    · rcases hk with hk | hk
      · exact ⟨.inl hk, h1.gf k (.inl hk)⟩
      · exact ⟨.inr (.inr hk), h1.gf k (.inr (.inr hk))⟩
    · rcases hk with hk | hk
      · exact (ks k hk).imp .inl id
      · exact .inl (.inr hk)
    · rcases hk with hk | hk
      · exact k1.fl k hk
      · exact k1.gl k (.inr hk)
  · exact h3.mv km (fun k hk => .inl (hE k hk)) hsub
  · exact h5.mv km (fun k hk => .inl (hE k hk).1) hsub
  · intro k hk
    rcases hsub k hk with h | h
    · exact h6 k h
    · exact Nat.le_trans h8.size h
  · exact Mv.on h8 km fun j hj => h6 j (hE j hj).1
/-- A chunk is added. -/
theorem Two.add {p : Sl} {b : List UInt8} (h : Two w0 w Z ga gb ge gd sa sb e d) (hb : Cb w Z p b) (hbl : b.length ≤ 140737488351232) (hdn : e.done ≤ 1073741000) (hln : e.list.length ≤ 8) (hP : PB sa 1073741800) :
    cl Tryd.prog n_dedup_Encoder_Add #[.pointer (some ⟨ge, 0, none⟩), .slice p.a p.n p.c] (.tup (.pair (.I .i64) (.pair k_api_Record (.pair (.I .i64) .nil)))) w fun (r : Int × RecT × Int × Unit) w' =>
      (((8 ≤ e.list.length ∧ r = (0, rc0, 7, ())) ∨ (e.list.length < 8 ∧ (b.length < 1 ∨ b.length > 256) ∧ r = (0, rc0, 100, ()))) ∧ Fr w w') ∨
      (e.list.length < 8 ∧ 1 ≤ b.length ∧ b.length ≤ 256 ∧ r.1 = (e.done : Int) + e.list.length + 1 ∧ r.2.2 = (0, ()) ∧ ∃ Z', MakeC w' Z' b (sa.has (dig b)) r.2.1 ∧ Two w0 w' Z' ga gb ge gd (addS e sa b).2 sb (addS e sa b).1 d ∧ Stp w Z w' Z') := by
  obtain ⟨⟨FA, FB, xa, xb, hZ, h1, h2, h3, h4⟩, h5, h6, h7, h8⟩ := h
  have e1 : Zg (GZ FB ge gd) FA = Z := by rw [hZ]; exact zgA FA FB ge gd
  refine (Add_ok h1 (e1.symm ▸ h3) (.inr (.inl rfl)) (e1.symm ▸ h5) (e1.symm ▸ hb) hbl hdn hln hP).mono ?_
  rintro r w' (⟨h, hf⟩ | ⟨q1, q2, q3, q4, q5, FA', xa', q6, q7, q8, q9, q10⟩)
  · exact .inl ⟨h, hf⟩
  obtain ⟨k1, k2⟩ := Two.actA hZ h1 h2 h4 h5 h6 h7 h8 q7 q8 q9 q10
  exact .inr ⟨q1, q2, q3, q4, q5, _, zgA FA' FB ge gd ▸ q6, k1, k2⟩
/-- A record with its chunk. -/
theorem Two.miss {p1 : Int} (h : Two w0 w Z ga gb ge gd sa sb e d) (hdn : e.done ≤ 1073741000) (hln : e.list.length ≤ 8) :
    cl Tryd.prog n_dedup_Encoder_Miss #[.pointer (some ⟨ge, 0, none⟩), .int .i64 p1] (.tup (.pair k_api_Record (.pair (.I .i64) .nil))) w fun (r : RecT × Int × Unit) w' =>
      (((p1 ≤ e.done ∨ p1 > (e.done : Int) + e.list.length) ∧ r = (rc0, 110, ())) ∨
      (∃ (k : Nat) (b : List UInt8 × Bool), p1 = (e.done : Int) + k + 1 ∧ e.list[k]? = some b ∧ 1 ≤ b.1.length ∧ b.1.length ≤ 256 ∧ r.2 = (0, ()) ∧ MakeC w' Z b.1 false r.1)) ∧ Fr w w' := by
  obtain ⟨⟨FA, FB, xa, xb, hZ, h1, h2, h3, h4⟩, h5, h6, h7, h8⟩ := h
  refine (Miss_ok h3 h5 hdn hln).mono ?_
  rintro r w' ⟨h | ⟨k, b, q1, q2, q3⟩, hf⟩
  · exact ⟨.inl h, hf⟩
  have hb := h3.2 b (List.mem_of_getElem? q2)
  obtain ⟨q4, q5⟩ := q3.cold (Z := Z) hb.1 hb.2 fun k hk => by
    rw [hZ] at hk
    rcases hk with hk | hk | hk | hk
    · exact h1.fl k hk
    · exact h2.fl k hk
    · exact h1.gl k (.inr (.inl hk))
    · exact h1.gl k (.inr (.inr hk))
  exact ⟨.inr ⟨k, b, q1, q2, hb.1, hb.2, q4, q5⟩, hf⟩
/-- So many were delivered. -/
theorem Two.done {p1 : Int} (h : Two w0 w Z ga gb ge gd sa sb e d) (hdn : e.done ≤ 1073741000) (hln : e.list.length ≤ 8) (hP : PB sa 1073741800) :
    cl Tryd.prog n_dedup_Encoder_Done #[.pointer (some ⟨ge, 0, none⟩), .int .i64 p1] (.I .i64) w fun (r : Int) w' =>
      ((p1 < e.done ∨ p1 > (e.done : Int) + e.list.length) ∧ r = 112 ∧ Fr w w') ∨
      (∃ k, k ≤ e.list.length ∧ p1 = (e.done : Int) + k ∧ r = 0 ∧ ∃ Z', Two w0 w' Z' ga gb ge gd (letS sa (e.list.take k)) sb ⟨e.list.drop k, e.done + k⟩ d ∧ Stp w Z w' Z') := by
  obtain ⟨⟨FA, FB, xa, xb, hZ, h1, h2, h3, h4⟩, h5, h6, h7, h8⟩ := h
  have e1 : Zg (GZ FB ge gd) FA = Z := by rw [hZ]; exact zgA FA FB ge gd
  refine (Done_ok h1 (e1.symm ▸ h3) (.inr (.inl rfl)) hdn hln hP).mono ?_
  rintro r w' (h | ⟨k, q1, q2, q3, x', q4, q5, q6⟩)
  · exact .inl h
  obtain ⟨k1, k2⟩ := Two.actA hZ h1 h2 h4 h5 h6 h7 h8 q4 q5 q6 (fun k hk => .inl hk)
  exact .inr ⟨k, q1, q2, q3, _, k1, k2⟩
theorem Two.close (h : Two w0 w Z ga gb ge gd sa sb e d) (hdn : e.done ≤ 1073741000) (hln : e.list.length ≤ 8) (hP : PB sa 1073741800) :
    cl Tryd.prog n_dedup_Encoder_Close #[.pointer (some ⟨ge, 0, none⟩)] (.tup .nil) w fun (_ : Unit) w' =>
      ∃ Z', Two w0 w' Z' ga gb ge gd (letS sa e.list) sb ⟨[], e.done + e.list.length⟩ d ∧ Stp w Z w' Z' := by
  obtain ⟨⟨FA, FB, xa, xb, hZ, h1, h2, h3, h4⟩, h5, h6, h7, h8⟩ := h
  have e1 : Zg (GZ FB ge gd) FA = Z := by rw [hZ]; exact zgA FA FB ge gd
  refine (Close_ok h1 (e1.symm ▸ h3) (.inr (.inl rfl)) hdn hln hP).mono ?_
  rintro r w' ⟨x', q4, q5, q6⟩
  obtain ⟨k1, k2⟩ := Two.actA hZ h1 h2 h4 h5 h6 h7 h8 q4 q5 q6 (fun k hk => .inl hk)
  exact ⟨_, k1, k2⟩
/-- A record is taken. -/
theorem Two.take {p : RecT} {dd l : List UInt8} {p1 : Int} (h : Two w0 w Z ga gb ge gd sa sb e d) (hp : p.2.2.1.1 = u8s dd) (hl : Bs w p.2.2.2.1 l) (hll : l.length ≤ 140737488351232) (hdn : d.done ≤ 1073741000) (hln : d.list.length ≤ 8) (hi : p1 ≤ 9223372036854775807) :
    cl Tryd.prog n_dedup_Decoder_Take #[.pointer (some ⟨gd, 0, none⟩), .int .i64 p1, (Kd.av k_api_Record p).val] (.I .i64) w fun (r : Int) w' =>
      r = (takeS d sb p1 p.1 p.2.1 dd l).2.2 ∧ ∃ Z', Two w0 w' Z' ga gb ge gd sa (takeS d sb p1 p.1 p.2.1 dd l).2.1 e (takeS d sb p1 p.1 p.2.1 dd l).1 ∧ Stp w Z w' Z' := by
  obtain ⟨⟨FA, FB, xa, xb, hZ, h1, h2, h3, h4⟩, h5, h6, h7, h8⟩ := h
  have e1 : Zg (GZ FA ge gd) FB = Z := by rw [hZ]; exact zgB FA FB ge gd
  refine (Take_ok h2 (e1.symm ▸ h4) (.inr (.inr rfl)) (e1.symm ▸ h5) hp hl hll hdn hln hi).mono ?_
  rintro r w' ⟨q1, F', x', q4, q5, q6, q7⟩
  obtain ⟨k1, k2⟩ := Two.actB hZ h1 h2 h3 h5 h6 h7 h8 q4 q5 q6 q7
  exact ⟨q1, _, k1, k2⟩
/-- The next chunk is handed on. -/
theorem Two.pop (h : Two w0 w Z ga gb ge gd sa sb e d) (hdn : d.done ≤ 1073741000) (hln : d.list.length ≤ 8) :
    cl Tryd.prog n_dedup_Decoder_Pop #[.pointer (some ⟨gd, 0, none⟩)] (.tup (.pair .L (.pair .B .nil))) w fun (r : Sl × Bool × Unit) w' =>
      OwB w' w.heap.size t_uint8 r.1 (peekS d).1 ∧ r.2 = ((peekS d).2, ()) ∧ Two w0 w' Z ga gb ge gd sa sb e (popS d) ∧ Stp w Z w' Z := by
  obtain ⟨⟨FA, FB, xa, xb, hZ, h1, h2, h3, h4⟩, h5, h6, h7, h8⟩ := h
  have e1 : Zg (GZ FA ge gd) FB = Z := by rw [hZ]; exact zgB FA FB ge gd
  have hgd : Z gd := by rw [hZ]; exact .inr (.inr (.inr rfl))
  refine (Pop_ok h4 (fun k hk => by
    rw [hZ] at hk
    rcases hk with hk | hk | hk | hk
    · exact h1.fl k hk
    · exact h2.fl k hk
    · exact h1.gl k (.inr (.inl hk))
    · exact h1.gl k (.inr (.inr hk))) hgd hdn hln).mono ?_
  rintro r w' ⟨q1, q2, q3, q4⟩
  have q6 : Mv (fun k => FB k ∨ k = gd) w w' := q4.mono fun k hk => .inl (.inr hk)
  have hS' : Stor w' (GZ FA ge gd) FB gb sb xb := h2.other q4 (fun k hk => .inl ⟨.inr (.inr hk), hk ▸ h2.gf gd (.inr (.inr rfl))⟩) (fun k hk => .inl hk) fun k hk => Nat.lt_of_lt_of_le (h2.gl k hk) q4.size
  obtain ⟨k1, k2⟩ := Two.actB hZ h1 h2 h3 h5 h6 h7 h8 hS' (e1.symm ▸ q3) q6 (fun k hk => .inl hk)
  rw [← hZ] at k1 k2
  exact ⟨q1, q2, k1, k2⟩
/-- The first store is asked. -/
theorem Two.has {dd : List UInt8} (h : Two w0 w Z ga gb ge gd sa sb e d) (hd : dd.length = 32) : cl Tryd.prog n_store_Store_Has #[.pointer (some ⟨ga, 0, none⟩), .agg (u8s dd).toArray] .B w fun (r : Bool) w' => r = sa.has dd ∧ Fr w w' := by
  obtain ⟨⟨FA, FB, xa, xb, hZ, h1, h2, h3, h4⟩, h5, h6, h7, h8⟩ := h
  exact Has_ok h1 hd
theorem Two.len (h : Two w0 w Z ga gb ge gd sa sb e d) : cl Tryd.prog n_store_Store_Len #[.pointer (some ⟨ga, 0, none⟩)] (.I .i64) w fun (r : Int) w' => r = (sa.l.length : Int) ∧ w = w' := by
  obtain ⟨⟨FA, FB, xa, xb, hZ, h1, h2, h3, h4⟩, h5, h6, h7, h8⟩ := h
  exact sLen_ok h1
theorem Two.lm (h : Two w0 w Z ga gb ge gd sa sb e d) : sa.l.length ≤ 64 := by
  obtain ⟨⟨FA, FB, xa, xb, hZ, h1, h2, h3, h4⟩, h5, h6, h7, h8⟩ := h
  have := h1.lm
  have := h1.sz
  omega
theorem Two.list (h : Two w0 w Z ga gb ge gd sa sb e d) : cl Tryd.prog n_store_Store_List #[.pointer (some ⟨ga, 0, none⟩)] .L w fun (r : Sl) w' => r.n = sa.l.length ∧ w'.ownsRow w.heap.size t_api_Sum 32 (.slice r.a r.n r.c) r.n (sumsV (sa.l.map (·.sum))) ∧ Fr w w' := by
  obtain ⟨⟨FA, FB, xa, xb, hZ, h1, h2, h3, h4⟩, h5, h6, h7, h8⟩ := h
  exact sList_ok h1
theorem Two.listB (h : Two w0 w Z ga gb ge gd sa sb e d) : cl Tryd.prog n_store_Store_List #[.pointer (some ⟨gb, 0, none⟩)] .L w fun (r : Sl) w' => r.n = sb.l.length ∧ w'.ownsRow w.heap.size t_api_Sum 32 (.slice r.a r.n r.c) r.n (sumsV (sb.l.map (·.sum))) ∧ Fr w w' := by
  obtain ⟨⟨FA, FB, xa, xb, hZ, h1, h2, h3, h4⟩, h5, h6, h7, h8⟩ := h
  exact sList_ok h2
theorem Two.storA {sa' : Sto} {FA FB : Nat → Prop} {xa xb : Sx} (hZ : Z = Zz FA FB ge gd) (h1 : Stor w (GZ FB ge gd) FA ga sa xa) (h2 : Stor w (GZ FA ge gd) FB gb sb xb) (h3 : Enc w Z ge ga e) (h4 : Dec w Z gd gb d) (h5 : DigZ w Z) (h6 : ∀ k, Z k → w0.heap.size ≤ k) (h7 : ge ≠ gd) (h8 : Fr w0 w)
    (hi : StorIn w w' (GZ FB ge gd) FA ga sa') : Two w0 w' Z ga gb ge gd sa' sb e d ∧ Stp w Z w' Z := by
  obtain ⟨x', q1, q2⟩ := hi
  have e1 : Zg (GZ FB ge gd) FA = Z := by rw [hZ]; exact zgA FA FB ge gd
  have h3' : Enc w' Z ge ga e := h3.mv q2 (fun k hk => .inl ⟨hZ ▸ .inl hk, fun e' => h1.gf ge (.inr (.inl rfl)) (e' ▸ hk)⟩) fun k hk => .inl hk
  obtain ⟨k1, k2⟩ := Two.actA hZ h1 h2 h4 h5 h6 h7 h8 q1 (e1.symm ▸ h3') (q2.mono fun k hk => .inl (.inl hk)) (fun k hk => .inl hk)
  rw [← hZ] at k1 k2
  exact ⟨k1, k2⟩
theorem Two.pin {dd : List UInt8} (h : Two w0 w Z ga gb ge gd sa sb e d) (hd : dd.length = 32) (hp : PB sa 1073741800) : cl Tryd.prog n_store_Store_Pin #[.pointer (some ⟨ga, 0, none⟩), .agg (u8s dd).toArray] (.I .i64) w fun (r : Int) w' =>
    r = (sa.pin dd).2 ∧ Two w0 w' Z ga gb ge gd (sa.pin dd).1 sb e d ∧ Stp w Z w' Z := by
  obtain ⟨⟨FA, FB, xa, xb, hZ, h1, h2, h3, h4⟩, h5, h6, h7, h8⟩ := h
  refine (Pin_ok h1 hd (hp.mono (by decide))).mono ?_
  rintro r w' ⟨q1, q2⟩
  exact ⟨q1, Two.storA hZ h1 h2 h3 h4 h5 h6 h7 h8 q2⟩
theorem Two.unpin {dd : List UInt8} (h : Two w0 w Z ga gb ge gd sa sb e d) (hd : dd.length = 32) (hp : PB sa 1073741800) : cl Tryd.prog n_store_Store_Unpin #[.pointer (some ⟨ga, 0, none⟩), .agg (u8s dd).toArray] (.I .i64) w fun (r : Int) w' =>
    r = (sa.unpin dd).2 ∧ Two w0 w' Z ga gb ge gd (sa.unpin dd).1 sb e d ∧ Stp w Z w' Z := by
  obtain ⟨⟨FA, FB, xa, xb, hZ, h1, h2, h3, h4⟩, h5, h6, h7, h8⟩ := h
  refine (Unpin_ok h1 hd (hp.mono (by decide))).mono ?_
  rintro r w' ⟨q1, q2⟩
  exact ⟨q1, Two.storA hZ h1 h2 h3 h4 h5 h6 h7 h8 q2⟩
theorem Two.sent (h : Two w0 w Z ga gb ge gd sa sb e d) (hdn : e.done ≤ 1073741000) (hln : e.list.length ≤ 8) : cl Tryd.prog n_dedup_Encoder_Sent #[.pointer (some ⟨ge, 0, none⟩)] (.I .i64) w fun (r : Int) w' => r = (e.done : Int) + e.list.length ∧ Fr w w' := by
  obtain ⟨⟨FA, FB, xa, xb, hZ, h1, h2, ⟨⟨s, hs, hR⟩, _⟩, h4⟩, h5, h6, h7, h8⟩ := h
  exact Sent_ok hR (by omega) (by omega)
theorem Two.waiting (h : Two w0 w Z ga gb ge gd sa sb e d) : cl Tryd.prog n_dedup_Encoder_Waiting #[.pointer (some ⟨ge, 0, none⟩)] (.I .i64) w fun (r : Int) w' => r = (e.list.length : Int) ∧ w = w' := by
  obtain ⟨⟨FA, FB, xa, xb, hZ, h1, h2, ⟨⟨s, hs, hR⟩, _⟩, h4⟩, h5, h6, h7, h8⟩ := h
  exact Waiting_ok hR
theorem Two.ddone (h : Two w0 w Z ga gb ge gd sa sb e d) : cl Tryd.prog n_dedup_Decoder_Done #[.pointer (some ⟨gd, 0, none⟩)] (.I .i64) w fun (r : Int) w' => r = (d.done : Int) ∧ w = w' := by
  obtain ⟨⟨FA, FB, xa, xb, hZ, h1, h2, h3, ⟨⟨s, hs, hR⟩, _⟩⟩, h5, h6, h7, h8⟩ := h
  exact dDone_ok hR
theorem Two.held (h : Two w0 w Z ga gb ge gd sa sb e d) : cl Tryd.prog n_dedup_Decoder_Held #[.pointer (some ⟨gd, 0, none⟩)] (.I .i64) w fun (r : Int) w' => r = (d.list.length : Int) ∧ w = w' := by
  obtain ⟨⟨FA, FB, xa, xb, hZ, h1, h2, h3, ⟨⟨s, hs, hR⟩, _⟩⟩, h5, h6, h7, h8⟩ := h
  exact Held_ok hR
end
/-- They are made. -/
theorem two_ok {w0 : World} {p0 p1 : Int} (hD : Dig w0) : cl Tryd.prog n_flumelaw11_two #[.int .i64 p0, .int .i64 p1] (.tup (.pair .P (.pair .P (.pair .P (.pair .P .nil))))) w0 fun (r : Option Addr × Option Addr × Option Addr × Option Addr × Unit) w' =>
    ∃ (Z : Nat → Prop) (ga gb ge gd ma ra mb rb : Nat), r = (some ⟨ga, 0, none⟩, some ⟨gb, 0, none⟩, some ⟨ge, 0, none⟩, some ⟨gd, 0, none⟩, ()) ∧ ((ma : Int) = IntKind.i64.wrap (1 + IntKind.i64.wrap (Int.tmod (IntKind.u64.wrap p0) 64)) ∧ (ra : Int) = IntKind.i64.wrap (1 + IntKind.i64.wrap (Int.tmod (IntKind.u64.wrap p1) 8192))) ∧ Two w0 w' Z ga gb ge gd ⟨ma, ra, []⟩ ⟨mb, rb, []⟩ ⟨[], 0⟩ ⟨[], 0⟩ := by
  refine flumelaw11_two.cl (p0 := p0) (p1 := p1) ?_
  unfold flumelaw11_two
  have bnd : ∀ (p : Int) (m : Nat), 0 < m → m ≤ 8192 → ∃ j : Int, IntKind.i64.wrap (1 + IntKind.i64.wrap (Int.tmod (IntKind.u64.wrap p) m)) = j ∧ 1 ≤ j ∧ j ≤ m := by
    intro p m hm hm2
    have h0 : 0 ≤ IntKind.u64.wrap p := by simp only [IntKind.wrap, IntKind.bits, IntKind.signed]; simp; omega
    have h1 : 0 ≤ Int.tmod (IntKind.u64.wrap p) m := Int.tmod_nonneg _ h0
    have h2 : Int.tmod (IntKind.u64.wrap p) m < m := Int.tmod_lt_of_pos _ (by omega)
    rw [i64w (n := Int.tmod (IntKind.u64.wrap p) m) (by omega) (by omega), i64w (by omega) (by omega)]
    exact ⟨_, rfl, by omega, by omega⟩
  obtain ⟨a1, ea1, la1, ua1⟩ := bnd p0 64 (by decide) (by decide)
  obtain ⟨a2, ea2, la2, ua2⟩ := bnd p1 8192 (by decide) (by decide)
  obtain ⟨b1, eb1, lb1, ub1⟩ := bnd p1 64 (by decide) (by decide)
  obtain ⟨b2, eb2, lb2, ub2⟩ := bnd p0 8192 (by decide) (by decide)
  have ea1' : IntKind.i64.wrap (1 + IntKind.i64.wrap (Int.tmod (IntKind.u64.wrap p0) 64)) = a1 := ea1
  have ea2' : IntKind.i64.wrap (1 + IntKind.i64.wrap (Int.tmod (IntKind.u64.wrap p1) 8192)) = a2 := ea2
  have eb1' : IntKind.i64.wrap (1 + IntKind.i64.wrap (Int.tmod (IntKind.u64.wrap p1) 64)) = b1 := eb1
  have eb2' : IntKind.i64.wrap (1 + IntKind.i64.wrap (Int.tmod (IntKind.u64.wrap p0) 8192)) = b2 := eb2
  rw [ea1', ea2', eb1', eb2']
  refine (New_ok9 (G := fun _ => False) ⟨la1, ua1⟩ ⟨la2, ua2⟩ fun _ h => h.elim).mono ?_
  rintro r w2 ⟨ga, FA, xa, rfl, hA, hf2, hFA⟩
  refine (New_ok9 (G := FA) ⟨lb1, ub1⟩ ⟨lb2, ub2⟩ hA.fl).mono ?_
  rintro r w4 ⟨gb, FB, xb, rfl, hB, hf4, hFB⟩
  have hA4 := hA.fr hf4
  refine (NewE_ok hA4 (fun _ => True)).mono ?_
  rintro r w6 ⟨ge, rfl, hge, hE, hf6⟩
  refine (NewD_ok (hB.fr hf6) (fun _ => True)).mono ?_
  rintro r w8 ⟨gd, rfl, hgd, hDd, hf8⟩
  have hgel := hE.lt
  have hgdl := hDd.lt
  have z2 := hf2.size
  have z4 := hf4.size
  have z6 := hf6.size
  have z8 := hf8.size
  have hf48 := hf6.trans hf8
  have hf28 := hf4.trans hf48
  have hf := hf2.trans hf28
  have hbase : ∀ k, Zz FA FB ge gd k → w0.heap.size ≤ k := fun k hk => by
    rcases hk with hk | hk | hk | hk
    · exact hFA k hk
    · have := hFB k hk; omega
    · omega
    · omega
  have l1 := Glob.lt hD.first (by decide)
  have l2 := Glob.lt hD.rounds (by decide)
  refine ⟨Zz FA FB ge gd, ga, gb, ge, gd, a1.toNat, a2.toNat, b1.toNat, b2.toNat, rfl, ⟨by omega, by omega⟩, ⟨⟨FA, FB, xa, xb, rfl, ?_, ?_, ?_, ?_⟩, ⟨hD.fr hf, fun h => by have := hbase _ h; omega, fun h => by have := hbase _ h; omega⟩, hbase, by omega, hf⟩⟩
  · refine hA.other (E := fun _ => False) (Mv.of_fr hf28) (fun _ h => h.elim) (fun k hk => ?_) fun k hk => ?_
    · rcases hk with hk | hk | hk
      · exact .inr (hFB k hk)
      · right; omega
      · right; omega
    · rcases hk with hk | hk | hk
      · have := hB.fl k hk; omega
      · omega
      · omega
  · refine hB.other (E := fun _ => False) (Mv.of_fr hf48) (fun _ h => h.elim) (fun k hk => ?_) fun k hk => ?_
    · rcases hk with hk | hk | hk
      · exact .inl hk
      · right; omega
      · right; omega
    · rcases hk with hk | hk | hk
      · have := hA.fl k hk; omega
      · omega
      · omega
  · exact hE.mv (E := fun _ => False) (Mv.of_fr hf8) (fun _ h => h.elim) fun _ _ => .inl trivial
  · exact hDd.mv (E := fun _ => False) (Mv.of_fr (Fr.refl _)) (fun _ h => h.elim) fun _ _ => .inl trivial
end Go.Proofs.YtkaombhkepopgaaDoor
namespace Go.Proofs.YtkaombhkepopgaaDoor
open Go.RowKit Go.Fl

/-- A new record. -/
theorem newR {w : World} (p : RecT) (hone : ∀ v ∈ p.2.2.1.1, v.oneCell' = true) {K : Addr → World → Prop}
    (hk : ∀ g w', g = w.heap.size → Fr w w' → w'.heap[g]? = some (.cells (rcL p []).toArray t_api_Record (0, 0)) → K ⟨g, 0, none⟩ w') :
    nw w ((Kd.av k_api_Record z_api_Record).cells) t_api_Record fun a w2 => st w2 a (Kd.av k_api_Record p) fun w3 => K a w3 := by
  rw [avZ]
  refine nwI fun g w2 hg hs2 hf2 hb2 _ => ?_
  refine stR p hone hb2 fun w3 hb3 g3 s3 => hk g w3 hg (Mv.on (F := fun k => k = g) hf2 (Mv.of_grown g3 rfl) fun j hj => by omega) hb3
abbrev G2 (ge gd : Nat) : Nat → Prop := fun k => k = ge ∨ k = gd
/-- A store, an encoder and a decoder over it. -/
structure One (w0 w : World) (Z : Nat → Prop) (ga ge gd : Nat) (s : Sto) (e : En) (d : De) : Prop where
  ex : ∃ F x, Z = Zg (G2 ge gd) F ∧ Stor w (G2 ge gd) F ga s x ∧ Enc w Z ge ga e ∧ Dec w Z gd ga d
  tab : DigZ w Z
  base : ∀ k, Z k → w0.heap.size ≤ k
  ne : ge ≠ gd
  fr : Fr w0 w
section
variable {w0 w w' : World} {Z : Nat → Prop} {ga ge gd : Nat} {s : Sto} {e : En} {d : De}
theorem One.other (h : One w0 w Z ga ge gd s e d) (hf : Fr w w') : One w0 w' Z ga ge gd s e d := by
  obtain ⟨⟨F, x, hZ, h1, h3, h4⟩, h5, h6, h7, h8⟩ := h
  exact ⟨⟨F, x, hZ, h1.fr hf, h3.fr hf, h4.fr hf⟩, h5.fr hf, h6, h7, h8.trans hf⟩
theorem One.act {F F' : Nat → Prop} {x' : Sx} {s' : Sto} {e' : En} {d' : De} (hZ : Z = Zg (G2 ge gd) F) (h5 : DigZ w Z) (h6 : ∀ k, Z k → w0.heap.size ≤ k) (h7 : ge ≠ gd) (h8 : Fr w0 w)
    (k1 : Stor w' (G2 ge gd) F' ga s' x') (k3 : Enc w' (Zg (G2 ge gd) F') ge ga e') (k4 : Dec w' (Zg (G2 ge gd) F') gd ga d') (km : Mv Z w w') (ks : ∀ k, F' k → F k ∨ w.heap.size ≤ k) :
    One w0 w' (Zg (G2 ge gd) F') ga ge gd s' e' d' ∧ Stp w Z w' (Zg (G2 ge gd) F') := by
  have hsub : ∀ k, Zg (G2 ge gd) F' k → Z k ∨ w.heap.size ≤ k := fun k hk => by
    rw [hZ]
    rcases hk with hk | hk
    · exact .inl (.inl hk)
    · exact (ks k hk).imp .inr id
  refine ⟨⟨⟨F', x', rfl, k1, k3, k4⟩, h5.mv km (fun k hk => .inl hk) hsub, fun k hk => ?_, h7, Mv.on h8 km fun j hj => h6 j hj⟩, km, hsub⟩
  rcases hsub k hk with h | h
  · exact h6 k h
  · exact Nat.le_trans h8.size h
theorem One.add {p : Sl} {b : List UInt8} (h : One w0 w Z ga ge gd s e d) (hb : Cb w Z p b) (hbl : 1 ≤ b.length ∧ b.length ≤ 256) (hdn : e.done ≤ 1073741000) (hln : e.list.length < 8) (hP : PB s 1073741800) :
    cl Tryd.prog n_dedup_Encoder_Add #[.pointer (some ⟨ge, 0, none⟩), .slice p.a p.n p.c] (.tup (.pair (.I .i64) (.pair k_api_Record (.pair (.I .i64) .nil)))) w fun (r : Int × RecT × Int × Unit) w' =>
      r.1 = (e.done : Int) + e.list.length + 1 ∧ r.2.2 = (0, ()) ∧ ∃ Z', MakeC w' Z' b (s.has (dig b)) r.2.1 ∧ One w0 w' Z' ga ge gd (addS e s b).2 (addS e s b).1 d ∧ Stp w Z w' Z' := by
  obtain ⟨⟨F, x, hZ, h1, h3, h4⟩, h5, h6, h7, h8⟩ := h
  subst hZ
  refine (Add_ok h1 h3 (.inl rfl) h5 hb (by omega) hdn (by omega) hP).mono ?_
  rintro r w' (⟨h | h, hf⟩ | ⟨q1, q2, q3, q4, q5, F', x', q6, q7, q8, q9, q10⟩)
  · omega
  · omega
  have km : Mv (Zg (G2 ge gd) F) w w' := q9.mono fun k hk => .inl (by
    rcases hk with hk | hk
    · exact .inr hk
    · exact .inl (.inl hk))
  obtain ⟨k1, k2⟩ := One.act rfl h5 h6 h7 h8 q7 q8 (h4.mv q9 (fun k hk => .inl (by
    rcases hk with hk | hk
    · exact ⟨.inr hk, fun e' => h1.gf gd (.inr rfl) (e' ▸ hk)⟩
    · exact ⟨.inl (.inl hk), fun e' => h7 (hk.symm.trans e')⟩)) fun k hk => by
      rcases hk with hk | hk
      · exact .inl (.inl hk)
      · exact (q10 k hk).imp .inr id) km q10
  exact ⟨q4, q5, _, q6, k1, k2⟩
theorem One.done {p1 : Int} (h : One w0 w Z ga ge gd s e d) (hdn : e.done ≤ 1073741000) (hln : e.list.length ≤ 8) (hP : PB s 1073741800) :
    cl Tryd.prog n_dedup_Encoder_Done #[.pointer (some ⟨ge, 0, none⟩), .int .i64 p1] (.I .i64) w fun (r : Int) w' =>
      ((p1 < e.done ∨ p1 > (e.done : Int) + e.list.length) ∧ r = 112 ∧ Fr w w') ∨
      (∃ k, k ≤ e.list.length ∧ p1 = (e.done : Int) + k ∧ r = 0 ∧ ∃ Z', One w0 w' Z' ga ge gd (letS s (e.list.take k)) ⟨e.list.drop k, e.done + k⟩ d ∧ Stp w Z w' Z') := by
  obtain ⟨⟨F, x, hZ, h1, h3, h4⟩, h5, h6, h7, h8⟩ := h
  subst hZ
  refine (Done_ok h1 h3 (.inl rfl) hdn hln hP).mono ?_
  rintro r w' (h | ⟨k, q1, q2, q3, x', q4, q5, q6⟩)
  · exact .inl h
  have km : Mv (Zg (G2 ge gd) F) w w' := q6.mono fun k hk => .inl (by
    rcases hk with hk | hk
    · exact .inr hk
    · exact .inl (.inl hk))
  obtain ⟨k1, k2⟩ := One.act rfl h5 h6 h7 h8 q4 q5 (h4.mv q6 (fun k hk => .inl (by
    rcases hk with hk | hk
    · exact ⟨.inr hk, fun e' => h1.gf gd (.inr rfl) (e' ▸ hk)⟩
    · exact ⟨.inl (.inl hk), fun e' => h7 (hk.symm.trans e')⟩)) fun k hk => .inl hk) km (fun k hk => .inl hk)
  exact .inr ⟨k, q1, q2, q3, _, k1, k2⟩
theorem One.take {p : RecT} {dd l : List UInt8} {p1 : Int} (h : One w0 w Z ga ge gd s e d) (hp : p.2.2.1.1 = u8s dd) (hl : Bs w p.2.2.2.1 l) (hll : l.length ≤ 140737488351232) (hdn : d.done ≤ 1073741000) (hln : d.list.length ≤ 8) (hi : p1 ≤ 9223372036854775807) :
    cl Tryd.prog n_dedup_Decoder_Take #[.pointer (some ⟨gd, 0, none⟩), .int .i64 p1, (Kd.av k_api_Record p).val] (.I .i64) w fun (r : Int) w' =>
      r = (takeS d s p1 p.1 p.2.1 dd l).2.2 ∧ ∃ Z', One w0 w' Z' ga ge gd (takeS d s p1 p.1 p.2.1 dd l).2.1 e (takeS d s p1 p.1 p.2.1 dd l).1 ∧ Stp w Z w' Z' := by
  obtain ⟨⟨F, x, hZ, h1, h3, h4⟩, h5, h6, h7, h8⟩ := h
  subst hZ
  refine (Take_ok h1 h4 (.inr rfl) h5 hp hl hll hdn hln hi).mono ?_
  rintro r w' ⟨q1, F', x', q4, q5, q6, q7⟩
  have km : Mv (Zg (G2 ge gd) F) w w' := q6.mono fun k hk => .inl (by
    rcases hk with hk | hk
    · exact .inr hk
    · exact .inl (.inr hk))
  obtain ⟨k1, k2⟩ := One.act rfl h5 h6 h7 h8 q4 (h3.mv q6 (fun k hk => .inl (by
    rcases hk with hk | hk
    · exact ⟨.inr hk, fun e' => h1.gf ge (.inl rfl) (e' ▸ hk)⟩
    · exact ⟨.inl (.inr hk), fun e' => h7 (e'.symm.trans hk)⟩)) fun k hk => by
      rcases hk with hk | hk
      · exact .inl (.inl hk)
      · exact (q7 k hk).imp .inr id) q5 km q7
  exact ⟨q1, _, k1, k2⟩
theorem One.pop (h : One w0 w Z ga ge gd s e d) (hdn : d.done ≤ 1073741000) (hln : d.list.length ≤ 8) :
    cl Tryd.prog n_dedup_Decoder_Pop #[.pointer (some ⟨gd, 0, none⟩)] (.tup (.pair .L (.pair .B .nil))) w fun (r : Sl × Bool × Unit) w' =>
      OwB w' w.heap.size t_uint8 r.1 (peekS d).1 ∧ r.2 = ((peekS d).2, ()) ∧ One w0 w' Z ga ge gd s e (popS d) ∧ Stp w Z w' Z := by
  obtain ⟨⟨F, x, hZ, h1, h3, h4⟩, h5, h6, h7, h8⟩ := h
  subst hZ
  refine (Pop_ok h4 (fun k hk => by
    rcases hk with hk | hk
    · exact h1.gl k hk
    · exact h1.fl k hk) (.inl (.inr rfl)) hdn hln).mono ?_
  rintro r w' ⟨q1, q2, q3, q4⟩
  have hS' : Stor w' (G2 ge gd) F ga s x := h1.other q4 (fun k hk => .inl ⟨.inr hk, hk ▸ h1.gf gd (.inr rfl)⟩) (fun k hk => .inl hk) fun k hk => Nat.lt_of_lt_of_le (h1.gl k hk) q4.size
  have km : Mv (Zg (G2 ge gd) F) w w' := q4.mono fun k hk => .inl (.inl (.inr hk))
  obtain ⟨k1, k2⟩ := One.act rfl h5 h6 h7 h8 hS' (h3.mv q4 (fun k hk => .inl ⟨.inl (.inr hk), fun e' => h7 (e'.symm.trans hk)⟩) fun k hk => .inl hk) q3 km (fun k hk => .inl hk)
  exact ⟨q1, q2, k1, k2⟩
theorem One.lt (h : One w0 w Z ga ge gd s e d) : ∀ k, Z k → k < w.heap.size := fun k hk => by
  obtain ⟨⟨F, x, hZ, h1, h3, h4⟩, h5, h6, h7, h8⟩ := h
  subst hZ
  rcases hk with hk | hk
  · exact h1.gl k hk
  · exact h1.fl k hk
theorem One.waiting (h : One w0 w Z ga ge gd s e d) : cl Tryd.prog n_dedup_Encoder_Waiting #[.pointer (some ⟨ge, 0, none⟩)] (.I .i64) w fun (r : Int) w' => r = (e.list.length : Int) ∧ w = w' := by
  obtain ⟨⟨F, x, hZ, h1, ⟨⟨sl, hs, hR⟩, _⟩, h4⟩, h5, h6, h7, h8⟩ := h
  exact Waiting_ok hR
theorem MakeC.bs {w : World} {Z : Nat → Prop} {b : List UInt8} {p : RecT} (h : MakeC w Z b false p) : p.1 = (if (shortS b).length < b.length then 3 else 2) ∧ Bs w p.2.2.2.1 (if (shortS b).length < b.length then shortS b else b) := by
  have h3 := h.2.2
  rw [if_neg (by decide)] at h3
  split
  · rename_i hs; rw [if_pos hs] at h3; exact ⟨h3.1, h3.2.bs⟩
  · rename_i hs; rw [if_neg hs] at h3; exact ⟨h3.1, h3.2.bs⟩
end
theorem dawake_ok {w : World} (hD : Dig w) : cl Tryd.prog n_flumelaw11_awake #[] .B w fun (r : Bool) w' => r = true ∧ Fr w w' := by
  refine flumelaw11_awake.cl ?_
  unfold flumelaw11_awake
  refine (New_ok9 (G := fun _ => False) (by decide) (by decide) fun _ h => h.elim).mono ?_
  rintro r w2 ⟨ga, F, x, rfl, hS, hf2, hF⟩
  refine (NewE_ok hS (fun _ => True)).mono ?_
  rintro r w4 ⟨ge, rfl, hge, hE, hf4⟩
  have hS4 := hS.fr hf4
  refine (NewD_ok hS4 (fun _ => True)).mono ?_
  rintro r w6 ⟨gd, rfl, hgd, hDd, hf6⟩
  have hgel := hE.lt
  have hgdl := hDd.lt
  have z2 := hf2.size
  have z4 := hf4.size
  have z6 := hf6.size
  have hf26 := hf4.trans hf6
  have hf := hf2.trans hf26
  have hbase : ∀ k, Zg (G2 ge gd) F k → w.heap.size ≤ k := fun k hk => by
    rcases hk with (hk | hk) | hk
    · omega
    · omega
    · exact hF k hk
  have l1 := Glob.lt hD.first (by decide)
  have l2 := Glob.lt hD.rounds (by decide)
  have h6 : One w w6 (Zg (G2 ge gd) F) ga ge gd ⟨4, 100, []⟩ ⟨[], 0⟩ ⟨[], 0⟩ := by
    refine ⟨⟨F, x, rfl, ?_, ?_, ?_⟩, ⟨hD.fr hf, fun h => by have := hbase _ h; omega, fun h => by have := hbase _ h; omega⟩, hbase, by omega, hf⟩
    · refine hS.other (E := fun _ => False) (Mv.of_fr hf26) (fun _ h => h.elim) (fun k hk => ?_) fun k hk => ?_
      · rcases hk with hk | hk
        · right; omega
        · right; omega
      · rcases hk with hk | hk
        · omega
        · omega
    · exact hE.mv (E := fun _ => False) (Mv.of_fr hf6) (fun _ h => h.elim) fun _ _ => .inl trivial
    · exact hDd.mv (E := fun _ => False) (Mv.of_fr (Fr.refl _)) (fun _ h => h.elim) fun _ _ => .inl trivial
  obtain ⟨abc, habc⟩ : ∃ abc : List UInt8, abc = [97, 98, 99] := ⟨_, rfl⟩
  have hlen : abc.length = 3 := by rw [habc]; rfl
  have hsh : ¬(shortS abc).length < abc.length := by rw [habc]; decide +kernel
  have hdl := dig_length abc
  obtain ⟨D, hD'⟩ : ∃ D, dig abc = D := ⟨_, rfl⟩
  rw [hD'] at hdl
  have p1 : addS ⟨[], 0⟩ ⟨4, 100, []⟩ abc = (⟨[(abc, true)], 0⟩, ⟨4, 100, [⟨D, abc, 1⟩]⟩) := by
    simp [addS, Sto.put, Sto.pin, findI, heldN, heldB, shrinkL, hD', hlen]
  have p2 : addS ⟨[(abc, true)], 0⟩ ⟨4, 100, [⟨D, abc, 1⟩]⟩ abc = (⟨[(abc, true), (abc, true)], 0⟩, ⟨4, 100, [⟨D, abc, 2⟩]⟩) := by
    simp [addS, Sto.put, Sto.pin, findI, useL, hD']
  have ph0 : Sto.has ⟨4, 100, []⟩ D = false := rfl
  have ph1 : Sto.has ⟨4, 100, [⟨D, abc, 1⟩]⟩ D = true := by simp [Sto.has, findI]
  have o1 : openS 2 3 D abc = (abc, 0) := by
    simp [openS, chkS, hD', hlen]
  have t1 : takeS ⟨[], 0⟩ ⟨4, 100, [⟨D, abc, 2⟩]⟩ 1 2 3 D abc = (⟨[(abc, true)], 0⟩, ⟨4, 100, [⟨D, abc, 2⟩]⟩, 0) := by
    simp [takeS, opnS, o1, Sto.put, findI, useL]
  have t2 : takeS ⟨[(abc, true)], 0⟩ ⟨4, 100, [⟨D, abc, 2⟩]⟩ 2 1 3 D [] = (⟨[(abc, true), (abc, true)], 0⟩, ⟨4, 100, [⟨D, abc, 2⟩]⟩, 0) := by
    simp [takeS, opnS, chkS, Sto.get, findI, useL, hD', hlen]
  have bd : ∀ (n : Nat), n ≤ 2 → PB ⟨4, 100, [⟨D, abc, n⟩]⟩ 1073741800 := fun n hn c hc => by
    have : c = ⟨D, abc, n⟩ := by simpa using hc
    rw [this]
    show n ≤ _
    omega
  have hlt6 := h6.lt
  generalize Zg (G2 ge gd) F = Z6 at *
  refine nwConv' (l := abc) u_s_uint8 u_uint8 (by rw [habc]; rfl) hlen.symm fun r9 w10 ha9 hr9 hf10 => ?_
  have h10 := h6.other hf10
  refine (h10.add (Cb.at hr9 ha9 fun hz => by have := hlt6 _ hz; omega) (by omega) (by decide) (by decide) (fun c hc => by cases hc)).mono ?_
  rintro ⟨i1, p, err, ⟨⟩⟩ w12 ⟨hi1, he1, Z12, hM1, h12, s12⟩
  dsimp -zeta only at hi1 he1 hM1 ⊢
  injection he1 with he1 _
  rw [hD', ph0] at hM1
  rw [p1] at h12
  subst he1
  have hone1 := u8s_hone _ hM1.2.1
  refine newR p hone1 fun a13 w15 ha13 hf15 hb15 => ?_
  have h15 := h12.other hf15
  have hlt12 := h12.lt
  have hlt15 := h15.lt
  have hl13 := (Array.getElem?_eq_some_iff.1 hb15).1
  have hz13 : ¬Z12 a13 := fun hz => by have := hlt12 _ hz; omega
  refine nwConv' (l := abc) u_s_uint8 u_uint8 (by rw [habc]; rfl) hlen.symm fun r18 w19 ha18 hr18 hf19 => ?_
  have h19 := h15.other hf19
  refine (h19.add (Cb.at hr18 ha18 fun hz => by have := hlt15 _ hz; omega) (by omega) (by simp) (by simp) (bd 1 (by decide))).mono ?_
  rintro ⟨i2, q, err, ⟨⟩⟩ w21 ⟨hi2, he2, Z21, hM2, h21, s21⟩
  dsimp -zeta only at hi2 he2 hM2 ⊢
  injection he2 with he2 _
  rw [hD', ph1] at hM2
  rw [p2] at h21
  subst he2
  have hone2 := u8s_hone _ hM2.2.1
  have hb21 := s21.heap (hf19.heap hb15) hz13
  have hz13' : ¬Z21 a13 := s21.not (by have := hf19.size; omega) hz13
  refine newR q hone2 fun a22 w24 ha22 hf24 hb24 => ?_
  have h24 := h21.other hf24
  have hb13 := hf24.heap hb21
  have hlt21 := h21.lt
  have hz22 : ¬Z21 a22 := fun hz => by have := hlt21 _ hz; omega
  intro j1
  obtain ⟨hk1, hB1⟩ := hM1.bs
  rw [if_neg hsh] at hk1 hB1
  have hsz1 : p.2.1 = 3 := by rw [hM1.1, hlen]; rfl
  have hsum1 : p.2.2.1.1 = u8s D := by rw [hM1.2.1, hD']
  have hsz2 : q.2.1 = 3 := by rw [hM2.1, hlen]; rfl
  have hsum2 : q.2.2.1.1 = u8s D := by rw [hM2.2.1, hD']
  have hM2' := hM2.2.2
  rw [if_pos rfl] at hM2'
  have hB1c : Cb w12 Z12 p.2.2.2.1 abc := by
    have h3 := hM1.2.2
    rw [if_neg (by decide), if_neg hsh] at h3
    exact h3.2
  have s12_24 : Stp w12 Z12 w24 Z21 := (((Stp.of_fr hf15).fr hf19).trans s21).fr hf24
  have hB24 : Cb w24 Z21 p.2.2.2.1 abc := s12_24.cb hB1c
  have J1 : ∀ (u : World) (Z : Nat → Prop), One w u Z ga ge gd ⟨4, 100, [⟨D, abc, 2⟩]⟩ ⟨[(abc, true), (abc, true)], 0⟩ ⟨[(abc, true), (abc, true)], 0⟩ → u.heap[a13]? = some (.cells (rcL p []).toArray t_api_Record (0, 0)) → u.heap[a22]? = some (.cells (rcL q []).toArray t_api_Record (0, 0)) →
      ¬Z a13 → ¬Z a22 → Cb u Z p.2.2.2.1 abc → j1 0 0 u := by
    intro u Z hu hu13 hu22 hn13 hn22 hcb
    unfold j1
    have ep : peekS ⟨[(abc, true), (abc, true)], 0⟩ = (abc, true) := rfl
    have epo : popS ⟨[(abc, true), (abc, true)], 0⟩ = ⟨[(abc, true)], 1⟩ := rfl
    refine (hu.pop (by simp) (by simp)).mono ?_
    rintro ⟨r58, ok, ⟨⟩⟩ w59 ⟨ho, hok, h59, s59⟩
    rw [ep] at ho hok
    rw [epo] at h59
    dsimp -zeta only at ho hok ⊢
    injection hok with hok _
    subst hok
    have b13 := s59.heap hu13 hn13
    have b22 := s59.heap hu22 hn22
    refine bT (by rw [hi1]; rfl) (bT (by rw [hi2]; rfl) ?_)
    refine ldI0 (n := p.1) b13 rfl (bT (by rw [hk1]; rfl) ?_)
    refine ldI0 (n := q.1) b22 rfl (bT (by rw [hM2'.1]; rfl) (bT rfl (bT rfl (bT rfl (bT rfl ?_)))))
    refine bstrI ho.rd ho.len.symm (Fr.refl _) ?_
    refine bT (by rw [habc]; kernel_rfl) (bT rfl ?_)
    refine ldR b13 ?_
    refine (h59.take (p1 := 9) hsum1 (s59.cb hcb).bs (by omega) (by simp) (by simp) (by decide)).mono ?_
    rintro r64 w65 ⟨h64, Z65, h65, s65⟩
    have e9 : takeS ⟨[(abc, true)], 1⟩ ⟨4, 100, [⟨D, abc, 2⟩]⟩ 9 p.1 p.2.1 D abc = (⟨[(abc, true)], 1⟩, ⟨4, 100, [⟨D, abc, 2⟩]⟩, 112) := by simp [takeS]
    rw [e9] at h64 h65
    subst h64
    refine bT rfl ?_
    refine (h65.done (p1 := 1) (by simp) (by simp) (bd 2 (by decide))).mono ?_
    rintro r66 w67 (⟨h66, _⟩ | ⟨k, hk, hk1, rfl, Z67, h67, s67⟩)
    · exfalso
      rcases h66 with h66 | h66
      · exact absurd h66 (by simp)
      · exact absurd h66 (by simp)
    have hk : k = 1 := by dsimp only at hk1; omega
    subst hk
    refine bT rfl ?_
    refine h67.waiting.mono ?_
    rintro r68 w69 ⟨rfl, rfl⟩
    exact ⟨rfl, h67.fr⟩
  clear_value j1
  intro n25
  have hf25 := Fr.drewN w24 n25
  have b13_25 := hf25.heap hb13
  have b22_25 := hf25.heap hb24
  have h25 := h24.other hf25
  have hB25 : Cb (w24.drewN n25) Z21 p.2.2.2.1 abc := hB24.mv (Mv.of_fr (F := fun _ => False) hf25) (fun _ h => h.elim) fun _ h => .inl h
  generalize w24.drewN n25 = v at *
  have both : cl Tryd.prog n_dedup_Decoder_Take #[.pointer (some ⟨gd, 0, none⟩), .int .i64 1, (Kd.av k_api_Record p).val] (.I .i64) v fun (x27 : Int) w28 => w28.heap[a22]? = some (.cells (rcL q []).toArray t_api_Record (0, 0)) ∧
      cl Tryd.prog n_dedup_Decoder_Take #[.pointer (some ⟨gd, 0, none⟩), .int .i64 2, (Kd.av k_api_Record q).val] (.I .i64) w28 fun (x30 : Int) w31 => j1 x27 x30 w31 := by
    refine (h25.take (p1 := 1) hsum1 hB25.bs (by omega) (by simp) (by simp) (by decide)).mono ?_
    rintro r27 w28 ⟨h27, Z28, h28, s28⟩
    rw [hk1, hsz1, t1] at h27 h28
    subst h27
    have l22 := (Array.getElem?_eq_some_iff.1 b22_25).1
    have l13 := (Array.getElem?_eq_some_iff.1 b13_25).1
    refine ⟨s28.heap b22_25 hz22, ?_⟩
    refine (h28.take (p1 := 2) (l := []) hsum2 (by rw [hM2'.2]; exact Bs.nil _ _) (by simp) (by simp) (by simp) (by decide)).mono ?_
    rintro r30 w31 ⟨h30, Z31, h31, s31⟩
    rw [hM2'.1, hsz2, t2] at h30 h31
    subst h30
    have st := s28.trans s31
    exact J1 w31 Z31 h31 (st.heap b13_25 hz13') (st.heap b22_25 hz22) (st.not l13 hz13') (st.not l22 hz22) (st.cb hB25)
  refine ⟨ldR b13_25 ⟨?_, ?_⟩, ?_⟩
  · refine both.mono ?_
    rintro r28 w28 ⟨hb, h⟩
    exact ldR hb h
  · refine ldR b22_25 ?_
    refine both.mono ?_
    rintro r28 w28 ⟨hb, h⟩
    exact h
  · refine ldR b22_25 (ldR b13_25 ?_)
    refine both.mono ?_
    rintro r28 w28 ⟨hb, h⟩
    exact h
end Go.Proofs.YtkaombhkepopgaaDoor
namespace Go.Proofs.YtkaombhkepopgaaDoor
open Go.RowKit Go.Fl

abbrev ntV (p : NtT) : Value := .agg ((([.int .i64 p.1, .int .i64 p.2.1, .int .i64 p.2.2.1, .int .i64 p.2.2.2.1, .int .i64 p.2.2.2.2.1] : List Value) ++ ((([.int .i64 p.2.2.2.2.2.1.1, .int .i64 p.2.2.2.2.2.1.2.1] : List Value) ++ (p.2.2.2.2.2.1.2.2.1.1 ++ ([.slice p.2.2.2.2.2.1.2.2.2.1.a p.2.2.2.2.2.1.2.2.2.1.n p.2.2.2.2.2.1.2.2.2.1.c] : List Value))) ++ ([] : List Value)))).toArray
theorem Pts.new {w' : World} {base g b : Nat} {t : TypeId} {k : Int} {os : List Nat} (he : offs k = os) (hb : base ≤ b) (h : w'.heap[b]? = some (.cells (os.map fun o => Value.pointer (some ⟨g, o, none⟩)).toArray t (0, 0))) : Pts w' base g (offs k) ⟨some ⟨b, 0, none⟩, os.length, os.length⟩ := by
  rw [he]
  exact ⟨rfl, fun _ => ⟨b, t, rfl, hb, h⟩⟩
theorem zero_Sum (w : World) : (Instr.build t_api_Sum #[]).run Tryd.prog w = .ok (.agg (List.replicate 32 (Value.int .u8 0)).toArray) w := by
  have hz : (zeroValue t_api_Sum).run Tryd.prog w = .ok (.agg (List.replicate 32 (Value.int .u8 0)).toArray) w := run_zeroV (by kernel_rfl) w
  simp [Instr.build, hz, run_underlying u_api_Sum, Instr.fill, Value.cells]
end Go.Proofs.YtkaombhkepopgaaDoor
namespace Go.Proofs.YtkaombhkepopgaaDoor
open Go.RowKit Go.Fl

/-- What is put of a note. -/
def putS (p : NtT) (d l : List UInt8) : List UInt8 × Int := if FitP p d then (noteB p d l, 0) else ([], 100)
theorem offs_kind {k : Int} (h : offs k ≠ []) : 1 ≤ k ∧ k ≤ 6 := by
  unfold offs at h
  split at h
  · omega
  · split at h
    · omega
    · split at h
      · omega
      · exact absurd rfl h
end Go.Proofs.YtkaombhkepopgaaDoor
namespace Go.Proofs.YtkaombhkepopgaaDoor
open Go.RowKit Go.Fl

theorem aw10 : putS (3, 7, 0, 0, 0, rc0, ()) (List.replicate 32 0) [] = ([3, 7], 0) := by decide +kernel
theorem awS : ¬(shortS [97, 98, 99]).length < 3 := by decide +kernel
theorem openS_lit {b : List UInt8} (h1 : 1 ≤ b.length) (h2 : b.length ≤ 256) : openS 2 (b.length : Int) (dig b) b = (b, 0) := by
  have h : chkS 2 (b.length : Int) b.length = 0 := by rw [chkS, if_pos ⟨.inr (.inl ⟨rfl, rfl⟩), by omega, by omega⟩]
  rw [openS, if_neg (by rw [h]; decide), if_neg (by decide), if_neg fun h => by have := h.1; omega, if_pos (by rw [if_neg (by decide)]), if_neg (by decide)]
/-- A record is put into a new variable. -/
theorem newRec {w : World} {p : RecT} {K : Addr → World → Prop} (hone : ∀ v ∈ p.2.2.1.1, v.oneCell' = true)
    (h : ∀ a w', w.heap.size ≤ a → Fr w w' → w'.heap[a]? = some (.cells (rcL p []).toArray t_api_Record (0, 0)) → w'.heap.size = w.heap.size + 1 → K ⟨a, 0, none⟩ w') :
    nw w (([.int .i64 0, .int .i64 0] : List Value) ++ ((zrow 32 (.int .u8 0)).1 ++ ([.slice none 0 0] : List Value))) t_api_Record fun a7 w8 => st1 w8 a7 (.int .i64 p.1) fun w9 => st1 w9 (a7.add 1) (.int .i64 p.2.1) fun w10 => stL ((a7.add 1).add 1) w10 0 p.2.2.1.1 fun w11 => st1 w11 (((a7.add 1).add 1).add 32) (.slice p.2.2.2.1.a p.2.2.2.1.n p.2.2.2.1.c) fun w12 => K a7 w12 := by
  refine nwI fun a w2 ha hs hf hb _ => ?_
  refine stRec (pre := []) (post := []) (q := rc0) hb p hone fun w3 hb3 hg3 hs3 => h a w3 (by omega) (hf.on (grown_below hg3 (by omega) hf.size)) hb3 (by omega)
end Go.Proofs.YtkaombhkepopgaaDoor
namespace Go.Proofs.YtkaombhkepopgaaDoor
open Go.RowKit Go.Fl Go.ChangeShapes Go.WideShapes Go.ChangeAt

/-- What is known of a record that came in. -/
structure RcIn (w : World) (p : RecT) (d l : List UInt8) : Prop where
  sum : p.2.2.1.1 = u8s d
  data : Bs w p.2.2.2.1 l
  k : -9223372036854775808 ≤ p.1 ∧ p.1 ≤ 9223372036854775807
  s : -9223372036854775808 ≤ p.2.1 ∧ p.2.1 ≤ 9223372036854775807
theorem u8s_of : ∀ {R : List Value}, (∀ v ∈ R, ∃ z, v = .int .u8 z ∧ (Lit.int .u8 z).wf = true) → ∃ d : List UInt8, R = u8s d
  | [], _ => ⟨[], rfl⟩
  | v :: R, h => by
    obtain ⟨d, rfl⟩ := u8s_of (R := R) fun u hu => h u (List.mem_cons_of_mem _ hu)
    obtain ⟨z, rfl, hz⟩ := h v (List.mem_cons_self ..)
    have hb : 0 ≤ z ∧ z ≤ 255 := by
      simp only [Lit.wf, IntKind.min, IntKind.max, IntKind.signed, IntKind.bits, Bool.and_eq_true] at hz
      simp at hz
      omega
    refine ⟨UInt8.ofNat z.toNat :: d, ?_⟩
    have : ((UInt8.ofNat z.toNat).toNat : Int) = z := by
      simp
      omega
    show Value.int .u8 z :: u8s d = Value.int .u8 ((UInt8.ofNat z.toNat).toNat : Int) :: u8s d
    rw [this]
theorem take1 {cs : List Value} {i : Nat} {v : Value} (h : (cs.drop i).take 1 = [v]) : cs.drop i = v :: cs.drop (i + 1) := by
  cases hd : cs.drop i with
  | nil => rw [hd] at h; cases h
  | cons a t =>
    rw [hd] at h
    simp only [List.take_succ_cons, List.take_zero, List.cons.injEq, and_true] at h
    rw [h, ← List.drop_drop, hd]
    rfl
section
variable {H : Type} {enc : TypeId × Value → H} {w : World} {fuel : Nat} {cs : List Value} {x : DataW H × List MemPlace}
theorem sum_of_cells (h : DataW.trod enc Tryd.prog w 0 (fun _ => true) true fuel t_api_Sum cs = some x) : ∃ d : List UInt8, cs = u8s d ∧ d.length = 32 := by
  obtain ⟨xs, m, rfl, rfl, hl, hxl, hel⟩ := DataW.trod_array u_api_Sum h
  have c1 : Tryd.prog.cellsOf t_uint8 = 1 := by kernel_rfl
  have c32 : Tryd.prog.cellsOf t_api_Sum = 32 := by kernel_rfl
  rw [c32] at hl
  obtain ⟨d, hd⟩ : ∃ d : List UInt8, cs = u8s d := u8s_of fun v hv => by
    obtain ⟨i, hi, rfl⟩ := List.getElem_of_mem hv
    have he := hel i (by omega)
    rw [c1, Nat.mul_one] at he
    rw [List.getElem?_eq_getElem (by omega)] at he
    obtain ⟨z, hz, _, hw⟩ := DataW.trod_int u_uint8 he
    rw [List.drop_eq_getElem_cons hi] at hz
    simp only [List.take_succ_cons, List.take_zero, List.cons.injEq, and_true] at hz
    exact ⟨z, hz, hw⟩
  exact ⟨d, hd, by rw [hd, u8s_length] at hl; exact hl⟩
theorem int_of_cells {t : TypeId} (ht : Tryd.prog.underlying t = some (.int .i64)) (h : DataW.trod enc Tryd.prog w 0 (fun _ => true) true fuel t cs = some x) : ∃ k : Int, cs = [.int .i64 k] ∧ -9223372036854775808 ≤ k ∧ k ≤ 9223372036854775807 := by
  obtain ⟨k, hk, _, hw⟩ := DataW.trod_int ht h
  exact ⟨k, hk, wfI64 hw⟩
theorem bytes_of_cells (h : DataW.trod enc Tryd.prog w 0 (fun _ => true) true fuel t_s_uint8 cs = some x) : ∃ (s : Sl) (l : List UInt8), cs = [slV s] ∧ Bs w s l := by
  rcases open_ints u_s_uint8 u_uint8 (by kernel_rfl) h with ⟨hcs, _⟩ | ⟨a, n, c, zs, hcs, _, hl, hm, hz, _, hcell, hwz⟩
  · exact ⟨⟨none, 0, 0⟩, [], hcs, Bs.nil _ _⟩
  · obtain ⟨l, hB⟩ := rowB (w := w) (a := some a) (len := n) (cap := c) (zs := zs) (.inr ⟨a, rfl, hl, hm, by simpa using hz, hcell, hwz⟩)
    exact ⟨⟨some a, n, c⟩, l, hcs, hB⟩
theorem rec_of_cells (h : DataW.trod enc Tryd.prog w 0 (fun _ => true) true fuel t_api_Record cs = some x) : ∃ (p : RecT) (d l : List UInt8), cs = rcL p [] ∧ RcIn w p d l := by
  obtain ⟨xs, n, rfl, rfl, hl, hxl, hf⟩ := DataW.trod_struct u_api_Record h
  have c1 : Tryd.prog.cellsOf t_int = 1 := by kernel_rfl
  have c2 : Tryd.prog.cellsOf t_s_uint8 = 1 := by kernel_rfl
  have c32 : Tryd.prog.cellsOf t_api_Sum = 32 := by kernel_rfl
  have c35 : Tryd.prog.cellsOf t_api_Record = 35 := by kernel_rfl
  have hxl : xs.length = 4 := hxl
  rw [c35] at hl
  have f0 := hf 0 _ rfl
  have f1 := hf 1 _ rfl
  have f2 := hf 2 _ rfl
  have f3 := hf 3 _ rfl
  rw [List.getElem?_eq_getElem (by omega)] at f0 f1 f2 f3
  obtain ⟨k, hk, hkb⟩ := int_of_cells u_int f0
  obtain ⟨s, hs, hsb⟩ := int_of_cells u_int f1
  obtain ⟨d, hd, hdl⟩ := sum_of_cells f2
  obtain ⟨sl, l, hsl, hB⟩ := bytes_of_cells f3
  have hk' : (cs.drop 0).take 1 = [.int .i64 k] := (congrArg (fun n => (cs.drop 0).take n) c1).symm.trans hk
  have hs' : (cs.drop 1).take 1 = [.int .i64 s] := (congrArg (fun n => (cs.drop 1).take n) c1).symm.trans hs
  have hd' : (cs.drop 2).take 32 = u8s d := (congrArg (fun n => (cs.drop 2).take n) c32).symm.trans hd
  have hsl' : (cs.drop 34).take 1 = [slV sl] := (congrArg (fun n => (cs.drop 34).take n) c2).symm.trans hsl
  refine ⟨(k, s, ⟨u8s d, by rw [u8s_length, hdl]⟩, sl, ()), d, l, ?_, rfl, hB, hkb, hsb⟩
  have e0 := take1 hk'
  have e1 := take1 hs'
  have e2 : cs.drop 2 = u8s d ++ cs.drop 34 := by
    have := List.take_append_drop 32 (cs.drop 2)
    rw [hd', List.drop_drop] at this
    exact this.symm
  have e3 := take1 hsl'
  rw [List.drop_of_length_le (i := 35) (by omega)] at e3
  rw [List.drop_zero] at e0
  rw [e0, e1, e2, e3]
  rfl
end
set_option maxRecDepth 100000 in
theorem rec_in {H : Type} {enc : TypeId × Value → H} {w : World} {base : Nat} {v : Value} {dd : DataW H} {ps : List MemPlace} (hv : Value.okWide Tryd.prog w .any base t_api_Record v) (h : DataW.Trod enc Tryd.prog w 0 (fun _ => true) true t_api_Record v dd ps) :
    ∃ (p : RecT) (d l : List UInt8), v = rcV p ∧ RcIn w p d l := by
  obtain ⟨cs, rfl, _⟩ := Go.WideShapes.okWide_struct u_api_Record hv
  obtain ⟨fuel, hf⟩ := h
  obtain ⟨p, d, l, hcs, hR⟩ := rec_of_cells hf
  refine ⟨p, d, l, ?_, hR⟩
  have h1 : cs.toList = rcL p [] := hcs
  have : cs = (rcL p []).toArray := (Array.toArray_toList (xs := cs)).symm.trans (congrArg List.toArray h1)
  exact congrArg Value.agg this
end Go.Proofs.YtkaombhkepopgaaDoor
namespace Go.Proofs.YtkaombhkepopgaaDoor
open Go.RowKit Go.Fl Go.ChangeShapes Go.WideShapes Go.ChangeAt

/-- Is a number of a machine's word? -/
abbrev I64 (n : Int) : Prop := -9223372036854775808 ≤ n ∧ n ≤ 9223372036854775807
/-- A row of bytes that came in. -/
abbrev brC (e : Sl × List UInt8) : List Value := [slV e.1]
structure BsR (w : World) (s : Sl) (xs : List (Sl × List UInt8)) : Prop where
  len : s.n = xs.length
  rd : Rd w s.a (xs.flatMap brC)
  all : ∀ e ∈ xs, Bs w e.1 e.2
theorem BsR.fr {w w' : World} {s : Sl} {xs : List (Sl × List UInt8)} (h : BsR w s xs) (hf : Fr w w') : BsR w' s xs := ⟨h.len, h.rd.below hf, fun e he => (h.all e he).fr hf⟩
/-- One of them is read. -/
theorem BsR.ix {w w' : World} {s : Sl} {xs : List (Sl × List UInt8)} (h : BsR w s xs) (hf : Fr w w') {i : Int} {j : Nat} (hij : i = (j : Int)) (hj : j < xs.length) {K : Sl → Prop} (hk : Bs w' xs[j].1 xs[j].2 → K xs[j].1) : ixa s.a s.n i 1 fun a => ld .L w' a K := by
  subst hij
  refine ixE (f := brC) (sz := 1) (fun _ => rfl) (h.rd.below hf) h.len hj (by decide) fun a ha => ?_
  have h0 := ha 0 _ rfl
  rw [Addr.add0] at h0
  exact ⟨xs[j].1, h0, hk ((h.all _ (List.getElem_mem _)).fr hf)⟩
section
variable {H : Type} {enc : TypeId × Value → H} {w : World} {fuel : Nat} {cs : List Value} {x : DataW H × List MemPlace}
theorem bytes_of_cellsW (h : DataW.trod enc Tryd.prog w 0 (fun _ => true) true fuel t_s_uint8 cs = some x) : ∃ (s : Sl) (l : List UInt8), cs = [slV s] ∧ Bs w s l ∧ ((∀ n ∈ x.1.weights Tryd.prog t_s_uint8, n ≤ reachBytes) → l.length ≤ reachBytes) := by
  rcases open_ints u_s_uint8 u_uint8 (by kernel_rfl) h with ⟨hcs, _⟩ | ⟨a, n, c, zs, hcs, _, hl, hm, hz, hx, hcell, hwz⟩
  · exact ⟨⟨none, 0, 0⟩, [], hcs, Bs.nil _ _, fun _ => Nat.zero_le _⟩
  · obtain ⟨l, hB⟩ := rowB (w := w) (a := some a) (len := n) (cap := c) (zs := zs) (.inr ⟨a, rfl, hl, hm, by simpa using hz, hcell, hwz⟩)
    refine ⟨⟨some a, n, c⟩, l, hcs, hB, fun hw => ?_⟩
    have hz : zs.length = c := by simpa using hz
    have hn := hB.len
    have hb1 : Tryd.prog.bytesOf t_uint8 = 1 := by kernel_rfl
    have hlit : ∀ {k : IntKind} (z : List Int), (lits k z : List (DataW H)).length = z.length := fun z => by simp [lits]
    have := hw ((n + (c - n)) * 1) (by
      rw [hx]
      unfold DataW.weights
      rw [u_s_uint8]
      refine List.mem_cons.2 (.inl ?_)
      rw [hlit, hlit, List.length_take, List.length_drop, hz, hb1, Nat.min_eq_left hl])
    have hn : n = l.length := hn
    omega
theorem weightsAll_mem {P : Program} {e : TypeId} : ∀ {l : List (DataW H)} {d : DataW H}, d ∈ l → ∀ n ∈ d.weights P e, n ∈ DataW.weightsAll P e l
  | c :: l, d, hd, n, hn => by
    unfold DataW.weightsAll
    rcases List.mem_cons.1 hd with rfl | hd
    · exact List.mem_append_left _ hn
    · exact List.mem_append_right _ (weightsAll_mem hd n hn)
/-- A row of structs that comes in, each within the form's reach. -/
theorem rowInW {t e : TypeId} (ht : Tryd.prog.underlying t = some (.slice e)) {sz : Nat} (hc : Tryd.prog.cellsOf e = sz) {E : Type} {f : E → List Value} {R : E → Prop}
    (hel : ∀ {fuel : Nat} {cs : List Value} {x : DataW H × List MemPlace}, DataW.trod enc Tryd.prog w 0 (fun _ => true) true fuel e cs = some x → (∀ n ∈ x.1.weights Tryd.prog e, n ≤ reachBytes) → ∃ y : E, cs = f y ∧ R y) (hlen : ∀ y, (f y).length = sz)
    (h : DataW.trod enc Tryd.prog w 0 (fun _ => true) true fuel t cs = some x) (hw : ∀ n ∈ x.1.weights Tryd.prog t, n ≤ reachBytes) : ∃ (s : Sl) (xs : List E), cs = [slV s] ∧ s.n = xs.length ∧ Rd w s.a (xs.flatMap f) ∧ (∀ y ∈ xs, R y) ∧ xs.length * Tryd.prog.bytesOf e ≤ reachBytes := by
  rcases DataW.trod_slice ht h with ⟨h0, _⟩ | ⟨a, len, cap, elems, rest, n, _, rfl, hx, _, _, _, hlen', hels, _, _⟩
  · exact ⟨⟨none, 0, 0⟩, [], h0, rfl, Rd.nil _ _, by simp, by simp⟩
  have hwe : ∀ y ∈ elems, ∀ n ∈ y.1.weights Tryd.prog e, n ≤ reachBytes := fun y hy n hn => hw n (by
    rw [hx]
    unfold DataW.weights
    rw [ht]
    exact List.mem_cons_of_mem _ (List.mem_append_left _ (weightsAll_mem (List.mem_map_of_mem hy) n hn)))
  have hlb : len * Tryd.prog.bytesOf e ≤ reachBytes := by
    have := hw ((len + rest.length) * Tryd.prog.bytesOf e) (by
      rw [hx]
      unfold DataW.weights
      rw [ht]
      refine List.mem_cons.2 (.inl ?_)
      simp only [List.length_map, hlen'])
    exact Nat.le_trans (Nat.mul_le_mul_right _ (Nat.le_add_right _ _)) this
  suffices hx : ∀ m, m ≤ len → ∃ xs : List E, xs.length = m ∧ Rd w (some a) (xs.flatMap f) ∧ ∀ y ∈ xs, R y by
    obtain ⟨xs, h1, h2, h3⟩ := hx len (Nat.le_refl _)
    exact ⟨⟨some a, len, cap⟩, xs, rfl, h1.symm, h2, h3, h1.symm ▸ hlb⟩
  intro m
  induction m with
  | zero => exact fun _ => ⟨[], rfl, Rd.nil _ _, by simp⟩
  | succ m ih =>
    intro hm
    obtain ⟨xs, h1, h2, h3⟩ := ih (by omega)
    have hb := hels m (by omega)
    rw [hc, List.getElem?_eq_getElem (by omega), Option.bind_eq_some_iff] at hb
    obtain ⟨cs', hcs, hy⟩ := hb
    obtain ⟨y, rfl, hR⟩ := hel hy (hwe _ (List.getElem_mem _))
    refine ⟨xs ++ [y], by simp [h1], ?_, fun z hz => ?_⟩
    · rw [List.flatMap_append, List.flatMap_singleton]
      intro i v hv
      refine ⟨a, rfl, ?_⟩
      by_cases hi : i < (xs.flatMap f).length
      · rw [List.getElem?_append_left hi] at hv
        obtain ⟨ad, ha, hcell⟩ := h2 i v hv
        cases ha; exact hcell
      · rw [List.getElem?_append_right (by omega), flat_len hlen, h1] at hv
        rw [flat_len hlen, h1] at hi
        obtain ⟨_, hl', hcc⟩ := World.cells?_some hcs
        have hj : i - m * sz < sz := by have := (List.getElem?_eq_some_iff.1 hv).1; rwa [hlen] at this
        have := hcc _ hj
        rw [add_add, show m * sz + (i - m * sz) = i from by omega] at this
        rw [this]; exact hv
    · rcases List.mem_append.1 hz with hz | hz
      · exact h3 z hz
      · rw [List.mem_singleton] at hz; rw [hz]; exact hR

theorem rec_of_cellsW (h : DataW.trod enc Tryd.prog w 0 (fun _ => true) true fuel t_api_Record cs = some x) (hw : ∀ n ∈ x.1.weights Tryd.prog t_api_Record, n ≤ reachBytes) : ∃ (p : RecT) (d l : List UInt8), cs = rcL p [] ∧ RcIn w p d l ∧ l.length ≤ reachBytes := by
  obtain ⟨xs, n, rfl, rfl, hl, hxl, hf⟩ := DataW.trod_struct u_api_Record h
  have c1 : Tryd.prog.cellsOf t_int = 1 := by kernel_rfl
  have c2 : Tryd.prog.cellsOf t_s_uint8 = 1 := by kernel_rfl
  have c32 : Tryd.prog.cellsOf t_api_Sum = 32 := by kernel_rfl
  have c35 : Tryd.prog.cellsOf t_api_Record = 35 := by kernel_rfl
  have hxl : xs.length = 4 := hxl
  rw [c35] at hl
  have f0 := hf 0 _ rfl
  have f1 := hf 1 _ rfl
  have f2 := hf 2 _ rfl
  have f3 := hf 3 _ rfl
  rw [List.getElem?_eq_getElem (by omega)] at f0 f1 f2 f3
  obtain ⟨k, hk, hkb⟩ := int_of_cells u_int f0
  obtain ⟨s, hs, hsb⟩ := int_of_cells u_int f1
  obtain ⟨d, hd, hdl⟩ := sum_of_cells f2
  obtain ⟨sl, l, hsl, hB, hbw⟩ := bytes_of_cellsW f3
  have hk' : (cs.drop 0).take 1 = [.int .i64 k] := (congrArg (fun n => (cs.drop 0).take n) c1).symm.trans hk
  have hs' : (cs.drop 1).take 1 = [.int .i64 s] := (congrArg (fun n => (cs.drop 1).take n) c1).symm.trans hs
  have hd' : (cs.drop 2).take 32 = u8s d := (congrArg (fun n => (cs.drop 2).take n) c32).symm.trans hd
  have hsl' : (cs.drop 34).take 1 = [slV sl] := (congrArg (fun n => (cs.drop 34).take n) c2).symm.trans hsl
  refine ⟨(k, s, ⟨u8s d, by rw [u8s_length, hdl]⟩, sl, ()), d, l, ?_, ⟨rfl, hB, hkb, hsb⟩, hbw fun n hn => hw n ?_⟩
  · have e0 := take1 hk'
    have e1 := take1 hs'
    have e2 : cs.drop 2 = u8s d ++ cs.drop 34 := by
      have := List.take_append_drop 32 (cs.drop 2)
      rw [hd', List.drop_drop] at this
      exact this.symm
    have e3 := take1 hsl'
    rw [List.drop_of_length_le (i := 35) (by omega)] at e3
    rw [List.drop_zero] at e0
    rw [e0, e1, e2, e3]
    rfl
  · unfold DataW.weights
    rw [u_api_Record]
    exact DataW.weights_mem_each (j := 3) (t := t_s_uint8) (d := xs[3].1) rfl (by rw [List.getElem?_map, List.getElem?_eq_getElem (by omega)]; rfl) n hn
end
set_option maxRecDepth 100000 in
/-- A row of rows of bytes. -/
theorem rows_in {H : Type} {enc : TypeId × Value → H} {w : World} {base : Nat} {v : Value} {dd : DataW H} {ps : List MemPlace} (hv : Value.okWide Tryd.prog w .any base t_s_s_uint8 v) (h : DataW.Trod enc Tryd.prog w 0 (fun _ => true) true t_s_s_uint8 v dd ps) (hw : ∀ n ∈ dd.weights Tryd.prog t_s_s_uint8, n ≤ reachBytes) :
    ∃ (s : Sl) (xs : List (Sl × List UInt8)), v = slV s ∧ BsR w s xs ∧ (∀ e ∈ xs, e.2.length ≤ reachBytes) ∧ xs.length * 24 ≤ reachBytes := by
  obtain ⟨a, len, cap, rfl⟩ := okWide_slice u_s_s_uint8 hv
  obtain ⟨fuel, hf⟩ := h
  obtain ⟨s, xs, hcs, h1, h2, h3, h4⟩ := rowInW u_s_s_uint8 (sz := 1) (by kernel_rfl) (f := brC) (R := fun e => Bs w e.1 e.2 ∧ e.2.length ≤ reachBytes) (fun h hw => by
    obtain ⟨s, l, hc, hB, hl⟩ := bytes_of_cellsW h
    exact ⟨(s, l), hc, hB, hl hw⟩) (fun _ => rfl) hf hw
  refine ⟨s, xs, ?_, ⟨h1, h2, fun e he => (h3 e he).1⟩, fun e he => (h3 e he).2, (show Tryd.prog.bytesOf t_s_uint8 = 24 by kernel_rfl) ▸ h4⟩
  have : ([Value.slice a len cap] : List Value) = [slV s] := hcs
  injection this
set_option maxRecDepth 100000 in
/-- A record. -/
theorem rec_inW {H : Type} {enc : TypeId × Value → H} {w : World} {base : Nat} {v : Value} {dd : DataW H} {ps : List MemPlace} (hv : Value.okWide Tryd.prog w .any base t_api_Record v) (h : DataW.Trod enc Tryd.prog w 0 (fun _ => true) true t_api_Record v dd ps) (hw : ∀ n ∈ dd.weights Tryd.prog t_api_Record, n ≤ reachBytes) :
    ∃ (p : RecT) (d l : List UInt8), v = rcV p ∧ RcIn w p d l ∧ l.length ≤ reachBytes := by
  obtain ⟨cs, rfl, _⟩ := Go.WideShapes.okWide_struct u_api_Record hv
  obtain ⟨fuel, hf⟩ := h
  obtain ⟨p, d, l, hcs, hR⟩ := rec_of_cellsW hf hw
  refine ⟨p, d, l, ?_, hR⟩
  have h1 : cs.toList = rcL p [] := hcs
  have : cs = (rcL p []).toArray := (Array.toArray_toList (xs := cs)).symm.trans (congrArg List.toArray h1)
  exact congrArg Value.agg this
end Go.Proofs.YtkaombhkepopgaaDoor
namespace Go.Proofs.YtkaombhkepopgaaDoor
open Go.RowKit Go.Fl

section
variable {w0 w : World} {s : Sl} {xs : List (Sl × List UInt8)}
theorem light_ok (h : BsR w s xs) : cl Tryd.prog n_flumelaw11_light #[.slice s.a s.n s.c] .B w fun (r : Bool) w' => (r = true → xs.length ≤ 60 ∧ ∀ e ∈ xs, e.2.length ≤ 16384) ∧ w = w' := by
  refine flumelaw11_light.cl (p0 := s) ?_
  unfold flumelaw11_light
  refine lpI (fun (s' : Int × Int × Unit) w' => w = w' ∧ 0 ≤ s'.1 ∧ s'.1 ≤ 32769 ∧ ∃ i : Nat, i ≤ xs.length ∧ s'.2.1 = i ∧ i ≤ 61 ∧ (s'.1 ≤ 16384 → ∀ (j : Nat) (hj : j < xs.length), j < i → xs[j].2.length ≤ 16384)) (fun s' _ => (s.n - s'.2.1).toNat) ⟨rfl, by decide, by decide, 0, Nat.zero_le _, rfl, by omega, fun _ j _ hj => by omega⟩ ?_
  rintro D ⟨n, i', ⟨⟩⟩ v ⟨rfl, hn0, hn1, i, hi, rfl, hi2, hall⟩
  dsimp -zeta only at hn0 hn1 hall ⊢
  have hsn := h.len
  refine bD ?_ ?_ <;> intro hlt
  · refine bD ?_ ?_ <;> intro h60
    · refine bD ?_ ?_ <;> intro hn
      · have hi1 : i < xs.length := by omega
        refine h.ix (Fr.refl _) rfl hi1 fun hB => ?_
        have hbn := hB.len
        have hmin : min (xs[i].1.n : Int) 16385 = ((min xs[i].2.length 16385 : Nat) : Int) := by omega
        rw [hmin, i64w (n := n + _) (by omega) (by omega), i64w (n := (i : Int) + 1) (by omega) (by omega)]
        refine ⟨⟨rfl, by omega, by omega, i + 1, by omega, rfl, by omega, fun hs j hj hji => ?_⟩, by omega⟩
        by_cases e : j = i
        · subst e; omega
        · exact hall hn j hj (by omega)
      · refine bD ?_ ?_ <;> intro h5
        · exact ⟨fun h => absurd (of_decide_eq_true h) hn, rfl⟩
        · exact ⟨fun h => (by cases h), rfl⟩
    · refine bD ?_ ?_ <;> intro h5
      · omega
      · exact ⟨fun h => (by cases h), rfl⟩
  · refine bD ?_ ?_ <;> intro h5
    · refine ⟨fun h => ⟨by omega, fun e he => ?_⟩, rfl⟩
      obtain ⟨j, hj, rfl⟩ := List.mem_iff_getElem.1 he
      exact hall (of_decide_eq_true h) j hj (by omega)
    · exact ⟨fun h => (by cases h), rfl⟩
/-- A row that an append made. -/
theorem BsR.own {base : Nat} (h : w.ownsRow base t_s_uint8 1 (.slice s.a s.n s.c) s.n (xs.flatMap brC)) (ha : ∀ e ∈ xs, Bs w e.1 e.2) : BsR w s xs := by
  refine ⟨?_, Rd.of_own h, ha⟩
  have := h.1
  rw [flat_len (f := brC) (sz := 1) (fun _ => rfl), Nat.mul_one, Nat.mul_one] at this
  exact this.symm
end
theorem slRow : SlT Tryd.prog t_s_s_uint8 t_s_uint8 1 24 := SlT.mk' (z := .slice none 0 0) (by kernel_rfl) (by kernel_rfl) rfl (by decide)
theorem PB.nil (m r n : Nat) : PB ⟨m, r, []⟩ n := fun c hc => absurd hc (by simp)
theorem PB.add {s : Sto} {n : Nat} (h : PB s n) (e : En) (b : List UInt8) : PB (addS e s b).2 (n + 1) := (h.put _ _).pin _
section
variable {w0 w : World} {Z : Nat → Prop} {ga gb ge gd : Nat} {sa sb : Sto} {n : Nat} {d : De}
/-- A chunk is added, and all is closed. -/
theorem less_step {p : Sl} {b : List UInt8} (h : Two w0 w Z ga gb ge gd sa sb ⟨[], n⟩ d) (hb : Bs w0 p b) (hbl : b.length ≤ 140737488351232) (hdn : n ≤ 1073741000) {m : Nat} (hP : PB sa m) (hm : m ≤ 1073741700) {K : World → Prop}
    (hK : ∀ w' Z' sa' n', n' ≤ n + 1 → PB sa' (m + 1) → Two w0 w' Z' ga gb ge gd sa' sb ⟨[], n'⟩ d → Stp w Z w' Z' → K w') :
    cl Tryd.prog n_dedup_Encoder_Add #[.pointer (some ⟨ge, 0, none⟩), .slice p.a p.n p.c] (.tup (.pair (.I .i64) (.pair k_api_Record (.pair (.I .i64) .nil)))) w fun (_ : Int × RecT × Int × Unit) w' =>
      cl Tryd.prog n_dedup_Encoder_Close #[.pointer (some ⟨ge, 0, none⟩)] (.tup .nil) w' fun (_ : Unit) w'' => K w'' := by
  refine (h.add (Cb.old hb h.fr h.base) hbl hdn (by simp) (hP.mono (by omega))).mono ?_
  rintro r w2 (⟨_, hf⟩ | ⟨_, _, _, _, _, Z2, _, h2, s2⟩)
  · refine ((h.other hf).close hdn (by simp) (hP.mono (by omega))).mono ?_
    rintro _ w3 ⟨Z3, h3, s3⟩
    exact hK w3 Z3 _ _ (by simp) (PB.lets _ (hP.mono (by omega))) h3 ((Stp.of_fr hf).trans s3)
  · refine (h2.close hdn (by simp [addS]) ((hP.add _ _).mono (by omega))).mono ?_
    rintro _ w3 ⟨Z3, h3, s3⟩
    exact hK w3 Z3 _ _ (by simp [addS]) (PB.lets _ (hP.add _ _)) h3 (s2.trans s3)
/-- A chunk that may be is added: its record is known just if the store has it. -/
theorem less_add {p : Sl} {b : List UInt8} (h : Two w0 w Z ga gb ge gd sa sb ⟨[], n⟩ d) (hb : Bs w0 p b) (hbl : 1 ≤ b.length ∧ b.length ≤ 256) (hdn : n ≤ 1073741000) {m : Nat} (hP : PB sa m) (hm : m ≤ 1073741700) :
    cl Tryd.prog n_dedup_Encoder_Add #[.pointer (some ⟨ge, 0, none⟩), .slice p.a p.n p.c] (.tup (.pair (.I .i64) (.pair k_api_Record (.pair (.I .i64) .nil)))) w fun (r : Int × RecT × Int × Unit) w' =>
      r.2.2 = (0, ()) ∧ r.2.1.2.2.1.1 = u8s (dig b) ∧ (r.2.1.1 == 1) = sa.has (dig b) ∧ (r.2.1.1 = 1 → r.2.1.2.2.2.1 = ⟨none, 0, 0⟩) ∧ ∃ Z' sa' e', Two w0 w' Z' ga gb ge gd sa' sb e' d ∧ e'.done = n ∧ e'.list.length = 1 ∧ PB sa' (m + 1) ∧ Stp w Z w' Z' := by
  refine (h.add (Cb.old hb h.fr h.base) (by omega) hdn (by simp) (hP.mono (by omega))).mono ?_
  rintro r w2 (⟨h1 | h1, hf⟩ | ⟨_, _, _, _, h5, Z2, hM, h2, s2⟩)
  · exact absurd h1.1 (by simp)
  · omega
  refine ⟨h5, hM.2.1, ?_, ?_, Z2, _, _, h2, rfl, by simp [addS], hP.add _ _, s2⟩
  · have h3 := hM.2.2
    cases hk : sa.has (dig b) with
    | true => rw [hk, if_pos rfl] at h3; rw [h3.1]; rfl
    | false =>
      rw [hk, if_neg (by decide)] at h3
      split at h3 <;> · rw [h3.1]; rfl
  · intro h1
    have h3 := hM.2.2
    split at h3
    · exact h3.2
    · split at h3 <;> · rw [h3.1] at h1; cases h1
end
theorem awake11 {w w2 : World} (hd : Dig w) (hf : Fr w w2) : cl Tryd.prog n_flumelaw11_awake #[] .B w2 fun (r : Bool) w' => r = true ∧ Fr w w' :=
  (dawake_ok (hd.fr hf)).mono fun _ _ h => ⟨h.1, hf.trans h.2⟩
theorem DedupLess_ok {w : World} {p0 p1 : Int} {s c : Sl} {xs : List (Sl × List UInt8)} {b : List UInt8} (hd : Dig w) (h : BsR w s xs) (hx : xs.length * 24 ≤ 140737488351232) (hb : Bs w c b) :
    cl Tryd.prog n_flumelaw11_DedupLess #[.int .i64 p0, .int .i64 p1, .slice s.a s.n s.c, .slice c.a c.n c.c] .B w fun (r : Bool) w' => r = true ∧ Fr w w' := by
  refine flumelaw11_DedupLess.cl (p0 := p0) (p1 := p1) (p2 := s) (p3 := c) ?_
  unfold flumelaw11_DedupLess
  refine nwI fun a1 w2 ha1 hs2 hf2 hb2 hr2 => ?_
  have ho2 : w2.ownsRow w.heap.size t_s_uint8 1 (.slice (some ⟨a1, 0, none⟩) 1 1) 1 (brC (c, b)) := ⟨rfl, .inr ⟨a1, 1, _, rfl, by omega, hb2, by decide, by decide, rfl, rfl⟩⟩
  have hsn := h.len
  have e1 : (xs.flatMap brC).length = s.n * 1 := by rw [flat_len (f := brC) (sz := 1) (fun _ => rfl), hsn]
  refine app_own slRow (s := ⟨some ⟨a1, 0, none⟩, 1, 1⟩) (base := w.heap.size) (news := xs.flatMap brC) ho2 (h.rd.below hf2) e1 (fun v hv => by
    obtain ⟨e, _, he⟩ := List.mem_flatMap.1 hv
    have : v = slV e.1 := by simpa using he
    rw [this]; rfl) (by dsimp only; omega) (by dsimp only; omega) hf2.size fun r3 w4 hn3 ho3 hg3 _ => ?_
  have hf4 : Fr w w4 := hf2.on ((Below.refl _ _).grown hg3 hf2.size fun q hq => (World.ownsRow.lt ho2 q hq).1)
  have e2 : brC (c, b) ++ xs.flatMap brC = ((c, b) :: xs).flatMap brC := rfl
  rw [e2] at ho3
  have h4 : BsR w4 r3 ((c, b) :: xs) := BsR.own ho3 fun e he => by
    rcases List.mem_cons.1 he with rfl | he
    · exact hb.fr hf4
    · exact (h.all e he).fr hf4
  refine (light_ok h4).mono ?_
  rintro ok _ ⟨hl, rfl⟩
  have hbn := hb.len
  refine bB ?_ ?_ <;> intro hok
  · exact awake11 hd hf4
  refine bE ?_ ?_ <;> intro hc0
  · exact awake11 hd hf4
  refine bD ?_ ?_ <;> intro hc1
  · exact awake11 hd hf4
  obtain ⟨hl1, hl2⟩ := hl (by simpa using hok)
  rw [List.length_cons] at hl1
  have hB : Bs w4 c b := hb.fr hf4
  have hbl : 1 ≤ b.length ∧ b.length ≤ 256 := by omega
  have hX : BsR w4 s xs := h.fr hf4
  refine (two_ok (hd.fr hf4)).mono ?_
  rintro r13 w14 ⟨Z, ga, gb, ge, gd, ma, ra, mb, rb, rfl, _, hT⟩
  refine lpI (fun (s' : Int × Unit) v => ∃ (i : Nat) (Z : Nat → Prop) (sa : Sto) (n : Nat), i ≤ xs.length ∧ s'.1 = i ∧ n ≤ i ∧ PB sa i ∧ Two w4 v Z ga gb ge gd sa ⟨mb, rb, []⟩ ⟨[], n⟩ ⟨[], 0⟩) (fun s' _ => (s.n - s'.1).toNat)
    ⟨0, Z, _, 0, Nat.zero_le _, rfl, Nat.le_refl _, PB.nil _ _ _, hT⟩ ?_
  rintro D ⟨i', ⟨⟩⟩ v ⟨i, Z, sa, n, hi, rfl, hni, hP, hv⟩
  dsimp -zeta only at hi ⊢
  refine bD ?_ ?_ <;> intro hlt
  · have hi1 : i < xs.length := by omega
    refine hX.ix hv.fr rfl hi1 fun _ => ?_
    have hBi := hX.all _ (List.getElem_mem hi1)
    have hli := hl2 _ (List.mem_cons_of_mem _ (List.getElem_mem hi1))
    refine less_step hv hBi (by omega) (by omega) hP (by omega) fun w' Z' sa' n' hn' hP' h' _ => ?_
    rw [i64w (n := (i : Int) + 1) (by omega) (by omega)]
    exact ⟨⟨i + 1, Z', sa', n', by omega, rfl, by omega, hP', h'⟩, by omega⟩
  refine nwI fun a25 w26 ha25 hs26 hf26 hb26 _ => ?_
  have hv26 := hv.other hf26
  refine (Of_ok (x := c) hv26.tab.dig hb26 (hB.fr hv26.fr) (by omega)).mono ?_
  rintro ⟨x27, hx27⟩ w28 ⟨hx, hf28⟩
  dsimp only at hx
  subst hx
  have hv28 := hv26.other hf28
  refine (hv28.has (dig_length _)).mono ?_
  rintro _ w30 ⟨rfl, hf30⟩
  have hv30 := hv28.other hf30
  refine (less_add hv30 hB hbl (by omega) hP (by omega)).mono ?_
  rintro ⟨i31, p31, r31⟩ w32 ⟨he31, hs31, hk31, hd31, Z32, sa32, e32, h32, hen32, hel32, hP32, s32⟩
  dsimp -zeta only at he31 hs31 hk31 hd31 ⊢
  subst he31
  refine newR p31 (u8s_hone _ hs31) fun a33 w35 ha33 hf35 hb35 => ?_
  have h35 := h32.other hf35
  have hlt32 : ¬Z32 a33 := fun hz => by
    obtain ⟨⟨FA, FB, xa, xb, hZ, h1, h2, h3, h4⟩, h5, h6, h7, h8⟩ := h32
    rw [hZ] at hz
    rcases hz with hk | hk | hk | hk
    · have := h1.fl _ hk; omega
    · have := h2.fl _ hk; omega
    · have := h3.lt; omega
    · have := h4.lt; omega
  have l33 := (Array.getElem?_eq_some_iff.1 hb35).1
  refine (h35.close (by omega) (by omega) (hP32.mono (by omega))).mono ?_
  rintro _ w37 ⟨Z37, h37, s37⟩
  have hb37 := s37.heap hb35 hlt32
  have hz37 := s37.not l33 hlt32
  refine nwI fun a38 w39 ha38 hs39 hf39 hb39 _ => ?_
  have h39 := h37.other hf39
  refine (Of_ok (x := c) h39.tab.dig hb39 (hB.fr h39.fr) (by omega)).mono ?_
  rintro ⟨x40, hx40⟩ w41 ⟨hx, hf41⟩
  dsimp only at hx
  subst hx
  have h41 := h39.other hf41
  refine (h41.has (dig_length _)).mono ?_
  rintro _ w43 ⟨rfl, hf43⟩
  have h43 := h41.other hf43
  have hb43 := hf43.heap (hf41.heap (hf39.heap hb37))
  have l43 := (Array.getElem?_eq_some_iff.1 hb43).1
  have hP37 : PB (letS sa32 e32.list) (i + 1) := PB.lets _ hP32
  refine (less_add h43 hB hbl (by omega) hP37 (by omega)).mono ?_
  rintro ⟨i44, p44, r44⟩ w45 ⟨he44, hs44, hk44, hd44, Z45, sa45, e45, h45, hen45, hel45, hP45, s45⟩
  dsimp -zeta only at he44 hs44 hk44 hd44 ⊢
  subst he44
  refine newR p44 (u8s_hone _ hs44) fun a46 w48 ha46 hf48 hb48 => ?_
  have hb48' := hf48.heap (s45.heap hb43 hz37)
  have hfin : Fr w w48 := hf4.trans (h45.other hf48).fr
  refine bT rfl (bT rfl ?_)
  refine ldI0 (n := p31.1) hb48' rfl (bT (by rw [hk31]; simp) ?_)
  refine ldI0 (n := p44.1) hb48 rfl (bT (by rw [hk44]; simp) ?_)
  refine ldI0 (n := p44.1) hb48 rfl ?_
  refine bNe ?_ ?_ <;> intro h1
  · exact awake11 hd hfin
  rw [addOff]
  refine ldL0 (s := p44.2.2.2.1) hb48 (rc_c34 p44) ?_
  rw [hd44 h1]
  exact bT rfl (awake11 hd hfin)
end Go.Proofs.YtkaombhkepopgaaDoor
namespace Go.Proofs.YtkaombhkepopgaaDoor
open Go.RowKit Go.Fl

/-- How often a digest is held. -/
def cntE : List (List UInt8 × Bool) → List UInt8 → Nat
  | [], _ => 0
  | b :: l, d => (if b.2 = true ∧ dig b.1 = d then 1 else 0) + cntE l d
theorem cntE_snoc : ∀ (l : List (List UInt8 × Bool)) (b : List UInt8 × Bool) (d : List UInt8), cntE (l ++ [b]) d = cntE l d + (if b.2 = true ∧ dig b.1 = d then 1 else 0)
  | [], b, d => by simp [cntE]
  | c :: l, b, d => by rw [List.cons_append, cntE, cntE, cntE_snoc l]; omega
theorem cntE_zero {d : List UInt8} : ∀ {l : List (List UInt8 × Bool)}, (∀ b ∈ l, dig b.1 ≠ d) → cntE l d = 0
  | [], _ => rfl
  | b :: l, h => by rw [cntE, cntE_zero fun c hc => h c (List.mem_cons_of_mem _ hc), if_neg fun h' => h b (List.mem_cons_self ..) h'.2]
/-- All pins are told. -/
structure Lk (s : List Ch) (l : List (List UInt8 × Bool)) : Prop where
  nd : (s.map (·.sum)).Nodup
  cnt : ∀ c ∈ s, c.pins = cntE l c.sum
theorem modify_sum (v : Nat → Nat) : ∀ (l : List Ch) (k : Nat), (l.modify k fun c => { c with pins := v c.pins }).map (·.sum) = l.map (·.sum)
  | [], k => by cases k <;> rfl
  | c :: l, 0 => rfl
  | c :: l, k + 1 => by rw [List.modify_succ_cons, List.map_cons, List.map_cons, modify_sum v l k]
theorem findI_sums {d : List UInt8} : ∀ {l m : List Ch}, l.map (·.sum) = m.map (·.sum) → findI d l = findI d m
  | [], [], _ => rfl
  | [], _ :: _, h => by cases h
  | _ :: _, [], h => by cases h
  | a :: l, b :: m, h => by
    rw [List.map_cons, List.map_cons] at h
    injection h with h1 h2
    unfold findI
    rw [h1, findI_sums h2]
theorem nd_at {l : List Ch} (h : (l.map (·.sum)).Nodup) {i j : Nat} {a b : Ch} (ha : l[i]? = some a) (hb : l[j]? = some b) (e : a.sum = b.sum) : i = j := by
  have h1 : (l.map (·.sum))[i]? = some a.sum := by rw [List.getElem?_map, ha]; rfl
  have h2 : (l.map (·.sum))[j]? = some a.sum := by rw [List.getElem?_map, hb, e]; rfl
  exact (List.getElem?_inj (List.getElem?_eq_some_iff.1 h1).1 h).1 (h1.trans h2.symm)
theorem mem_modify {v : Nat → Nat} {l : List Ch} {k : Nat} {c : Ch} (h : c ∈ l.modify k fun c => { c with pins := v c.pins }) : ∃ i a, l[i]? = some a ∧ c = if i = k then { a with pins := v a.pins } else a := by
  obtain ⟨i, hi⟩ := List.getElem?_of_mem h
  rw [List.getElem?_modify] at hi
  cases ha : l[i]? with
  | none => rw [ha] at hi; simp at hi
  | some a =>
    rw [ha] at hi
    simp only [Option.map_eq_map, Option.map_some] at hi
    refine ⟨i, a, ha, ?_⟩
    by_cases e : k = i
    · rw [if_pos e] at hi
      rw [if_pos e.symm]
      exact (Option.some.inj hi).symm
    · rw [if_neg e] at hi
      rw [if_neg fun h => e h.symm]
      exact (Option.some.inj hi).symm
/-- A chunk's pins become others. -/
theorem Lk.pins {s : List Ch} {l l' : List (List UInt8 × Bool)} {k : Nat} {c : Ch} {v : Nat → Nat} (h : Lk s l) (hc : s[k]? = some c) (h1 : v c.pins = cntE l' c.sum) (h2 : ∀ a ∈ s, a.sum ≠ c.sum → cntE l' a.sum = cntE l a.sum) : Lk (s.modify k fun c => { c with pins := v c.pins }) l' := by
  refine ⟨by rw [modify_sum]; exact h.nd, fun a ha => ?_⟩
  obtain ⟨i, b, hb, rfl⟩ := mem_modify ha
  by_cases e : i = k
  · subst e
    rw [hc] at hb
    cases hb
    rw [if_pos rfl]
    exact h1
  · rw [if_neg e]
    have hm := List.mem_of_getElem? hb
    rw [h2 b hm fun e' => e (nd_at h.nd hb hc e')]
    exact h.cnt b hm
theorem Lk.unpin {s : Sto} {b : List UInt8 × Bool} {l : List (List UInt8 × Bool)} (h : Lk s.l (b :: l)) : Lk (if b.2 then (s.unpin (dig b.1)).1 else s).l l := by
  split
  · rename_i hp
    unfold Sto.unpin
    cases hf : findI (dig b.1) s.l with
    | none =>
      refine ⟨h.nd, fun c hc => ?_⟩
      have := h.cnt c hc
      rw [cntE, if_neg fun h' => findI_none hf c hc h'.2.symm, Nat.zero_add] at this
      exact this
    | some k =>
      obtain ⟨c, hc, hcs, _⟩ := findI_some hf
      have hcn := h.cnt c (List.mem_of_getElem? hc)
      rw [cntE, if_pos ⟨hp, hcs.symm⟩] at hcn
      dsimp only
      rw [hc]
      show Lk (if c.pins = 0 then _ else _ : Sto × Int).1.l l
      rw [if_neg (by omega)]
      refine h.pins (v := fun n => n - 1) hc (by omega) fun a ha hne => ?_
      rw [cntE, if_neg fun h' => hne (by rw [hcs]; exact h'.2.symm), Nat.zero_add]
  · rename_i hp
    refine ⟨h.nd, fun c hc => ?_⟩
    have := h.cnt c hc
    rw [cntE, if_neg fun h' => hp h'.1, Nat.zero_add] at this
    exact this
theorem Lk.lets : ∀ {l : List (List UInt8 × Bool)} {s : Sto}, Lk s.l l → Lk (letS s l).l []
  | [], _, h => h
  | _ :: l, _, h => Lk.lets (l := l) (Lk.unpin h)
theorem erase_perm : ∀ {l : List Ch} {k : Nat} (hk : k < l.length), (l[k] :: l.eraseIdx k).Perm l
  | [], _, h => absurd h (by simp)
  | _ :: _, 0, _ => List.Perm.refl _
  | a :: l, k + 1, h => by
    rw [List.getElem_cons_succ, List.eraseIdx_cons_succ]
    exact (List.Perm.swap _ _ _).trans ((erase_perm (by simpa using h)).cons a)
theorem useL_perm {l : List Ch} {k : Nat} (hk : k < l.length) : (useL l k).Perm l := by
  unfold useL
  rw [List.getElem?_eq_getElem hk]
  exact List.perm_append_comm.trans (erase_perm hk)
theorem bytesL_perm {l m : List Ch} (h : l.Perm m) : bytesL l = bytesL m := by
  induction h with
  | nil => rfl
  | cons x _ ih => simp only [bytesL, ih]
  | swap x y l => simp only [bytesL]; omega
  | trans _ _ h1 h2 => exact h1.trans h2
theorem Lk.perm {s t : List Ch} {l : List (List UInt8 × Bool)} (h : Lk s l) (hp : t.Perm s) : Lk t l := ⟨(hp.map _).nodup_iff.2 h.nd, fun c hc => h.cnt c (hp.mem_iff.1 hc)⟩
/-- All that was added is there, and held. -/
structure Ls (s : Sto) (l : List (List UInt8 × Bool)) : Prop where
  most : s.most = 64
  room : s.room = 8192
  lk : Lk s.l l
  by_ : bytesL s.l ≤ 256 * l.length
  ln : s.l.length ≤ l.length
  pos : ∀ c ∈ s.l, 1 ≤ c.pins
  pres : ∀ b ∈ l, ∃ c ∈ s.l, c.sum = dig b.1
/-- A digest that is there is held once more. -/
theorem Lk.pinned {s : Sto} {l : List (List UInt8 × Bool)} {b : List UInt8} {c : Ch} (h : Lk s.l l) (hc : c ∈ s.l) (hcs : c.sum = dig b) (hpos : ∀ a ∈ s.l, a.sum ≠ dig b → 1 ≤ a.pins) :
    (s.pin (dig b)).2 = 0 ∧ Lk (s.pin (dig b)).1.l (l ++ [(b, true)]) ∧ (s.pin (dig b)).1.most = s.most ∧ (s.pin (dig b)).1.room = s.room ∧ bytesL (s.pin (dig b)).1.l = bytesL s.l ∧ (s.pin (dig b)).1.l.map (·.sum) = s.l.map (·.sum) ∧ ∀ a ∈ (s.pin (dig b)).1.l, 1 ≤ a.pins := by
  unfold Sto.pin
  cases hf : findI (dig b) s.l with
  | none => exact absurd hcs (findI_none hf c hc)
  | some k =>
    obtain ⟨a, ha, has, _⟩ := findI_some hf
    refine ⟨rfl, ?_, rfl, rfl, bytesL_modify (fun n => n + 1) _ _, modify_sum (fun n => n + 1) _ _, fun x hx => ?_⟩
    · refine h.pins (v := fun n => n + 1) ha ?_ fun x hx hne => ?_
      · rw [cntE_snoc, if_pos ⟨rfl, has.symm⟩, ← h.cnt a (List.mem_of_getElem? ha)]
      · rw [cntE_snoc, if_neg fun h' => hne (by rw [has]; exact h'.2.symm), Nat.add_zero]
    · obtain ⟨i, y, hy, rfl⟩ := mem_modify (v := fun n => n + 1) hx
      by_cases e : i = k
      · rw [if_pos e]; show 1 ≤ y.pins + 1; omega
      · rw [if_neg e]
        exact hpos y (List.mem_of_getElem? hy) fun e' => e (nd_at h.nd hy ha (e'.trans has.symm))
theorem Ls.add {s : Sto} {e : En} {b : List UInt8} (h : Ls s e.list) (hl : e.list.length < 8) (hb : b.length ≤ 256) : Ls (addS e s b).2 (addS e s b).1.list := by
  unfold addS
  dsimp only
  have key : ∀ s1 : Sto, s1.most = 64 → s1.room = 8192 → Lk s1.l e.list → bytesL s1.l ≤ 256 * (e.list.length + 1) → s1.l.length ≤ e.list.length + 1 → (∃ c ∈ s1.l, c.sum = dig b) → (∀ a ∈ s1.l, a.sum ≠ dig b → 1 ≤ a.pins) → (∀ x ∈ e.list, ∃ c ∈ s1.l, c.sum = dig x.1) →
      Ls (s1.pin (dig b)).1 (e.list ++ [(b, decide ((s1.pin (dig b)).2 = 0))]) := by
    rintro s1 m1 r1 k1 b1 n1 ⟨c, hc, hcs⟩ p1 q1
    obtain ⟨u1, u2, u3, u4, u5, u6, u7⟩ := k1.pinned hc hcs p1
    rw [u1]
    have hmem : ∀ d, (∃ c ∈ s1.l, c.sum = d) → ∃ c ∈ (s1.pin (dig b)).1.l, c.sum = d := fun d ⟨c, hc, hcs⟩ => by
      have : d ∈ s1.l.map (·.sum) := List.mem_map.2 ⟨c, hc, hcs⟩
      rw [← u6] at this
      exact List.mem_map.1 this
    refine ⟨u3.trans m1, u4.trans r1, u2, by rw [u5, List.length_append]; exact b1, ?_, u7, fun x hx => ?_⟩
    · have := congrArg List.length u6
      rw [List.length_map, List.length_map] at this
      rw [this, List.length_append]; exact n1
    · rcases List.mem_append.1 hx with hx | hx
      · exact hmem _ (q1 x hx)
      · rw [List.mem_singleton] at hx; rw [hx]; exact hmem _ ⟨c, hc, hcs⟩
  unfold Sto.put
  cases hf : findI (dig b) s.l with
  | some k =>
    obtain ⟨c, hc, hcs, hk⟩ := findI_some hf
    have hp := useL_perm hk
    refine key { s with l := useL s.l k } h.most h.room (h.lk.perm hp) (by rw [bytesL_perm hp]; have := h.by_; omega) (by rw [hp.length_eq]; have := h.ln; omega) ⟨c, hp.mem_iff.2 (List.mem_of_getElem? hc), hcs⟩ (fun a ha _ => h.pos a (hp.mem_iff.1 ha)) fun x hx => ?_
    obtain ⟨y, hy, hys⟩ := h.pres x hx
    exact ⟨y, hp.mem_iff.2 hy, hys⟩
  | none =>
    have h1 := heldN_le s.l
    have h2 := heldB_le s.l
    have h3 := h.by_
    have h4 := h.ln
    have h5 := h.most
    have h6 := h.room
    dsimp only
    rw [if_neg (by omega), shrink_done ⟨by omega, by omega⟩]
    have hno : ∀ c ∈ s.l, c.sum ≠ dig b := findI_none hf
    refine key { s with l := s.l ++ [⟨dig b, b, 0⟩] } h5 h6 ⟨?_, fun c hc => ?_⟩ ?_ ?_ ⟨⟨dig b, b, 0⟩, by simp, rfl⟩ (fun a ha hne => ?_) fun x hx => ?_
    · rw [List.map_append, List.nodup_append]
      refine ⟨h.lk.nd, by simp, fun x hx y hy e' => ?_⟩
      obtain ⟨c, hc, rfl⟩ := List.mem_map.1 hx
      have : y = dig b := by simpa using hy
      exact hno c hc (e'.trans this)
    · rcases List.mem_append.1 hc with hc | hc
      · exact h.lk.cnt c hc
      · rw [List.mem_singleton] at hc
        rw [hc]
        refine (cntE_zero fun x hx e' => ?_).symm
        obtain ⟨y, hy, hys⟩ := h.pres x hx
        exact hno y hy (hys.trans e')
    · rw [bytesL_append]
      simp only [bytesL]
      omega
    · rw [List.length_append]; simpa using h4
    · rcases List.mem_append.1 ha with ha | ha
      · exact h.pos a ha
      · rw [List.mem_singleton] at ha; rw [ha] at hne; exact absurd rfl hne
    · obtain ⟨y, hy, hys⟩ := h.pres x hx
      exact ⟨y, List.mem_append_left _ hy, hys⟩
/-- Let go, and held again. -/
theorem unpin_pin {s : Sto} {c : Ch} (nd : (s.l.map (·.sum)).Nodup) (hc : c ∈ s.l) (hp : 1 ≤ c.pins) : (s.unpin c.sum).2 = 0 ∧ ((s.unpin c.sum).1.pin c.sum) = (s, 0) := by
  cases hf : findI c.sum s.l with
  | none => exact absurd rfl (findI_none hf c hc)
  | some k =>
    obtain ⟨a, ha, has, _⟩ := findI_some hf
    obtain ⟨j, hj⟩ := List.getElem?_of_mem hc
    have := nd_at nd ha hj has
    subst this
    rw [ha] at hj
    cases hj
    have e1 : s.unpin c.sum = ({ s with l := s.l.modify k fun c => { c with pins := c.pins - 1 } }, 0) := by
      unfold Sto.unpin
      rw [hf]
      dsimp only
      rw [ha]
      exact if_neg (by show ¬c.pins = 0; omega)
    rw [e1]
    refine ⟨rfl, ?_⟩
    unfold Sto.pin
    dsimp only
    rw [findI_sums (m := s.l) (modify_sum (fun n => n - 1) _ _), hf]
    dsimp only
    congr 1
    have : (s.l.modify k fun c => { c with pins := c.pins - 1 }).modify k (fun c => { c with pins := c.pins + 1 }) = s.l := by
      refine List.ext_getElem? fun i => ?_
      rw [List.getElem?_modify, List.getElem?_modify]
      by_cases e : k = i
      · subst e
        rw [ha]
        simp only [if_true, Option.map_eq_map, Option.map_some]
        rw [Nat.sub_add_cancel hp]
      · simp only [if_neg e, Option.map_eq_map]
        cases s.l[i]? <;> rfl
    rw [this]
/-- What is not held is not let go. -/
theorem unpin_none {s : Sto} {c : Ch} (nd : (s.l.map (·.sum)).Nodup) (hc : c ∈ s.l) (hp : c.pins = 0) : s.unpin c.sum = (s, 91) := by
  unfold Sto.unpin
  cases hf : findI c.sum s.l with
  | none => exact absurd rfl (findI_none hf c hc)
  | some k =>
    obtain ⟨a, ha, has, _⟩ := findI_some hf
    obtain ⟨j, hj⟩ := List.getElem?_of_mem hc
    have := nd_at nd ha hj has
    subst this
    rw [ha] at hj
    cases hj
    dsimp only
    rw [ha]
    exact if_pos hp
section
variable {w0 w : World} {Z : Nat → Prop} {ga gb ge gd : Nat} {sa sb : Sto} {e : En} {d : De}
theorem Two.sum32 (h : Two w0 w Z ga gb ge gd sa sb e d) : ∀ c ∈ sa.l, c.sum.length = 32 := fun c hc => by
  obtain ⟨⟨FA, FB, xa, xb, hZ, h1, h2, h3, h4⟩, h5, h6, h7, h8⟩ := h
  obtain ⟨k, hk, rfl⟩ := List.mem_iff_getElem.1 hc
  have hki : k < xa.ids.length := by rw [h1.len]; exact hk
  have := (h1.slt (List.getElem?_eq_getElem hki) (List.getElem?_eq_getElem hk)).1
  rw [← this]
  exact h1.mem.f32 _
/-- A digest of a row is copied. -/
theorem sumCopy {l : List UInt8} (hl : l.length = 32) {x : {l : List Value // l.length = 32}} (hx : x.1 = u8s l) {K : Addr → World → Prop}
    (hk : ∀ g w', Fr w w' → w'.heap[g]? = some (.cells (u8s l).toArray t_api_Sum (0, 0)) → w.heap.size ≤ g → K ⟨g, 0, none⟩ w') : nw w ((zrow 32 (.int .u8 0)).1) t_api_Sum fun a w2 => stL a w2 0 x.1 fun w3 => K a w3 := by
  have hz32 : (zrow 32 (.int .u8 0)).1 = u8s (List.replicate 32 0) := by simp [zrow, u8s]
  rw [hz32, hx]
  refine nwI fun a15 w16 ha15 hs16 hf16 hb15 _ => ?_
  refine stL_row hb15 (by simp [u8s_length, hl]) (u8s_one _) fun w17 hb17 g17 s17 => hk a15 w17 (Mv.on (F := fun k => k = a15) hf16 (Mv.of_grown g17 rfl) fun j hj => by omega) ?_ (by omega)
  rw [hb17]; simp [u8s_length, hl]
theorem rowFl (w : World) {s : Sl} {ls : List (List UInt8)} {base : Nat} (h : w.ownsRow base t_api_Sum 32 (.slice s.a s.n s.c) s.n (sumsV ls)) (h32 : ∀ l ∈ ls, l.length = 32) {i : Nat} (hi : i < ls.length) {K : {l : List Value // l.length = 32} → Prop} {w' : World} (hf : Fr w w')
    (hk : ∀ x : {l : List Value // l.length = 32}, x.1 = u8s ls[i] → K x) (hn : s.n = ls.length) : ixa s.a s.n (i : Int) 32 fun a => ld (.row 32) w' a K := by
  obtain ⟨ks, hks⟩ : ∃ ks : List K32, ks.map (·.1) = ls := ⟨ls.attach.map fun x => ⟨x.1, h32 x.1 x.2⟩, by simp⟩
  have e1 : sumsV ls = ks.flatMap fun k => u8s k.1 := by rw [← hks, sumsV, List.flatMap_map]
  have hr : Rd w' s.a (ks.flatMap fun k => u8s k.1) := by
    have := (Rd.of_own h).below hf
    rw [e1] at this
    exact this
  have hkl : i < ks.length := by rw [← hks, List.length_map] at hi; exact hi
  refine ixE (f := fun k : K32 => u8s k.1) (sz := 32) (fun k => by rw [u8s_length, k.2]) hr (by rw [hn, ← hks, List.length_map]) hkl (by decide) fun a ha => ?_
  have e2 : ks[i].1 = ls[i] := by simp only [← hks, List.getElem_map]
  refine ⟨⟨u8s ks[i].1, by rw [u8s_length, ks[i].2]⟩, fun j hj => ha j _ (List.getElem?_eq_getElem hj), hk _ (congrArg u8s e2)⟩
end
theorem DedupLets_ok {w : World} {s : Sl} {xs : List (Sl × List UInt8)} (hd : Dig w) (h : BsR w s xs) :
    cl Tryd.prog n_flumelaw11_DedupLets #[.slice s.a s.n s.c] .B w fun (r : Bool) w' => r = true ∧ Fr w w' := by
  refine flumelaw11_DedupLets.cl (p0 := s) ?_
  unfold flumelaw11_DedupLets
  refine (light_ok h).mono ?_
  rintro ok _ ⟨hl, rfl⟩
  have hsn := h.len
  refine bB ?_ ?_ <;> intro hok
  · exact awake11 hd (Fr.refl w)
  refine bD ?_ ?_ <;> intro h8
  · exact awake11 hd (Fr.refl w)
  obtain ⟨hl1, hl2⟩ := hl (by simpa using hok)
  refine (two_ok hd).mono ?_
  rintro r13 w14 ⟨Z, ga, gb, ge, gd, ma, ra, mb, rb, rfl, ⟨hma, hra⟩, hT⟩
  have hma : ma = 64 := by
    have : (ma : Int) = 64 := hma.trans (by kernel_rfl)
    omega
  have hra : ra = 8192 := by
    have : (ra : Int) = 8192 := hra.trans (by kernel_rfl)
    omega
  subst hma hra
  refine lpI (fun (s' : Int × Unit) v => ∃ (i : Nat) (Z : Nat → Prop) (sa : Sto) (e : En), i ≤ xs.length ∧ s'.1 = i ∧ e.done = 0 ∧ e.list.length ≤ i ∧ PB sa i ∧ Ls sa e.list ∧ Two w v Z ga gb ge gd sa ⟨mb, rb, []⟩ e ⟨[], 0⟩) (fun s' _ => (s.n - s'.1).toNat)
    ⟨0, Z, _, _, Nat.zero_le _, rfl, rfl, Nat.le_refl _, PB.nil _ _ _, ⟨rfl, rfl, ⟨by simp, fun c hc => absurd hc (by simp)⟩, by simp [bytesL], by simp, fun c hc => absurd hc (by simp), fun b hb => absurd hb (by simp)⟩, hT⟩ ?_
  rintro D ⟨i', ⟨⟩⟩ v ⟨i, Z, sa, e, hi, rfl, hdn, hel, hP, hLs, hv⟩
  dsimp -zeta only at hi ⊢
  refine bD ?_ ?_ <;> intro hlt
  · have hi1 : i < xs.length := by omega
    refine h.ix hv.fr rfl hi1 fun _ => ?_
    have hBi := h.all _ (List.getElem_mem hi1)
    have hli := hl2 _ (List.getElem_mem hi1)
    refine (hv.add (Cb.old hBi hv.fr hv.base) (by omega) (by omega) (by omega) (hP.mono (by omega))).mono ?_
    rintro r15 w16 (⟨_, hf⟩ | ⟨q1, q2, q3, q4, q5, Z2, _, h2, s2⟩)
    · rw [i64w (n := (i : Int) + 1) (by omega) (by omega)]
      exact ⟨⟨i + 1, Z, sa, e, by omega, rfl, hdn, by omega, hP.mono (by omega), hLs, hv.other hf⟩, by omega⟩
    · rw [i64w (n := (i : Int) + 1) (by omega) (by omega)]
      refine ⟨⟨i + 1, Z2, _, (addS e sa xs[i].2).1, by omega, rfl, hdn, ?_, hP.add e _, hLs.add q1 q3, h2⟩, by omega⟩
      show (e.list ++ [_]).length ≤ _
      rw [List.length_append, List.length_singleton]; omega
  have hPB : PB sa 1073741800 := hP.mono (by omega)
  refine hv.waiting.mono ?_
  rintro _ _ ⟨rfl, rfl⟩
  refine bE ?_ ?_ <;> intro h0
  · exact awake11 hd hv.fr
  refine hv.list.mono ?_
  rintro x21 w22 ⟨hn21, ho21, hf22⟩
  have hv22 := hv.other hf22
  have hs32 := hv.sum32
  have h32 : ∀ l ∈ sa.l.map (·.sum), l.length = 32 := fun l hl => by
    obtain ⟨c, hc, rfl⟩ := List.mem_map.1 hl
    exact hs32 c hc
  have hll := hv.lm
  refine lpI (fun (s' : Int × Unit) u => ∃ j : Nat, j ≤ sa.l.length ∧ s'.1 = j ∧ Two w u Z ga gb ge gd sa ⟨mb, rb, []⟩ e ⟨[], 0⟩ ∧ Stp w22 Z u Z) (fun s' _ => (x21.n - s'.1).toNat) ⟨0, Nat.zero_le _, rfl, hv22, Stp.refl _ _⟩ ?_
  rintro D ⟨j', ⟨⟩⟩ u ⟨j, hj, rfl, hu, hst⟩
  dsimp -zeta only at hj ⊢
  have hro : ∀ {u : World}, Stp w22 Z u Z → u.ownsRow v.heap.size t_api_Sum 32 (.slice x21.a x21.n x21.c) x21.n (sumsV (sa.l.map (·.sum))) := fun hst => own_kp ho21 hst.mv.kp fun ad ha hz => by
    have h1 := (World.ownsRow.lt ho21 ad.block (by rw [ha]; rfl)).1
    obtain ⟨⟨FA, FB, xa, xb, hZ, k1, k2, k3, k4⟩, k5, k6, k7, k8⟩ := hv
    rw [hZ] at hz
    rcases hz with hk | hk | hk | hk
    · have := k1.fl _ hk; omega
    · have := k2.fl _ hk; omega
    · have := k3.lt; omega
    · have := k4.lt; omega
  refine bD ?_ ?_ <;> intro hjl
  · have hj1 : j < sa.l.length := by omega
    refine rowFl u (hro hst) h32 (by rw [List.length_map]; exact hj1) (Fr.refl _) (fun x hx => ?_) (by rw [List.length_map]; exact hn21)
    have e1 : (sa.l.map (·.sum))[j]'(by rw [List.length_map]; exact hj1) = sa.l[j].sum := List.getElem_map ..
    rw [e1] at hx
    have hcm : sa.l[j] ∈ sa.l := List.getElem_mem hj1
    refine sumCopy (hs32 _ hcm) hx fun g31 w31 hf31 hb31 hg31 => ?_
    have hu31 := hu.other hf31
    obtain ⟨u1, u2⟩ := unpin_pin (s := sa) hLs.lk.nd hcm (hLs.pos _ hcm)
    have hz31 : ¬Z g31 := fun hz => by
      obtain ⟨⟨FA, FB, xa, xb, hZ, k1, k2, k3, k4⟩, k5, k6, k7, k8⟩ := hu
      rw [hZ] at hz
      rcases hz with hk | hk | hk | hk
      · have := k1.fl _ hk; omega
      · have := k2.fl _ hk; omega
      · have := k3.lt; omega
      · have := k4.lt; omega
    refine ldR0 hb31 (by rw [u8s_length, hs32 _ hcm]) ?_
    refine (hu31.unpin (hs32 _ hcm) hPB).mono ?_
    rintro r33 w34 ⟨rfl, h34, s34⟩
    rw [u1]
    refine bF rfl ?_
    refine ldR0 (s34.heap hb31 hz31) (by rw [u8s_length, hs32 _ hcm]) ?_
    refine (h34.pin (hs32 _ hcm) (hPB.unpin _)).mono ?_
    rintro r36 w37 ⟨rfl, h37, s37⟩
    rw [u2] at h37 ⊢
    refine bF rfl ?_
    rw [i64w (n := (j : Int) + 1) (by omega) (by omega)]
    exact ⟨⟨j + 1, by omega, rfl, h37, ((hst.fr hf31).trans s34).trans s37⟩, by omega⟩
  refine (hu.sent (by omega) (by omega)).mono ?_
  rintro _ w39 ⟨rfl, hf39⟩
  refine ((hu.other hf39).done (by omega) (by omega) hPB).mono ?_
  rintro r40 w41 (⟨h1, _, _⟩ | ⟨k, hk, hk1, rfl, Z41, h41, _⟩)
  · omega
  have hkl : k = e.list.length := by omega
  subst hkl
  rw [List.take_length, List.drop_length] at h41
  refine bF rfl ?_
  refine h41.waiting.mono ?_
  rintro _ _ ⟨rfl, rfl⟩
  refine bF rfl ?_
  refine h41.list.mono ?_
  rintro x44 w45 ⟨hn44, ho44, hf45⟩
  have hv45 := h41.other hf45
  have hLk := Lk.lets (s := sa) hLs.lk
  have hPB2 : PB (letS sa e.list) 1073741800 := PB.lets _ hPB
  generalize letS sa e.list = sc at *
  have hs32' := h41.sum32
  have h32' : ∀ l ∈ sc.l.map (·.sum), l.length = 32 := fun l hl => by
    obtain ⟨c, hc, rfl⟩ := List.mem_map.1 hl
    exact hs32' c hc
  have hll' := h41.lm
  refine lpI (fun (s' : Int × Unit) u => ∃ j : Nat, j ≤ sc.l.length ∧ s'.1 = j ∧ Two w u Z41 ga gb ge gd sc ⟨mb, rb, []⟩ ⟨[], e.done + e.list.length⟩ ⟨[], 0⟩ ∧ Stp w45 Z41 u Z41) (fun s' _ => (x44.n - s'.1).toNat) ⟨0, Nat.zero_le _, rfl, hv45, Stp.refl _ _⟩ ?_
  rintro D ⟨j', ⟨⟩⟩ u2 ⟨j, hj, rfl, hu2, hst2⟩
  dsimp -zeta only at hj ⊢
  have hro2 : u2.ownsRow w41.heap.size t_api_Sum 32 (.slice x44.a x44.n x44.c) x44.n (sumsV (sc.l.map (·.sum))) := own_kp ho44 hst2.mv.kp fun ad ha hz => by
    have h1 := (World.ownsRow.lt ho44 ad.block (by rw [ha]; rfl)).1
    obtain ⟨⟨FA, FB, xa, xb, hZ, k1, k2, k3, k4⟩, k5, k6, k7, k8⟩ := h41
    rw [hZ] at hz
    rcases hz with hk | hk | hk | hk
    · have := k1.fl _ hk; omega
    · have := k2.fl _ hk; omega
    · have := k3.lt; omega
    · have := k4.lt; omega
  refine bD ?_ ?_ <;> intro hjl
  · have hj1 : j < sc.l.length := by omega
    refine rowFl u2 hro2 h32' (by rw [List.length_map]; exact hj1) (Fr.refl _) (fun x hx => ?_) (by rw [List.length_map]; exact hn44)
    have e1 : (sc.l.map (·.sum))[j]'(by rw [List.length_map]; exact hj1) = sc.l[j].sum := List.getElem_map ..
    rw [e1] at hx
    have hcm : sc.l[j] ∈ sc.l := List.getElem_mem hj1
    refine sumCopy (hs32' _ hcm) hx fun g31 w31 hf31 hb31 hg31 => ?_
    refine ldR0 hb31 (by rw [u8s_length, hs32' _ hcm]) ?_
    refine ((hu2.other hf31).unpin (hs32' _ hcm) hPB2).mono ?_
    rintro r33 w34 ⟨rfl, h34, s34⟩
    rw [unpin_none hLk.nd hcm (hLk.cnt _ hcm)] at h34 ⊢
    refine bF rfl ?_
    rw [i64w (n := (j : Int) + 1) (by omega) (by omega)]
    exact ⟨⟨j + 1, by omega, rfl, h34, (hst2.fr hf31).trans s34⟩, by omega⟩
  · exact awake11 hd hu2.fr
end Go.Proofs.YtkaombhkepopgaaDoor
namespace Go.Proofs.YtkaombhkepopgaaDoor
open Go.RowKit Go.Fl Go.ChangeShapes Go.WideShapes Go.ChangeAt

/-- A call that came in. -/
abbrev DE : Type := y_flumelaw11_Do × List UInt8 × List UInt8 × List UInt8
structure DEIn (w : World) (e : DE) : Prop where
  n : I64 e.1.2.1
  b : Bs w e.1.2.2.1 e.2.1
  bl : e.2.1.length ≤ reachBytes
  r : RcIn w e.1.2.2.2.1 e.2.2.1 e.2.2.2
  rl : e.2.2.2.length ≤ reachBytes
abbrev deC (e : DE) : List Value := (Kd.av k_flumelaw11_Do e.1).cells
theorem deC_eq (e : DE) : deC e = .int .i64 e.1.1 :: .int .i64 e.1.2.1 :: slV e.1.2.2.1 :: rcL e.1.2.2.2.1 [] := by
  simp [deC, Kd.av, AV.cells, Value.cells, rcL]
theorem deC_len (e : DE) : (deC e).length = 38 := by rw [deC_eq]; simp [rcL_length]
section
variable {H : Type} {enc : TypeId × Value → H} {w : World} {fuel : Nat} {cs : List Value} {x : DataW H × List MemPlace}
theorem de_of_cellsW (h : DataW.trod enc Tryd.prog w 0 (fun _ => true) true fuel t_flumelaw11_Do cs = some x) (hw : ∀ n ∈ x.1.weights Tryd.prog t_flumelaw11_Do, n ≤ reachBytes) : ∃ e : DE, cs = deC e ∧ DEIn w e := by
  obtain ⟨xs, n, rfl, rfl, hl, hxl, hf⟩ := DataW.trod_struct u_flumelaw11_Do h
  have c1 : Tryd.prog.cellsOf t_int = 1 := by kernel_rfl
  have c2 : Tryd.prog.cellsOf t_s_uint8 = 1 := by kernel_rfl
  have c35 : Tryd.prog.cellsOf t_api_Record = 35 := by kernel_rfl
  have c38 : Tryd.prog.cellsOf t_flumelaw11_Do = 38 := by kernel_rfl
  have hxl : xs.length = 4 := hxl
  rw [c38] at hl
  have f0 := hf 0 _ rfl
  have f1 := hf 1 _ rfl
  have f2 := hf 2 _ rfl
  have f3 := hf 3 _ rfl
  rw [List.getElem?_eq_getElem (by omega)] at f0 f1 f2 f3
  have hw' : ∀ n ∈ DataW.weightsEach Tryd.prog [t_int, t_int, t_s_uint8, t_api_Record] (xs.map (·.1)), n ≤ reachBytes := fun n hn => hw n (by
    unfold DataW.weights
    rw [u_flumelaw11_Do]
    exact hn)
  obtain ⟨k0, h0, b0⟩ := int_of_cells u_int f0
  obtain ⟨k1, h1, b1⟩ := int_of_cells u_int f1
  obtain ⟨sl, l, h2, hB, hbw⟩ := bytes_of_cellsW f2
  obtain ⟨p, d, m, h3, hR, hm⟩ := rec_of_cellsW f3 fun n hn => hw' n (DataW.weights_mem_each (j := 3) (t := t_api_Record) (d := xs[3].1) rfl (by rw [List.getElem?_map, List.getElem?_eq_getElem (by omega)]; rfl) n hn)
  have h0' : (cs.drop 0).take 1 = [.int .i64 k0] := (congrArg (fun n => (cs.drop 0).take n) c1).symm.trans h0
  have h1' : (cs.drop 1).take 1 = [.int .i64 k1] := (congrArg (fun n => (cs.drop 1).take n) c1).symm.trans h1
  have h2' : (cs.drop 2).take 1 = [slV sl] := (congrArg (fun n => (cs.drop 2).take n) c2).symm.trans h2
  have h3' : (cs.drop 3).take 35 = rcL p [] := (congrArg (fun n => (cs.drop 3).take n) c35).symm.trans h3
  refine ⟨((k0, k1, sl, p, ()), l, d, m), ?_, ⟨b1, hB, hbw fun n hn => hw' n (DataW.weights_mem_each (j := 2) (t := t_s_uint8) (d := xs[2].1) rfl (by rw [List.getElem?_map, List.getElem?_eq_getElem (by omega)]; rfl) n hn), hR, hm⟩⟩
  have e0 := take1 h0'
  have e3 : cs.drop 3 = rcL p [] := by
    have := List.take_append_drop 35 (cs.drop 3)
    rw [h3', List.drop_drop, List.drop_of_length_le (by omega), List.append_nil] at this
    exact this.symm
  rw [List.drop_zero] at e0
  rw [deC_eq, e0, take1 h1', take1 h2', e3]
end
set_option maxRecDepth 100000 in
theorem des_in {H : Type} {enc : TypeId × Value → H} {w : World} {base : Nat} {v : Value} {dd : DataW H} {ps : List MemPlace} (hv : Value.okWide Tryd.prog w .any base t_s_flumelaw11_Do v) (h : DataW.Trod enc Tryd.prog w 0 (fun _ => true) true t_s_flumelaw11_Do v dd ps) (hw : ∀ n ∈ dd.weights Tryd.prog t_s_flumelaw11_Do, n ≤ reachBytes) :
    ∃ (s : Sl) (xs : List DE), v = slV s ∧ s.n = xs.length ∧ Rd w s.a (xs.flatMap deC) ∧ ∀ e ∈ xs, DEIn w e := by
  obtain ⟨a, len, cap, rfl⟩ := okWide_slice u_s_flumelaw11_Do hv
  obtain ⟨fuel, hf⟩ := h
  obtain ⟨s, xs, hcs, h1, h2, h3, _⟩ := rowInW u_s_flumelaw11_Do (sz := 38) (by kernel_rfl) (f := deC) (R := fun e => DEIn w e) (fun h hw => de_of_cellsW h hw) deC_len hf hw
  refine ⟨s, xs, ?_, h1, h2, h3⟩
  have : ([Value.slice a len cap] : List Value) = [slV s] := hcs
  injection this
section
variable {w : World} {s : Sl} {xs : List DE}
theorem short11_ok (hl : s.n = xs.length) (hr : Rd w s.a (xs.flatMap deC)) : cl Tryd.prog n_flumelaw11_short #[.slice s.a s.n s.c] .B w fun (r : Bool) w' => (r = true → xs.length ≤ 60) ∧ Fr w w' := by
  refine flumelaw11_short.cl (p0 := s) ?_
  unfold flumelaw11_short
  refine lpI (fun (s' : Int × Int × Unit) w' => Fr w w' ∧ ∃ i : Nat, i ≤ xs.length ∧ s'.2.1 = i ∧ i ≤ 61) (fun s' _ => (s.n - s'.2.1).toNat) ⟨Fr.refl w, 0, Nat.zero_le _, rfl, by omega⟩ ?_
  rintro D ⟨n, i', ⟨⟩⟩ v ⟨hfv, i, hi, rfl, hi2⟩
  dsimp only
  have fin : bif decide ((s.n : Int) ≤ 60) then ((decide (n ≤ 16384) = true → xs.length ≤ 60) ∧ Fr w v) else ((false = true → xs.length ≤ 60) ∧ Fr w v) := by
    refine bD ?_ ?_ <;> intro h
    · exact ⟨fun _ => by omega, hfv⟩
    · exact ⟨fun h => (by cases h), hfv⟩
  refine bD ?_ ?_ <;> intro hlt
  · refine bD ?_ ?_ <;> intro h120
    · refine bD ?_ ?_ <;> intro hn
      · have hi1 : i < xs.length := by omega
        have hd := deC_eq xs[i]
        refine ixE (f := deC) (sz := 38) deC_len (hr.below hfv) hl hi1 (by decide) fun a ha => ?_
        refine ⟨xs[i].1.2.2.1, ha 2 _ (by rw [hd]; rfl), ?_⟩
        refine ixE (f := deC) (sz := 38) deC_len (hr.below hfv) hl hi1 (by decide) fun a ha => ?_
        rw [add_add]
        refine ⟨xs[i].1.2.2.2.1.2.2.2.1, ha 37 _ (by
          have := rc_c34 xs[i].1.2.2.2.1
          rw [List.getElem?_toArray] at this
          rw [hd]
          exact this), ?_⟩
        intro m
        rw [i64w (n := (i : Int) + 1) (by omega) (by omega)]
        exact ⟨⟨hfv.trans (Fr.drewN v m), i + 1, by omega, rfl, by omega⟩, by omega⟩
      · exact fin
    · exact fin
  · exact fin
end
theorem takeS_len {e : De} {s : Sto} {i k z : Int} {d l : List UInt8} (h : e.list.length ≤ 8) : (takeS e s i k z d l).1.list.length ≤ 8 ∧ (takeS e s i k z d l).1.done = e.done := by
  unfold takeS
  split
  · exact ⟨h, rfl⟩
  · rename_i h1
    split
    · exact ⟨h, rfl⟩
    · split
      · exact ⟨h, rfl⟩
      · refine ⟨?_, rfl⟩
        dsimp only
        split
        · rw [List.length_append, List.length_singleton]; omega
        · rw [List.length_set]; exact h
theorem DedupBounds_ok {w : World} {p0 p1 : Int} {s : Sl} {xs : List DE} (hd : Dig w) (hl : s.n = xs.length) (hr : Rd w s.a (xs.flatMap deC)) (hx : ∀ e ∈ xs, DEIn w e) :
    cl Tryd.prog n_flumelaw11_DedupBounds #[.int .i64 p0, .int .i64 p1, .slice s.a s.n s.c] .B w fun (r : Bool) w' => r = true ∧ Fr w w' := by
  refine flumelaw11_DedupBounds.cl (p0 := p0) (p1 := p1) (p2 := s) ?_
  unfold flumelaw11_DedupBounds
  refine (short11_ok hl hr).mono ?_
  rintro ok w2 ⟨hsh, hf2⟩
  refine bB ?_ ?_ <;> intro hok
  · exact awake11 hd hf2
  have hx60 := hsh (by simpa using hok)
  refine (two_ok (hd.fr hf2)).mono ?_
  rintro r13 w14 ⟨Z, ga, gb, ge, gd, ma, ra, mb, rb, rfl, _, hT⟩
  refine lpI (fun (s' : Int × Unit) v => ∃ (i : Nat) (Z : Nat → Prop) (sa sb : Sto) (e : En) (d : De), i ≤ xs.length ∧ s'.1 = i ∧ e.done ≤ 10 * i ∧ e.list.length ≤ 8 ∧ PB sa i ∧ d.done ≤ i ∧ d.list.length ≤ 8 ∧ Two w2 v Z ga gb ge gd sa sb e d) (fun s' _ => (s.n - s'.1).toNat)
    ⟨0, Z, _, _, _, _, Nat.zero_le _, rfl, Nat.zero_le _, by simp, PB.nil _ _ _, Nat.zero_le _, by simp, hT⟩ ?_
  rintro D ⟨i', ⟨⟩⟩ v ⟨i, Z, sa, sb, e, d, hi, rfl, hed, hel, hP, hdd, hdl, hv⟩
  dsimp -zeta only at hi ⊢
  refine bD ?_ ?_ <;> intro hlt
  · have hi1 : i < xs.length := by omega
    have hin := hx _ (List.getElem_mem hi1)
    obtain ⟨x, hxe⟩ : ∃ x : DE, x = xs[i] := ⟨_, rfl⟩
    rw [← hxe] at hin
    refine ixE (f := deC) (sz := 38) deC_len ((hr.below hf2).below hv.fr) hl hi1 (by decide) fun a11 ha => ?_
    rw [← hxe] at ha
    refine ldAt k_flumelaw11_Do x.1 rfl ha ?_
    refine nwI fun a13 w14 ha13 hs14 hf14 hb14 _ => ?_
    have hone : ∀ u ∈ x.1.2.2.2.1.2.2.1.1, u.oneCell' = true := u8s_hone _ hin.r.sum
    refine stW (Kd.av k_flumelaw11_Do x.1) (by
      simp only [Kd.av, AV.okSt, Bool.and_eq_true, List.all_eq_true]
      exact ⟨rfl, rfl, rfl, ⟨rfl, rfl, hone, rfl, trivial⟩, trivial⟩) hb14 (by rfl) fun w15 hb15 g15 s15 => ?_
    have hf15 : Fr v w15 := Mv.on (F := fun k => k = a13) hf14 (Mv.of_grown g15 rfl) fun j hj => by omega
    have hv15 := hv.other hf15
    have hd38 := deC_eq x
    have hbl : x.2.1.length ≤ 140737488351232 := hin.bl
    have hrl : x.2.2.2.length ≤ 140737488351232 := hin.rl
    intro j2
    have J2 : ∀ (u : World) (Z : Nat → Prop) (sa sb : Sto) (e : En) (d : De), e.done ≤ 10 * (i + 1) → e.list.length ≤ 8 → PB sa (i + 1) → d.done ≤ i + 1 → d.list.length ≤ 8 → Two w2 u Z ga gb ge gd sa sb e d → j2 u := by
      intro u Z sa sb e d h1 h2 h3 h4 h5 h6
      unfold j2
      refine h6.waiting.mono ?_
      rintro _ _ ⟨rfl, rfl⟩
      refine bN (by omega) ?_
      refine h6.held.mono ?_
      rintro _ _ ⟨rfl, rfl⟩
      refine bN (by omega) ?_
      refine h6.waiting.mono ?_
      rintro _ _ ⟨rfl, rfl⟩
      refine bN (by omega) ?_
      have := h6.lm
      refine h6.len.mono ?_
      rintro _ _ ⟨rfl, rfl⟩
      refine bN (by omega) ?_
      rw [i64w (n := (i : Int) + 1) (by omega) (by omega)]
      exact ⟨⟨i + 1, Z, sa, sb, e, d, by omega, rfl, h1, h2, h3, h4, h5, h6⟩, by omega⟩
    clear_value j2
    have ldN : ∀ {u : World} {K : Int → Prop}, Fr w15 u → K x.1.2.1 → ld (.I .i64) u ((⟨a13, 0, none⟩ : Addr).add 1) K := fun hf hk => by
      rw [addOff]
      exact ldI0 (n := x.1.2.1) (hf.heap hb15) rfl hk
    refine ldI0 (n := x.1.1) hb15 rfl ?_
    refine bE ?_ ?_ <;> intro _
    · refine ldN (Fr.refl _) ?_
      refine (hv15.miss (by omega) hel).mono ?_
      rintro r18 w19 ⟨_, hf19⟩
      exact J2 w19 Z sa sb e d (by omega) hel (hP.mono (by omega)) (by omega) hdl (hv15.other hf19)
    refine bE ?_ ?_ <;> intro _
    · refine ldN (Fr.refl _) ?_
      refine (hv15.done (by omega) hel (hP.mono (by omega))).mono ?_
      rintro r21 w22 (⟨_, _, hf22⟩ | ⟨k, hk, _, _, Z2, h2, _⟩)
      · exact J2 w22 Z sa sb e d (by omega) hel (hP.mono (by omega)) (by omega) hdl (hv15.other hf22)
      · exact J2 w22 Z2 _ sb _ d (by dsimp only; omega) (by rw [List.length_drop]; omega) (PB.lets _ (hP.mono (by omega))) (by omega) hdl h2
    intro j1
    have J1 : ∀ y : Bool, j1 y w15 := by
      intro y
      unfold j1
      refine bB ?_ ?_ <;> intro _
      · refine ldN (Fr.refl _) ?_
        rw [addOff]
        refine ld_all k_api_Record x.1.2.2.2.1 rfl (pre := [.int .i64 x.1.1, .int .i64 x.1.2.1, slV x.1.2.2.1]) (post := []) (t := t_flumelaw11_Do) (f := (0, 0)) (by rw [hb15, rc_av]; exact congrArg (fun c : List Value => some (Obj.cells c.toArray t_flumelaw11_Do (0, 0))) (by rw [show (Kd.av k_flumelaw11_Do x.1).cells = deC x from rfl, hd38]; simp)) ?_
        refine (hv15.take hin.r.sum ((hin.r.data.fr hf2).fr hv15.fr) hrl (by omega) hdl hin.n.2).mono ?_
        rintro r42 w43 ⟨_, Z2, h2, _⟩
        obtain ⟨t1, t2⟩ := takeS_len (s := sb) (i := x.1.2.1) (k := x.1.2.2.2.1.1) (z := x.1.2.2.2.1.2.1) (d := x.2.2.1) (l := x.2.2.2) hdl
        exact J2 w43 Z2 sa _ e _ (by omega) hel (hP.mono (by omega)) (by omega) t1 h2
      refine bE ?_ ?_ <;> intro _
      · refine (hv15.pop (by omega) hdl).mono ?_
        rintro r44 w45 ⟨_, _, h2, _⟩
        refine J2 w45 Z sa sb e _ (by omega) hel (hP.mono (by omega)) ?_ ?_ h2
        · unfold popS; split
          · dsimp only; omega
          · omega
        · unfold popS; split
          · rw [List.length_drop]; omega
          · exact hdl
      rw [addOff]
      refine ldL0 (s := x.1.2.2.1) hb15 rfl ?_
      refine (hv15.add (Cb.old (hin.b.fr hf2) hv15.fr hv15.base) hbl (by omega) hel (hP.mono (by omega))).mono ?_
      rintro ⟨i47, p47, r47⟩ w48 h48
      have hone47 : (∀ v ∈ p47.2.2.1.1, v.oneCell' = true) := by
        rcases h48 with ⟨⟨_, h⟩ | ⟨_, _, h⟩, _⟩ | ⟨_, _, _, _, _, Z2, hM, _, _⟩
        · injection h with _ h; injection h with h _; rw [h]; exact rc0_one
        · injection h with _ h; injection h with h _; rw [h]; exact rc0_one
        · exact u8s_hone _ hM.2.1
      refine newR p47 hone47 fun a49 w51 ha49 hf51 hb51 => ?_
      rcases h48 with ⟨hbad, hf48⟩ | ⟨q1, q2, q3, q4, q5, Z2, hM, h2, s2⟩
      · have hne : r47.1 ≠ 0 := by
          rcases hbad with ⟨_, h⟩ | ⟨_, _, h⟩
          · injection h with _ h; injection h with _ h; rw [h]; decide
          · injection h with _ h; injection h with _ h; rw [h]; decide
        refine bF (beq_eq_false_iff_ne.2 hne) ?_
        exact J2 w51 Z sa sb e d (by omega) hel (hP.mono (by omega)) (by omega) hdl (hv15.other (hf48.trans hf51))
      · dsimp -zeta only at q4 q5 hM ⊢
        refine bT (by rw [q5]; rfl) ?_
        refine ldR hb51 ?_
        have h2' := h2.other hf51
        have hel' : (addS e sa x.2.1).1.list.length ≤ 8 := by
          show (e.list ++ [_]).length ≤ 8
          rw [List.length_append, List.length_singleton]; omega
        obtain ⟨l47, hB47, hl47⟩ : ∃ l47, Bs w48 p47.2.2.2.1 l47 ∧ l47.length ≤ 256 := by
          have h3 := hM.2.2
          split at h3
          · exact ⟨[], by rw [h3.2]; exact Bs.nil _ _, by simp⟩
          · split at h3
            · exact ⟨_, h3.2.bs, by omega⟩
            · exact ⟨_, h3.2.bs, q3⟩
        refine (h2'.take hM.2.1 (hB47.fr hf51) (by omega) (by omega) hdl (by rw [q4]; omega)).mono ?_
        rintro r53 w54 ⟨_, Z3, h3, _⟩
        obtain ⟨t1, t2⟩ := takeS_len (s := sb) (i := i47) (k := p47.1) (z := p47.2.1) (d := dig x.2.1) (l := l47) hdl
        exact J2 w54 Z3 _ _ _ _ (by show e.done ≤ _; omega) hel' (hP.add e _) (by omega) t1 h3
    clear_value j1
    refine bE ?_ ?_ <;> intro _
    · exact J1 _
    · exact J1 _
  · exact awake11 hd (hf2.trans hv.fr)
end Go.Proofs.YtkaombhkepopgaaDoor
namespace Go.Proofs.YtkaombhkepopgaaDoor
open Go.RowKit Go.Fl

/-- Two records alike. -/
theorem Same_ok {p q : RecT} {d d' l l' : List UInt8} {w : World} (hp : p.2.2.1.1 = u8s d) (hq : q.2.2.1.1 = u8s d') (hl : Bs w p.2.2.2.1 l) (hl' : Bs w q.2.2.2.1 l') :
    cl Tryd.prog n_flumeref10_Same #[rcV p, rcV q] .B w fun (r : Bool) w' => r = decide (p.1 = q.1 ∧ p.2.1 = q.2.1 ∧ d = d' ∧ l = l') ∧ Fr w w' := by
  refine flumeref10_Same.cl (p0 := p) (p1 := q) ?_
  unfold flumeref10_Same
  rw [rcL_nil, rcL_nil]
  have hdl : d.length = 32 := by have := p.2.2.1.2; rw [hp, u8s_length] at this; exact this
  have hdl' : d'.length = 32 := by have := q.2.2.1.2; rw [hq, u8s_length] at this; exact this
  refine nwI fun a1 w2 ha hs2 hf2 hb1 _ => ?_
  refine nwI fun a3 w4 ha3 hs4 hf4 hb3 _ => ?_
  have hf4' := hf2.trans hf4
  have hb1 := hf4.heap hb1
  have c0 : ∀ p : RecT, (rcL p []).toArray[0]? = some (.int .i64 p.1) := fun _ => rfl
  have c1 : ∀ p : RecT, (rcL p []).toArray[1]? = some (.int .i64 p.2.1) := fun _ => rfl
  simp only [addOff, Nat.zero_add]
  have no : ∀ {P : Prop} [Decidable P], ¬P → false = decide P ∧ Fr w w4 := fun h => ⟨(decide_eq_false h).symm, hf4'⟩
  refine ldI0 hb1 (c0 p) (ldI0 hb3 (c0 q) (bE ?_ ?_)) <;> intro h0
  rotate_left
  · exact no fun h => h0 h.1
  refine ldI0 hb1 (c1 p) (ldI0 hb3 (c1 q) (bE ?_ ?_)) <;> intro h1
  rotate_left
  · exact no fun h => h1 h.2.1
  have row : ∀ {p : RecT} {d : List UInt8}, p.2.2.1.1 = u8s d → ((rcL p []).drop 2).take 32 = u8s d := fun {p d} hp => by
    rw [← hp]; show (p.2.2.1.1 ++ [slV p.2.2.2.1]).take 32 = _; rw [List.take_left' p.2.2.1.2]
  refine ldRow (vs := u8s d) hb1 (row hp) (by rw [u8s_length, hdl]) (ldRow (vs := u8s d') hb3 (row hq) (by rw [u8s_length, hdl']) ?_)
  refine qnEq hdl hdl' ?_
  refine bD ?_ ?_ <;> intro h2
  rotate_left
  · exact no fun h => h2 h.2.2.1
  refine ldL0 (s := p.2.2.2.1) hb1 (rc_c34 p) (bstrI (hl.fr hf4').rd hl.len.symm (Fr.refl _) (ldL0 (s := q.2.2.2.1) hb3 (rc_c34 q) (bstrI (hl'.fr hf4').rd hl'.len.symm (Fr.refl _) ?_)))
  rw [beqB_eq]
  refine ⟨?_, hf4'⟩
  rw [Bool.eq_iff_iff, decide_eq_true_iff, decide_eq_true_iff]
  exact ⟨fun h => ⟨h0, h1, h2, h⟩, fun h => h.2.2.2⟩
end Go.Proofs.YtkaombhkepopgaaDoor
