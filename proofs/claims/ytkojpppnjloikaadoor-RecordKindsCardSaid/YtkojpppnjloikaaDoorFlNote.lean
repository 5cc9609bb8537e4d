/- Layer 10: a note in memory, and which may be. No program is named here. -/
import Derived.Test.YtkojpppnjloikaaDoorFlRec
import Derived.Test.YtkojpppnjloikaaDoorFlMap
import Derived.Test.YtkojpppnjloikaaDoorFlNum
namespace Go.Fl

abbrev NtT := Int × Int × Int × Int × Int × RecT × Unit
abbrev n5 (p : NtT) : List Value := [.int .i64 p.1, .int .i64 p.2.1, .int .i64 p.2.2.1, .int .i64 p.2.2.2.1, .int .i64 p.2.2.2.2.1]
/-- A note's cells. -/
def ntL (p : NtT) : List Value := n5 p ++ rcL p.2.2.2.2.2.1 []
theorem ntL_eq (p : NtT) : (([.int .i64 p.1, .int .i64 p.2.1, .int .i64 p.2.2.1, .int .i64 p.2.2.2.1, .int .i64 p.2.2.2.2.1] : List Value) ++ ((([.int .i64 p.2.2.2.2.2.1.1, .int .i64 p.2.2.2.2.2.1.2.1] : List Value) ++ (p.2.2.2.2.2.1.2.2.1.1 ++ ([.slice p.2.2.2.2.2.1.2.2.2.1.a p.2.2.2.2.2.1.2.2.2.1.n p.2.2.2.2.2.1.2.2.2.1.c] : List Value))) ++ ([] : List Value))) = ntL p := by
  rw [List.append_nil]; rfl
theorem ntL_length (p : NtT) : (ntL p).length = 40 := by simp [ntL, rcL_length]
theorem nzS {a : Addr} {K : Addr → Prop} (h : K a) : nz (some a) K := h
theorem rdAt {w : World} {g i n : Nat} {cs vs : List Value} {t : TypeId} {f : Nat × Nat} (h : w.heap[g]? = some (.cells cs.toArray t f)) (hv : (cs.drop i).take n = vs) : Rd w (some ⟨g, i, none⟩) vs := by
  intro j u hu
  refine ⟨_, rfl, ?_⟩
  rw [addOff, cell_of_row w g (i + j) cs.toArray t f h]
  have : ((cs.drop i).take n)[j]? = some u := by rw [hv]; exact hu
  rw [List.getElem?_take] at this
  split at this
  · rw [List.getElem?_drop] at this; simpa using this
  · cases this
theorem slA {P : Program} {t e : TypeId} {n : Nat} (ht : P.underlying t = some (.array n e)) (hs : ∀ w, (sizeOf e).run P w = .ok 1 w) {a : Addr} {w : World} {K : Sl → Prop} (k : K ⟨some a, n, n⟩) : qn P (Instr.sliceAt t (.pointer (some a)) none none none) .L w K :=
  ⟨_, fun w' _ => by
    simp [Instr.sliceAt, Instr.sliceBounds, run_underlying ht, Instr.sureAddr, hs, Addr.add]
    rfl, k⟩
/-- A pointer of a known block is read. -/
theorem ixP {w : World} {g n : Nat} {cs : List Value} {t : TypeId} {f : Nat × Nat} {i : Int} {v : Option Addr} {K : Option Addr → Prop} (h : w.heap[g]? = some (.cells cs.toArray t f)) (h0 : 0 ≤ i) (hn : i < n) (hi : cs[i.toNat]? = some (.pointer v)) (k : K v) :
    ixa (some ⟨g, 0, none⟩) n i 1 fun a => ld .P w a K := by
  refine ⟨h0, hn, ?_⟩
  show ld .P w (atOff ⟨g, 0, none⟩ i 1) K
  rw [atH]
  exact ldP0 h (by simpa using hi) k

/-- A note is stored into a block. -/
theorem stNote {w : World} {g : Nat} {q : NtT} {t : TypeId} (hg : w.heap[g]? = some (.cells (ntL q).toArray t (0, 0))) (p : NtT) (hone : ∀ v ∈ p.2.2.2.2.2.1.2.2.1.1, v.oneCell' = true) {K : World → Prop}
    (hk : ∀ w', w'.heap[g]? = some (.cells (ntL p).toArray t (0, 0)) → w.grownBy w' (some g) → w'.heap.size = w.heap.size → K w') :
    st1 w ⟨g, 0, none⟩ (.int .i64 p.1) fun w1 => st1 w1 ((⟨g, 0, none⟩ : Addr).add 1) (.int .i64 p.2.1) fun w2 => st1 w2 (((⟨g, 0, none⟩ : Addr).add 1).add 1) (.int .i64 p.2.2.1) fun w3 => st1 w3 ((((⟨g, 0, none⟩ : Addr).add 1).add 1).add 1) (.int .i64 p.2.2.2.1) fun w4 => st1 w4 (((((⟨g, 0, none⟩ : Addr).add 1).add 1).add 1).add 1) (.int .i64 p.2.2.2.2.1) fun w5 =>
      st1 w5 ((((((⟨g, 0, none⟩ : Addr).add 1).add 1).add 1).add 1).add 1) (.int .i64 p.2.2.2.2.2.1.1) fun w6 => st1 w6 (((((((⟨g, 0, none⟩ : Addr).add 1).add 1).add 1).add 1).add 1).add 1) (.int .i64 p.2.2.2.2.2.1.2.1) fun w7 => stL ((((((((⟨g, 0, none⟩ : Addr).add 1).add 1).add 1).add 1).add 1).add 1).add 1) w7 0 p.2.2.2.2.2.1.2.2.1.1 fun w8 => st1 w8 (((((((((⟨g, 0, none⟩ : Addr).add 1).add 1).add 1).add 1).add 1).add 1).add 1).add 32) (.slice p.2.2.2.2.2.1.2.2.2.1.a p.2.2.2.2.2.1.2.2.2.1.n p.2.2.2.2.2.1.2.2.2.1.c) K := by
  refine st0 hg (by simp [ntL_length]) fun w1 h1 g1 s1 => ?_
  rw [addOff]
  have k1 : w1.heap[g]? = some (.cells (((.int .i64 p.1 :: (ntL q).tail) : List Value)).toArray t (0, 0)) := by rw [h1]; simp [ntL]
  refine st0 k1 (by simp [ntL_length]) fun w2 h2 g2 s2 => ?_
  rw [addOff]
  have k2 : w2.heap[g]? = some (.cells (((.int .i64 p.1 :: .int .i64 p.2.1 :: (ntL q).tail.tail) : List Value)).toArray t (0, 0)) := by rw [h2]; simp [ntL]
  refine st0 k2 (by simp [ntL_length]) fun w3 h3 g3 s3 => ?_
  rw [addOff]
  have k3 : w3.heap[g]? = some (.cells (((.int .i64 p.1 :: .int .i64 p.2.1 :: .int .i64 p.2.2.1 :: (ntL q).tail.tail.tail) : List Value)).toArray t (0, 0)) := by rw [h3]; simp [ntL]
  refine st0 k3 (by simp [ntL_length]) fun w4 h4 g4 s4 => ?_
  rw [addOff]
  have k4 : w4.heap[g]? = some (.cells (((.int .i64 p.1 :: .int .i64 p.2.1 :: .int .i64 p.2.2.1 :: .int .i64 p.2.2.2.1 :: (ntL q).tail.tail.tail.tail) : List Value)).toArray t (0, 0)) := by rw [h4]; simp [ntL]
  refine st0 k4 (by simp [ntL_length]) fun w5 h5 g5 s5 => ?_
  rw [addOff]
  have k5 : w5.heap[g]? = some (.cells (n5 p ++ rcL q.2.2.2.2.2.1 []).toArray t (0, 0)) := by rw [h5]; simp [ntL]
  refine stRec (pre := n5 p) (post := []) (q := q.2.2.2.2.2.1) k5 p.2.2.2.2.2.1 hone fun w' hb hg' hs' => hk w' hb (((((g1.trans g2).trans g3).trans g4).trans g5).trans hg') (by omega)
abbrev ntK : Kd := .pair (.I .i64) (.pair (.I .i64) (.pair (.I .i64) (.pair (.I .i64) (.pair (.I .i64) (.pair (.pair (.I .i64) (.pair (.I .i64) (.pair (.row 32) (.pair .L .nil)))) .nil)))))
/-- A note is read. -/
theorem ldNote {w : World} {g : Nat} {p : NtT} {t : TypeId} {f : Nat × Nat} (hg : w.heap[g]? = some (.cells (ntL p).toArray t f)) {K : NtT → Prop} (hk : K p) : ld ntK w ⟨g, 0, none⟩ K := by
  obtain ⟨k, a, b, c, d, r, ⟨⟩⟩ := p
  refine ⟨k, ?_, a, ?_, b, ?_, c, ?_, d, ?_, ?_⟩
  · rw [cell_of_row w g _ _ t f hg]; rfl
  · show w.cell? ((⟨g, 0, none⟩ : Addr).add 1) = _
    rw [addOff, cell_of_row w g _ _ t f hg]; rfl
  · show w.cell? (((⟨g, 0, none⟩ : Addr).add 1).add 1) = _
    rw [addOff, addOff, cell_of_row w g _ _ t f hg]; rfl
  · show w.cell? ((((⟨g, 0, none⟩ : Addr).add 1).add 1).add 1) = _
    rw [addOff, addOff, addOff, cell_of_row w g _ _ t f hg]; rfl
  · show w.cell? (((((⟨g, 0, none⟩ : Addr).add 1).add 1).add 1).add 1) = _
    rw [addOff, addOff, addOff, addOff, cell_of_row w g _ _ t f hg]; rfl
  · show ld _ w ((((((⟨g, 0, none⟩ : Addr).add 1).add 1).add 1).add 1).add 1) _
    rw [addOff, addOff, addOff, addOff, addOff]
    exact ldRec (pre := n5 (k, a, b, c, d, r, ())) (post := []) hg (K := fun r => K (k, a, b, c, d, r, ())) hk

/-- Which numbers a note of a kind has. -/
def offs (k : Int) : List Nat := if k = 1 then [1, 2, 3] else if k = 2 ∨ k = 5 ∨ k = 6 then [1, 4] else if k = 3 ∨ k = 4 then [1] else []
theorem offs_mem {k : Int} {o : Nat} (h : o ∈ offs k) : o = 1 ∨ o = 2 ∨ o = 3 ∨ o = 4 := by
  unfold offs at h
  split at h
  · simp at h; omega
  · split at h
    · simp at h; omega
    · split at h
      · simp at h; omega
      · simp at h
theorem offs_len (k : Int) : (offs k).length ≤ 3 := by
  unfold offs
  repeat (split; simp)
  simp
/-- A note's numbers. -/
def nv (p : NtT) (o : Nat) : Int := ([p.1, p.2.1, p.2.2.1, p.2.2.2.1, p.2.2.2.2.1] : List Int).getD o 0
theorem ntL_at (p : NtT) {o : Nat} (h : o < 5) : (ntL p).toArray[o]? = some (.int .i64 (nv p o)) := by
  obtain rfl | rfl | rfl | rfl | rfl : o = 0 ∨ o = 1 ∨ o = 2 ∨ o = 3 ∨ o = 4 := by omega
  all_goals rfl
/-- A note with some of the numbers alone. -/
def bareN (p : NtT) (os : List Nat) : NtT := (p.1, if 1 ∈ os then p.2.1 else 0, if 2 ∈ os then p.2.2.1 else 0, if 3 ∈ os then p.2.2.2.1 else 0, if 4 ∈ os then p.2.2.2.2.1 else 0, p.2.2.2.2.2.1, ())
theorem bareN_set (p : NtT) (os : List Nat) {o : Nat} (h : o = 1 ∨ o = 2 ∨ o = 3 ∨ o = 4) : (ntL (bareN p os)).toArray.setIfInBounds o (.int .i64 (nv p o)) = (ntL (bareN p (os ++ [o]))).toArray := by
  rcases h with rfl | rfl | rfl | rfl <;> simp [ntL, bareN, nv]
/-- A row of pointers to a block's cells. -/
def Pts (w : World) (base g : Nat) (os : List Nat) (r : Sl) : Prop := r.n = os.length ∧ (os ≠ [] → ∃ b t, r.a = some ⟨b, 0, none⟩ ∧ base ≤ b ∧ w.heap[b]? = some (.cells (os.map fun o => Value.pointer (some ⟨g, o, none⟩)).toArray t (0, 0)))
theorem Pts.fr {w w' : World} {base g : Nat} {os : List Nat} {r : Sl} (h : Pts w base g os r) (hf : Fr w w') : Pts w' base g os r :=
  ⟨h.1, fun hne => by obtain ⟨b, t, ha, hb, hh⟩ := h.2 hne; exact ⟨b, t, ha, hb, hf.heap hh⟩⟩
theorem Pts.kp {w w' : World} {base g c : Nat} {os : List Nat} {r : Sl} (h : Pts w base g os r) (hg : w.grownBy w' (some c)) (hc : c < base) : Pts w' base g os r :=
  ⟨h.1, fun hne => by
    obtain ⟨b, t, ha, hb, hh⟩ := h.2 hne
    exact ⟨b, t, ha, hb, (hg.block b (Array.getElem?_eq_some_iff.1 hh).1 (by simp; omega)).trans hh⟩⟩
theorem Pts.ix {w : World} {base g : Nat} {os : List Nat} {r : Sl} (h : Pts w base g os r) {i : Nat} (hi : i < os.length) {K : Option Addr → Prop} (k : K (some ⟨g, os[i], none⟩)) : ixa r.a r.n (i : Int) 1 fun a => ld .P w a K := by
  obtain ⟨b, t, ha, hb, hh⟩ := h.2 (by intro e; rw [e] at hi; simp at hi)
  rw [ha, h.1]
  exact ixP hh (by omega) (by omega) (by rw [Int.toNat_natCast, List.getElem?_map, List.getElem?_eq_getElem hi]; rfl) k
/-- Is the record empty? -/
def emptyR (q : RecT) (d : List UInt8) : Prop := q.1 = 0 ∧ q.2.1 = 0 ∧ d = List.replicate 32 0 ∧ q.2.2.2.1.n = 0
instance (q : RecT) (d : List UInt8) : Decidable (emptyR q d) := by unfold emptyR; infer_instance
/-- May a record be? -/
def chkS (k s : Int) (n : Nat) : Int := if ((k = 1 ∧ n = 0) ∨ (k = 2 ∧ (n : Int) = s) ∨ (k = 3 ∧ n ≤ 256)) ∧ 1 ≤ s ∧ s ≤ 256 then 0 else 100
/-- May a note be? -/
def FitP (p : NtT) (d : List UInt8) : Prop := offs p.1 ≠ [] ∧ (∀ o ∈ offs p.1, 1 ≤ nv p o ∧ nv p o ≤ 1073741824) ∧ (p.1 = 1 → p.2.2.1 ≤ 65535 ∧ p.2.2.2.1 ≤ 65535) ∧ (∀ o ∈ ([1, 2, 3, 4] : List Nat), o ∉ offs p.1 → nv p o = 0) ∧
  (p.1 ≠ 2 → emptyR p.2.2.2.2.2.1 d) ∧ (p.1 = 2 → chkS p.2.2.2.2.2.1.1 p.2.2.2.2.2.1.2.1 p.2.2.2.2.2.1.2.2.2.1.n = 0)
instance (p : NtT) (d : List UInt8) : Decidable (FitP p d) := by unfold FitP; infer_instance
def fitS (p : NtT) (d : List UInt8) : Int := if FitP p d then 0 else 100
theorem bare_same (p : NtT) (os : List Nat) : (((bareN p os).2.1 = p.2.1 ∧ (bareN p os).2.2.1 = p.2.2.1 ∧ (bareN p os).2.2.2.1 = p.2.2.2.1 ∧ (bareN p os).2.2.2.2.1 = p.2.2.2.2.1) ↔ ∀ o ∈ ([1, 2, 3, 4] : List Nat), o ∉ os → nv p o = 0) := by
  have e (x : Int) (P : Prop) [Decidable P] : ((if P then x else 0) = x) ↔ (¬P → x = 0) := by
    split
    · rename_i h; simp [h]
    · rename_i h; simp [h]; exact eq_comm
  simp only [bareN, e, List.mem_cons, List.not_mem_nil, or_false, forall_eq_or_imp, forall_eq]
  rfl
/-- A record's bytes. -/
def recB (k s : Int) (d l : List UInt8) : List UInt8 := numsB [k, s] ++ d ++ (numB l.length ++ l)
/-- A note's bytes. -/
def noteB (p : NtT) (d l : List UInt8) : List UInt8 := numB p.1.toNat ++ numsB ((offs p.1).map (nv p)) ++ (if p.1 = 2 then recB p.2.2.2.2.2.1.1 p.2.2.2.2.2.1.2.1 d l else [])
end Go.Fl
