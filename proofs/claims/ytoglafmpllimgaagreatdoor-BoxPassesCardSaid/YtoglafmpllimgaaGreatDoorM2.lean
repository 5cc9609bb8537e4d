/- Contracts and plain laws that the claims of this seat lean on, put together. -/
import Derived.Test.YtoglafmpllimgaaGreatDoorM1
import Derived.Stop.BytesEq
import Derived.MapKept
import Derived.Laws.BitsAllLaws
import Derived.Lib.AppendZerosOnto
namespace Go.Fl
open Go.RowKit

/-- What is asked of a type of keys. -/
structure KeyM (P : Program) (kt : TypeId) {κ : Type} (key : κ → Value) : Prop where
  inj : ∀ a b, key a = key b → a = b
  check : ∀ em w k, (Instr.checkKey em 10000 kt (key k)).run P w = .ok () w
  find : ∀ w k (es : List MapEntry), (∀ e ∈ es, ∃ k', e.key = key k') →
    ((Instr.findKey kt (key k) es).run P w = .ok none w ∧ ∀ e ∈ es, e.key ≠ key k) ∨ ∃ j e, (Instr.findKey kt (key k) es).run P w = .ok (some (j, e.val)) w ∧ es[j]? = some e ∧ e.key = key k
  same : ∀ k, Instr.sameBits 10000 (key k) (key k) = true

/-- Rows of bytes as keys. -/
def keyB {n : Nat} (l : {l : List UInt8 // l.length = n}) : Value := .agg (u8s l.1).toArray
/-- Integers as keys. -/
theorem keyM_int {P : Program} {t : TypeId} {q : IntKind} (ht : P.underlying t = some (.int q)) : KeyM P t (Value.int q) where
  inj a b h := by injection h
  check em w k := by rw [Instr.checkKey]; simp [run_underlying ht]
  find w k es hes := by
    have key : ∀ (es : List MapEntry) (i : Nat), (∀ e ∈ es, ∃ k', e.key = Value.int q k') →
        (Instr.findNow (.int q) (.int q k) es i = some none ∧ ∀ e ∈ es, e.key ≠ .int q k) ∨ ∃ j e, Instr.findNow (.int q) (.int q k) es i = some (some (i + j, e.val)) ∧ es[j]? = some e ∧ e.key = .int q k := by
      intro es
      induction es with
      | nil => exact fun i _ => .inl ⟨rfl, by simp⟩
      | cons e es ih =>
        intro i hall
        obtain ⟨k', hk'⟩ := hall e (by simp)
        by_cases h : k = k'
        · exact .inr ⟨0, e, by simp [Instr.findNow, Instr.sameNow, hk', h], rfl, by rw [hk', h]⟩
        · have hb : (k == k') = false := by simpa using h
          rcases ih (i + 1) (fun y hy => hall y (by simp [hy])) with ⟨h1, h2⟩ | ⟨j, e', h1, h2, h3⟩
          · refine .inl ⟨by simp only [Instr.findNow, Instr.sameNow, hk', if_true, hb]; exact h1, fun y hy => ?_⟩
            rcases List.mem_cons.1 hy with rfl | hy
            · rw [hk']; intro e; injection e with _ e; exact h e.symm
            · exact h2 y hy
          · exact .inr ⟨j + 1, e', by simp only [Instr.findNow, Instr.sameNow, hk', if_true, hb]; rw [h1]; simp [Nat.add_assoc, Nat.add_comm 1 j], by simpa using h2, h3⟩
    rcases key es 0 hes with ⟨h1, h2⟩ | ⟨j, x, h1, h2, h3⟩
    · exact .inl ⟨by simp [Instr.findKey, run_underlying ht, h1], h2⟩
    · exact .inr ⟨j, x, by simp [Instr.findKey, run_underlying ht, h1], h2, h3⟩
  same k := by simp [Instr.sameBits]

/-- A map's block, as a function. -/
structure MapF {κ : Type} (key : κ → Value) (w : World) (r : Nat) (f : κ → Option Value) : Prop where
  mk ::
  ex : ∃ es clock, w.heap[r]? = some (.map es clock) ∧ (∀ e ∈ es.toList, ∃ k, e.key = key k ∧ f k = some e.val) ∧ (es.toList.map (·.key)).Nodup ∧ ∀ k v, f k = some v → ∃ e ∈ es.toList, e.key = key k ∧ e.val = v
section
variable {κ : Type} {key : κ → Value} {w : World} {r : Nat} {f : κ → Option Value} {P : Program} {t kt et : TypeId}
theorem MapF.sub {w' : World} (h : MapF key w r f) (hb : w'.heap[r]? = w.heap[r]?) : MapF key w' r f := by
  obtain ⟨es, clock, h1, h2⟩ := h.ex
  exact ⟨es, clock, hb.trans h1, h2⟩
theorem MapF.lt (h : MapF key w r f) : r < w.heap.size := by
  obtain ⟨es, clock, h1, _⟩ := h.ex
  exact (Array.getElem?_eq_some_iff.1 h1).1
theorem MapF.new (w : World) (key : κ → Value) : MapF key (w.alloc (.map #[] 0)) w.heap.size (fun _ => none) :=
  ⟨#[], 0, heap_alloc_new w _, by simp, by simp, by simp⟩
theorem run_lookM (K : KeyM P kt key) (ht : P.underlying t = some (.map kt et)) {z : Value} (hz : ∀ w, (zeroValue et).run P w = .ok z w) (h : MapF key w r f) (k : κ) (ok : Bool) :
    (Instr.lookup t (.map (some r)) (key k) ok).run P w = .ok (if ok then .tuple #[(f k).getD z, .bool (f k).isSome] else (f k).getD z) w := by
  obtain ⟨es, clock, h1, h2, h3, h4⟩ := h.ex
  rcases K.find w k es.toList (fun e he => (h2 e he).imp fun k h => h.1) with ⟨hf, hn⟩ | ⟨j, e, hf, hj, hk⟩
  · have hfk : f k = none := by
      cases hfk : f k with
      | none => rfl
      | some v =>
        obtain ⟨e, he, hek, _⟩ := h4 k v hfk
        exact absurd hek (hn e he)
    cases ok <;> simp [Instr.lookup, run_underlying ht, Go.MapKept.run_getObj_map h1, K.check, hf, hz, hfk]
  · have hfk : f k = some e.val := by
      obtain ⟨k', hk', hv⟩ := h2 e (List.mem_of_getElem? hj)
      rw [hk] at hk'
      rw [K.inj _ _ hk']; exact hv
    cases ok <;> simp [Instr.lookup, run_underlying ht, Go.MapKept.run_getObj_map h1, K.check, hf, hfk]
/-- A key is looked up. -/
theorem qnM (K : KeyM P kt key) (ht : P.underlying t = some (.map kt et)) {z : Value} (hz : ∀ w, (zeroValue et).run P w = .ok z w) (h : MapF key w r f) (k : κ) {ok : Bool} {kd : Kd} {Q : kd.T → Prop} (x : kd.T)
    (hx : (kd.av x).val = if ok then .tuple #[(f k).getD z, .bool (f k).isSome] else (f k).getD z) (hQ : Q x) : qn P (Instr.lookup t (.map (some r)) (key k) ok) kd w Q :=
  ⟨x, fun w' hw' => by rw [hx]; exact run_lookM K ht hz (h.sub (hw' r h.lt)) k ok, hQ⟩
/-- A key is put. -/
theorem ruM [DecidableEq κ] (K : KeyM P kt key) (ht : P.underlying t = some (.map kt et)) (h : MapF key w r f) (k : κ) (v : Value) {Q : World → Prop}
    (hQ : ∀ w', MapF key w' r (fun k' => if k' = k then some v else f k') → w.grownBy w' (some r) → w'.heap.size = w.heap.size → Q w') : ru P (Instr.mapUpdate t (.map (some r)) (key k) v) w Q := by
  obtain ⟨es, clock, h1, h2, h3, h4⟩ := h.ex
  have hr := h.lt
  have hgrow : ∀ o : Obj, w.grownBy { w with heap := w.heap.setIfInBounds r o } (some r) := fun o =>
    ⟨rfl, rfl, rfl, by simp, fun k _ hk => by
      have : r ≠ k := fun e => hk (by rw [e])
      simp [this]⟩
  rcases K.find w k es.toList (fun e he => (h2 e he).imp fun k h => h.1) with ⟨hf, hn⟩ | ⟨j, e, hf, hj, hk⟩
  · refine ⟨{ w with heap := w.heap.setIfInBounds r (.map (es.push { key := key k, val := v, born := clock }) (clock + 1)) }, ?_, hQ _ ⟨es.push { key := key k, val := v, born := clock }, clock + 1, ?_, ?_, ?_, ?_⟩ (hgrow _) (by simp)⟩
    · simp [Instr.mapUpdate, run_underlying ht, Go.MapKept.run_getObj_map h1, K.check, hf, Go.MapKept.run_setObj_map _ h1]
    · simp [hr]
    · intro x hx
      rw [Array.toList_push, List.mem_append, List.mem_singleton] at hx
      rcases hx with hx | rfl
      · obtain ⟨k', hk', hv⟩ := h2 x hx
        refine ⟨k', hk', ?_⟩
        rw [if_neg fun e => hn x hx (by rw [hk', e])]; exact hv
      · exact ⟨k, rfl, if_pos rfl⟩
    · rw [Array.toList_push, List.map_append, List.nodup_append]
      refine ⟨h3, by simp, ?_⟩
      intro a ha b hb
      simp only [List.map_cons, List.map_nil, List.mem_singleton] at hb
      obtain ⟨x, hx, rfl⟩ := List.mem_map.1 ha
      rw [hb]; exact hn x hx
    · intro k' v' hv'
      rw [Array.toList_push]
      by_cases e : k' = k
      · rw [if_pos e] at hv'
        exact ⟨_, List.mem_append_right _ (List.mem_singleton.2 rfl), by rw [e], Option.some.inj hv'⟩
      · rw [if_neg e] at hv'
        obtain ⟨x, hx, h5⟩ := h4 k' v' hv'
        exact ⟨x, List.mem_append_left _ hx, h5⟩
  · have hjl : j < es.toList.length := (List.getElem?_eq_some_iff.1 hj).1
    have hjs : j < es.size := by simpa using hjl
    have hj' : es[j]? = some e := by simpa using hj
    refine ⟨{ w with heap := w.heap.setIfInBounds r (.map (es.modify j fun x => { x with key := key k, val := v }) clock) }, ?_, hQ _ ⟨es.modify j fun x => { x with key := key k, val := v }, clock, ?_, ?_, ?_, ?_⟩ (hgrow _) (by simp)⟩
    · have hs : (Instr.keyThatStays e.key (key k)).run P w = .ok (key k) w := by
        rw [hk]; simp [Instr.keyThatStays, K.same]
      simp [Instr.mapUpdate, run_underlying ht, Go.MapKept.run_getObj_map h1, K.check, hf, hj', hs, Go.MapKept.run_setObj_map _ h1]
    · simp [hr]
    all_goals rw [show (es.modify j fun x => { x with key := key k, val := v }).toList = es.toList.set j { e with key := key k, val := v } from by
      apply List.ext_getElem?
      intro i
      rw [Array.toList_modify, List.getElem?_modify, List.getElem?_set]
      by_cases h : j = i
      · subst h
        rw [hj]
        simp only [if_true]
        rw [if_pos hjl]
        rfl
      · simp [h]]
    · intro x hx
      obtain ⟨i, hi⟩ := List.mem_iff_getElem?.1 hx
      rw [List.getElem?_set] at hi
      by_cases h : j = i
      · subst h
        rw [if_pos rfl, if_pos hjl, Option.some.injEq] at hi
        subst hi
        exact ⟨k, rfl, if_pos rfl⟩
      · rw [if_neg h] at hi
        obtain ⟨k', hk', hv⟩ := h2 x (List.mem_of_getElem? hi)
        refine ⟨k', hk', ?_⟩
        rw [if_neg]
        · exact hv
        · rintro rfl
          have e1 : (es.toList.map (·.key))[i]? = some (key k') := by rw [List.getElem?_map, hi]; simp [hk']
          have e2 : (es.toList.map (·.key))[j]? = some (key k') := by rw [List.getElem?_map, hj]; simp [hk]
          have hil : i < (es.toList.map (·.key)).length := (List.getElem?_eq_some_iff.1 e1).1
          exact h (((List.getElem?_inj hil h3).1 (e1.trans e2.symm)).symm)
    · rw [List.map_set]
      have : (es.toList.map (·.key)).set j (key k) = es.toList.map (·.key) := by
        apply List.ext_getElem?
        intro i
        rw [List.getElem?_set]
        split
        · rename_i h
          subst h
          rw [List.getElem?_map, hj]
          simp [hk, hjs]
        · rfl
      rw [this]; exact h3
    · intro k' v' hv'
      by_cases hkk : k' = k
      · rw [if_pos hkk] at hv'
        exact ⟨_, List.mem_iff_getElem?.2 ⟨j, by rw [List.getElem?_set, if_pos rfl, if_pos hjl]⟩, by rw [hkk], Option.some.inj hv'⟩
      · rw [if_neg hkk] at hv'
        obtain ⟨x, hx, h5, h6⟩ := h4 k' v' hv'
        obtain ⟨i, hi⟩ := List.mem_iff_getElem?.1 hx
        refine ⟨x, List.mem_iff_getElem?.2 ⟨i, ?_⟩, h5, h6⟩
        rw [List.getElem?_set, if_neg]
        · exact hi
        · rintro rfl
          rw [hj] at hi
          cases hi
          exact hkk (K.inj _ _ (h5.symm.trans hk))
/-- A key is taken out. -/
theorem rnD [DecidableEq κ] {ty : TypeId} (K : KeyM P kt key) (ht : P.underlying t = some (.map kt et)) (h : MapF key w r f) (k : κ) {Q : Unit → World → Prop}
    (hQ : ∀ w', MapF key w' r (fun k' => if k' = k then none else f k') → w.grownBy w' (some r) → w'.heap.size = w.heap.size → Q () w') : rn P (Builtin.delete_ #[t, kt] ty #[.map (some r), key k]) (.tup .nil) w Q := by
  obtain ⟨es, clock, h1, h2, h3, h4⟩ := h.ex
  have hr := h.lt
  have hgrow : ∀ o : Obj, w.grownBy { w with heap := w.heap.setIfInBounds r o } (some r) := fun o =>
    ⟨rfl, rfl, rfl, by simp, fun k _ hk => by
      have : r ≠ k := fun e => hk (by rw [e])
      simp [this]⟩
  rcases K.find w k es.toList (fun e he => (h2 e he).imp fun k h => h.1) with ⟨hf, hn⟩ | ⟨j, e, hf, hj, hk⟩
  · refine ⟨(), { w with heap := w.heap.setIfInBounds r (.map es clock) }, ?_, hQ _ ⟨es, clock, ?_, ?_, h3, ?_⟩ (hgrow _) (by simp)⟩
    · simp [Builtin.delete_, run_underlying ht, Go.MapKept.run_getObj_map h1, K.check, hf, Go.MapKept.run_setObj_map _ h1]
      rfl
    · simp [hr]
    · intro x hx
      obtain ⟨k', hk', hv⟩ := h2 x hx
      refine ⟨k', hk', ?_⟩
      rw [if_neg fun e => hn x hx (by rw [hk', e])]; exact hv
    · intro k' v' hv'
      by_cases e : k' = k
      · rw [if_pos e] at hv'; cases hv'
      · rw [if_neg e] at hv'; exact h4 k' v' hv'
  · have hjl : j < es.toList.length := (List.getElem?_eq_some_iff.1 hj).1
    refine ⟨(), { w with heap := w.heap.setIfInBounds r (.map (es.eraseIdxIfInBounds j) clock) }, ?_, hQ _ ⟨es.eraseIdxIfInBounds j, clock, ?_, ?_, ?_, ?_⟩ (hgrow _) (by simp)⟩
    · simp [Builtin.delete_, run_underlying ht, Go.MapKept.run_getObj_map h1, K.check, hf, Go.MapKept.run_setObj_map _ h1]
      rfl
    · simp [hr]
    all_goals rw [show (es.eraseIdxIfInBounds j).toList = es.toList.eraseIdx j from by simp [Array.eraseIdxIfInBounds]; split <;> simp_all]
    · intro x hx
      obtain ⟨i, hij, hi⟩ := List.mem_eraseIdx_iff_getElem?.1 hx
      obtain ⟨k', hk', hv⟩ := h2 x (List.mem_of_getElem? hi)
      refine ⟨k', hk', ?_⟩
      rw [if_neg]
      · exact hv
      · rintro rfl
        have e1 : (es.toList.map (·.key))[i]? = some (key k') := by rw [List.getElem?_map, hi]; simp [hk']
        have e2 : (es.toList.map (·.key))[j]? = some (key k') := by rw [List.getElem?_map, hj]; simp [hk]
        have hil : i < (es.toList.map (·.key)).length := (List.getElem?_eq_some_iff.1 e1).1
        exact hij (((List.getElem?_inj hil h3).1 (e1.trans e2.symm)))
    · exact h3.sublist ((List.eraseIdx_sublist _ _).map _)
    · intro k' v' hv'
      by_cases hkk : k' = k
      · rw [if_pos hkk] at hv'; cases hv'
      · rw [if_neg hkk] at hv'
        obtain ⟨x, hx, h5, h6⟩ := h4 k' v' hv'
        obtain ⟨i, hi⟩ := List.mem_iff_getElem?.1 hx
        refine ⟨x, List.mem_eraseIdx_iff_getElem?.2 ⟨i, ?_, hi⟩, h5, h6⟩
        rintro rfl
        rw [hj] at hi
        cases hi
        exact hkk (K.inj _ _ (h5.symm.trans hk))
end
/-- A new map. -/
theorem rnNewM {P : Program} {t : TypeId} {κ : Type} {key : κ → Value} {w : World} {Q : Option Nat → World → Prop} (hQ : ∀ m w', m = w.heap.size → MapF key w' m (fun _ => none) → Fr w w' → w'.heap.size = w.heap.size + 1 → Q (some m) w') : rn P (Instr.makeMap t none) .M w Q :=
  ⟨some w.heap.size, w.alloc (.map #[] 0), run_makeMap _ _, hQ _ _ rfl (MapF.new w key) (Fr.alloc _ _) (by simp)⟩
end Go.Fl
namespace Go.Fl

abbrev NtT := Int × Int × Int × Int × Int × RecT × Unit
abbrev n5 (p : NtT) : List Value := [.int .i64 p.1, .int .i64 p.2.1, .int .i64 p.2.2.1, .int .i64 p.2.2.2.1, .int .i64 p.2.2.2.2.1]
theorem nzS {a : Addr} {K : Addr → Prop} (h : K a) : nz (some a) K := h
/-- A pointer of a known block is read. -/
theorem ixP {w : World} {g n : Nat} {cs : List Value} {t : TypeId} {f : Nat × Nat} {i : Int} {v : Option Addr} {K : Option Addr → Prop} (h : w.heap[g]? = some (.cells cs.toArray t f)) (h0 : 0 ≤ i) (hn : i < n) (hi : cs[i.toNat]? = some (.pointer v)) (k : K v) :
    ixa (some ⟨g, 0, none⟩) n i 1 fun a => ld .P w a K := by
  refine ⟨h0, hn, ?_⟩
  show ld .P w (atOff ⟨g, 0, none⟩ i 1) K
  rw [atH]
  exact ldP0 h (by simpa using hi) k

/-- Which numbers a note of a kind has. -/
def offs (k : Int) : List Nat := if k = 1 then [1, 2, 3] else if k = 2 ∨ k = 5 ∨ k = 6 then [1, 4] else if k = 3 ∨ k = 4 then [1] else []
/-- A note's numbers. -/
def nv (p : NtT) (o : Nat) : Int := ([p.1, p.2.1, p.2.2.1, p.2.2.2.1, p.2.2.2.2.1] : List Int).getD o 0
/-- Is the record empty? -/
def emptyR (q : RecT) (d : List UInt8) : Prop := q.1 = 0 ∧ q.2.1 = 0 ∧ d = List.replicate 32 0 ∧ q.2.2.2.1.n = 0
instance (q : RecT) (d : List UInt8) : Decidable (emptyR q d) := by unfold emptyR; infer_instance
/-- May a record be? -/
def chkS (k s : Int) (n : Nat) : Int := if ((k = 1 ∧ n = 0) ∨ (k = 2 ∧ (n : Int) = s) ∨ (k = 3 ∧ n ≤ 256)) ∧ 1 ≤ s ∧ s ≤ 256 then 0 else 100
/-- May a note be? -/
def FitP (p : NtT) (d : List UInt8) : Prop := offs p.1 ≠ [] ∧ (∀ o ∈ offs p.1, 1 ≤ nv p o ∧ nv p o ≤ 1073741824) ∧ (p.1 = 1 → p.2.2.1 ≤ 65535 ∧ p.2.2.2.1 ≤ 65535) ∧ (∀ o ∈ ([1, 2, 3, 4] : List Nat), o ∉ offs p.1 → nv p o = 0) ∧
  (p.1 ≠ 2 → emptyR p.2.2.2.2.2.1 d) ∧ (p.1 = 2 → chkS p.2.2.2.2.2.1.1 p.2.2.2.2.2.1.2.1 p.2.2.2.2.2.1.2.2.2.1.n = 0)
instance (p : NtT) (d : List UInt8) : Decidable (FitP p d) := by unfold FitP; infer_instance
/-- A record's bytes. -/
def recB (k s : Int) (d l : List UInt8) : List UInt8 := numsB [k, s] ++ d ++ (numB l.length ++ l)
end Go.Fl
namespace Go.Fl

theorem lookS_le (l : List UInt8) : (lookS l).2.1 ≤ l.length := by
  cases l with
  | nil => simp [lookS]
  | cons b t =>
    rw [lookS_cons]
    generalize beN (if ones b.toNat < 8 then b.toNat % 2 ^ (7 - ones b.toNat) else 0) (t.take (ones b.toNat)) = X
    split
    · simp
    · split
      · simp
      · split
        · simp
        · simp; omega
/-- The next text; its error; how many bytes are read. -/
def rdText (l : List UInt8) (most : Int) : List UInt8 × Nat × Nat :=
  if (lookS l).2.2 ≠ 0 then ([], (lookS l).2.2, 0) else if ((lookS l).1 : Int) > max most 0 then ([], 4, 0) else
  if (lookS l).1 > l.length - (lookS l).2.1 then ([], 2, 0) else ((l.drop (lookS l).2.1).take (lookS l).1, 0, (lookS l).2.1 + (lookS l).1)
/-- What is read, put again, is what was read. -/
theorem rdText_back {l : List UInt8} {most : Int} (h : (rdText l most).2.1 = 0) : l.take (rdText l most).2.2 = numB (rdText l most).1.length ++ (rdText l most).1 := by
  unfold rdText at h ⊢
  have hle := lookS_le l
  split
  · rename_i h1; rw [if_pos h1] at h; exact absurd h h1
  · rename_i h1
    rw [if_neg h1] at h
    split
    · rename_i h2; rw [if_pos h2] at h; simp at h
    · rename_i h2
      rw [if_neg h2] at h
      split
      · rename_i h3; rw [if_pos h3] at h; simp at h
      · rename_i h3
        obtain ⟨n, k, e, hl⟩ : ∃ n k e, lookS l = (n, k, e) := ⟨_, _, _, rfl⟩
        rw [hl] at h1 h2 h3 hle ⊢
        have h1 := Decidable.not_not.1 h1
        dsimp only at h1 h2 h3 hle ⊢
        subst h1
        obtain ⟨hk, hkl, ht, hn⟩ := look_back hl
        rw [List.length_take, List.length_drop, Nat.min_eq_left (by omega), List.take_add, ht]
end Go.Fl
namespace Go.Fl

/-- A note. -/
structure PN where
  k : Int
  a : Int
  b : Int
  c : Int
  i : Int
  rk : Int
  rs : Int
  d : List UInt8
  l : List UInt8
deriving DecidableEq
def PN.num (n : PN) (o : Nat) : Int := ([n.k, n.a, n.b, n.c, n.i] : List Int).getD o 0
/-- May it be? -/
def PN.fit (n : PN) : Prop := offs n.k ≠ [] ∧ (∀ o ∈ offs n.k, 1 ≤ n.num o ∧ n.num o ≤ 1073741824) ∧ (n.k = 1 → n.b ≤ 65535 ∧ n.c ≤ 65535) ∧ (∀ o ∈ ([1, 2, 3, 4] : List Nat), o ∉ offs n.k → n.num o = 0) ∧
  (n.k ≠ 2 → n.rk = 0 ∧ n.rs = 0 ∧ n.d = List.replicate 32 0 ∧ n.l = []) ∧ (n.k = 2 → chkS n.rk n.rs n.l.length = 0)
instance (n : PN) : Decidable n.fit := by unfold PN.fit; infer_instance
def PN.bytes (n : PN) : List UInt8 := numB n.k.toNat ++ numsB ((offs n.k).map n.num) ++ (if n.k = 2 then recB n.rk n.rs n.d n.l else [])
/-- Numbers off the front. -/
def numsS : Nat → List UInt8 → Option (List Int × List UInt8)
  | 0, l => some ([], l)
  | n + 1, l => if (lookS l).2.2 ≠ 0 then none else (numsS n (l.drop (lookS l).2.1)).map fun x => (((lookS l).1 : Int) :: x.1, x.2)
theorem numsS_back : ∀ {n : Nat} {l : List UInt8} {ns : List Int} {r : List UInt8}, numsS n l = some (ns, r) → ns.length = n ∧ numsB ns ++ r = l ∧ ∀ x ∈ ns, 0 ≤ x ∧ x ≤ 9223372036854775807
  | 0, l, ns, r, h => by
    simp only [numsS, Option.some.injEq, Prod.mk.injEq] at h
    obtain ⟨rfl, rfl⟩ := h
    exact ⟨rfl, rfl, by simp⟩
  | n + 1, l, ns, r, h => by
    unfold numsS at h
    split at h
    · cases h
    · rename_i h0
      obtain ⟨⟨ms, r'⟩, h1, h2⟩ := Option.map_eq_some_iff.1 h
      simp only [Prod.mk.injEq] at h2
      obtain ⟨rfl, rfl⟩ := h2
      obtain ⟨i1, i2, i3⟩ := numsS_back h1
      obtain ⟨x, k, e⟩ : ∃ x k, lookS l = (x, k, 0) := ⟨(lookS l).1, (lookS l).2.1, by rw [← Decidable.not_not.1 h0]⟩
      obtain ⟨b1, b2, b3, b4⟩ := look_back e
      rw [e] at i2 ⊢
      dsimp only at i2 ⊢
      refine ⟨by simp [i1], ?_, fun y hy => ?_⟩
      · rw [numsB_cons, List.append_assoc, i2, Int.toNat_natCast, ← b3, List.take_append_drop]
      · rcases List.mem_cons.1 hy with rfl | hy
        · omega
        · exact i3 y hy
theorem numsS_snoc : ∀ {n : Nat} {l : List UInt8} {ns : List Int} {r : List UInt8}, numsS n l = some (ns, r) → numsS (n + 1) l = if (lookS r).2.2 ≠ 0 then none else some (ns ++ [((lookS r).1 : Int)], r.drop (lookS r).2.1)
  | 0, l, ns, r, h => by
    simp only [numsS, Option.some.injEq, Prod.mk.injEq] at h
    obtain ⟨rfl, rfl⟩ := h
    simp only [numsS]
    split <;> simp_all
  | n + 1, l, ns, r, h => by
    rw [numsS] at h
    rw [numsS]
    split at h
    · cases h
    · rename_i h0
      rw [if_neg h0]
      obtain ⟨⟨ms, r'⟩, h1, h2⟩ := Option.map_eq_some_iff.1 h
      simp only [Prod.mk.injEq] at h2
      obtain ⟨rfl, rfl⟩ := h2
      rw [numsS_snoc h1]
      split <;> simp
theorem numsS_none : ∀ {n : Nat} {l : List UInt8} (m : Nat), numsS n l = none → n ≤ m → numsS m l = none
  | 0, _, _, h, _ => by simp [numsS] at h
  | n + 1, l, 0, _, hm => by omega
  | n + 1, l, m + 1, h, hm => by
    rw [numsS] at h ⊢
    split
    · rfl
    · rename_i h0
      rw [if_neg h0, Option.map_eq_none_iff] at h
      rw [numsS_none m h (by omega)]
      rfl
end Go.Fl
namespace Go.Fl

theorem or_add {a b i : Nat} (h : b < 2 ^ i) : a * 2 ^ i ||| b = a * 2 ^ i + b := by
  have := Nat.shiftLeft_add_eq_or_of_lt h a
  rw [Nat.shiftLeft_eq] at this
  exact this.symm
end Go.Fl
namespace Go.Fl

def Nib : List Int := [0, 498536548, 997073096, 651767980, 1994146192, 1802195444, 1303535960, 1342533948, 3988292384, 4027552580, 3604390888, 3412177804, 2607071920, 2262029012, 2685067896, 3183342108]
def nibN (j : Nat) : Nat := (Nib.getD j 0).toNat
/-- Four bits. -/
def nstep (c : Nat) : Nat := c / 16 ^^^ nibN (c % 16)
/-- One byte. -/
def cstep (c : Nat) (x : UInt8) : Nat := nstep (nstep (c ^^^ x.toNat))
def cfold (l : List UInt8) : Nat := l.foldl cstep 4294967295
def crcN (l : List UInt8) : Nat := 4294967295 ^^^ cfold l
theorem lt_xor {a b : Nat} (ha : a < 4294967296) (hb : b < 4294967296) : a ^^^ b < 4294967296 := Nat.xor_lt_two_pow (n := 32) ha hb
theorem nibN_lt (j : Nat) : nibN j < 4294967296 := by
  unfold nibN
  by_cases h : j < 16
  · have : ∀ j, j < 16 → (Nib.getD j 0).toNat < 4294967296 := by decide
    exact this j h
  · rw [List.getD_eq_getElem?_getD, List.getElem?_eq_none (by simp [Nib]; omega)]; decide
theorem nstep_lt {c : Nat} (h : c < 4294967296) : nstep c < 4294967296 := lt_xor (by omega) (nibN_lt _)
theorem cstep_lt {c : Nat} (x : UInt8) (h : c < 4294967296) : cstep c x < 4294967296 := nstep_lt (nstep_lt (lt_xor h (by have := x.toNat_lt; omega)))
theorem foldl_lt : ∀ (l : List UInt8) {c : Nat}, c < 4294967296 → l.foldl cstep c < 4294967296
  | [], _, h => h
  | x :: l, _, h => foldl_lt l (cstep_lt x h)
theorem cfold_lt (l : List UInt8) : cfold l < 4294967296 := foldl_lt l (by decide)
theorem crcN_lt (l : List UInt8) : crcN l < 4294967296 := lt_xor (by decide) (cfold_lt l)
/-- A sum's bytes, the lowest first. -/
def le4 (c : Nat) : List UInt8 := [UInt8.ofNat (c % 256), UInt8.ofNat (c / 256 % 256), UInt8.ofNat (c / 65536 % 256), UInt8.ofNat (c / 16777216 % 256)]
def sealB (b : List UInt8) : List UInt8 := b ++ le4 (crcN b)
/-- What was sealed: the bytes, or why there are none. -/
def openB (p : List UInt8) : List UInt8 × Nat := if p.length < 4 then ([], 2) else if le4 (crcN (p.take (p.length - 4))) = p.drop (p.length - 4) then (p.take (p.length - 4), 0) else ([], 10)
theorem openB_back {p b : List UInt8} (h : openB p = (b, 0)) : p = sealB b := by
  unfold openB at h
  split at h
  · cases h
  · split at h
    · rename_i h1
      have hb := (Prod.mk.inj h).1
      rw [← hb, sealB, h1, List.take_append_drop]
    · cases h
end Go.Fl
namespace Go.Fl

/-- A frame. -/
structure Fm where
  k : Int
  fr : Int
  yo : Int
  sq : Int
  ac : Int
  bi : Int
  bd : List UInt8
deriving DecidableEq
def okF (k fr yo sq ac bi : Int) (n : Nat) : Prop := (1 ≤ fr ∧ fr ≤ 1099511627776) ∧ (0 ≤ yo ∧ yo ≤ 1099511627776) ∧
  ((k = 1 ∧ sq = 0 ∧ ac = 0 ∧ bi = 0 ∧ n = 0) ∨ (k = 2 ∧ (1 ≤ sq ∧ sq ≤ 1099511627776) ∧ ac = 0 ∧ bi = 0 ∧ n ≤ 512) ∨ (k = 3 ∧ sq = 0 ∧ (0 ≤ ac ∧ ac ≤ 1099511627776) ∧ (0 ≤ bi ∧ bi ≤ 65535) ∧ n = 0))
instance (k fr yo sq ac bi : Int) (n : Nat) : Decidable (okF k fr yo sq ac bi n) := by unfold okF; infer_instance
def Fm.ok (f : Fm) : Prop := okF f.k f.fr f.yo f.sq f.ac f.bi f.bd.length
instance (f : Fm) : Decidable f.ok := by unfold Fm.ok; infer_instance
def Fm.nums (f : Fm) : List Int := [f.k, f.fr, f.yo, f.sq, f.ac, f.bi]
def rawF (f : Fm) : List UInt8 := 85 :: (numsB f.nums ++ (numB f.bd.length ++ f.bd))
def Fm.bytes (f : Fm) : List UInt8 := sealB (rawF f)
/-- What is put of a frame. -/
def putF (f : Fm) : List UInt8 × Int := if f.ok then (f.bytes, 0) else ([], 120)
def mkFm (ns : List Int) (b : List UInt8) : Fm := ⟨ns.getD 0 0, ns.getD 1 0, ns.getD 2 0, ns.getD 3 0, ns.getD 4 0, ns.getD 5 0, b⟩
/-- The frame behind the mark. -/
def readF (l : List UInt8) : Option Fm := match numsS 6 l with
  | none => none
  | some (ns, r) => if (rdText r 512).2.1 ≠ 0 then none else if r.drop (rdText r 512).2.2 = [] ∧ (mkFm ns (rdText r 512).1).ok then some (mkFm ns (rdText r 512).1) else none
def bodyF : List UInt8 → Option Fm
  | [] => none
  | c :: l => if c = 85 then readF l else none
/-- The frame of which some bytes are. -/
def getF (p : List UInt8) : Option Fm := if (openB p).2 ≠ 0 then none else bodyF (openB p).1
/-- Why there is none. -/
def getE (p : List UInt8) : Int := if (openB p).2 ≠ 0 then (openB p).2 else if (getF p).isSome then 0 else 120
theorem okF_in {k fr yo sq ac bi : Int} {n : Nat} (h : okF k fr yo sq ac bi n) : (1 ≤ k ∧ k ≤ 3) ∧ (0 ≤ sq ∧ sq ≤ 1099511627776) ∧ (0 ≤ ac ∧ ac ≤ 1099511627776) ∧ (0 ≤ bi ∧ bi ≤ 65535) ∧ n ≤ 512 := by
  unfold okF at h
  omega
theorem nums_mk {ns : List Int} (h : ns.length = 6) (b : List UInt8) : (mkFm ns b).nums = ns := by
  match ns, h with
  | [_, _, _, _, _, _], _ => rfl
theorem readF_back {l : List UInt8} {f : Fm} (h : readF l = some f) : f.ok ∧ l = numsB f.nums ++ (numB f.bd.length ++ f.bd) := by
  unfold readF at h
  split at h
  · cases h
  · rename_i ns r hns
    obtain ⟨c1, c2, c3⟩ := numsS_back hns
    split at h
    · cases h
    · rename_i ht
      split at h
      · rename_i hok
        have ht1 : (rdText r 512).2.1 = 0 := Decidable.not_not.1 ht
        have hb := rdText_back ht1
        simp only [Option.some.injEq] at h
        have hd := List.take_append_drop (rdText r 512).2.2 r
        rw [hok.1, List.append_nil, hb] at hd
        rw [← h]
        refine ⟨hok.2, ?_⟩
        rw [nums_mk c1]
        show l = numsB ns ++ (numB (rdText r 512).1.length ++ (rdText r 512).1)
        rw [hd, c2]
      · cases h
theorem getF_back {p : List UInt8} {f : Fm} (h : getF p = some f) : f.ok ∧ f.bytes = p := by
  unfold getF at h
  split at h
  · cases h
  · rename_i h0
    have e : openB p = ((openB p).1, 0) := by rw [← Decidable.not_not.1 h0]
    have hs := openB_back e
    generalize (openB p).1 = b at *
    cases b with
    | nil => cases h
    | cons c l =>
      rw [show bodyF (c :: l) = (if c = 85 then readF l else none) from rfl] at h
      split at h
      · rename_i hc
        obtain ⟨h1, h2⟩ := readF_back h
        refine ⟨h1, ?_⟩
        rw [hs, Fm.bytes, rawF, h2, hc]
      · cases h
theorem getE_zero {p : List UInt8} : getE p = 0 ↔ (getF p).isSome = true := by
  unfold getE
  split
  · rename_i h
    constructor
    · intro h2; omega
    · intro h2
      unfold getF at h2
      rw [if_pos h] at h2
      cases h2
  · split
    · rename_i h; simp [h]
    · rename_i h; simp [h]
end Go.Fl
namespace Go.Fl

abbrev wr (n : Int) : Int := IntKind.i64.wrap n
/-- A tunnel: the session's parts, its number, the other one's, epoch, ticks, what it said. -/
structure Tn where
  up : Bool
  sil : Int
  next : Int
  way : List (Int × List UInt8 × Int)
  queue : List (List UInt8)
  expect : Int
  early : Int → Option (List UInt8)
  me : Int
  you : Int
  epoch : Int
  ticks : Int
  out : List (List UInt8)
def tn0 (me : Int) : Tn := ⟨false, 0, 0, [], [], 0, fun _ => none, me, 0, 0, 0, []⟩
def Tn.say (t : Tn) (f : Fm) : Tn := { t with out := t.out ++ [(putF { f with fr := t.me }).1] }
def hel (you : Int) : Fm := ⟨1, 0, you, 0, 0, 0, []⟩
def Tn.hint (t : Tn) (n : Int) : Tn := if 1 ≤ n ∧ n ≤ 1099511627776 then t.say (hel n) else t
def Tn.fresh (t : Tn) (you : Int) : Tn := { t with up := true, sil := 0, next := 0, way := [], queue := [], expect := 0, early := fun _ => none, you := you, epoch := wr (t.epoch + 1) }
def Tn.beg (t : Tn) (you : Int) : Tn := (t.fresh you).say (hel you)
def Tn.fin (t : Tn) : Tn := { t with up := false, sil := 0, next := 0, way := [], queue := [], expect := 0, early := fun _ => none, me := min (wr (t.me + 1)) 1099511627776, epoch := wr (t.epoch + 1) }
/-- May one more go on the way? -/
def Tn.can (t : Tn) : Bool := match t.way with
  | [] => true
  | x :: _ => decide (wr (wr (t.next + 1) - x.1) < 16)
def Tn.put1 (t : Tn) (b : List UInt8) (q : List (List UInt8)) : Tn :=
  { (({ t with next := wr (t.next + 1), way := t.way ++ [(wr (t.next + 1), b, 0)] } : Tn).say ⟨2, 0, t.you, wr (t.next + 1), 0, 0, b⟩) with queue := q }
def slideF : Nat → Tn → Tn
  | 0, t => t
  | k + 1, t => match t.queue with
    | [] => t
    | b :: q => if t.can then slideF k (t.put1 b q) else t
def Tn.slide (t : Tn) : Tn := slideF t.queue.length t
def Tn.room (t : Tn) : Int := if t.up then wr (wr (64 - t.queue.length) - t.way.length) else 0
def Tn.hello (t : Tn) (f : Fm) : Tn :=
  if f.yo ≠ t.me then (if f.fr ≥ t.you then t.say (hel f.fr) else t)
  else if f.fr > t.you ∨ (f.fr = t.you ∧ t.up = false) then t.beg f.fr
  else if f.fr = t.you then { t with sil := 0 } else t
def setE (e : Int → Option (List UInt8)) (k : Int) (v : Option (List UInt8)) : Int → Option (List UInt8) := fun j => if j = k then v else e j
/-- What is in order now is told. -/
def tellF : Nat → Tn → List (List UInt8) → Tn × List (List UInt8)
  | 0, t, l => (t, l)
  | k + 1, t, l => match t.early (t.expect + 1) with
    | none => (t, l)
    | some b => tellF k { t with early := setE t.early (t.expect + 1) none, expect := t.expect + 1 } (l ++ [b])
def bitsN (e : Int → Option (List UInt8)) (x : Int) : Nat → Nat
  | 0 => 0
  | i + 1 => bitsN e x i + if (e (x + 1 + i)).isSome then 2 ^ i else 0
def Tn.keep (t : Tn) (f : Fm) : Tn := if f.sq > t.expect ∧ f.sq - t.expect ≤ 16 then { t with early := setE t.early f.sq (some f.bd) } else t
def Tn.acks (t : Tn) : Tn := t.say ⟨3, 0, t.you, 0, t.expect, (bitsN t.early t.expect 16 : Nat), []⟩
def Tn.data (t : Tn) (f : Fm) : Tn × List (List UInt8) := ((tellF 17 (t.keep f) []).1.acks, (tellF 17 (t.keep f) []).2)
/-- Is a frame on the way acknowledged? -/
def gone (f : Fm) (x : Int × List UInt8 × Int) : Bool :=
  decide (wr (wr (x.1 - f.ac) - 1) < 0) || (decide (wr (wr (x.1 - f.ac) - 1) < 16) && decide ((f.bi / 2 ^ (wr (wr (x.1 - f.ac) - 1)).toNat) % 2 = 1))
def Tn.ack (t : Tn) (f : Fm) : Tn := ({ t with way := t.way.filter fun x => !gone f x } : Tn).slide
def Tn.take (t : Tn) (b : List UInt8) : Tn × List (List UInt8) × Int :=
  match getF b with
  | none => (t, [], getE b)
  | some f =>
    if f.k = 1 then (t.hello f, [], 0)
    else if t.up = false ∨ f.fr ≠ t.you ∨ f.yo ≠ t.me then ((if f.yo ≠ t.me ∧ f.fr ≥ t.you then t.say (hel f.fr) else t), [], 0)
    else if f.k = 3 then (({ t with sil := 0 } : Tn).ack f, [], 0)
    else ((({ t with sil := 0 } : Tn).data f).1, (({ t with sil := 0 } : Tn).data f).2, 0)
def Tn.clear (t : Tn) : Tn := { t with out := [] }
/-- What holds of every tunnel. -/
structure Tn.inv (t : Tn) : Prop where
  me : 1 ≤ t.me ∧ t.me ≤ 1099511627776
  you : 0 ≤ t.you ∧ t.you ≤ 1099511627776
  ex : 0 ≤ t.expect ∧ t.expect ≤ 1099511627776
  early : ∀ k b, t.early k = some b → t.expect < k ∧ k ≤ t.expect + 16 ∧ k ≤ 1099511627776 ∧ b.length ≤ 512
  way : ∀ x ∈ t.way, x.2.1.length ≤ 512
  queue : ∀ b ∈ t.queue, b.length ≤ 512
  room : t.queue.length + t.way.length ≤ 64
  sil : 0 ≤ t.sil ∧ t.sil < 64
theorem i64_and1 (n : Int) : bits .and .i64 n 1 = n % 2 := by
  have h1 : (BitVec.ofInt 64 1).toNat = 2 ^ 1 - 1 := by decide
  have key : (BitVec.ofInt 64 n &&& BitVec.ofInt 64 1).toNat = (n % ((2 ^ 64 : Nat) : Int)).toNat % 2 ^ 1 := by
    rw [BitVec.toNat_and, BitVec.toNat_ofInt, h1, Nat.and_two_pow_sub_one_eq_mod]
  show IntKind.i64.wrap ((BitVec.ofInt 64 n &&& BitVec.ofInt 64 1).toNat : Nat) = n % 2
  rw [key, IntKind.wrap_i64]
  omega
theorem i64_or_nat (a b : Nat) (ha : a < 9223372036854775808) (hb : b < 9223372036854775808) : bits .or .i64 (a : Int) (b : Int) = ((a ||| b : Nat) : Int) := by
  have hx : a ||| b < 2 ^ 63 := Nat.or_lt_two_pow (by omega) (by omega)
  have e : ∀ a : Nat, a < 9223372036854775808 → (BitVec.ofInt 64 (a : Int)).toNat = a := fun a ha => by
    rw [BitVec.ofInt_natCast, BitVec.toNat_ofNat]; exact Nat.mod_eq_of_lt (by omega)
  show IntKind.i64.wrap ((BitVec.ofInt 64 (a : Int) ||| BitVec.ofInt 64 (b : Int)).toNat : Int) = _
  rw [BitVec.toNat_or, e a ha, e b hb, IntKind.wrap_i64]
  omega
theorem bitsN_lt (e : Int → Option (List UInt8)) (x : Int) : ∀ i, bitsN e x i < 2 ^ i
  | 0 => by simp [bitsN]
  | i + 1 => by
    have := bitsN_lt e x i
    unfold bitsN
    rw [Nat.pow_succ]
    split <;> omega
end Go.Fl
namespace Go.Fl

structure Cn where
  src : Int
  dst : Int
  sport : Int
  dport : Int
  origin : Int
  iss : Int
  una : Int
  nxt : Int
  top : Int
  out : List UInt8
  wnd : Int
  shut : Bool
  over : Bool
  sent : Int
  irs : Int
  rcv : Int
  inn : List UInt8
  early : List UInt8
  have_ : List Bool
  told : Bool
  end_ : Int
  fin : Bool
  got : Int
  state : Int
  timer : Int
  tries : Int
  idle : Int
  pack : List Pk
def Cn.window (c : Cn) : Int := 1024 - c.inn.length
/-- Flags: has a number this bit? -/
def bitQ (n : Int) (k : Nat) : Bool := decide (n / 2 ^ k % 2 = 1)
def Cn.emit (c : Cn) (flags at_ : Int) (data : List UInt8) : Cn :=
  { c with pack := c.pack ++ [⟨c.src, c.dst, c.sport, c.dport, at_, if bitQ flags 1 then c.rcv else 0, flags, c.window, 0, if bitQ flags 0 then c.origin else 0, data⟩] }
def Cn.syn (c : Cn) : Cn := if c.state = 1 then c.emit 1 c.iss [] else c.emit 3 c.iss []
def Cn.ack (c : Cn) : Cn := c.emit 2 c.top []
def Cn.refuse (c : Cn) (p : Pk) : Cn := match p.refuse with
  | some r => { c with pack := c.pack ++ [r] }
  | none => c
def Cn.on (c : Cn) (n : Int) : Cn := { c with nxt := qAdd c.nxt n, top := qMost c.top (qAdd c.nxt n) }
/-- How much may be sent now. -/
def Cn.may (c : Cn) : Int := min (min 128 ((c.out.length : Int) - qDiff c.nxt c.una)) (c.wnd - qDiff c.nxt c.una)
def Cn.send1 (c : Cn) : Cn := (c.emit 2 c.nxt ((c.out.drop (qDiff c.nxt c.una).toNat).take c.may.toNat)).on c.may
def sendF : Nat → Cn → Cn
  | 0, c => c
  | k + 1, c => if c.may ≤ 0 then c else sendF k c.send1
def Cn.sendFin (c : Cn) : Cn := if c.shut = true ∧ c.over = false ∧ qDiff c.nxt c.una = c.out.length then (c.emit 6 c.nxt []).on 1 else c
def Cn.push (c : Cn) : Cn := if c.state ≠ 3 then c else (sendF 1100 c).sendFin
def Cn.reset (c : Cn) : Cn := { c with state := 5, out := [], inn := [] }
def Cn.made (c : Cn) : Prop := c.state ≠ 0
instance instDecMade (c : Cn) : Decidable c.made := inferInstanceAs (Decidable (_ ≠ _))
def Cn.done (c : Cn) : Prop := c.state = 0 ∨ c.state = 4 ∨ c.state = 5
instance instDecDone (c : Cn) : Decidable c.done := inferInstanceAs (Decidable (_ ∨ _ ∨ _))
def Cn.answered (c : Cn) (p : Pk) : Cn :=
  let yes : Prop := bitQ p.flags 1 = true ∧ p.ack = qAdd c.iss 1
  if bitQ p.flags 1 = true ∧ p.ack ≠ qAdd c.iss 1 then c.refuse p
  else if bitQ p.flags 3 = true then (if bitQ p.flags 1 = true then c.reset else c)
  else if bitQ p.flags 0 = true ∧ bitQ p.flags 1 = true then
    (({ c with irs := p.seq, rcv := qAdd p.seq 1, wnd := p.window, una := qAdd c.iss 1, nxt := qAdd c.iss 1, state := 3, timer := 0, tries := 0 } : Cn).ack).push
  else c
def Cn.fits (c : Cn) (p : Pk) : Bool :=
  decide (p.seq = c.rcv) || decide ((qClip p.seq p.takes c.rcv c.window).2 > 0) || (decide (p.takes = 0) && qIn p.seq c.rcv (c.window + 3))
def Cn.credit (c : Cn) (p : Pk) : Cn × Bool :=
  if qDiff p.ack c.top > 0 then (c, false)
  else if qDiff p.ack c.una < 0 then (c, true)
  else
    let c1 : Cn := { c with wnd := p.window, tries := 0 }
    let n := qDiff p.ack c.una
    if n > 0 then
      let d := min n c.out.length
      let c2 : Cn := { c1 with over := c.over || decide (n > d), out := c.out.drop d.toNat, sent := wr (c.sent + d), una := p.ack, timer := 0 }
      (if qDiff c2.nxt c2.una < 0 then { c2 with nxt := c2.una } else c2, true)
    else (c1, true)
/-- Bytes are kept, from a place on. -/
def keepF (at_ : Nat) : List UInt8 → List UInt8 × List Bool → List UInt8 × List Bool
  | [], s => s
  | x :: l, s => keepF (at_ + 1) l (s.1.set at_ x, s.2.set at_ true)
def Cn.keep (c : Cn) (p : Pk) : Cn :=
  let k := qClip p.seq p.data.length c.rcv c.window
  let s := keepF (qDiff (qAdd p.seq k.1) c.rcv).toNat ((p.data.drop k.1.toNat).take k.2.toNat) (c.early, c.have_)
  let e := qAdd p.seq p.data.length
  let c1 : Cn := { c with early := s.1, have_ := s.2 }
  if bitQ p.flags 2 = true ∧ c.told = false ∧ qDiff e c.rcv ≥ 0 ∧ qDiff e c.rcv ≤ c.window then { c1 with told := true, end_ := e } else c1
/-- How many are there in order. -/
def thereF (told : Bool) (end_ rcv : Int) : Nat → List Bool → Nat
  | _, [] => 0
  | n, h :: l => if h = true ∧ ¬(told = true ∧ qAdd rcv n = end_) then thereF told end_ rcv (n + 1) l + 1 else 0
def Cn.there (c : Cn) : Nat := thereF c.told c.end_ c.rcv 0 c.have_
def Cn.fill (c : Cn) : Cn :=
  let n := c.there
  let c1 : Cn := { c with inn := c.inn ++ c.early.take n, early := c.early.drop n ++ c.early.drop (1024 - n), have_ := c.have_.drop n ++ List.replicate n false, rcv := qAdd c.rcv n }
  if c1.told = true ∧ c1.rcv = c1.end_ then { c1 with fin := true, rcv := qAdd c1.rcv 1 } else c1
def Cn.talk (c : Cn) (p : Pk) : Cn :=
  let c1 : Cn := if c.state = 2 then { c with state := 3, una := qAdd c.iss 1, nxt := qAdd c.iss 1, timer := 0, tries := 0 } else c
  if c1.fits p = false then c1.ack else
  let k := c1.credit p
  if k.2 = false then k.1.ack else
  let c2 := if k.1.fin then k.1 else (k.1.keep p).fill
  let c3 := if p.takes > 0 then c2.ack else c2
  let c4 := c3.push
  if c4.fin = true ∧ c4.over = true then { c4 with state := 4 } else c4
def Cn.take1 (c : Cn) (p : Pk) : Cn :=
  if bitQ p.flags 3 = true then (if c.state ≠ 4 ∧ qIn p.seq c.rcv (c.window + 3) = true then c.reset else c)
  else if bitQ p.flags 0 = true ∧ c.state = 2 ∧ p.seq = c.irs ∧ bitQ p.flags 1 = false then c.syn
  else if bitQ p.flags 0 = true then c.ack
  else if bitQ p.flags 1 = false then c
  else if c.state = 2 ∧ p.ack ≠ qAdd c.iss 1 then c.refuse p
  else c.talk p
def Cn.take (c : Cn) (p : Pk) : Cn :=
  if c.state = 0 ∨ ¬p.ok then c else
  let c1 : Cn := { c with idle := 0 }
  if c.state = 5 then c1.refuse p else if c.state = 1 then c1.answered p else c1.take1 p
def Cn.room (c : Cn) : Int := if c.state = 0 ∨ c.shut = true ∨ c.state = 5 ∨ c.state = 4 then 0 else 1024 - c.out.length
def okDial (src sport dst dport origin : Int) : Prop := okPk src dst sport dport 0 0 0 origin 0
instance instDecDial (a b c d e : Int) : Decidable (okDial a b c d e) := inferInstanceAs (Decidable (okPk _ _ _ _ _ _ _ _ _))
end Go.Fl
namespace Go.Fl

theorem wordsN_le : ∀ (b : Bool) (m : List UInt8), wordsN b m ≤ 65536 * m.length
  | true, [] => Nat.zero_le _
  | false, [] => Nat.zero_le _
  | true, x :: l => by have := wordsN_le false l; have := x.toNat_lt; simp only [wordsN, List.length_cons]; omega
  | false, x :: l => by have := wordsN_le true l; have := x.toNat_lt; simp only [wordsN, List.length_cons]; omega
theorem xor16 (a : Nat) (h : a ≤ 65535) : 65535 ^^^ a = 65535 - a := by
  have h1 := congrArg BitVec.toNat (BitVec.allOnes_xor (x := BitVec.ofNat 16 a))
  rw [BitVec.toNat_xor, BitVec.toNat_not, BitVec.toNat_allOnes, BitVec.toNat_ofNat, Nat.mod_eq_of_lt (show a < 2 ^ 16 by omega)] at h1
  exact h1
theorem optP_len (p : Pk) : (optP p).length ≤ 14 := by
  unfold optP
  split <;> split <;> simp [be4, be2]
theorem frontP_len (p : Pk) : (frontP p).length = 18 := rfl
theorem foldF_le : ∀ (k n : Nat), n < 18446744073709551616 → (6 ≤ k ∨ (n < 562949953421312 ∧ 5 ≤ k) ∨ (n < 281474976710656 ∧ 4 ≤ k) ∨ (n < 8589934592 ∧ 3 ≤ k) ∨ (n < 4294967296 ∧ 2 ≤ k) ∨ (n ≤ 131070 ∧ 1 ≤ k) ∨ n ≤ 65535) → foldF (k + 1) n ≤ 65535
  | 0, n, _, h => by
    unfold foldF
    split
    · assumption
    · unfold foldF; omega
  | k + 1, n, hn, h => by
    unfold foldF
    split
    · assumption
    · exact foldF_le k _ (by omega) (by omega)
theorem foldN_le {n : Nat} (h : n < 18446744073709551616) : foldN n ≤ 65535 := foldF_le 7 n h (.inl (by decide))
end Go.Fl
namespace Go.Fl

/-- Whole values may be read, or stored, so. -/
def AV.okLd : AV → Bool
  | .v x => x.oneCell'
  | .nil => true
  | .pair a b => a.okLd && b.okLd
  | .row _ _ => true
  | .tup _ => false
def AV.okSt : AV → Bool
  | .v x => x.oneCell'
  | .nil => true
  | .pair a b => a.okSt && b.okSt
  | .row _ l => l.1.all (·.oneCell')
  | .tup _ => false
theorem one_cells {x : Value} (h : x.oneCell' = true) : x.cells = #[x] := by cases x <;> first | rfl | simp [Value.oneCell'] at h
/-- A value is stored into a part of a block. -/
theorem st_all : ∀ (x : AV), x.okSt = true → ∀ {w : World} {g : Nat} {pre q post : List Value} {t : TypeId} {K : World → Prop}, w.heap[g]? = some (.cells (pre ++ q ++ post).toArray t (0, 0)) → q.length = x.size →
    (∀ w', w'.heap[g]? = some (.cells (pre ++ x.cells ++ post).toArray t (0, 0)) → w.grownBy w' (some g) → w'.heap.size = w.heap.size → K w') → st w ⟨g, pre.length, none⟩ x K
  | .nil, _, w, g, pre, q, post, t, K, h, hq, hk => by
    have : q = [] := List.eq_nil_of_length_eq_zero hq
    subst this
    exact hk w h (World.grownBy.refl _ _) rfl
  | .v x, hx, w, g, pre, q, post, t, K, h, hq, hk => by
    have hx' : x.oneCell' = true := hx
    have hc := one_cells hx'
    simp only [AV.size, hc] at hq
    obtain ⟨u, rfl⟩ : ∃ u, q = [u] := by
      match q, hq with
      | [u], _ => exact ⟨u, rfl⟩
    show bif x.oneCell' then st1 w ⟨g, pre.length, none⟩ x K else False
    rw [hx']
    refine st0 h (by simp) fun w' hb hg hs => hk w' ?_ hg hs
    rw [hb, List.setIfInBounds_toArray, List.append_assoc, List.set_append_right _ _ (Nat.le_refl _), Nat.sub_self]
    simp [AV.cells, hc]
  | .pair a b, hx, w, g, pre, q, post, t, K, h, hq, hk => by
    simp only [AV.okSt, Bool.and_eq_true] at hx
    simp only [AV.size] at hq
    refine st_all a hx.1 (pre := pre) (q := q.take a.size) (post := q.drop a.size ++ post) (t := t) ?_ (by rw [List.length_take]; omega) fun w1 h1 g1 s1 => ?_
    · have e : pre ++ q ++ post = pre ++ q.take a.size ++ (q.drop a.size ++ post) := by rw [List.append_assoc, List.append_assoc, ← List.append_assoc (q.take a.size), List.take_append_drop]
      rw [h, e]
    · rw [addOff]
      have hl : (pre ++ a.cells).length = pre.length + a.size := by rw [List.length_append, AV.cells_length]
      rw [← hl]
      refine st_all b hx.2 (pre := pre ++ a.cells) (q := q.drop a.size) (post := post) (t := t) ?_ (by rw [List.length_drop]; omega) fun w2 h2 g2 s2 => hk w2 ?_ (g1.trans g2) (s2.trans s1)
      · rw [h1]; simp
      · rw [h2]; simp [AV.cells]
  | .row n l, hx, w, g, pre, q, post, t, K, h, hq, hk => by
    simp only [AV.okSt, List.all_eq_true] at hx
    have : q.length = l.1.length := by rw [l.2]; exact hq
    suffices H : ∀ (vs : List Value), (∀ v ∈ vs, v.oneCell' = true) → ∀ (i : Nat) (pre q : List Value) {w : World} {K : World → Prop}, q.length = vs.length → w.heap[g]? = some (.cells (pre ++ q ++ post).toArray t (0, 0)) → (∀ w', w'.heap[g]? = some (.cells (pre ++ vs ++ post).toArray t (0, 0)) → w.grownBy w' (some g) → w'.heap.size = w.heap.size → K w') → ∀ o, o + i = pre.length → stL ⟨g, o, none⟩ w i vs K from
      H l.1 hx 0 pre q this h hk pre.length rfl
    intro vs
    induction vs with
    | nil =>
      intro _ i pre q w K hq h hk o ho
      have : q = [] := List.eq_nil_of_length_eq_zero hq
      subst this
      exact hk w h (World.grownBy.refl _ _) rfl
    | cons v vs ih =>
      intro hv i pre q w K hq h hk o ho
      match q, hq with
      | u :: q, hq =>
        refine ⟨hv v (by simp), ?_⟩
        rw [addOff, ho]
        refine st0 h (by simp) fun w' hb hg hs => ?_
        refine ih (fun x hx => hv x (by simp [hx])) (i + 1) (pre ++ [v]) q (by simpa using hq) ?_ (fun w2 h2 g2 s2 => hk w2 (by rw [h2]; simp) (hg.trans g2) (s2.trans hs)) o (by simp; omega)
        rw [hb, List.setIfInBounds_toArray, List.append_assoc, List.set_append_right _ _ (Nat.le_refl _), Nat.sub_self]
        simp
  | .tup _, hx, _, _, _, _, _, _, _, _, _, _ => by cases hx
/-- A whole block is stored anew. -/
theorem stW {w : World} {g : Nat} {q : List Value} {t : TypeId} (x : AV) (hx : x.okSt = true) {K : World → Prop} (h : w.heap[g]? = some (.cells q.toArray t (0, 0))) (hq : q.length = x.size)
    (hk : ∀ w', w'.heap[g]? = some (.cells x.cells.toArray t (0, 0)) → w.grownBy w' (some g) → w'.heap.size = w.heap.size → K w') : st w ⟨g, 0, none⟩ x K :=
  st_all x hx (pre := []) (post := []) (q := q) (by rw [List.nil_append, List.append_nil]; exact h) hq fun w' h' g' s' => hk w' (by rw [List.nil_append, List.append_nil] at h'; exact h') g' s'
/-- A value is read. -/
theorem ld_all : ∀ (k : Kd) (x : k.T), (k.av x).okLd = true → ∀ {w : World} {g : Nat} {pre post : List Value} {t : TypeId} {f : Nat × Nat} {K : k.T → Prop}, w.heap[g]? = some (.cells (pre ++ (k.av x).cells ++ post).toArray t f) → K x → ld k w ⟨g, pre.length, none⟩ K
  | .nil, (), _, _, _, _, _, _, _, _, _, hk => hk
  | .pair k1 k2, (x, y), hx, w, g, pre, post, t, f, K, h, hk => by
    simp only [Kd.av, AV.okLd, Bool.and_eq_true] at hx
    simp only [Kd.av, AV.cells] at h
    have hl : (k1.av x).cells.length = k1.size := kd_size k1 x hx.1
    refine ld_all k1 x hx.1 (pre := pre) (post := (k2.av y).cells ++ post) (t := t) (f := f) (by rw [h]; simp) ?_
    show ld k2 w ((⟨g, pre.length, none⟩ : Addr).add k1.size) _
    rw [addOff]
    have : (pre ++ (k1.av x).cells).length = pre.length + k1.size := by rw [List.length_append, hl]
    rw [← this]
    exact ld_all k2 y hx.2 (pre := pre ++ (k1.av x).cells) (post := post) (t := t) (f := f) (by rw [h]; simp) hk
  | .row n, l, _, w, g, pre, post, t, f, K, h, hk => by
    refine ldRow (vs := l.1) h ?_ l.2 hk
    show ((pre ++ l.1 ++ post).drop pre.length).take n = l.1
    rw [List.append_assoc, List.drop_left' rfl, List.take_left' l.2]
  | .B, b, _, w, g, pre, post, t, f, K, h, hk => ⟨b, by rw [cell_of_row w g _ _ t f h]; simp [Kd.av, AV.cells, Value.cells], hk⟩
  | .I k, b, _, w, g, pre, post, t, f, K, h, hk => ⟨b, by rw [cell_of_row w g _ _ t f h]; simp [Kd.av, AV.cells, Value.cells], hk⟩
  | .S, b, _, w, g, pre, post, t, f, K, h, hk => ⟨b, by rw [cell_of_row w g _ _ t f h]; simp [Kd.av, AV.cells, Value.cells], hk⟩
  | .P, b, _, w, g, pre, post, t, f, K, h, hk => ⟨b, by rw [cell_of_row w g _ _ t f h]; simp [Kd.av, AV.cells, Value.cells], hk⟩
  | .L, b, _, w, g, pre, post, t, f, K, h, hk => ⟨b, by rw [cell_of_row w g _ _ t f h]; simp [Kd.av, AV.cells, Value.cells], hk⟩
  | .M, b, _, w, g, pre, post, t, f, K, h, hk => ⟨b, by rw [cell_of_row w g _ _ t f h]; simp [Kd.av, AV.cells, Value.cells], hk⟩
  | .U, b, hx, w, g, pre, post, t, f, K, h, hk => ⟨b, by rw [cell_of_row w g _ _ t f h]; simp [Kd.av, AV.cells, one_cells hx], hk, hx⟩
  | .tup _, _, hx, _, _, _, _, _, _, _, _, _ => by cases hx
where
  kd_size : ∀ (k : Kd) (x : k.T), (k.av x).okLd = true → (k.av x).cells.length = k.size
  | .nil, (), _ => rfl
  | .pair k1 k2, (x, y), hx => by
    simp only [Kd.av, AV.okLd, Bool.and_eq_true] at hx
    simp only [Kd.av, AV.cells, List.length_append, Kd.size, kd_size k1 x hx.1, kd_size k2 y hx.2]
  | .row n, l, _ => l.2
  | .B, _, _ | .I _, _, _ | .S, _, _ | .P, _, _ | .L, _, _ | .M, _, _ => rfl
  | .U, x, hx => by simp [Kd.av, AV.cells, one_cells hx, Kd.size]
  | .tup _, _, hx => by cases hx
/-- A whole block is read. -/
theorem ldW {k : Kd} {x : k.T} {w : World} {g : Nat} {t : TypeId} {f : Nat × Nat} {K : k.T → Prop} (h : w.heap[g]? = some (.cells (k.av x).cells.toArray t f)) (hx : (k.av x).okLd = true) (hk : K x) : ld k w ⟨g, 0, none⟩ K :=
  ld_all k x hx (pre := []) (post := []) (by rw [List.nil_append, List.append_nil]; exact h) hk
end Go.Fl
namespace Go.Fl

/-- No block turns but those of F. -/
structure Mv (F : Nat → Prop) (w w' : World) : Prop where
  os : w'.os = w.os
  tape : w'.tape = w.tape
  output : w'.output = w.output
  size : w.heap.size ≤ w'.heap.size
  block : ∀ k, k < w.heap.size → ¬F k → w'.heap[k]? = w.heap[k]?
theorem Mv.refl (F : Nat → Prop) (w : World) : Mv F w w := ⟨rfl, rfl, rfl, Nat.le_refl _, fun _ _ _ => rfl⟩
theorem Mv.of_fr {F : Nat → Prop} {w w' : World} (h : Fr w w') : Mv F w w' := ⟨h.os, h.tape, h.output, h.size, fun k hk _ => h.block k hk⟩
theorem Mv.of_grown {F : Nat → Prop} {w w' : World} {g : Nat} (h : w.grownBy w' (some g)) (hF : F g) : Mv F w w' := ⟨h.os, h.tape, h.output, h.size, fun k hk hn => h.block k hk fun e => hn (by cases e; exact hF)⟩
theorem Mv.trans {F G : Nat → Prop} {a b c : World} (h : Mv F a b) (k : Mv G b c) (hG : ∀ j, G j → F j ∨ a.heap.size ≤ j) : Mv F a c :=
  ⟨k.os.trans h.os, k.tape.trans h.tape, k.output.trans h.output, Nat.le_trans h.size k.size, fun j hj hn => (k.block j (Nat.lt_of_lt_of_le hj h.size) fun hg => by rcases hG j hg with h1 | h1; exact hn h1; omega).trans (h.block j hj hn)⟩
theorem Mv.mono {F G : Nat → Prop} {a b : World} (h : Mv F a b) (hG : ∀ j, F j → G j ∨ a.heap.size ≤ j) : Mv G a b :=
  ⟨h.os, h.tape, h.output, h.size, fun j hj hn => h.block j hj fun hf => by rcases hG j hf with h1 | h1; exact hn h1; omega⟩
theorem Mv.fr {F : Nat → Prop} {a b : World} (h : Mv F a b) (hF : ∀ j, F j → a.heap.size ≤ j) : Fr a b := ⟨h.os, h.tape, h.output, h.size, fun j hj => h.block j hj fun hf => by have := hF j hf; omega⟩
/-- From a later world: what turns is newer. -/
theorem Mv.on {F : Nat → Prop} {a b c : World} (h : Fr a b) (k : Mv F b c) (hF : ∀ j, F j → a.heap.size ≤ j) : Fr a c :=
  ((Mv.of_fr (F := fun _ => False) h).trans k fun j hj => .inr (hF j hj)).fr fun _ h => h.elim
theorem Mv.heap {F : Nat → Prop} {w w' : World} (h : Mv F w w') {g : Nat} {o : Obj} (hg : w.heap[g]? = some o) (hF : ¬F g) : w'.heap[g]? = some o :=
  (h.block g (Array.getElem?_eq_some_iff.1 hg).1 hF).trans hg
theorem Mv.kp {F : Nat → Prop} {w w' : World} (h : Mv F w w') : Kp (fun k => ¬F k) w w' := fun k hk hn => h.block k hk hn
/-- One thing, cell by cell with another one. -/
def All2 {α β : Type} (R : α → β → Prop) : List α → List β → Prop
  | [], [] => True
  | a :: l, b :: m => R a b ∧ All2 R l m
  | _, _ => False
theorem All2.length {α β : Type} {R : α → β → Prop} : ∀ {l : List α} {m : List β}, All2 R l m → l.length = m.length
  | [], [], _ => rfl
  | _ :: _, _ :: _, h => by simp [All2.length h.2]
  | [], _ :: _, h => h.elim
  | _ :: _, [], h => h.elim
theorem All2.mono {α β : Type} {R S : α → β → Prop} : ∀ {l : List α} {m : List β}, All2 R l m → (∀ a b, a ∈ l → b ∈ m → R a b → S a b) → All2 S l m
  | [], [], _, _ => trivial
  | _ :: _, _ :: _, h, hk => ⟨hk _ _ (by simp) (by simp) h.1, All2.mono h.2 fun a b ha hb hr => hk a b (by simp [ha]) (by simp [hb]) hr⟩
  | [], _ :: _, h, _ => h.elim
  | _ :: _, [], h, _ => h.elim
theorem All2.append {α β : Type} {R : α → β → Prop} : ∀ {l : List α} {m : List β} {l' : List α} {m' : List β}, All2 R l m → All2 R l' m' → All2 R (l ++ l') (m ++ m')
  | [], [], _, _, _, h' => h'
  | _ :: _, _ :: _, _, _, h, h' => ⟨h.1, All2.append h.2 h'⟩
  | [], _ :: _, _, _, h, _ => h.elim
  | _ :: _, [], _, _, h, _ => h.elim
theorem All2.get {α β : Type} {R : α → β → Prop} : ∀ {l : List α} {m : List β}, All2 R l m → ∀ {i : Nat} (h1 : i < l.length) (h2 : i < m.length), R l[i] m[i]
  | _ :: _, _ :: _, h, 0, _, _ => h.1
  | _ :: _, _ :: _, h, _ + 1, h1, h2 => All2.get h.2 (by simpa using h1) (by simpa using h2)
theorem All2.drop {α β : Type} {R : α → β → Prop} : ∀ {l : List α} {m : List β}, All2 R l m → ∀ (i : Nat), All2 R (l.drop i) (m.drop i)
  | [], [], _, i => by cases i <;> trivial
  | _ :: _, _ :: _, h, 0 => h
  | _ :: _, _ :: _, h, i + 1 => All2.drop h.2 i
  | [], _ :: _, h, _ => h.elim
  | _ :: _, [], h, _ => h.elim
theorem All2.take {α β : Type} {R : α → β → Prop} : ∀ {l : List α} {m : List β}, All2 R l m → ∀ (i : Nat), All2 R (l.take i) (m.take i)
  | [], [], _, i => by cases i <;> trivial
  | _ :: _, _ :: _, _, 0 => trivial
  | _ :: _, _ :: _, h, i + 1 => ⟨h.1, All2.take h.2 i⟩
  | [], _ :: _, h, _ => h.elim
  | _ :: _, [], h, _ => h.elim
/-- Cells that stay, apart from what may turn. -/
theorem Rd.mv {F : Nat → Prop} {w w' : World} {A : Option Addr} {xs : List Value} (h : Rd w A xs) (hm : Mv F w w') (hF : xs ≠ [] → ∀ ad, A = some ad → ¬F ad.block) : Rd w' A xs := by
  cases xs with
  | nil => exact Rd.nil _ _
  | cons x xs => exact Kp.rd h hm.kp (hF (by simp))
theorem Rd.lt {w : World} {A : Option Addr} {xs : List Value} (h : Rd w A xs) (hx : xs ≠ []) : ∀ ad, A = some ad → ad.block < w.heap.size := fun ad ha => by
  cases xs with
  | nil => exact absurd rfl hx
  | cons x xs =>
    obtain ⟨ad', ha', hc⟩ := h 0 x rfl
    rw [ha] at ha'
    cases ha'
    have := World.block_lt_of_cell? w _ hc
    rwa [add_block] at this
/-- Bytes that nobody turns. -/
structure Cb (w : World) (Z : Nat → Prop) (s : Sl) (l : List UInt8) : Prop where
  bs : Bs w s l
  cold : l ≠ [] → ∀ ad, s.a = some ad → ¬Z ad.block
theorem Cb.mv {F Z Z' : Nat → Prop} {w w' : World} {s : Sl} {l : List UInt8} (h : Cb w Z s l) (hm : Mv F w w') (hF : ∀ k, F k → Z k ∨ w.heap.size ≤ k) (hZ : ∀ k, Z' k → Z k ∨ w.heap.size ≤ k) : Cb w' Z' s l := by
  have hlt : l ≠ [] → ∀ ad, s.a = some ad → ad.block < w.heap.size := fun hl => h.bs.lt hl
  refine ⟨h.bs.kpn hm.kp fun hl ad ha hf => ?_, fun hl ad ha hz => ?_⟩
  · rcases hF _ hf with h1 | h1
    · exact h.cold hl ad ha h1
    · have := hlt hl ad ha; omega
  · rcases hZ _ hz with h1 | h1
    · exact h.cold hl ad ha h1
    · have := hlt hl ad ha; omega
theorem Cb.anti {Z Z' : Nat → Prop} {w : World} {s : Sl} {l : List UInt8} (h : Cb w Z s l) (hZ : ∀ k, Z' k → Z k) : Cb w Z' s l := ⟨h.bs, fun hl ad ha hz => h.cold hl ad ha (hZ _ hz)⟩
theorem Cb.nil (w : World) (Z : Nat → Prop) (c : Nat) : Cb w Z ⟨none, 0, c⟩ [] := ⟨Bs.nil _ _, fun h => absurd rfl h⟩
theorem Cb.own {w : World} {Z : Nat → Prop} {base : Nat} {e : TypeId} {s : Sl} {l : List UInt8} (h : OwB w base e s l) (hZ : ∀ k, Z k → k < base) : Cb w Z s l := ⟨h.bs, fun _ ad ha hz => by have := (h.own ad ha).1; have := hZ _ hz; omega⟩
abbrev slsV (hs : List Sl) : List Value := hs.map slV
theorem slsV_one (hs : List Sl) : ∀ v ∈ slsV hs, v.oneCell' = true := fun v hv => by
  obtain ⟨s, _, rfl⟩ := List.mem_map.1 hv
  rfl
/-- A row of slices of bytes that nobody turns. -/
structure RwB (w : World) (Z : Nat → Prop) (s : Sl) (hs : List Sl) (ls : List (List UInt8)) : Prop where
  rd : Rd w s.a (slsV hs)
  len : s.n = hs.length
  cap : s.n ≤ s.c
  cold : hs ≠ [] → ∀ ad, s.a = some ad → ¬Z ad.block
  all : All2 (Cb w Z) hs ls
theorem RwB.mv {F Z Z' : Nat → Prop} {w w' : World} {s : Sl} {hs : List Sl} {ls : List (List UInt8)} (h : RwB w Z s hs ls) (hm : Mv F w w') (hF : ∀ k, F k → Z k ∨ w.heap.size ≤ k) (hZ : ∀ k, Z' k → Z k ∨ w.heap.size ≤ k) : RwB w' Z' s hs ls := by
  have hne : slsV hs ≠ [] → hs ≠ [] := fun h e => h (by rw [e]; rfl)
  have hlt : hs ≠ [] → ∀ ad, s.a = some ad → ad.block < w.heap.size := fun hl => h.rd.lt fun e => hl (List.map_eq_nil_iff.1 e)
  refine ⟨h.rd.mv hm fun hx ad ha hf => ?_, h.len, h.cap, fun hl ad ha hz => ?_, h.all.mono fun a b _ _ hr => hr.mv hm hF hZ⟩
  · rcases hF _ hf with h1 | h1
    · exact h.cold (hne hx) ad ha h1
    · have := hlt (hne hx) ad ha; omega
  · rcases hZ _ hz with h1 | h1
    · exact h.cold hl ad ha h1
    · have := hlt hl ad ha; omega
theorem RwB.nil (w : World) (Z : Nat → Prop) (c : Nat) : RwB w Z ⟨none, 0, c⟩ [] [] := ⟨Rd.nil _ _, rfl, Nat.zero_le _, fun h => absurd rfl h, trivial⟩
theorem RwB.count {w : World} {Z : Nat → Prop} {s : Sl} {hs : List Sl} {ls : List (List UInt8)} (h : RwB w Z s hs ls) : s.n = ls.length := by rw [h.len, h.all.length]
/-- A row of slices of the call's own. -/
def OwS (w : World) (base : Nat) (e : TypeId) (s : Sl) (hs : List Sl) : Prop := w.ownsRow base e 1 (.slice s.a s.n s.c) s.n (slsV hs)
theorem OwS.len {w : World} {base : Nat} {e : TypeId} {s : Sl} {hs : List Sl} (h : OwS w base e s hs) : s.n = hs.length := by
  have := h.1; rw [List.length_map] at this; omega
theorem OwS.cap {w : World} {base : Nat} {e : TypeId} {s : Sl} {hs : List Sl} (h : OwS w base e s hs) : s.n ≤ s.c := by
  rcases h.2 with ⟨hv, hn⟩ | ⟨g, cap, cur, hv, _, _, hc, _⟩
  · injection hv with _ h1 h2; omega
  · injection hv with _ h1 h2; omega
theorem OwS.rd {w : World} {base : Nat} {e : TypeId} {s : Sl} {hs : List Sl} (h : OwS w base e s hs) : Rd w s.a (slsV hs) := Rd.of_own h
theorem OwS.nil (w : World) (base : Nat) (e : TypeId) : OwS w base e ⟨none, 0, 0⟩ [] := World.ownsRow_nil w base e 1
theorem OwS.fr {w w' : World} {base : Nat} {e : TypeId} {s : Sl} {hs : List Sl} (h : OwS w base e s hs) (hf : Fr w w') : OwS w' base e s hs := own_kept h hf
theorem OwS.own {w : World} {base : Nat} {e : TypeId} {s : Sl} {hs : List Sl} (h : OwS w base e s hs) : ∀ ad, s.a = some ad → base ≤ ad.block ∧ ad.block < w.heap.size := fun ad ha => World.ownsRow.lt h ad.block (by rw [ha]; rfl)
theorem OwS.mono {w : World} {base base' : Nat} {e : TypeId} {s : Sl} {hs : List Sl} (h : OwS w base e s hs) (hb : base' ≤ base) : OwS w base' e s hs := by
  refine ⟨h.1, ?_⟩
  rcases h.2 with hn | ⟨g, cap, cur, hv, hg, rest⟩
  · exact .inl hn
  · exact .inr ⟨g, cap, cur, hv, Nat.le_trans hb hg, rest⟩
theorem own_kp {S : Nat → Prop} {w w' : World} {base size n c : Nat} {e : TypeId} {A : Option Addr} {xs : List Value} {m : Nat} (h : w.ownsRow base e size (.slice A n c) m xs) (hk : Kp S w w') (hS : ∀ ad, A = some ad → S ad.block) : w'.ownsRow base e size (.slice A n c) m xs := by
  refine ⟨h.1, ?_⟩
  rcases h.2 with hn | ⟨g, cap, cur, hv, hb, hgg, rest⟩
  · exact .inl hn
  · have ha : A = some ⟨g, 0, none⟩ := by injection hv
    exact .inr ⟨g, cap, cur, hv, hb, (hk g (Array.getElem?_eq_some_iff.1 hgg).1 (hS _ ha)).trans hgg, rest⟩
theorem OwS.mv {F : Nat → Prop} {w w' : World} {base : Nat} {e : TypeId} {s : Sl} {hs : List Sl} (h : OwS w base e s hs) (hm : Mv F w w') (hF : ∀ ad, s.a = some ad → ¬F ad.block) : OwS w' base e s hs := own_kp h hm.kp hF
theorem OwB.mv {F : Nat → Prop} {w w' : World} {base : Nat} {e : TypeId} {s : Sl} {l : List UInt8} (h : OwB w base e s l) (hm : Mv F w w') (hF : ∀ ad, s.a = some ad → ¬F ad.block) : OwB w' base e s l := own_kp h hm.kp hF
/-- One more slice behind an own row. -/
theorem app_S {P : Program} {t ty e : TypeId} {bytes : Nat} (hT : SlT P t e 1 bytes) (hb24 : bytes ≤ 24) {base : Nat} {s x : Sl} {w : World} {K : Sl → World → Prop} {hs ms : List Sl}
    (ho : OwS w base e s hs) (hx : Rd w x.a (slsV ms)) (hm : ms.length = x.n) (hl : hs.length + ms.length ≤ 1099511627776) (hbase : base ≤ w.heap.size)
    (h : ∀ (r : Sl) w', OwS w' base e r (hs ++ ms) → w.grownBy w' (Value.slice s.a s.n s.c).ownBlock → ((Value.slice r.a r.n r.c).ownBlock = (Value.slice s.a s.n s.c).ownBlock ∨ (Value.slice r.a r.n r.c).ownBlock = some w.heap.size) → K r w') : app P t ty s x w K := by
  have hn := ho.len
  refine app_own hT ho hx (by rw [List.length_map, hm, Nat.mul_one]) (slsV_one ms) ?_ (by omega) hbase fun r w' hr ho' hg hat => h r w' ?_ hg hat
  · have : (s.n + x.n) * bytes ≤ 1099511627776 * 24 := Nat.mul_le_mul (by omega) hb24
    omega
  · unfold OwS
    have e : slsV (hs ++ ms) = slsV hs ++ slsV ms := by simp [slsV]
    rw [e]; exact ho'
theorem ownB_slice' (s : Sl) : (Value.slice s.a s.n s.c).ownBlock = s.a.map (·.block) := by cases h : s.a <;> simp [Value.ownBlock]
theorem ownB_slice (s : Sl) : (Value.slice s.a s.n s.c).ownBlock = s.a.map (·.block) := by cases h : s.a <;> simp [Value.ownBlock]
/-- A slice of a row of slices. -/
theorem ixS {w w' : World} {s : Sl} {hs : List Sl} {i : Int} {j : Nat} {K : Sl → Prop} (hr : Rd w s.a (slsV hs)) (hl : s.n = hs.length) (hij : i = (j : Int)) (hj : j < hs.length) (hw : Fr w w') (h : K hs[j]) : ixa s.a s.n i 1 fun a => ld .L w' a K := by
  subst hij
  obtain ⟨ad, ha, hc⟩ := (hr.below hw).at j (by simpa using hj)
  refine ⟨by omega, by omega, ?_⟩
  rw [ha]
  rw [List.getElem_map] at hc
  exact ⟨hs[j], hc, h⟩
/-- A part of a row of slices. -/
theorem RwB.cut {w : World} {Z : Nat → Prop} {s : Sl} {hs : List Sl} {ls : List (List UInt8)} (h : RwB w Z s hs ls) {i j : Nat} (hij : i ≤ j) (hj : j ≤ hs.length) : RwB w Z (cut s i j 1) ((hs.take j).drop i) ((ls.take j).drop i) := by
  have hl := h.len
  have hc := h.cap
  have hr : Rd w s.a (slsV (hs.take j)) := by
    have := h.rd.take j
    rwa [show (slsV hs).take j = slsV (hs.take j) from by simp [slsV, List.map_take]] at this
  have hd := hr.drop i
  rw [show (slsV (hs.take j)).drop i = slsV ((hs.take j).drop i) from by simp [slsV, List.map_drop]] at hd
  have hne : (hs.take j).drop i ≠ [] → hs ≠ [] := fun h e => h (by rw [e]; simp)
  refine ⟨?_, by simp [Fl.cut, List.length_take]; omega, by simp [Fl.cut]; omega, fun hx ad ha => ?_, (h.all.take j).drop i⟩
  · unfold Fl.cut
    by_cases hci : s.c = i
    · simp only [hci, if_true]
      have : (hs.take j).drop i = [] := by rw [List.drop_eq_nil_iff, List.length_take]; omega
      rw [this]; exact Rd.nil _ _
    · rw [if_neg hci, show (fun x => atOff x (i : Int) 1) = fun x : Addr => x.add i from rfl]
      exact hd
  · unfold Fl.cut at ha
    split at ha
    · exact h.cold (hne hx) ad ha
    · cases hs' : s.a with
      | none => rw [hs'] at ha; cases ha
      | some ad' =>
        rw [hs'] at ha
        simp only [Option.map_some, Option.some.injEq] at ha
        rw [← ha, atOff_eq, add_block]
        exact h.cold (hne hx) ad' hs'
/-- append to a new empty slice: no block that was there turns. -/
theorem app0V {P : Program} {t ty e : TypeId} {size bytes : Nat} (hT : SlT P t e size bytes) {base b : Nat} {x : Sl} {w : World} {K : Sl → World → Prop} {ms : List Value} (hb : w.heap[b]? = some (.cells #[] e (0, 0))) (hbb : base ≤ b) (hx : Rd w x.a ms) (hn : ms.length = x.n * size) (h1 : ∀ u ∈ ms, u.oneCell' = true)
    (hby8 : x.n * bytes ≤ 140737488355328) (hl : x.n ≤ 140737488355328) (hbase : base ≤ w.heap.size)
    (h : ∀ (r : Sl) w', r.n = x.n → w'.ownsRow base e size (.slice r.a r.n r.c) r.n ms → Fr w w' → K r w') : app P t ty ⟨some ⟨b, 0, none⟩, 0, 0⟩ x w K := by
  obtain ⟨i, z, hi, hz, hsize, hby, hzs⟩ := hT.info
  have hpos := hT.pos
  cases ms with
  | nil =>
    obtain ⟨A, n, c⟩ := x
    have hn0 : n = 0 := by
      rcases Nat.eq_zero_or_pos n with h0 | h0
      · exact h0
      · have := Nat.mul_pos h0 hpos
        simp at hn; omega
    subst hn0
    exact ⟨_, w, run_append_none w hT.under hi _ _ (Nat.le_refl _), h _ _ rfl ⟨by simp, .inr ⟨b, 0, #[], rfl, hbb, hb, Nat.le_refl _, Nat.zero_le _, by simp, by simp⟩⟩ (Fr.refl w)⟩
  | cons u m =>
    obtain ⟨ad, ha, _⟩ := hx 0 u rfl
    have hxn : 0 < x.n := by
      rcases Nat.eq_zero_or_pos x.n with h0 | h0
      · rw [h0] at hn; simp at hn
      · exact h0
    obtain ⟨v', w', hrun, ho, hg⟩ := run_append_arg_grows (P := P) w t ty e i z size bytes hT.under hi hz hsize hby hzs hpos ⟨b, 0, none⟩ 0 0 [] (by simp) (fun j u hu => by simp at hu) ad x.n x.c (u :: m) hn
      (fun j u' hu => by obtain ⟨ad', ha', hc⟩ := hx j u' hu; rw [ha] at ha'; cases ha'; exact hc) (by omega) (by simp only [maxLen]; omega) (by rw [Nat.zero_add]; exact hby8)
    rw [Nat.zero_add, List.nil_append] at ho
    obtain ⟨r, rfl, hrn⟩ := sl_of_own ho
    refine ⟨r, w', by rw [ha]; exact hrun, h r w' hrn ?_ ⟨hg.os, hg.tape, hg.output, hg.size, fun k hk => hg.block k hk (by simp)⟩⟩
    refine ⟨by rw [hrn]; exact ho.1, ?_⟩
    rcases ho.2 with ⟨hv, h0⟩ | ⟨g, cap, cur, hv, hgb, hgg, hnc, hcm, hsz, ht⟩
    · exact .inl ⟨hv, by omega⟩
    · exact .inr ⟨g, cap, cur, by rw [hv, hrn], by omega, hgg, by omega, hcm, hsz, by rw [hrn]; exact ht⟩
/-- clear of a part of a known block. -/
theorem rnClear {P : Program} {t e ty : TypeId} {z : Value} {sz : Nat} {w : World} {s : Sl} {K : Unit → World → Prop} (ht : P.underlying t = some (.slice e)) (hz : ∀ w, (zeroValue e).run P w = .ok z w) (hzs : z.cells.size = sz) (h1 : ∀ v ∈ z.cells.toList, v.oneCell' = true)
    (h0 : s.n = 0 → K () w)
    (h : s.n ≠ 0 → ∃ (g o : Nat) (cs : List Value) (tt : TypeId), s.a = some ⟨g, o, none⟩ ∧ w.heap[g]? = some (.cells cs.toArray tt (0, 0)) ∧ o + s.n * sz ≤ cs.length ∧
      ∀ w' cs', w'.heap[g]? = some (.cells (cs' : List Value).toArray tt (0, 0)) → cs'.length = cs.length → cs'.take o = cs.take o → w.grownBy w' (some g) → w'.heap.size = w.heap.size → K () w') : rn P (Builtin.clear_ #[t] ty #[.slice s.a s.n s.c]) (.tup .nil) w K := by
  by_cases hn : s.n = 0
  · refine ⟨(), w, ?_, h0 hn⟩
    rw [hn]
    cases s.a <;> (simp [Builtin.clear_, run_underlying ht]; rfl)
  · obtain ⟨g, o, cs, tt, ha, hb, hl, hk⟩ := h hn
    have hzl : (Builtin.zeroCells z.cells s.n).toList.length = s.n * sz := by rw [Array.length_toList, size_zeroCells, hzs]
    have hz1 : ∀ v ∈ (Builtin.zeroCells z.cells s.n).toList, v.oneCell' = true := by
      intro v hv
      rcases Nat.eq_zero_or_pos sz with h0 | hp
      · rw [h0, Nat.mul_zero] at hzl
        rw [List.eq_nil_of_length_eq_zero hzl] at hv; cases hv
      · simp only [Builtin.zeroCells, Array.toList_map, List.mem_map] at hv
        obtain ⟨i, _, rfl⟩ := hv
        have hlt : i % z.cells.size < z.cells.size := Nat.mod_lt _ (by omega)
        rw [getElem!_pos z.cells _ hlt]
        exact h1 _ (by simp)
    have hst : stL ⟨g, o, none⟩ w 0 (Builtin.zeroCells z.cells s.n).toList fun w' => K () w' := by
      refine stL_at hb (by rw [hzl]; omega) hz1 fun w' hb' hg' hs' => hk w' _ hb' ?_ ?_ hg' hs'
      · rw [List.length_append, List.length_append, List.length_take, List.length_drop, hzl]
        generalize s.n * sz = q at *
        omega
      · rw [Nat.add_zero, List.append_assoc]
        exact List.take_left' (by rw [List.length_take]; generalize s.n * sz = q at *; omega)
    obtain ⟨w', hr, hk'⟩ := run_stL (P := P) hst
    refine ⟨(), w', ?_, hk'⟩
    obtain ⟨m, hm⟩ : ∃ m, s.n = m + 1 := ⟨s.n - 1, by omega⟩
    rw [ha]
    rw [hm] at hr ⊢
    simp [Builtin.clear_, run_underlying ht, hz, hr]
    rfl
end Go.Fl
namespace Go.Fl

/-- Only blocks of Z turned; Z' has none of the old ones that Z had not. -/
structure Stp (w : World) (Z : Nat → Prop) (w' : World) (Z' : Nat → Prop) : Prop where
  mv : Mv Z w w'
  sub : ∀ k, Z' k → Z k ∨ w.heap.size ≤ k
section
variable {w w' w'' : World} {Z Z' Z'' : Nat → Prop}
theorem Stp.refl (w : World) (Z : Nat → Prop) : Stp w Z w Z := ⟨Mv.refl _ _, fun _ h => .inl h⟩
theorem Stp.of_fr (h : Fr w w') : Stp w Z w' Z := ⟨Mv.of_fr h, fun _ h => .inl h⟩
theorem Stp.trans (h : Stp w Z w' Z') (k : Stp w' Z' w'' Z'') : Stp w Z w'' Z'' :=
  ⟨h.mv.trans k.mv h.sub, fun j hj => by
    rcases k.sub j hj with h1 | h1
    · exact h.sub j h1
    · have := h.mv.size; right; omega⟩
theorem Stp.fr (h : Stp w Z w' Z') (k : Fr w' w'') : Stp w Z w'' Z' := h.trans (Stp.of_fr k)
theorem Stp.pre (h : Fr w w') (k : Stp w' Z w'' Z') : Stp w Z w'' Z' := (Stp.of_fr h).trans k
theorem Stp.heap (h : Stp w Z w' Z') {g : Nat} {o : Obj} (hg : w.heap[g]? = some o) (hz : ¬Z g) : w'.heap[g]? = some o := h.mv.heap hg hz
theorem Stp.size (h : Stp w Z w' Z') : w.heap.size ≤ w'.heap.size := h.mv.size
theorem Stp.cb (h : Stp w Z w' Z') {s : Sl} {l : List UInt8} (hc : Cb w Z s l) : Cb w' Z' s l := hc.mv h.mv (fun _ hk => .inl hk) h.sub
/-- Bytes that were there ahead of all that turns. -/
theorem Cb.old {w0 : World} {s : Sl} {l : List UInt8} (h : Bs w0 s l) (hf : Fr w0 w) (hZ : ∀ k, Z k → w0.heap.size ≤ k) : Cb w Z s l :=
  ⟨h.fr hf, fun hl ad ha hz => by have := h.lt hl ad ha; have := hZ _ hz; omega⟩
end
/-- Bytes in a block that does not belong to Z. -/
theorem Cb.at {w : World} {Z : Nat → Prop} {s : Sl} {l : List UInt8} {b o : Nat} (h : Bs w s l) (ha : s.a = some ⟨b, o, none⟩) (hz : ¬Z b) : Cb w Z s l := ⟨h, fun _ ad had => by rw [ha] at had; cases had; exact hz⟩
/-- A block's cells are read. -/
theorem Rd.of_block {w : World} {g : Nat} {cs : List Value} {t : TypeId} {f : Nat × Nat} (h : w.heap[g]? = some (.cells cs.toArray t f)) : Rd w (some ⟨g, 0, none⟩) cs := fun j u hu => by
  refine ⟨_, rfl, ?_⟩
  rw [addOff, Nat.zero_add]
  exact (cell_of_row w g j _ t f h).trans (by simpa using hu)
/-- copy of bytes into a known block. -/
theorem cpBlk {P : Program} {t ty e : TypeId} (hT : SlT P t e 1 1) {w : World} {g o dn dc : Nat} {x : Sl} {cs : List Value} {te : TypeId} {m : List UInt8} (hg : w.heap[g]? = some (.cells cs.toArray te (0, 0))) (hx : Rd w x.a (u8s m)) (hm : m.length = min x.n dn) (hm0 : 0 < m.length) (hfit : o + m.length ≤ cs.length)
    {K : Int → World → Prop} (h : ∀ w', w'.heap[g]? = some (.cells (cs.take o ++ u8s m ++ cs.drop (o + m.length)).toArray te (0, 0)) → w.grownBy w' (some g) → w'.heap.size = w.heap.size → K (m.length : Int) w') :
    rn P (Builtin.copy_ #[t, t] ty #[.slice (some ⟨g, o, none⟩) dn dc, .slice x.a x.n x.c]) (.I .i64) w K := by
  obtain ⟨i, z, hi, hz, hsize, hby, hzs⟩ := hT.info
  obtain ⟨ad, ha, _⟩ := hx.u8 (i := 0) hm0
  have hl : (u8s m).length = m.length := u8s_length m
  have hrun := run_copy_row (P := P) w t t ty e g o dn dc ad x.n x.c cs.toArray te (u8s m) hT.under (by rw [hi]; simp [hsize]) hg (by rw [hl, hm]) (fun j v hj => by
    obtain ⟨ad', ha', hc⟩ := hx j v hj
    rw [ha] at ha'
    cases ha'
    exact hc) (by rw [hl]; simpa using hfit) (u8s_one m)
  rw [hl] at hrun
  refine ⟨(m.length : Int), w.setRow g ((cs.toArray.toList.take o ++ u8s m ++ cs.toArray.toList.drop (o + m.length)).toArray), by rw [ha]; exact hrun, h _ ?_ ⟨rfl, rfl, rfl, by simp [World.setRow], fun k _ hk => ?_⟩ (by simp [World.setRow])⟩
  · have := setRow_heap w g cs.toArray ((cs.toArray.toList.take o ++ u8s m ++ cs.toArray.toList.drop (o + m.length)).toArray) te (0, 0) hg
    simpa using this
  · have : g ≠ k := fun e => hk (by rw [e])
    simp [World.setRow, Array.getElem?_modify, this]
/-- copy of bytes into a part of an own row. -/
theorem cpOwn {P : Program} {t ty e : TypeId} (hT : SlT P t e 1 1) {w : World} {base : Nat} {y x : Sl} {l m : List UInt8} {i : Nat} (ho : OwB w base e y l) (hx : Bs w x m) (hm0 : 0 < m.length) (hfit : i + m.length ≤ l.length) {K : Int → World → Prop}
    (hk : ∀ w', OwB w' base e y (l.take i ++ m ++ l.drop (i + m.length)) → w.grownBy w' (Value.slice y.a y.n y.c).ownBlock → w'.heap.size = w.heap.size → K (m.length : Int) w') :
    rn P (Builtin.copy_ #[t, t] ty #[.slice (cut y i y.n 1).a (cut y i y.n 1).n (cut y i y.n 1).c, .slice x.a x.n x.c]) (.I .i64) w K := by
  have hn := ho.len
  have hxn := hx.len
  obtain ⟨h1, h2⟩ := ho
  rcases h2 with ⟨_, hz⟩ | ⟨g, cap, cur, hsl, hb, hg, hnc, hcm, hsz, ht⟩
  · omega
  injection hsl with e1 e2 e3
  have ecut : cut y i y.n 1 = ⟨some ⟨g, i, none⟩, y.n - i, y.c - i⟩ := by
    unfold cut
    rw [if_neg (by omega), e1]
    show Sl.mk (some (atOff ⟨g, 0, none⟩ (i : Int) 1)) _ _ = _
    rw [atH, Int.toNat_natCast]
  rw [ecut]
  dsimp only
  have hcur : cur = (u8s l ++ cur.toList.drop y.n).toArray := by
    have : cur.toList.take y.n = u8s l := by rw [← ht, Nat.mul_one]
    rw [← this, List.take_append_drop]
  have hul : (u8s l).length = l.length := u8s_length l
  refine cpBlk hT (g := g) (o := i) (cs := u8s l ++ cur.toList.drop y.n) (te := e) (m := m) (by rw [hg, ← hcur]) hx.rd (by omega) hm0 (by rw [List.length_append, hul]; omega) fun w' hb' hgr hs' => hk w' ⟨?_, .inr ⟨g, y.c, _, by rw [e1], hb, hb', by omega, by omega, ?_, ?_⟩⟩ (by rw [e1]; exact hgr) hs'
  · simp [u8s_length]; omega
  · have hc2 := congrArg Array.size hcur
    simp only [List.size_toArray, List.length_append, hul, List.length_drop, Array.length_toList] at hc2
    simp only [List.size_toArray, List.length_append, List.length_take, List.length_drop, u8s_length, hul, Array.length_toList]
    omega
  · rw [Nat.mul_one]
    show List.take y.n ((u8s l ++ cur.toList.drop y.n).take i ++ u8s m ++ (u8s l ++ cur.toList.drop y.n).drop (i + m.length)) = _
    have a1 : (u8s l ++ cur.toList.drop y.n).take i = (u8s l).take i := List.take_append_of_le_length (by omega)
    have a2 : (u8s l ++ cur.toList.drop y.n).drop (i + m.length) = (u8s l).drop (i + m.length) ++ cur.toList.drop y.n := List.drop_append_of_le_length (by omega)
    rw [a1, a2, ← List.append_assoc, List.take_left' (by
      simp only [List.length_append, List.length_take, List.length_drop, u8s_length, hul]
      omega)]
    simp [u8s, List.map_append, List.map_take, List.map_drop]
end Go.Fl
namespace Go.Proofs.YtoglafmpllimgaaGreatDoor
open Go.RowKit Go.Fl

theorem u16w (n : Int) : IntKind.u16.wrap n = n % 65536 := by
  simp only [IntKind.wrap, IntKind.bits, IntKind.signed, Bool.false_and]
  rfl
section
variable {w : World}
/-! ### Sums -/
theorem words_ok {s : Sl} {l : List UInt8} (h : Bs w s l) (hl : l.length ≤ 140737488355328) : cl Tryz.prog n_sums_words #[.slice s.a s.n s.c] (.I .u64) w fun (r : Int) w' => r = (wordsN true l : Nat) ∧ w = w' := by
  refine sums_words.cl (p0 := s) ?_
  unfold sums_words
  have hn := h.len
  have bnd : ∀ (b : Bool) (m : List UInt8), wordsN b m ≤ 65536 * m.length := by
    intro b m
    induction m generalizing b with
    | nil => cases b <;> exact Nat.zero_le _
    | cons x m ih =>
      have := ih (!b)
      have := x.toNat_lt
      cases b <;> simp only [wordsN, List.length_cons] <;> simp only [Bool.not_true, Bool.not_false] at * <;> omega
  refine lpI (fun (s' : Int × Int × Unit) v => w = v ∧ ∃ i : Nat, i ≤ l.length ∧ s'.2.1 = i ∧ 0 ≤ s'.1 ∧ s'.1 + (wordsN (i % 2 == 0) (l.drop i) : Nat) = (wordsN true l : Nat)) (fun s' _ => (s.n - s'.2.1).toNat) ⟨rfl, 0, Nat.zero_le _, rfl, by decide, by simp⟩ ?_
  rintro D ⟨m, i', ⟨⟩⟩ v ⟨rfl, i, hi, rfl, hm0, hm⟩
  dsimp -zeta only at hm0 hm ⊢
  have hb := bnd true l
  refine bD ?_ ?_ <;> intro hlt
  · have hi1 : i < l.length := by omega
    have hd : l.drop i = l[i] :: l.drop (i + 1) := List.drop_eq_getElem_cons hi1
    refine ixB h.rd hn (by omega) (by rw [Int.toNat_natCast]; exact hi1) (Fr.refl _) ?_
    simp only [Int.toNat_natCast]
    have hx := l[i].toNat_lt
    have hbit : bits .and .i64 (i : Int) 1 = ((i % 2 : Nat) : Int) := by rw [i64_and1]; omega
    rw [hbit]
    rw [hd] at hm
    rw [i64w (n := (i : Int) + 1) (by omega) (by omega)]
    rw [u64w (n := ((l[i].toNat : Nat) : Int)) (by omega) (by omega)]
    refine bE ?_ ?_ <;> intro hp
    · have hp' : i % 2 = 0 := by omega
      rw [show (i % 2 == 0) = true from beq_iff_eq.2 hp'] at hm
      simp only [wordsN] at hm
      rw [show min 8 64 = 8 from rfl, u64w (n := _ * 2 ^ 8) (by omega) (by omega), u64w (n := m + _) (by omega) (by omega)]
      refine ⟨⟨trivial, i + 1, by omega, rfl, by omega, ?_⟩, by omega⟩
      rw [show ((i + 1) % 2 == 0) = false from beq_eq_false_iff_ne.2 (by omega)]
      omega
    · have hp' : i % 2 = 1 := by omega
      rw [show (i % 2 == 0) = false from beq_eq_false_iff_ne.2 (by omega)] at hm
      simp only [wordsN] at hm
      rw [u64w (n := m + _) (by omega) (by omega)]
      refine ⟨⟨trivial, i + 1, by omega, rfl, by omega, ?_⟩, by omega⟩
      rw [show ((i + 1) % 2 == 0) = true from beq_iff_eq.2 (by omega)]
      omega
  · have : i = l.length := by omega
    subst this
    rw [List.drop_length] at hm
    refine ⟨?_, rfl⟩
    have : wordsN (l.length % 2 == 0) [] = 0 := by cases (l.length % 2 == 0) <;> rfl
    omega
theorem fold_ok {n : Nat} (hn : n < 18446744073709551616) : cl Tryz.prog n_sums_fold #[.int .u64 (n : Int)] (.I .u16) w fun (r : Int) w' => r = (foldN n : Nat) ∧ foldN n ≤ 65535 ∧ w = w' := by
  refine sums_fold.cl ?_
  unfold sums_fold
  have hle : foldN n ≤ 65535 := foldF_le 7 n hn (.inl (by decide))
  refine lpI (fun (s' : Int × Unit) v => w = v ∧ ∃ (m k : Nat), s'.1 = m ∧ m < 18446744073709551616 ∧ foldF k m = foldN n) (fun s' _ => s'.1.toNat) ⟨rfl, n, 8, rfl, hn, rfl⟩ ?_
  rintro D ⟨i', ⟨⟩⟩ v ⟨rfl, m, k, rfl, hm, hk⟩
  dsimp -zeta only
  refine bD ?_ ?_ <;> intro h
  · have hand : bits .and .u64 (m : Int) 65535 = ((m % 65536 : Nat) : Int) := by
      rw [show (65535 : Int) = ((65535 : Nat) : Int) from rfl, u64_and_nat m 65535 hm (by decide)]
      rw [show (65535 : Nat) = 2 ^ 16 - 1 from rfl, Nat.and_two_pow_sub_one_eq_mod]
    have hdiv : (m : Int) / 2 ^ min 16 64 = ((m / 65536 : Nat) : Int) := by
      rw [show min 16 64 = 16 from rfl]; omega
    rw [hand, hdiv, u64w (by omega) (by omega)]
    refine ⟨⟨rfl, m / 65536 + m % 65536, k - 1, (Int.natCast_add _ _).symm, by omega, ?_⟩, by omega⟩
    cases k with
    | zero =>
      unfold foldF at hk
      omega
    | succ k =>
      unfold foldF at hk
      rw [if_neg (by omega)] at hk
      exact hk
  · have : foldF k m = m := by
      cases k with
      | zero => rfl
      | succ k => unfold foldF; rw [if_pos (by omega)]
    rw [this] at hk
    refine ⟨?_, hle, rfl⟩
    rw [← hk]
    rw [u16w]
    omega
end
end Go.Proofs.YtoglafmpllimgaaGreatDoor
namespace Go.Proofs.YtoglafmpllimgaaGreatDoor
open Go.RowKit Go.Fl

/-- A packet as a value; its cells. -/
abbrev pkT (p : Pk) (s : Sl) : y_api_Packet := (p.src, (p.dst, (p.sport, (p.dport, (p.seq, (p.ack, (p.flags, (p.window, (p.probe, (p.origin, (s, ())))))))))))
abbrev pkL (p : Pk) (s : Sl) : List Value := (Kd.av k_api_Packet (pkT p s)).cells
abbrev pkV (p : Pk) (s : Sl) : Value := (Kd.av k_api_Packet (pkT p s)).val
theorem pkL_one (p : Pk) (s : Sl) : ∀ v ∈ pkL p s, v.oneCell' = true := fun v hv => by
  have hv : v ∈ [Value.int .i64 p.src, .int .i64 p.dst, .int .i64 p.sport, .int .i64 p.dport, .int .u32 p.seq, .int .u32 p.ack, .int .i64 p.flags, .int .i64 p.window, .int .i64 p.probe, .int .i64 p.origin, slV s] := hv
  simp only [List.mem_cons, List.not_mem_nil, or_false] at hv
  rcases hv with rfl | rfl | rfl | rfl | rfl | rfl | rfl | rfl | rfl | rfl | rfl <;> rfl
/-- A packet lies in a block. -/
abbrev PkB (w : World) (g : Nat) (p : Pk) (s : Sl) : Prop := w.heap[g]? = some (.cells (pkL p s).toArray t_api_Packet (0, 0))
section
variable {w : World} {p q : Pk} {s : Sl} {g : Nat}
theorem ldPk {K : y_api_Packet → Prop} (h : PkB w g p s) (k : K (pkT p s)) : ld k_api_Packet w ⟨g, 0, none⟩ K := ldW (x := pkT p s) h rfl k
/-- A new packet. -/
theorem newPk {K : Addr → World → Prop} (p : Pk) (s : Sl) (hk : ∀ g w', g = w.heap.size → Fr w w' → PkB w' g p s → K ⟨g, 0, none⟩ w') : nw w (pkL p s) t_api_Packet fun a w' => K a w' :=
  nwI fun g w2 hg _ hf2 hb2 _ => hk g w2 hg hf2 hb2
/-- A packet is stored in a block of its own; read there. -/
theorem stPk {u : World} (p : Pk) (s : Sl) {q : Pk} {s' : Sl} {K : World → Prop} (h : PkB u g q s') (hk : ∀ u', PkB u' g p s → u.grownBy u' (some g) → u'.heap.size = u.heap.size → K u') : st u ⟨g, 0, none⟩ (Kd.av k_api_Packet (pkT p s)) K :=
  stW (Kd.av k_api_Packet (pkT p s)) rfl h rfl fun u' hb hg hs => hk u' hb hg hs
/-- The result of a function that answers by a variable of its own. -/
theorem retPk {u : World} {b : Nat} (p : Pk) (s : Sl) {q : Pk} {s' : Sl} {K : y_api_Packet → World → Prop} (h : PkB u g q s') (hf : Fr w u) (hg : w.heap.size ≤ g) (_ : b = b) (hk : ∀ u', Fr w u' → K (pkT p s) u') : st u ⟨g, 0, none⟩ (Kd.av k_api_Packet (pkT p s)) fun u' => ld k_api_Packet u' ⟨g, 0, none⟩ fun r => K r u' :=
  stPk p s h fun u' hb hg' _ => ldPk hb (hk u' (Mv.on (F := fun k => k = g) hf (Mv.of_grown hg' rfl) fun j hj => by omega))
theorem host_ok {n : Int} : cl Tryz.prog n_packet_host #[.int .i64 n] .B w fun (r : Bool) w' => r = decide (1 ≤ n ∧ n ≤ 4) ∧ w = w' := by
  refine packet_host.cl ?_
  unfold packet_host
  refine bD ?_ ?_ <;> intro h
  · exact ⟨by rw [Bool.eq_iff_iff, decide_eq_true_iff, decide_eq_true_iff]; omega, rfl⟩
  · exact ⟨by rw [decide_eq_false]; omega, rfl⟩
theorem within_ok {n m : Int} : cl Tryz.prog n_packet_within #[.int .i64 n, .int .i64 m] .B w fun (r : Bool) w' => r = decide (0 ≤ n ∧ n ≤ m) ∧ w = w' := by
  refine packet_within.cl ?_
  unfold packet_within
  refine bD ?_ ?_ <;> intro h
  · exact ⟨by rw [Bool.eq_iff_iff, decide_eq_true_iff, decide_eq_true_iff]; omega, rfl⟩
  · exact ⟨by rw [decide_eq_false]; omega, rfl⟩
theorem bNot {c : Prop} [Decidable c] {X Y : Prop} (ht : ¬c → X) (hf : c → Y) : bif (!decide c) then X else Y := by
  by_cases h : c
  · rw [decide_eq_true h]; exact hf h
  · rw [decide_eq_false h]; exact ht h
theorem pCheck_ok : cl Tryz.prog n_packet_Check #[pkV p s] (.I .i64) w fun (r : Int) w' => r = (if okPk p.src p.dst p.sport p.dport p.flags p.window p.probe p.origin s.n then 0 else 40) ∧ Fr w w' := by
  refine packet_Check.cl (p0 := pkT p s) ?_
  unfold packet_Check
  refine newPk p s fun a1 w2 ha1 hf2 hb => ?_
  have no : ¬okPk p.src p.dst p.sport p.dport p.flags p.window p.probe p.origin s.n → 40 = (if okPk p.src p.dst p.sport p.dport p.flags p.window p.probe p.origin s.n then 0 else 40 : Int) ∧ Fr w w2 := fun h => ⟨(if_neg h).symm, hf2⟩
  intro j1
  have J1 : ∀ y : Bool, (y = true ↔ (1 ≤ p.sport ∧ p.sport ≤ 65535) ∧ 1 ≤ p.dport ∧ p.dport ≤ 65535) → j1 y w2 := by
    intro y hy
    unfold j1
    refine ldI0 (n := p.src) hb rfl ?_
    refine host_ok.mono ?_
    rintro _ _ ⟨rfl, rfl⟩
    refine bNot ?_ ?_ <;> intro h1
    · exact no fun h => h1 h.1
    rw [addOff]
    refine ldI0 (n := p.dst) hb rfl ?_
    refine host_ok.mono ?_
    rintro _ _ ⟨rfl, rfl⟩
    refine bNot ?_ ?_ <;> intro h2
    · exact no fun h => h2 h.2.1
    refine ldI0 (n := p.src) hb rfl (ldI0 (n := p.dst) hb rfl ?_)
    refine bE ?_ ?_ <;> intro h3
    · exact no fun h => h.2.2.1 h3
    refine bB ?_ ?_ <;> intro h4
    · exact no fun h => by
        have := hy.2 ⟨h.2.2.2.1, h.2.2.2.2.1⟩
        rw [this] at h4; cases h4
    have h4' := hy.1 (by simpa using h4)
    rw [addOff]
    refine ldI0 (n := p.flags) hb rfl ?_
    refine within_ok.mono ?_
    rintro _ _ ⟨rfl, rfl⟩
    refine bNot ?_ ?_ <;> intro h5
    · exact no fun h => h5 h.2.2.2.2.2.1
    rw [addOff]
    refine ldI0 (n := p.window) hb rfl ?_
    refine within_ok.mono ?_
    rintro _ _ ⟨rfl, rfl⟩
    refine bNot ?_ ?_ <;> intro h6
    · exact no fun h => h6 h.2.2.2.2.2.2.1
    rw [addOff]
    refine ldI0 (n := p.probe) hb rfl ?_
    refine within_ok.mono ?_
    rintro _ _ ⟨rfl, rfl⟩
    refine bNot ?_ ?_ <;> intro h7
    · exact no fun h => h7 h.2.2.2.2.2.2.2.1
    rw [addOff]
    refine ldI0 (n := p.origin) hb rfl ?_
    refine within_ok.mono ?_
    rintro _ _ ⟨rfl, rfl⟩
    refine bNot ?_ ?_ <;> intro h8
    · exact no fun h => h8 h.2.2.2.2.2.2.2.2.1
    rw [addOff]
    refine ldL0 (s := s) hb rfl ?_
    refine bD ?_ ?_ <;> intro h9
    · exact no fun h => by have := h.2.2.2.2.2.2.2.2.2; omega
    · refine ⟨(if_pos ⟨h1, h2, h3, h4'.1, h4'.2, h5, h6, h7, h8, by omega⟩).symm, hf2⟩
  clear_value j1
  rw [addOff]
  refine ldI0 (n := p.sport) hb rfl ?_
  refine bD ?_ ?_ <;> intro h1
  · refine ldI0 (n := p.sport) hb rfl ?_
    refine within_ok.mono ?_
    rintro _ _ ⟨rfl, rfl⟩
    by_cases h2 : 0 ≤ p.sport ∧ p.sport ≤ 65535
    · rw [decide_eq_true h2]
      refine bT rfl ?_
      rw [addOff]
      refine ldI0 (n := p.dport) hb rfl ?_
      refine bD ?_ ?_ <;> intro h3
      · refine ldI0 (n := p.dport) hb rfl ?_
        refine within_ok.mono ?_
        rintro _ _ ⟨rfl, rfl⟩
        refine J1 _ ?_
        rw [decide_eq_true_iff]
        omega
      · exact J1 _ ⟨fun h => (by cases h), fun h => by omega⟩
    · rw [decide_eq_false h2]
      refine bF rfl ?_
      exact J1 _ ⟨fun h => (by cases h), fun h => by omega⟩
  · exact J1 _ ⟨fun h => (by cases h), fun h => by omega⟩
/-- Flags. -/
theorem bitL {f : Int} (h : 0 ≤ f ∧ f ≤ 15) (k : Nat) (hk : k < 4) : (bits .and .i64 f (2 ^ k) != 0) = bitQ f k := by
  obtain ⟨n, rfl⟩ : ∃ n : Nat, f = n := ⟨f.toNat, by omega⟩
  have key : ∀ n : Fin 16, ∀ k : Fin 4, (bits .and .i64 (n.1 : Int) (2 ^ k.1) != 0) = bitQ (n.1 : Int) k.1 := by decide +kernel
  exact key ⟨n, by omega⟩ ⟨k, hk⟩
theorem bit1 {f : Int} (h : 0 ≤ f ∧ f ≤ 15) : (bits .and .i64 f 1 != 0) = bitQ f 0 := bitL h 0 (by decide)
theorem bit2 {f : Int} (h : 0 ≤ f ∧ f ≤ 15) : (bits .and .i64 f 2 != 0) = bitQ f 1 := bitL h 1 (by decide)
end
end Go.Proofs.YtoglafmpllimgaaGreatDoor
set_option linter.unusedVariables false
set_option maxHeartbeats 4000000
namespace Go.Proofs.YtoglafmpllimgaaGreatDoor
open Go.Fl
theorem u_int : type_of% @Tryz.underlying3 := @Tryz.underlying3
theorem u_uint8 : type_of% @Tryz.underlying5 := @Tryz.underlying5
theorem u_uint32 : type_of% @Tryz.underlying22 := @Tryz.underlying22
theorem u_s_api_Packet : type_of% @Tryz.underlying23 := @Tryz.underlying23
theorem u_s_uint8 : type_of% @Tryz.underlying24 := @Tryz.underlying24
theorem u_api_Packet : type_of% @Tryz.underlying26 := @Tryz.underlying26
theorem u_3_int : type_of% @Tryz.underlying181 := @Tryz.underlying181
end Go.Proofs.YtoglafmpllimgaaGreatDoor
namespace Go.Proofs.YtoglafmpllimgaaGreatDoor
open Go.RowKit Go.Fl Go.Lib

theorem growNil {P : Program} {t tn ty e : TypeId} {kn : IntKind} (hT : SlT P t e 1 1) (htn : P.underlying tn = some (.int kn)) {w : World} {k : Nat} (h0 : 0 < k) (hk : k ≤ 140737488355328) {K : Sl → World → Prop}
    (h : ∀ (r : Sl) w', OwB w' w.heap.size e ⟨r.a, 0, r.c⟩ [] → r.a = some ⟨w.heap.size, 0, none⟩ → 0 < r.c → Fr w w' → K r w') : rn P (Builtin.append_ #[t, tn] ty #[.slice none 0 0, .int .i64 (k : Int)]) .L w K := by
  obtain ⟨i, z, hi, hz, hsize, hby, hzs⟩ := hT.info
  have hge := grownCap_ge w (0 + k) 0 e
  have hrun := run_append_grow_zeros (P := P) w t tn ty e i z .i64 kn hT.under htn hi hz none 0 0 [] (run_firstCells_none w.drew i.size 0 0 0) k h0 (by omega) (by omega) (by omega) (by rw [hby]; omega) (by
    have := nextslicecap_le (need := 0 + k) (old := 0) (by omega)
    rw [hby, Nat.mul_one]
    omega)
  refine ⟨⟨some ⟨w.heap.size, 0, none⟩, 0 + k, grownCap w (0 + k) 0 e⟩, _, hrun, h _ _ ?_ rfl (by dsimp only; omega) ?_⟩
  · have := World.ownsRow_made (e := e) (size := 1) (base := w.heap.size) w.drew ((#[] : Array Value) ++ Builtin.zeroCells z.cells k ++ Builtin.zeroCells z.cells (grownCap w (0 + k) 0 e - (0 + k))) (grownCap w (0 + k) 0 e) (Nat.le_refl _) (grownCap_le_maxLen w _ 0 e (by simp only [maxLen]; omega)) (by
      simp only [Array.size_append, size_zeroCells, hzs, Nat.mul_one, List.size_toArray, List.length_nil]
      omega)
    exact this
  · exact (show Fr w w.drew from ⟨rfl, rfl, rfl, Nat.le_refl _, fun _ _ => rfl⟩).trans (Fr.alloc _ _)
theorem elemB : Tryz.prog.underlying t_s_uint8 = some (.slice (Tryz.prog.elem t_s_uint8)) := by kernel_rfl
theorem Grow_nil_ok {k : Nat} (hk : k ≤ 140737488355328) {w : World} : cl Tryz.prog n_slices_Grow_byte_byte #[.slice none 0 0, .int .i64 (k : Int)] .L w fun (r : Sl) w' => OwB w' w.heap.size t_uint8 r [] ∧ Fr w w' := by
  refine slices_Grow_byte_byte.cl (p0 := ⟨none, 0, 0⟩) ?_
  unfold slices_Grow_byte_byte
  refine bN (by omega) ?_
  refine ⟨0, w, run_cap_slice w t_s_uint8 _ none 0 0 elemB, ?_⟩
  have e1 : IntKind.i64.wrap ((k : Int) - IntKind.i64.wrap ((0 : Int) - ((0 : Nat) : Int))) = (k : Int) := by
    rw [i64w (n := (0 : Int) - ((0 : Nat) : Int)) (by omega) (by omega), i64w (by omega) (by omega)]; omega
  dsimp only
  rw [e1]
  refine bD ?_ ?_ <;> intro h0
  · refine ⟨0, w, run_cap_slice w t_s_uint8 _ none 0 0 elemB, ?_⟩
    refine ⟨by decide, by decide, by decide, ?_⟩
    show rn Tryz.prog (Builtin.append_ #[t_s_uint8, t_int] t_s_uint8 #[.slice none 0 0, .int .i64 (k : Int)]) .L w _
    refine growNil slB u_int (by omega) hk fun r w' ho ha hc hf => ?_
    refine ⟨by decide, by decide, by omega, ?_⟩
    have e : cut r (0 : Int).toNat ((0 : Nat) : Int).toNat 1 = ⟨r.a, 0, r.c⟩ := by
      unfold cut
      rw [if_neg (by simp; omega), ha]
      show Sl.mk (some (atOff ⟨w.heap.size, 0, none⟩ _ 1)) _ _ = _
      rw [atH]
      rfl
    rw [e]
    exact ⟨ho, hf⟩
  · exact ⟨OwB.nil _ _ _, Fr.refl w⟩
end Go.Proofs.YtoglafmpllimgaaGreatDoor
namespace Go.Fl

theorem add_zero' (a : Addr) : a.add 0 = a := by simp [Addr.add]
/-- A value that lies anywhere is read. -/
theorem ldAt : ∀ (k : Kd) (x : k.T), (k.av x).okLd = true → ∀ {w : World} {a : Addr} {K : k.T → Prop}, (∀ (j : Nat) v, (k.av x).cells[j]? = some v → w.cell? (a.add j) = some v) → K x → ld k w a K
  | .nil, (), _, _, _, _, _, hk => hk
  | .pair k1 k2, (x, y), hx, w, a, K, h, hk => by
    simp only [Kd.av, AV.okLd, Bool.and_eq_true] at hx
    simp only [Kd.av, AV.cells] at h
    have hl : (k1.av x).cells.length = k1.size := ld_all.kd_size k1 x hx.1
    refine ldAt k1 x hx.1 (fun j v hj => h j v (by rw [List.getElem?_append_left (List.getElem?_eq_some_iff.1 hj).1]; exact hj)) ?_
    refine ldAt k2 y hx.2 (fun j v hj => ?_) hk
    rw [add_add, ← hl]
    exact h _ v (by rw [List.getElem?_append_right (by omega), Nat.add_sub_cancel_left]; exact hj)
  | .row n, l, _, w, a, K, h, hk => ⟨l, fun i hi => h i _ (List.getElem?_eq_getElem hi), hk⟩
  | .B, b, _, w, a, K, h, hk => ⟨b, by have := h 0 _ rfl; rwa [add_zero'] at this, hk⟩
  | .I k, b, _, w, a, K, h, hk => ⟨b, by have := h 0 _ rfl; rwa [add_zero'] at this, hk⟩
  | .S, b, _, w, a, K, h, hk => ⟨b, by have := h 0 _ rfl; rwa [add_zero'] at this, hk⟩
  | .P, b, _, w, a, K, h, hk => ⟨b, by have := h 0 _ rfl; rwa [add_zero'] at this, hk⟩
  | .L, b, _, w, a, K, h, hk => ⟨b, by have := h 0 _ rfl; rwa [add_zero'] at this, hk⟩
  | .M, b, _, w, a, K, h, hk => ⟨b, by have := h 0 _ rfl; rwa [add_zero'] at this, hk⟩
  | .U, b, hx, w, a, K, h, hk => ⟨b, by have := h 0 b (by simp [Kd.av, AV.cells, one_cells hx]); rwa [add_zero'] at this, hk, hx⟩
  | .tup _, _, hx, _, _, _, _, _ => by cases hx
theorem flat_get {E : Type} {f : E → List Value} {sz : Nat} (hlen : ∀ x, (f x).length = sz) : ∀ {xs : List E} {i j : Nat} (_ : i < xs.length), j < sz → (xs.flatMap f)[i * sz + j]? = (f xs[i])[j]?
  | [], _, _, h, _ => by simp at h
  | x :: xs, 0, j, _, hj => by
    rw [List.flatMap_cons, Nat.zero_mul, Nat.zero_add, List.getElem?_append_left (by rw [hlen]; exact hj)]
    rfl
  | x :: xs, i + 1, j, h, hj => by
    rw [List.flatMap_cons, List.getElem?_append_right (by rw [hlen, Nat.succ_mul]; omega), hlen, show (i + 1) * sz + j - sz = i * sz + j from by rw [Nat.succ_mul]; omega]
    exact flat_get hlen (by simpa using h) hj
theorem flat_len {E : Type} {f : E → List Value} {sz : Nat} (hlen : ∀ x, (f x).length = sz) : ∀ xs : List E, (xs.flatMap f).length = xs.length * sz
  | [] => by simp
  | x :: xs => by rw [List.flatMap_cons, List.length_append, hlen, flat_len hlen xs, List.length_cons, Nat.succ_mul]; omega
/-- One of a row of structs. -/
theorem ixE {E : Type} {f : E → List Value} {sz : Nat} (hlen : ∀ x, (f x).length = sz) {w : World} {s : Sl} {xs : List E} {i : Nat} {K : Addr → Prop} (hr : Rd w s.a (xs.flatMap f)) (hl : s.n = xs.length) (hi : i < xs.length) (hs : 0 < sz)
    (h : ∀ a, (∀ (j : Nat) v, (f xs[i])[j]? = some v → w.cell? (a.add j) = some v) → K a) : ixa s.a s.n (i : Int) sz K := by
  refine ⟨by omega, by omega, ?_⟩
  have hlt : ∀ j, j < sz → ∃ v, (xs.flatMap f)[i * sz + j]? = some v := fun j hj => by
    rw [flat_get hlen hi hj]
    exact ⟨_, List.getElem?_eq_getElem (by rw [hlen]; exact hj)⟩
  obtain ⟨v0, h0⟩ := hlt 0 hs
  obtain ⟨ad, ha, _⟩ := hr _ _ h0
  rw [ha]
  refine h _ fun j v hj => ?_
  have hjs : j < sz := by rw [← hlen xs[i]]; exact (List.getElem?_eq_some_iff.1 hj).1
  obtain ⟨ad', ha', hc⟩ := hr (i * sz + j) v (by rw [flat_get hlen hi hjs]; exact hj)
  rw [ha] at ha'
  cases ha'
  rw [atOff_eq, add_add, Int.toNat_natCast]
  exact hc
section
variable {E : Type} {f : E → List Value} {sz : Nat} {w : World} {Z : Nat → Prop} {s : Sl} {xs : List E}
end
end Go.Fl
namespace Go.Proofs.YtoglafmpllimgaaGreatDoor
open Go.RowKit Go.Fl

theorem b8_int (n : Int) : ((b8 n).toNat : Int) = n % 256 := by
  unfold b8
  simp
  omega
theorem set_range {α : Type} (k i : Nat) (f : Nat → α) (b : α) : ((List.range k).map f).set i b = (List.range k).map fun j => if j = i then b else f j := by
  refine List.ext_getElem? fun j => ?_
  rw [List.getElem?_set, List.getElem?_map, List.getElem?_map]
  by_cases h : i = j
  · subst h
    rw [if_pos rfl]
    by_cases hk : i < k
    · simp [hk]
    · simp [hk]
  · rw [if_neg h]
    cases hr : (List.range k)[j]? with
    | none => rfl
    | some x =>
      have hx : x = j := by
        obtain ⟨h1, h2⟩ := List.getElem?_eq_some_iff.1 hr
        rw [← h2, List.getElem_range]
      subst hx
      simp [Ne.symm h]
/-- A number's bytes, the highest one first. -/
def layN (n : Int) (k : Nat) : List UInt8 := (List.range k).map fun j => b8 (n / 2 ^ (8 * (k - 1 - j)))
theorem layN2 (n : Int) : layN n 2 = be2 n := by
  simp [layN, List.range, List.range.loop, be2]
theorem layN4 (n : Int) : layN n 4 = be4 n := by
  simp [layN, List.range, List.range.loop, be4]
section
variable {w : World}
theorem layLoop {base : Nat} {n C : Int} {k m : Nat} {s : Sl} (hC : C = (k : Int)) (hk : k ≤ 8) (hm : 32 ≤ m) (hk4 : k ≤ 4) (ho : OwB w base t_uint8 s (List.replicate k 0)) (hb : base ≤ w.heap.size) {K : World → Prop} (hK : ∀ w', OwB w' base t_uint8 s (layN n k) → Below base w w' → K w') :
    lp (α := (Int × Unit)) (fun K => K (0, ())) w fun D5 J6 s3 w4 =>
      bif (decide (s3.1 < (s.n : Int))) then
        (bif decide (0 ≤ (IntKind.i64.wrap (8 * (IntKind.i64.wrap ((IntKind.i64.wrap (C - 1)) - s3.1))))) then (ixa s.a s.n s3.1 1 fun a7 => st1 w4 a7 (.int .u8 (IntKind.u8.wrap (n / 2 ^ (min (Int.toNat (IntKind.i64.wrap (8 * (IntKind.i64.wrap ((IntKind.i64.wrap (C - 1)) - s3.1))))) m)))) fun w8 => J6 ((IntKind.i64.wrap (s3.1 + 1)), ()) w8) else False)
      else K w4 := by
  subst hC
  have hn := ho.len
  rw [List.length_replicate] at hn
  refine lpI (fun (s' : Int × Unit) v => Below base w v ∧ ∃ i : Nat, i ≤ k ∧ s'.1 = i ∧ OwB v base t_uint8 s ((List.range k).map fun j => if j < i then b8 (n / 2 ^ (8 * (k - 1 - j))) else 0)) (fun s' _ => (s.n - s'.1).toNat) ⟨Below.refl _ _, 0, Nat.zero_le _, rfl, ?_⟩ ?_
  · have : (List.range k).map (fun j => if j < 0 then b8 (n / 2 ^ (8 * (k - 1 - j))) else 0) = List.replicate k 0 := by
      refine List.ext_getElem (by simp) fun i h1 h2 => by simp
    rw [this]; exact ho
  rintro D ⟨i', ⟨⟩⟩ v ⟨hv, i, hi, rfl, hov⟩
  dsimp -zeta only
  refine bD ?_ ?_ <;> intro hlt
  · have hik : i < k := by omega
    have e1 : IntKind.i64.wrap (8 * IntKind.i64.wrap (IntKind.i64.wrap ((k : Int) - 1) - (i : Int))) = ((8 * (k - 1 - i) : Nat) : Int) := by
      rw [i64w (n := (k : Int) - 1) (by omega) (by omega), i64w (n := (k : Int) - 1 - i) (by omega) (by omega), i64w (by omega) (by omega)]
      omega
    rw [e1, Int.toNat_natCast, Nat.min_eq_left (by omega)]
    refine bP (by omega) ?_
    refine stB hov (by omega) (by simp; omega) (b8 (n / 2 ^ (8 * (k - 1 - i)))) (by rw [b8_int, u8w]) fun w' h' hb' _ _ => ?_
    rw [i64w (n := (i : Int) + 1) (by omega) (by omega)]
    refine ⟨⟨hv.trans hb', i + 1, by omega, rfl, ?_⟩, by omega⟩
    rw [Int.toNat_natCast, set_range] at h'
    have : (List.range k).map (fun j => if j = i then b8 (n / 2 ^ (8 * (k - 1 - i))) else if j < i then b8 (n / 2 ^ (8 * (k - 1 - j))) else 0) = (List.range k).map fun j => if j < i + 1 then b8 (n / 2 ^ (8 * (k - 1 - j))) else 0 := by
      refine List.map_congr_left fun j _ => ?_
      by_cases h : j = i
      · subst h; rw [if_pos rfl, if_pos (by omega)]
      · rw [if_neg h]
        by_cases h2 : j < i
        · rw [if_pos h2, if_pos (by omega)]
        · rw [if_neg h2, if_neg (by omega)]
    rw [this] at h'
    exact h'
  · have : i = k := by omega
    subst this
    refine hK v ?_ hv
    have : layN n i = (List.range i).map fun j => if j < i then b8 (n / 2 ^ (8 * (i - 1 - j))) else 0 := by
      unfold layN
      refine List.map_congr_left fun j hj => ?_
      rw [if_pos (List.mem_range.1 hj)]
    rw [this]
    exact hov
theorem zeros (k : Nat) : List.replicate k (Value.int .u8 0) = u8s (List.replicate k 0) := by simp [u8s]
theorem concat2_ok {n : Int} : cl Tryz.prog n_packet_two #[.int .i64 n] .L w fun (r : Sl) w' => OwB w' w.heap.size t_uint8 r (be2 n) ∧ Fr w w' := by
  refine packet_two.cl ?_
  unfold packet_two
  refine (packet_lay_int.cl (Q := fun (r : Sl) w' => OwB w' w.heap.size t_uint8 r (be2 n) ∧ Fr w w') ?_).mono fun _ _ h => h
  unfold packet_lay_int
  refine mksN slB.under (z := .int .u8 0) (bytes := 1) (by kernel_rfl) rfl w.heap.size 2 rfl (by decide) (by decide) (Nat.le_refl _) fun w2 ho2 _ _ hf2 => ?_
  rw [zeros] at ho2
  refine layLoop (k := 2) (C := 2) (m := 64) (n := n) rfl (by decide) (by decide) (by decide) (s := ⟨some ⟨w.heap.size, 0, none⟩, 2, 2⟩) ho2 hf2.size fun w' h hb => ?_
  rw [layN2] at h
  exact ⟨h, hf2.on hb⟩
theorem four_ok {n : Int} : cl Tryz.prog n_packet_four #[.int .u32 n] .L w fun (r : Sl) w' => OwB w' w.heap.size t_uint8 r (be4 n) ∧ Fr w w' := by
  refine packet_four.cl ?_
  unfold packet_four
  refine (packet_lay_uint32.cl (Q := fun (r : Sl) w' => OwB w' w.heap.size t_uint8 r (be4 n) ∧ Fr w w') ?_).mono fun _ _ h => h
  unfold packet_lay_uint32
  refine mksN slB.under (z := .int .u8 0) (bytes := 1) (by kernel_rfl) rfl w.heap.size 4 rfl (by decide) (by decide) (Nat.le_refl _) fun w2 ho2 _ _ hf2 => ?_
  rw [zeros] at ho2
  refine layLoop (k := 4) (C := 4) (m := 32) (n := n) rfl (by decide) (by decide) (by decide) (s := ⟨some ⟨w.heap.size, 0, none⟩, 4, 4⟩) ho2 hf2.size fun w' h hb => ?_
  rw [layN4] at h
  exact ⟨h, hf2.on hb⟩
/-- slices.Concat of any slices. -/
theorem Concat_ok {s : Sl} {xs : List (Sl × List UInt8)} (hr : Rd w s.a (xs.map fun e => slV e.1)) (hn : s.n = xs.length) (hx : ∀ e ∈ xs, Bs w e.1 e.2) (hl : (xs.flatMap (·.2)).length ≤ 1099511627776) (hxl : xs.length ≤ 1000) :
    cl Tryz.prog n_slices_Concat_byte_byte #[.slice s.a s.n s.c] .L w fun (r : Sl) w' => OwB w' w.heap.size t_uint8 r (xs.flatMap (·.2)) ∧ Fr w w' := by
  refine slices_Concat_byte_byte.cl (p0 := s) ?_
  unfold slices_Concat_byte_byte
  have item : ∀ {w' : World} {i : Nat} {K : Sl → Prop}, Fr w w' → (hi : i < xs.length) → K xs[i].1 → ixa s.a s.n (i : Int) 1 fun a5 => ld .L w' a5 K := fun {w' i K} hf hi hk => by
    refine ixE (f := fun e : Sl × List UInt8 => [slV e.1]) (sz := 1) (fun _ => rfl) (xs := xs) (by
      have := hr.below hf
      rw [List.map_eq_flatMap] at this
      exact this) hn hi (by decide) fun a ha => ?_
    have h0 := ha 0 _ rfl
    rw [Addr.add0] at h0
    exact ⟨xs[i].1, h0, hk⟩
  have tk : ∀ i (hi : i < xs.length), (xs.take (i + 1)).flatMap (·.2) = (xs.take i).flatMap (·.2) ++ xs[i].2 := fun i hi => by
    rw [List.take_add_one, List.getElem?_eq_getElem hi, List.flatMap_append]
    simp
  have tl : ∀ i, ((xs.take i).flatMap (·.2)).length ≤ (xs.flatMap (·.2)).length := fun i => by
    conv => rhs; rw [← List.take_append_drop i xs, List.flatMap_append, List.length_append]
    omega
  refine lpI (fun s' w' => w = w' ∧ ∃ i : Nat, i ≤ xs.length ∧ s'.2.1 = i ∧ s'.1 = (((xs.take i).flatMap (·.2)).length : Int)) (fun s' _ => (s.n - s'.2.1).toNat) ⟨rfl, 0, Nat.zero_le _, rfl, rfl⟩ ?_
  rintro _ ⟨sz, i', ⟨⟩⟩ w2 ⟨rfl, i, hi, rfl, rfl⟩
  dsimp -zeta only
  refine bD ?_ ?_ <;> intro hlt
  · have hi1 : i < xs.length := by omega
    refine item (Fr.refl w) hi1 ?_
    have hb := (hx _ (List.getElem_mem hi1)).len
    have h1 := tk i hi1
    have h2 := tl (i + 1)
    have h3 := congrArg List.length h1
    rw [List.length_append] at h3
    rw [i64w (n := _ + (xs[i].1.n : Int)) (by omega) (by omega)]
    refine bN (by omega) ?_
    rw [i64w (n := (i : Int) + 1) (by omega) (by omega)]
    exact ⟨⟨rfl, i + 1, by omega, rfl, by omega⟩, by omega⟩
  · have : i = xs.length := by omega
    subst this
    rw [List.take_length]
    refine (Grow_nil_ok (by omega)).mono ?_
    rintro x7 w8 ⟨h7, hf8⟩
    refine lpI (fun s' w' => Fr w w' ∧ ∃ i : Nat, i ≤ xs.length ∧ s'.2.1 = i ∧ OwB w' w.heap.size t_uint8 s'.1 ((xs.take i).flatMap (·.2))) (fun s' _ => (s.n - s'.2.1).toNat) ⟨hf8, 0, Nat.zero_le _, rfl, h7⟩ ?_
    rintro _ ⟨o, j', ⟨⟩⟩ w10 ⟨hf10, j, hj, rfl, ho⟩
    dsimp -zeta only at ho ⊢
    refine bD ?_ ?_ <;> intro hlt2
    · have hj1 : j < xs.length := by omega
      refine item hf10 hj1 ?_
      have hb := hx _ (List.getElem_mem hj1)
      have h1 := tk j hj1
      have h2 := tl (j + 1)
      have h3 := congrArg List.length h1
      rw [List.length_append] at h3
      refine app_B slB (base := w.heap.size) ho (hb.fr hf10).rd hb.len.symm (by omega) hf10.size fun r15 w16 h15 hb16 _ _ => ?_
      rw [i64w (n := (j : Int) + 1) (by omega) (by omega)]
      exact ⟨⟨hf10.on hb16, j + 1, by omega, rfl, h1 ▸ h15⟩, by omega⟩
    · have : j = xs.length := by omega
      subst this
      rw [List.take_length] at ho
      exact ⟨ho, hf10⟩
/-- A packet's options. -/
theorem options_ok {p : Pk} {s : Sl} : cl Tryz.prog n_packet_options #[pkV p s] .L w fun (r : Sl) w' => OwB w' w.heap.size t_uint8 r (optP p) ∧ Fr w w' := by
  refine packet_options.cl (p0 := pkT p s) ?_
  unfold packet_options
  refine newPk p s fun a1 w2 ha1 hf2 hb => ?_
  -- one more piece behind
  have put : ∀ {u : World} {y x : Sl} {l m : List UInt8} {K : Sl → World → Prop}, Fr w2 u → OwB u w2.heap.size t_uint8 y l → Bs u x m → l.length + m.length ≤ 1000 → (∀ r u', Fr w2 u' → OwB u' w2.heap.size t_uint8 r (l ++ m) → K r u') → app Tryz.prog t_s_uint8 t_s_uint8 y x u K :=
    fun hu hy hx hl hk => app_B slB (base := w2.heap.size) hy hx.rd hx.len.symm (by omega) hu.size fun r u' h hb _ _ => hk r u' (hu.on hb) h
  have hl4 : ∀ n, (be4 n).length = 4 := fun _ => rfl
  intro j1
  have J1 : ∀ (y : Sl) (u : World) (l : List UInt8), Fr w2 u → OwB u w2.heap.size t_uint8 y l → l.length ≤ 10 → l = (if p.probe > 0 then [1, 10] ++ be4 (p.probe / 4294967296) ++ be4 p.probe else []) → j1 y u := by
    intro y u l hu hy hl0 hle
    unfold j1
    have eo : optP p = l ++ (if p.origin > 0 then [2, 4] ++ be2 p.origin else []) := by rw [hle]; rfl
    rw [eo, addOff]
    refine ldI0 (n := p.origin) (hu.heap hb) rfl ?_
    refine bD ?_ ?_ <;> intro h0
    · rw [if_pos h0]
      refine nwI fun a31 w32 ha31 hs32 hf32 hb32 hr32 => ?_
      refine put (m := [2, 4]) (hu.trans hf32) (hy.fr hf32) ⟨hr32, rfl, Nat.le_refl _⟩ (by simp; omega) fun r33 w34 f34 h33 => ?_
      refine ldI0 (n := p.origin) (f34.heap hb) rfl ?_
      refine concat2_ok.mono ?_
      rintro x36 w37 ⟨h36, hf37⟩
      refine put (f34.trans hf37) (h33.fr hf37) h36.bs (by simp [be2]; omega) fun r38 w39 f39 h38 => ?_
      rw [List.append_assoc] at h38
      exact ⟨h38.mono hf2.size, hf2.trans f39⟩
    · rw [if_neg h0, List.append_nil]
      exact ⟨hy.mono hf2.size, hf2.trans hu⟩
  clear_value j1
  rw [addOff]
  refine ldI0 (n := p.probe) hb rfl ?_
  refine bD ?_ ?_ <;> intro h0
  · refine nwI fun a4 w5 ha4 hs5 hf5 hb5 hr5 => ?_
    refine put (l := []) (m := [1, 10]) hf5 (OwB.nil _ _ _) ⟨hr5, rfl, Nat.le_refl _⟩ (by simp) fun r6 w7 f7 h6 => ?_
    refine ldI0 (n := p.probe) (f7.heap hb) rfl ?_
    rw [show min 32 64 = 32 from rfl, show (2 : Int) ^ 32 = 4294967296 from rfl, u32w]
    refine four_ok.mono ?_
    rintro x9 w10 ⟨h9, hf10⟩
    refine put (f7.trans hf10) (h6.fr hf10) h9.bs (by simp [be4]) fun r11 w12 f12 h11 => ?_
    refine ldI0 (n := p.probe) (f12.heap hb) rfl ?_
    rw [u32w]
    refine four_ok.mono ?_
    rintro x14 w15 ⟨h14, hf15⟩
    refine put (f12.trans hf15) (h11.fr hf15) h14.bs (by simp [be4]) fun r16 w17 f17 h16 => ?_
    refine J1 r16 w17 _ f17 h16 (by simp [be4]) ?_
    rw [if_pos h0]
    have e4 : ∀ n : Int, be4 (n % 4294967296) = be4 n := fun n => by
      unfold be4 b8
      rw [show n % 4294967296 / 16777216 % 256 = n / 16777216 % 256 from by omega, show n % 4294967296 / 65536 % 256 = n / 65536 % 256 from by omega, show n % 4294967296 / 256 % 256 = n / 256 % 256 from by omega, show n % 4294967296 % 256 = n % 256 from by omega]
    rw [e4, e4]
    rfl
  · exact J1 _ w2 [] (Fr.refl _) (OwB.nil _ _ _) (by simp) (by rw [if_neg h0])
end
end Go.Proofs.YtoglafmpllimgaaGreatDoor
namespace Go.Proofs.YtoglafmpllimgaaGreatDoor
open Go.RowKit Go.Fl

section
variable {w : World}
theorem Inet_ok {x : Sl} {b : List UInt8} {a : Nat} (ha : w.heap[a]? = some (.cells #[.slice x.a x.n x.c] t_s_uint8 (0, 0))) (hx : Bs w x b) (hl : b.length ≤ 140737488355328) :
    cl Tryz.prog n_sums_Inet #[.slice (some ⟨a, 0, none⟩) 1 1] (.I .u16) w fun (r : Int) w' => r = (inetN b : Nat) ∧ inetN b ≤ 65535 ∧ w = w' := by
  refine sums_Inet.cl (p0 := ⟨some ⟨a, 0, none⟩, 1, 1⟩) ?_
  unfold sums_Inet
  have hW : wordsN true b < 18446744073709551616 := by have := wordsN_le true b; omega
  refine lpI (fun (s' : Int × Int × Unit) v => w = v ∧ ((s'.2.1 = 0 ∧ s'.1 = 0) ∨ (s'.2.1 = 1 ∧ s'.1 = (foldN (wordsN true b) : Nat)))) (fun s' _ => (1 - s'.2.1).toNat) ⟨rfl, .inl ⟨rfl, rfl⟩⟩ ?_
  rintro D ⟨m, i, ⟨⟩⟩ v ⟨rfl, h⟩
  dsimp -zeta only at h ⊢
  have h1 : foldN (wordsN true b) ≤ 65535 := foldF_le 7 _ hW (.inl (by decide))
  rcases h with ⟨rfl, rfl⟩ | ⟨rfl, rfl⟩
  · refine bP (by decide) ?_
    refine ⟨by decide, by decide, ?_⟩
    show ld .L w (atOff _ _ _) _
    rw [atH]
    refine ldL0 (s := x) ha rfl ?_
    refine (words_ok hx hl).mono ?_
    rintro _ _ ⟨rfl, rfl⟩
    refine (fold_ok hW).mono ?_
    rintro _ _ ⟨rfl, _, rfl⟩
    rw [i64w (n := (0 : Int) + 1) (by decide) (by decide), u64w (n := (foldN (wordsN true b) : Int)) (by omega) (by omega), u64w (by omega) (by omega)]
    exact ⟨⟨rfl, .inr ⟨rfl, by omega⟩⟩, by decide⟩
  · refine bN (by decide) ?_
    refine (fold_ok (n := foldN (wordsN true b)) (by omega)).mono ?_
    rintro _ _ ⟨rfl, h2, rfl⟩
    refine ⟨?_, by unfold inetN; omega, rfl⟩
    rw [show (65535 : Int) = ((65535 : Nat) : Int) from rfl, u16_xor_nat _ _ (by decide) (by omega), xor16 _ h2]
    rfl
theorem pPut_ok {p : Pk} {s : Sl} (hs : Bs w s p.data) (hl : p.data.length ≤ 1048576) : cl Tryz.prog n_packet_Put #[pkV p s] (.tup (.pair .L (.pair (.I .i64) .nil))) w fun (r : Sl × Int × Unit) w' => OwB w' w.heap.size t_uint8 r.1 (putP p).1 ∧ r.2 = ((putP p).2, ()) ∧ Fr w w' := by
  refine packet_Put.cl (p0 := pkT p s) ?_
  unfold packet_Put
  refine newPk p s fun a1 w2 ha1 hf2 hb => ?_
  refine ldPk hb ?_
  refine pCheck_ok.mono ?_
  rintro _ w5 ⟨rfl, hf5⟩
  have hok : okPk p.src p.dst p.sport p.dport p.flags p.window p.probe p.origin s.n ↔ p.ok := by rw [hs.len]; exact Iff.rfl
  have hf5' := hf2.trans hf5
  unfold putP
  by_cases h0 : p.ok
  rotate_left
  · rw [if_neg h0, if_neg fun h => h0 (hok.1 h)]
    exact bT rfl ⟨OwB.nil _ _ _, rfl, hf5'⟩
  rw [if_pos h0, if_pos (hok.2 h0)]
  refine bF rfl ?_
  have hb5 := hf5.heap hb
  refine ldPk hb5 ?_
  refine options_ok.mono ?_
  rintro x7 w8 ⟨h7, hf8⟩
  have hf8' := hf5'.trans hf8
  have hb8 := hf8.heap hb5
  have h7l : (optP p).length ≤ 14 := optP_len p
  refine ldI0 (n := p.src) hb8 rfl ?_
  rw [addOff]
  refine ldI0 (n := p.dst) hb8 rfl ?_
  rw [addOff]
  refine ldI0 (n := p.flags) hb8 rfl ?_
  refine nwI fun a12 w13 ha12 hs13 hf13 hb12 hr12 => ?_
  have hf13' := hf8'.trans hf13
  intro j1
  have J1 : ∀ (y : Sl) (u : World), Fr w13 u → OwB u w13.heap.size t_uint8 y (frontP p ++ [0, 0] ++ tailP p) → j1 y u := by
    intro y u hu hy
    have hfl := frontP_len p
    have htl : (tailP p).length = 2 + (optP p).length + p.data.length := by simp [tailP]; omega
    obtain ⟨tot, htot⟩ : ∃ t, t = frontP p ++ [0, 0] ++ tailP p := ⟨_, rfl⟩
    have htl' : tot.length = 20 + (tailP p).length := by rw [htot]; simp [hfl]; omega
    rw [← htot] at hy
    unfold j1
    intro n129
    have hu129 := hu.trans (Fr.drewN u n129)
    have hy129 := hy.fr (Fr.drewN u n129)
    generalize u.drewN n129 = v at *
    have hyn := hy129.len
    refine ⟨by decide, by omega, by have := hy129.cap; omega, ?_⟩
    refine nwI fun a131 w132 ha131 hs132 hf132 hb131 _ => ?_
    have hy132 := hy129.fr hf132
    refine (Inet_ok (x := y) hb131 hy132.bs (by omega)).mono ?_
    rintro _ _ ⟨rfl, hi1, rfl⟩
    rw [i64w (n := (inetN tot : Int)) (by omega) (by omega)]
    refine concat2_ok.mono ?_
    rintro x135 w136 ⟨h135, hf136⟩
    have hy136 := hy132.fr hf136
    have hu136 := (hu129.trans hf132).trans hf136
    rw [show ((18 : Int)).toNat = 18 from rfl, Int.toNat_natCast]
    refine cpOwn slB (i := 18) hy136 h135.bs (by simp [be2]) (by simp [be2]; omega) fun w' h' g' s' => ?_
    have e1 : tot.take 18 ++ be2 (inetN tot) ++ tot.drop (18 + (be2 (inetN tot)).length) = bytesP p := by
      have e2 : tot.take 18 = frontP p := by rw [htot, List.append_assoc, List.take_left' hfl]
      have e3 : tot.drop 20 = tailP p := by
        rw [htot, List.drop_left' (by simp [hfl])]
      rw [show 18 + (be2 (inetN tot)).length = 20 from rfl, e2, e3, htot]
      rfl
    rw [e1] at h'
    refine ⟨h'.mono hf13'.size, rfl, ?_⟩
    refine hf13'.trans (hu136.on ((Below.refl _ _).grown g' hu136.size fun q hq => (hy136.block q hq).1))
  clear_value j1
  intro n14
  have hf14 := hf13.trans (Fr.drewN w13 n14)
  have hf14' := hf8'.trans hf14
  have hb14 := hf14.heap hb8
  have hb12' := (Fr.drewN w13 n14).heap hb12
  have f13 := Fr.drewN w13 n14
  generalize w13.drewN n14 = w14 at *
  rw [addOff, addOff, addOff, addOff, addOff]
  refine ldI0 (n := p.sport) hb14 rfl (ldI0 (n := p.dport) hb14 rfl (ldI0 (n := p.seq) hb14 rfl (ldI0 (n := p.ack) hb14 rfl (ldI0 (n := p.window) hb14 rfl ?_))))
  rw [addOff]
  refine ldL0 (s := s) hb14 rfl ?_
  have fin : ∀ (u : World) (x1 x2 x3 x4 x5 x6 : Sl) (g : Nat), Fr w14 u → Bs u x1 (be2 p.sport) → Bs u x2 (be2 p.dport) → Bs u x3 (be4 p.seq) → Bs u x4 (be4 p.ack) → Bs u x5 (be2 p.window) → Bs u x6 (be2 0) → u.heap[g]? = some (.cells #[.int .u8 (IntKind.u8.wrap (x7.n : Int)), .int .u8 0] t_uint8 (0, 0)) →
      nw u [.slice (some ⟨a12, 0, none⟩) 4 4, .slice x1.a x1.n x1.c, .slice x2.a x2.n x2.c, .slice x3.a x3.n x3.c, .slice x4.a x4.n x4.c, .slice x5.a x5.n x5.c, .slice x6.a x6.n x6.c, .slice (some ⟨g, 0, none⟩) 2 2, .slice x7.a x7.n x7.c, .slice s.a s.n s.c] t_s_uint8 fun a35 w36 => cl Tryz.prog n_slices_Concat_byte_byte #[.slice (some a35) 10 10] .L w36 fun (x37 : Sl) w38 => j1 x37 w38 := by
    intro u x1 x2 x3 x4 x5 x6 g hu h1 h2 h3 h4 h5 h6 hg
    refine nwI fun a35 w36 ha35 hs36 hf36 hb36 hr36 => ?_
    have hB0 : Bs w36 ⟨some ⟨a12, 0, none⟩, 4, 4⟩ [0x46, b8 p.src, b8 p.dst, b8 p.flags] := ((⟨by
      have e : [Value.int .u8 70, .int .u8 (IntKind.u8.wrap p.src), .int .u8 (IntKind.u8.wrap p.dst), .int .u8 (IntKind.u8.wrap p.flags)] = u8s [0x46, b8 p.src, b8 p.dst, b8 p.flags] := by
        simp only [u8s, List.map_cons, List.map_nil, b8_int, u8w]
        rfl
      rw [← e]; exact hr12, rfl, Nat.le_refl _⟩ : Bs w13 ⟨some ⟨a12, 0, none⟩, 4, 4⟩ _).fr f13).fr (hu.trans hf36)
    have hBg : Bs w36 ⟨some ⟨g, 0, none⟩, 2, 2⟩ [b8 (optP p).length, 0] := ⟨by
      have e : [Value.int .u8 (IntKind.u8.wrap (x7.n : Int)), .int .u8 0] = u8s [b8 (optP p).length, 0] := by
        simp only [u8s, List.map_cons, List.map_nil, b8_int, u8w, h7.len]
        rfl
      rw [← e]
      exact Rd.of_block (hf36.heap hg), rfl, Nat.le_refl _⟩
    have f8 : Fr w8 w36 := hf14.trans (hu.trans hf36)
    have hds := (hs.fr hf8').fr f8
    have h7' := (h7.fr f8).bs
    let xs : List (Sl × List UInt8) := [(⟨some ⟨a12, 0, none⟩, 4, 4⟩, [0x46, b8 p.src, b8 p.dst, b8 p.flags]), (x1, be2 p.sport), (x2, be2 p.dport), (x3, be4 p.seq), (x4, be4 p.ack), (x5, be2 p.window), (x6, be2 0), (⟨some ⟨g, 0, none⟩, 2, 2⟩, [b8 (optP p).length, 0]), (x7, optP p), (s, p.data)]
    have hflat : xs.flatMap (·.2) = frontP p ++ [0, 0] ++ tailP p := by
      simp [xs, frontP, tailP, be2, b8]
    have hxs : ∀ e ∈ xs, Bs w36 e.1 e.2 := by
      intro e he
      simp only [xs, List.mem_cons, List.not_mem_nil, or_false] at he
      rcases he with rfl | rfl | rfl | rfl | rfl | rfl | rfl | rfl | rfl | rfl
      · exact hB0
      · exact h1.fr hf36
      · exact h2.fr hf36
      · exact h3.fr hf36
      · exact h4.fr hf36
      · exact h5.fr hf36
      · exact h6.fr hf36
      · exact hBg
      · exact h7'
      · exact hds
    refine (Concat_ok (s := ⟨some ⟨a35, 0, none⟩, 10, 10⟩) (xs := xs) hr36 rfl hxs (by rw [hflat]; simp [tailP, frontP_len]; omega) (by simp [xs])).mono ?_
    rintro x37 w38 ⟨h37, hf38⟩
    rw [hflat] at h37
    exact J1 x37 w38 ((f13.trans (hu.trans hf36)).trans hf38) (h37.mono (by have := f13.size; have := hu.size; have := hf36.size; omega))
  have fu := Fr.refl w14
  refine ⟨?_, ?_⟩
  · skip
    refine concat2_ok.mono ?_
    rintro x1 u1 ⟨h1, hf⟩
    refine ⟨hf, ?_⟩
    have h1 := h1.bs
    have fu := fu.trans hf
    refine ⟨?_, ?_⟩
    · skip
      refine concat2_ok.mono ?_
      rintro x2 u2 ⟨h2, hf⟩
      refine ⟨hf, ?_⟩
      have h1 := h1.fr hf
      have h2 := h2.bs
      have fu := fu.trans hf
      refine ⟨?_, ?_⟩
      · skip
        refine four_ok.mono ?_
        rintro x3 u3 ⟨h3, hf⟩
        refine ⟨hf, ?_⟩
        have h1 := h1.fr hf
        have h2 := h2.fr hf
        have h3 := h3.bs
        have fu := fu.trans hf
        refine ⟨?_, ?_⟩
        · skip
          refine four_ok.mono ?_
          rintro x4 u4 ⟨h4, hf⟩
          refine ⟨hf, ?_⟩
          have h1 := h1.fr hf
          have h2 := h2.fr hf
          have h3 := h3.fr hf
          have h4 := h4.bs
          have fu := fu.trans hf
          refine ⟨?_, ?_⟩
          · skip
            refine concat2_ok.mono ?_
            rintro x5 u5 ⟨h5, hf⟩
            refine ⟨hf, ?_⟩
            have h1 := h1.fr hf
            have h2 := h2.fr hf
            have h3 := h3.fr hf
            have h4 := h4.fr hf
            have h5 := h5.bs
            have fu := fu.trans hf
            refine ⟨?_, ?_⟩
            · skip
              refine concat2_ok.mono ?_
              rintro x6 u6 ⟨h6, hf⟩
              refine ⟨hf, ?_⟩
              have h1 := h1.fr hf
              have h2 := h2.fr hf
              have h3 := h3.fr hf
              have h4 := h4.fr hf
              have h5 := h5.fr hf
              have h6 := h6.bs
              have fu := fu.trans hf
              refine nwI fun g v hgv _ hf hg _ => ⟨hf, ?_⟩
              have h1 := h1.fr hf
              have h2 := h2.fr hf
              have h3 := h3.fr hf
              have h4 := h4.fr hf
              have h5 := h5.fr hf
              have h6 := h6.fr hf
              have fu := fu.trans hf
              exact fin _ _ _ _ _ _ _ _ fu h1 h2 h3 h4 h5 h6 hg
            · skip
              refine nwI fun g v hgv _ hf hg _ => ⟨hf, ?_⟩
              have h1 := h1.fr hf
              have h2 := h2.fr hf
              have h3 := h3.fr hf
              have h4 := h4.fr hf
              have h5 := h5.fr hf
              have fu := fu.trans hf
              refine concat2_ok.mono ?_
              rintro x6 u6 ⟨h6, hf⟩
              refine ⟨hf, ?_⟩
              have h1 := h1.fr hf
              have h2 := h2.fr hf
              have h3 := h3.fr hf
              have h4 := h4.fr hf
              have h5 := h5.fr hf
              have h6 := h6.bs
              have hg := hf.heap hg
              have fu := fu.trans hf
              exact fin _ _ _ _ _ _ _ _ fu h1 h2 h3 h4 h5 h6 hg
          · skip
            refine nwI fun g v hgv _ hf hg _ => ⟨hf, ?_⟩
            have h1 := h1.fr hf
            have h2 := h2.fr hf
            have h3 := h3.fr hf
            have h4 := h4.fr hf
            have fu := fu.trans hf
            refine concat2_ok.mono ?_
            rintro x5 u5 ⟨h5, hf⟩
            refine ⟨hf, ?_⟩
            have h1 := h1.fr hf
            have h2 := h2.fr hf
            have h3 := h3.fr hf
            have h4 := h4.fr hf
            have h5 := h5.bs
            have hg := hf.heap hg
            have fu := fu.trans hf
            refine concat2_ok.mono ?_
            rintro x6 u6 ⟨h6, hf⟩
            refine ⟨hf, ?_⟩
            have h1 := h1.fr hf
            have h2 := h2.fr hf
            have h3 := h3.fr hf
            have h4 := h4.fr hf
            have h5 := h5.fr hf
            have h6 := h6.bs
            have hg := hf.heap hg
            have fu := fu.trans hf
            exact fin _ _ _ _ _ _ _ _ fu h1 h2 h3 h4 h5 h6 hg
        · skip
          refine nwI fun g v hgv _ hf hg _ => ⟨hf, ?_⟩
          have h1 := h1.fr hf
          have h2 := h2.fr hf
          have h3 := h3.fr hf
          have fu := fu.trans hf
          refine four_ok.mono ?_
          rintro x4 u4 ⟨h4, hf⟩
          refine ⟨hf, ?_⟩
          have h1 := h1.fr hf
          have h2 := h2.fr hf
          have h3 := h3.fr hf
          have h4 := h4.bs
          have hg := hf.heap hg
          have fu := fu.trans hf
          refine concat2_ok.mono ?_
          rintro x5 u5 ⟨h5, hf⟩
          refine ⟨hf, ?_⟩
          have h1 := h1.fr hf
          have h2 := h2.fr hf
          have h3 := h3.fr hf
          have h4 := h4.fr hf
          have h5 := h5.bs
          have hg := hf.heap hg
          have fu := fu.trans hf
          refine concat2_ok.mono ?_
          rintro x6 u6 ⟨h6, hf⟩
          refine ⟨hf, ?_⟩
          have h1 := h1.fr hf
          have h2 := h2.fr hf
          have h3 := h3.fr hf
          have h4 := h4.fr hf
          have h5 := h5.fr hf
          have h6 := h6.bs
          have hg := hf.heap hg
          have fu := fu.trans hf
          exact fin _ _ _ _ _ _ _ _ fu h1 h2 h3 h4 h5 h6 hg
      · skip
        refine nwI fun g v hgv _ hf hg _ => ⟨hf, ?_⟩
        have h1 := h1.fr hf
        have h2 := h2.fr hf
        have fu := fu.trans hf
        refine four_ok.mono ?_
        rintro x3 u3 ⟨h3, hf⟩
        refine ⟨hf, ?_⟩
        have h1 := h1.fr hf
        have h2 := h2.fr hf
        have h3 := h3.bs
        have hg := hf.heap hg
        have fu := fu.trans hf
        refine four_ok.mono ?_
        rintro x4 u4 ⟨h4, hf⟩
        refine ⟨hf, ?_⟩
        have h1 := h1.fr hf
        have h2 := h2.fr hf
        have h3 := h3.fr hf
        have h4 := h4.bs
        have hg := hf.heap hg
        have fu := fu.trans hf
        refine concat2_ok.mono ?_
        rintro x5 u5 ⟨h5, hf⟩
        refine ⟨hf, ?_⟩
        have h1 := h1.fr hf
        have h2 := h2.fr hf
        have h3 := h3.fr hf
        have h4 := h4.fr hf
        have h5 := h5.bs
        have hg := hf.heap hg
        have fu := fu.trans hf
        refine concat2_ok.mono ?_
        rintro x6 u6 ⟨h6, hf⟩
        refine ⟨hf, ?_⟩
        have h1 := h1.fr hf
        have h2 := h2.fr hf
        have h3 := h3.fr hf
        have h4 := h4.fr hf
        have h5 := h5.fr hf
        have h6 := h6.bs
        have hg := hf.heap hg
        have fu := fu.trans hf
        exact fin _ _ _ _ _ _ _ _ fu h1 h2 h3 h4 h5 h6 hg
    · skip
      refine nwI fun g v hgv _ hf hg _ => ⟨hf, ?_⟩
      have h1 := h1.fr hf
      have fu := fu.trans hf
      refine concat2_ok.mono ?_
      rintro x2 u2 ⟨h2, hf⟩
      refine ⟨hf, ?_⟩
      have h1 := h1.fr hf
      have h2 := h2.bs
      have hg := hf.heap hg
      have fu := fu.trans hf
      refine four_ok.mono ?_
      rintro x3 u3 ⟨h3, hf⟩
      refine ⟨hf, ?_⟩
      have h1 := h1.fr hf
      have h2 := h2.fr hf
      have h3 := h3.bs
      have hg := hf.heap hg
      have fu := fu.trans hf
      refine four_ok.mono ?_
      rintro x4 u4 ⟨h4, hf⟩
      refine ⟨hf, ?_⟩
      have h1 := h1.fr hf
      have h2 := h2.fr hf
      have h3 := h3.fr hf
      have h4 := h4.bs
      have hg := hf.heap hg
      have fu := fu.trans hf
      refine concat2_ok.mono ?_
      rintro x5 u5 ⟨h5, hf⟩
      refine ⟨hf, ?_⟩
      have h1 := h1.fr hf
      have h2 := h2.fr hf
      have h3 := h3.fr hf
      have h4 := h4.fr hf
      have h5 := h5.bs
      have hg := hf.heap hg
      have fu := fu.trans hf
      refine concat2_ok.mono ?_
      rintro x6 u6 ⟨h6, hf⟩
      refine ⟨hf, ?_⟩
      have h1 := h1.fr hf
      have h2 := h2.fr hf
      have h3 := h3.fr hf
      have h4 := h4.fr hf
      have h5 := h5.fr hf
      have h6 := h6.bs
      have hg := hf.heap hg
      have fu := fu.trans hf
      exact fin _ _ _ _ _ _ _ _ fu h1 h2 h3 h4 h5 h6 hg
  · skip
    refine nwI fun g v hgv _ hf hg _ => ⟨hf, ?_⟩
    have fu := fu.trans hf
    refine concat2_ok.mono ?_
    rintro x1 u1 ⟨h1, hf⟩
    refine ⟨hf, ?_⟩
    have h1 := h1.bs
    have hg := hf.heap hg
    have fu := fu.trans hf
    refine concat2_ok.mono ?_
    rintro x2 u2 ⟨h2, hf⟩
    refine ⟨hf, ?_⟩
    have h1 := h1.fr hf
    have h2 := h2.bs
    have hg := hf.heap hg
    have fu := fu.trans hf
    refine four_ok.mono ?_
    rintro x3 u3 ⟨h3, hf⟩
    refine ⟨hf, ?_⟩
    have h1 := h1.fr hf
    have h2 := h2.fr hf
    have h3 := h3.bs
    have hg := hf.heap hg
    have fu := fu.trans hf
    refine four_ok.mono ?_
    rintro x4 u4 ⟨h4, hf⟩
    refine ⟨hf, ?_⟩
    have h1 := h1.fr hf
    have h2 := h2.fr hf
    have h3 := h3.fr hf
    have h4 := h4.bs
    have hg := hf.heap hg
    have fu := fu.trans hf
    refine concat2_ok.mono ?_
    rintro x5 u5 ⟨h5, hf⟩
    refine ⟨hf, ?_⟩
    have h1 := h1.fr hf
    have h2 := h2.fr hf
    have h3 := h3.fr hf
    have h4 := h4.fr hf
    have h5 := h5.bs
    have hg := hf.heap hg
    have fu := fu.trans hf
    refine concat2_ok.mono ?_
    rintro x6 u6 ⟨h6, hf⟩
    refine ⟨hf, ?_⟩
    have h1 := h1.fr hf
    have h2 := h2.fr hf
    have h3 := h3.fr hf
    have h4 := h4.fr hf
    have h5 := h5.fr hf
    have h6 := h6.bs
    have hg := hf.heap hg
    have fu := fu.trans hf
    exact fin _ _ _ _ _ _ _ _ fu h1 h2 h3 h4 h5 h6 hg

end
end Go.Proofs.YtoglafmpllimgaaGreatDoor
namespace Go.Fl

theorem foldF_mod : ∀ (k n : Nat), foldF k n % 65535 = n % 65535
  | 0, _ => rfl
  | k + 1, n => by
    unfold foldF
    split
    · rfl
    · rw [foldF_mod k]; omega
theorem wordsN_even : ∀ (a b : List UInt8), a.length % 2 = 0 → wordsN true (a ++ b) = wordsN true a + wordsN true b
  | [], b, _ => by simp [wordsN]
  | [x], b, h => by simp at h
  | x :: y :: a, b, h => by
    have := wordsN_even a b (by simp only [List.length_cons] at h; omega)
    simp only [List.cons_append, wordsN, this]
    omega
theorem drewN_add (w : World) (n m : Nat) : (w.drewN n).drewN m = w.drewN (n + m) := by
  simp only [World.drewN, Nat.add_assoc]
/-- The sum of bytes that are a packet's. -/
theorem inet_bytesP (p : Pk) (hl : p.data.length ≤ 1048576) : inetN (bytesP p) = 65535 ∨ inetN (bytesP p) = 0 := by
  obtain ⟨W, hW⟩ : ∃ W, wordsN true (frontP p ++ [0, 0] ++ tailP p) = W := ⟨_, rfl⟩
  obtain ⟨c, hc⟩ : ∃ c, inetN (frontP p ++ [0, 0] ++ tailP p) = c := ⟨_, rfl⟩
  have hcc : c ≤ 65535 := by rw [← hc]; unfold inetN; omega
  have hb2 : wordsN true (be2 (c : Int)) = c := by
    have e : ∀ n : Int, ((b8 n).toNat : Int) = n % 256 := fun n => by unfold b8; simp; omega
    have h1 := e ((c : Int) / 256)
    have h2 := e (c : Int)
    simp only [be2, wordsN]
    omega
  have h0 : wordsN true ([0, 0] : List UInt8) = 0 := rfl
  have e1 : wordsN true (bytesP p) = W + c := by
    unfold bytesP
    rw [hc, List.append_assoc, wordsN_even _ _ (by rw [frontP_len]), wordsN_even (be2 _) _ (by simp [be2]), hb2, ← hW, List.append_assoc, wordsN_even _ _ (by rw [frontP_len]), wordsN_even [0, 0] _ (by simp), h0]
    omega
  have hF : c = 65535 - foldN (foldN W) := by rw [← hc, ← hW]; rfl
  have m1 : foldN (foldN W) % 65535 = W % 65535 := by unfold foldN; rw [foldF_mod, foldF_mod]
  have m2 : foldN (foldN (W + c)) % 65535 = (W + c) % 65535 := by unfold foldN; rw [foldF_mod, foldF_mod]
  have hWl : W ≤ 65536 * (18 + 2 + (2 + 14 + 1048576)) := by
    have h1 := wordsN_le true (frontP p ++ [0, 0] ++ tailP p)
    have h2 := optP_len p
    have h3 : (frontP p ++ [0, 0] ++ tailP p).length ≤ 18 + 2 + (2 + 14 + 1048576) := by
      simp only [List.length_append, frontP_len, tailP, List.length_cons, List.length_nil]
      omega
    omega
  have hG : foldN (foldN W) ≤ 65535 := foldN_le (by have := foldN_le (n := W) (by omega); omega)
  have hH : foldN (foldN (W + c)) ≤ 65535 := foldN_le (by have := foldN_le (n := W + c) (by omega); omega)
  unfold inetN
  rw [e1]
  generalize foldN (foldN (W + c)) = F at *
  generalize foldN (foldN W) = G at *
  have : (W + c) % 65535 = 0 := by omega
  rw [this] at m2
  omega
theorem readO_no {p : Pk} {l : List UInt8} (h : ¬(10 ≤ l.length ∧ l.getD 0 0 = 1)) : readO p l = optB p l := by
  unfold readO optA optR
  rw [if_neg h, if_neg h]
theorem readO_yes {p : Pk} {l : List UInt8} (h : 10 ≤ l.length ∧ l.getD 0 0 = 1) : readO p l = optB { p with probe := probe8 l } (l.drop 10) := by
  unfold readO optA optR
  rw [if_pos h, if_pos h]
end Go.Fl
namespace Go.Proofs.YtoglafmpllimgaaGreatDoor
open Go.RowKit Go.Fl

section
variable {w : World}
/-- A byte at a place. -/
theorem ixG {w' : World} {s : Sl} {l : List UInt8} {i : Int} {j : Nat} {K : Int → Prop} (hs : Bs w s l) (hf : Fr w w') (hij : i = (j : Int)) (hj : j < l.length) (hk : K ((l.getD j 0).toNat : Int)) : ixa s.a s.n i 1 fun a => ld (.I .u8) w' a K := by
  subst hij
  refine ixB hs.rd hs.len (by omega) (by rw [Int.toNat_natCast]; exact hj) hf ?_
  simp only [Int.toNat_natCast]
  have e : l.getD j 0 = l[j] := by simp [List.getD_eq_getElem?_getD, List.getElem?_eq_getElem hj]
  rw [e] at hk
  exact hk
theorem or16 (a b : Nat) (hb : b < 256) (ha : a < 256) : bits .or .i64 ((a : Int) * 256) (b : Int) = (a : Int) * 256 + b := by
  have h := i64_or_nat (a * 256) b (by omega) (by omega)
  rw [show ((a * 256 : Nat) : Int) = (a : Int) * 256 from by omega] at h
  rw [h, show a * 256 ||| b = a * 256 + b from by rw [show a * 256 = 2 ^ 8 * a from by omega, Nat.two_pow_add_eq_or_of_lt hb]]
  omega
theorem pget2_ok {s : Sl} {l : List UInt8} (hs : Bs w s l) (hl : 2 ≤ l.length) : cl Tryz.prog n_packet_get2 #[.slice s.a s.n s.c] (.I .i64) w fun (r : Int) w' => r = g2 l 0 ∧ Fr w w' := by
  refine packet_get2.cl (p0 := s) ?_
  unfold packet_get2
  refine ixG (j := 0) hs (Fr.refl _) rfl (by omega) ?_
  refine ixG (j := 1) hs (Fr.refl _) rfl (by omega) ?_
  intro n5
  refine ⟨?_, Fr.drewN _ _⟩
  have h0 := (l.getD 0 0).toNat_lt
  have h1 := (l.getD 1 0).toNat_lt
  rw [i64w (n := ((l.getD 0 0).toNat : Int)) (by omega) (by omega), i64w (n := ((l.getD 1 0).toNat : Int)) (by omega) (by omega), show min 8 64 = 8 from rfl, i64w (by omega) (by omega), show (2 : Int) ^ 8 = 256 from rfl, or16 _ _ h1 h0]
  rfl
theorem g2_b (l : List UInt8) (i : Nat) : 0 ≤ g2 l i ∧ g2 l i < 65536 := by
  have h0 := (l.getD i 0).toNat_lt
  have h1 := (l.getD (i + 1) 0).toNat_lt
  unfold g2; omega
theorem pget2_q {s : Sl} {l : List UInt8} (hs : Bs w s l) (hl : 2 ≤ l.length) {K : Int → Prop} (k : K (g2 l 0)) : qcl Tryz.prog n_packet_get2 #[.slice s.a s.n s.c] (.I .i64) w K := by
  refine ⟨g2 l 0, fun n => ?_, k⟩
  refine packet_get2.cl (p0 := s) ?_
  unfold packet_get2
  have hs' := hs.fr (Fr.drewN w n)
  refine ixG (j := 0) hs' (Fr.refl _) rfl (by omega) ?_
  refine ixG (j := 1) hs' (Fr.refl _) rfl (by omega) ?_
  intro n5
  refine ⟨?_, n + n5, ?_⟩
  · have h0 := (l.getD 0 0).toNat_lt
    have h1 := (l.getD 1 0).toNat_lt
    rw [i64w (n := ((l.getD 0 0).toNat : Int)) (by omega) (by omega), i64w (n := ((l.getD 1 0).toNat : Int)) (by omega) (by omega), show min 8 64 = 8 from rfl, i64w (by omega) (by omega), show (2 : Int) ^ 8 = 256 from rfl, or16 _ _ h1 h0]
    rfl
  · rw [drewN_add]
theorem g2_drop (l : List UInt8) (i : Nat) : g2 (l.drop i) 0 = g2 l i := by
  unfold g2
  simp [List.getD_eq_getElem?_getD, List.getElem?_drop]
theorem g4_drop (l : List UInt8) (i : Nat) : g4 (l.drop i) 0 = g4 l i := by
  unfold g4 g2
  simp [List.getD_eq_getElem?_getD, List.getElem?_drop, Nat.add_assoc]
theorem or32 (a b : Nat) (hb : b < 65536) (ha : a < 65536) : bits .or .u32 ((a : Int) * 65536) (b : Int) = (a : Int) * 65536 + b := by
  have h := u32_or_nat (a * 65536) b (by omega) (by omega)
  rw [show ((a * 65536 : Nat) : Int) = (a : Int) * 65536 from by omega] at h
  rw [h, show a * 65536 ||| b = a * 65536 + b from by rw [show a * 65536 = 2 ^ 16 * a from by omega, Nat.two_pow_add_eq_or_of_lt hb]]
  omega
theorem pget4_ok {s : Sl} {l : List UInt8} (hs : Bs w s l) (hl : 4 ≤ l.length) : cl Tryz.prog n_packet_get4 #[.slice s.a s.n s.c] (.I .u32) w fun (r : Int) w' => r = g4 l 0 ∧ Fr w w' := by
  refine packet_get4.cl (p0 := s) ?_
  unfold packet_get4
  have hn := hs.len
  refine pget2_q hs (by omega) ?_
  refine slsB (i := 2) (j := s.n) hs (by decide) (by omega) (by omega) fun r2 h2 _ _ => ?_
  rw [Int.toNat_natCast, hn, List.take_length, show (2 : Int).toNat = 2 from rfl] at h2
  refine pget2_q h2 (by rw [List.length_drop]; omega) ?_
  intro n4
  refine ⟨?_, Fr.drewN _ _⟩
  rw [g2_drop]
  have h0 := g2_b l 0
  have h1 := g2_b l 2
  have e1 : IntKind.u32.wrap (g2 l 0) = g2 l 0 := by rw [u32w]; omega
  have e2 : IntKind.u32.wrap (g2 l 2) = g2 l 2 := by rw [u32w]; omega
  have e3 : IntKind.u32.wrap (g2 l 0 * 65536) = g2 l 0 * 65536 := by rw [u32w]; omega
  rw [e1, e2, show min 16 32 = 16 from rfl, show (2 : Int) ^ 16 = 65536 from rfl, e3]
  have := or32 (g2 l 0).toNat (g2 l 2).toNat (by omega) (by omega)
  rw [Int.toNat_of_nonneg h0.1, Int.toNat_of_nonneg h1.1] at this
  rw [this]
  rfl
theorem Valid_ok {x : Sl} {b : List UInt8} {a : Nat} (ha : w.heap[a]? = some (.cells #[.slice x.a x.n x.c] t_s_uint8 (0, 0))) (hx : Bs w x b) (hl : b.length ≤ 140737488355328) :
    cl Tryz.prog n_sums_Valid #[.slice (some ⟨a, 0, none⟩) 1 1] .B w fun (r : Bool) w' => r = decide (inetN b = 65535 ∨ inetN b = 0) ∧ w = w' := by
  refine sums_Valid.cl (p0 := ⟨some ⟨a, 0, none⟩, 1, 1⟩) ?_
  unfold sums_Valid
  refine (Inet_ok ha hx hl).mono ?_
  rintro _ _ ⟨rfl, h1, rfl⟩
  rw [show (65535 : Int) = ((65535 : Nat) : Int) from rfl, u16_xor_nat _ _ (by decide) (by omega), xor16 _ h1]
  refine bE ?_ ?_ <;> intro h0
  · exact ⟨(decide_eq_true (.inl (by omega))).symm, rfl⟩
  · refine ⟨?_, rfl⟩
    rw [Bool.eq_iff_iff, beq_iff_eq, decide_eq_true_iff]
    omega
theorem g4_b (l : List UInt8) (i : Nat) : 0 ≤ g4 l i ∧ g4 l i < 4294967296 := by
  have h0 := g2_b l i
  have h1 := g2_b l (i + 2)
  unfold g4; omega
theorem or64 {a b : Int} (ha : 0 ≤ a ∧ a < 4294967296) (hb : 0 ≤ b ∧ b < 4294967296) : bits .or .i64 (IntKind.i64.wrap (a * 4294967296)) b = IntKind.i64.wrap (a * 4294967296 + b) := by
  obtain ⟨n, rfl⟩ : ∃ n : Nat, a = n := ⟨a.toNat, by omega⟩
  obtain ⟨m, rfl⟩ : ∃ m : Nat, b = m := ⟨b.toNat, by omega⟩
  have e1 : (BitVec.ofInt 64 (IntKind.i64.wrap ((n : Int) * 4294967296))).toNat = n * 4294967296 := by
    rw [BitVec.toNat_ofInt, IntKind.wrap_i64]
    omega
  have e2 : (BitVec.ofInt 64 (m : Int)).toNat = m := by
    rw [BitVec.ofInt_natCast, BitVec.toNat_ofNat]; exact Nat.mod_eq_of_lt (by omega)
  have e3 : n * 4294967296 ||| m = n * 4294967296 + m := by
    rw [show n * 4294967296 = 2 ^ 32 * n from by omega, Nat.two_pow_add_eq_or_of_lt (by omega)]
  show IntKind.i64.wrap ((BitVec.ofInt 64 (IntKind.i64.wrap ((n : Int) * 4294967296)) ||| BitVec.ofInt 64 (m : Int)).toNat : Int) = _
  rw [BitVec.toNat_or, e1, e2, e3, Int.natCast_add, Int.natCast_mul]
  rfl
theorem stProbe {g : Nat} {p : Pk} {s : Sl} {v : Int} {K : World → Prop} (h : PkB w g p s) (hk : ∀ w', PkB w' g { p with probe := v } s → w.grownBy w' (some g) → K w') : st1 w ⟨g, 8, none⟩ (.int .i64 v) K :=
  st0 h (by show 8 < 11; decide) fun w' hb hg _ => hk w' hb hg
theorem stOrigin {g : Nat} {p : Pk} {s : Sl} {v : Int} {K : World → Prop} (h : PkB w g p s) (hk : ∀ w', PkB w' g { p with origin := v } s → w.grownBy w' (some g) → K w') : st1 w ⟨g, 9, none⟩ (.int .i64 v) K :=
  st0 h (by show 9 < 11; decide) fun w' hb hg _ => hk w' hb hg
theorem stData {g : Nat} {p : Pk} {s s' : Sl} {l : List UInt8} {K : World → Prop} (h : PkB w g p s) (hk : ∀ w', PkB w' g { p with data := l } s' → w.grownBy w' (some g) → K w') : st1 w ⟨g, 10, none⟩ (.slice s'.a s'.n s'.c) K :=
  st0 h (by show 10 < 11; decide) fun w' hb hg _ => hk w' hb hg
theorem read_ok {o : Sl} {l : List UInt8} {g : Nat} {p : Pk} {s : Sl} (ho : Bs w o l) (hg : PkB w g p s) (hw : ∀ ad, o.a = some ad → ad.block ≠ g) :
    cl Tryz.prog n_packet_read #[.pointer (some ⟨g, 0, none⟩), .slice o.a o.n o.c] (.tup .nil) w fun (_ : Unit) w' => PkB w' g (readO p l) s ∧ Mv (fun k => k = g) w w' := by
  refine packet_read.cl (p1 := o) ?_
  unfold packet_read
  have hn := ho.len
  have u8eq : ∀ (x : UInt8) (n : Nat), n < 256 → ((x.toNat : Int) = (n : Int) ↔ x = UInt8.ofNat n) := fun x n hn => by
    constructor
    · intro h
      have : x.toNat = n := by omega
      rw [← this]; simp
    · intro h; rw [h]; simp; omega
  intro j2
  have J2 : ∀ (y : Sl) (m : List UInt8) (q : Pk) (u : World), Bs u y m → PkB u g q s → (∀ ad, y.a = some ad → ad.block ≠ g) → Mv (fun k => k = g) w u → readO p l = optB q m → j2 y u := by
    intro y m q u hy hq hyg hu he
    unfold j2
    have hyn := hy.len
    rw [he]
    unfold optB
    refine bD ?_ ?_ <;> intro h4
    · refine ixG (j := 0) hy (Fr.refl _) rfl (by omega) ?_
      refine bE ?_ ?_ <;> intro h2
      · rw [if_pos ⟨by omega, (u8eq _ 2 (by decide)).1 h2⟩]
        refine slsB (i := 2) (j := y.n) hy (by decide) (by omega) (by omega) fun r36 h36 _ _ => ?_
        rw [Int.toNat_natCast, hyn, List.take_length, show (2 : Int).toNat = 2 from rfl] at h36
        refine (pget2_ok h36 (by rw [List.length_drop]; omega)).mono ?_
        rintro _ w38 ⟨rfl, hf38⟩
        rw [g2_drop, nz, addOff]
        refine stOrigin (hf38.heap hq) fun w40 hb40 g40 => ?_
        exact ⟨hb40, (hu.trans (Mv.of_fr (F := fun k => k = g) hf38) fun j hj => .inl hj).trans (Mv.of_grown (F := fun k => k = g) g40 rfl) fun j hj => .inl hj⟩
      · rw [if_neg fun h => h2 ((u8eq _ 2 (by decide)).2 h.2)]
        exact ⟨hq, hu⟩
    · rw [if_neg (by omega)]
      exact ⟨hq, hu⟩
  clear_value j2
  intro j1
  have J1 : ∀ y : Bool, (y = true ↔ 10 ≤ l.length ∧ l.getD 0 0 = 1) → j1 y w := by
    intro y hy
    unfold j1
    refine bB ?_ ?_ <;> intro h0
    · have hyes := hy.1 h0
      intro n15
      have ho15 := ho.fr (Fr.drewN w n15)
      have hg15 := (Fr.drewN w n15).heap hg
      have v15 : Mv (fun k => k = g) w (w.drewN n15) := Mv.of_fr (Fr.drewN w n15)
      generalize w.drewN n15 = w15 at *
      refine slsB (i := 2) (j := o.n) ho15 (by decide) (by omega) (by omega) fun r16 h16 _ _ => ?_
      refine slsB (i := 6) (j := o.n) ho15 (by decide) (by omega) (by omega) fun r17 h17 _ _ => ?_
      rw [Int.toNat_natCast, hn, List.take_length, show (2 : Int).toNat = 2 from rfl] at h16
      rw [Int.toNat_natCast, hn, List.take_length, show (6 : Int).toNat = 6 from rfl] at h17
      refine (pget4_ok h16 (by rw [List.length_drop]; omega)).mono ?_
      rintro _ w19 ⟨rfl, hf19⟩
      refine (pget4_ok (h17.fr hf19) (by rw [List.length_drop]; omega)).mono ?_
      rintro _ w21 ⟨rfl, hf21⟩
      have hf21' := hf19.trans hf21
      rw [g4_drop, g4_drop]
      have b1 := g4_b l 2
      have b2 := g4_b l 6
      rw [i64w (n := g4 l 2) (by omega) (by omega), i64w (n := g4 l 6) (by omega) (by omega), show min 32 64 = 32 from rfl, show (2 : Int) ^ 32 = 4294967296 from rfl, or64 b1 b2, nz, addOff]
      have hpr : IntKind.i64.wrap (g4 l 2 * 4294967296 + g4 l 6) = probe8 l := by unfold probe8; rfl
      rw [hpr]
      have hyes2 := readO_yes (p := p) hyes
      generalize probe8 l = pr at *
      refine stProbe (hf21'.heap hg15) fun w23 hb23 g23 => ?_
      have v23 : Mv (fun k => k = g) w w23 := (v15.trans (Mv.of_fr (F := fun k => k = g) hf21') fun j hj => .inl hj).trans (Mv.of_grown (F := fun k => k = g) g23 rfl) fun j hj => .inl hj
      have ho23 : Bs w23 o l := ho.kp v23.kp fun ad ha hz => hw ad ha hz
      refine slsB (i := 10) (j := o.n) ho23 (by decide) (by omega) (by omega) fun r24 h24 hr24 _ => ?_
      rw [Int.toNat_natCast, hn, List.take_length, show (10 : Int).toNat = 10 from rfl] at h24
      refine J2 r24 (l.drop 10) { p with probe := pr } w23 h24 hb23 (fun ad ha => ?_) v23 ?_
      · obtain ⟨ad', h1, h2⟩ := hr24 ad ha
        rw [h2]; exact hw ad' h1
      · exact hyes2
    · refine J2 o l p w ho hg hw (Mv.refl _ _) ?_
      exact readO_no fun h => by rw [hy.2 h] at h0; cases h0
  clear_value j1
  refine bD ?_ ?_ <;> intro h
  · refine ixG (j := 0) ho (Fr.refl _) rfl (by omega) ?_
    refine J1 _ ?_
    rw [beq_iff_eq]
    exact ⟨fun h1 => ⟨by omega, (u8eq _ 1 (by decide)).1 h1⟩, fun h1 => (u8eq _ 1 (by decide)).2 h1.2⟩
  · exact J1 _ ⟨fun h1 => (by cases h1), fun h1 => by omega⟩
/-- The packet whose bytes they are. -/
def GetK (w : World) (base : Nat) (r : y_api_Packet × Int × Unit) : Option Pk → Prop
  | some p => ∃ s, r = (pkT p s, 0, ()) ∧ OwB w base t_uint8 s p.data
  | none => r.1 = pkT pk0 ⟨none, 0, 0⟩ ∧ r.2.1 ≠ 0
theorem pGet_ok {x : Sl} {b : List UInt8} (hx : Bs w x b) (hl : b.length ≤ 140737488355328) : cl Tryz.prog n_packet_Get #[.slice x.a x.n x.c] (.tup (.pair k_api_Packet (.pair (.I .i64) .nil))) w fun (r : y_api_Packet × Int × Unit) w' => GetK w' w.heap.size r (getP b) ∧ Fr w w' := by
  refine packet_Get.cl (p0 := x) ?_
  unfold packet_Get
  have hn := hx.len
  refine newPk pk0 ⟨none, 0, 0⟩ fun a1 w2 ha1 hf2 hb1 => ?_
  have bad : ∀ {u : World} {e : Int}, Fr w2 u → getP b = none → e ≠ 0 → st u ⟨a1, 0, none⟩ (Kd.av k_api_Packet (0, (0, (0, (0, (0, (0, (0, (0, (0, (0, (⟨none, 0, 0⟩, ())))))))))))) fun w5 => ld k_api_Packet w5 ⟨a1, 0, none⟩ fun (r6 : y_api_Packet) => GetK w5 w.heap.size (r6, (e, ())) (getP b) ∧ Fr w w5 := by
    intro u e hu hg he
    refine retPk (w := w) (b := 0) pk0 ⟨none, 0, 0⟩ (hu.heap hb1) (hf2.trans hu) (by omega) rfl fun u' hu' => ⟨?_, hu'⟩
    rw [hg]
    exact ⟨rfl, he⟩
  have hG : getP b = if 22 ≤ b.length ∧ 22 + (b.getD 20 0).toNat ≤ b.length ∧ putP (parseP b) = (b, 0) then some (parseP b) else none := rfl
  have h20 := (b.getD 20 0).toNat_lt
  refine bD ?_ ?_ <;> intro c1
  · exact bad (Fr.refl _) (by rw [hG, if_neg fun h => by omega]) (by decide)
  have hx2 := hx.fr hf2
  refine ixG (j := 20) hx2 (Fr.refl _) rfl (by omega) ?_
  obtain ⟨k, hk⟩ : ∃ k, (b.getD 20 0).toNat = k := ⟨_, rfl⟩
  rw [hk] at h20 hG ⊢
  have e22 : IntKind.i64.wrap (22 + IntKind.i64.wrap (k : Int)) = ((22 + k : Nat) : Int) := by
    rw [i64w (n := (k : Int)) (by omega) (by omega), i64w (by omega) (by omega)]; omega
  rw [e22]
  refine bD ?_ ?_ <;> intro c2
  · exact bad (Fr.refl _) (by rw [hG, if_neg fun h => by omega]) (by decide)
  refine nwI fun a9 w10 ha9 hs10 hf10 hb9 _ => ?_
  refine (Valid_ok hb9 (hx2.fr hf10) hl).mono ?_
  rintro _ _ ⟨rfl, rfl⟩
  have hz2 := hf2.size
  by_cases hv : inetN b = 65535 ∨ inetN b = 0
  rotate_left
  · rw [decide_eq_false hv]
    refine bT rfl (bad hf10 ?_ (by decide))
    rw [hG, if_neg fun h => ?_]
    have h3 := h.2.2
    unfold putP at h3
    split at h3
    · rename_i hok
      injection h3 with h3 _
      have hdl : (parseP b).data.length ≤ 128 := hok.2.2.2.2.2.2.2.2.2
      have := inet_bytesP (parseP b) (by omega)
      rw [h3] at this
      exact hv this
    · injection h3 with h3 h4
      cases h4
  rw [decide_eq_true hv]
  refine bF rfl ?_
  obtain ⟨w12, hw12⟩ : ∃ u, u = w10 := ⟨_, rfl⟩
  rw [← hw12] at hf10 hb9 hs10 ⊢
  have hf12 := hf2.trans hf10
  have hx12 := hx2.fr hf10
  have hb1' := hf10.heap hb1
  refine ixG (j := 20) hx12 (Fr.refl _) rfl (by omega) ?_
  rw [hk, e22]
  obtain ⟨P0, hP0⟩ : ∃ P0 : Pk, P0 = ⟨(b.getD 1 0).toNat, (b.getD 2 0).toNat, g2 b 4, g2 b 6, g4 b 8, g4 b 12, (b.getD 3 0).toNat, g2 b 16, 0, 0, []⟩ := ⟨_, rfl⟩
  have hparse : parseP b = { readO P0 ((b.take (22 + k)).drop 22) with data := b.drop (22 + k) } := by rw [hP0, ← hk]; rfl
  intro j1
  have J1 : ∀ (g : Nat) (u : World), Fr w12 u → w12.heap.size ≤ g → PkB u g P0 ⟨none, 0, 0⟩ → j1 (some ⟨g, 0, none⟩) u := by
    intro g u hu hg hgu
    have hgl := (Array.getElem?_eq_some_iff.1 hgu).1
    have hxu := hx12.fr hu
    have hxold : ∀ ad, x.a = some ad → ad.block < w.heap.size := hx.lt (by intro h; rw [h] at hn; simp at hn; omega)
    have hz12 := hf12.size
    unfold j1
    refine slsB (i := 22) (j := ((22 + k : Nat) : Int)) hxu (by decide) (by omega) (by omega) fun r110 h110 hr110 _ => ?_
    rw [Int.toNat_natCast, show (22 : Int).toNat = 22 from rfl] at h110
    refine (read_ok h110 hgu (fun ad ha => by
      obtain ⟨ad', h1, h2⟩ := hr110 ad ha
      have := hxold ad' h1
      omega)).mono ?_
    rintro _ w112 ⟨hg112, v112⟩
    have f112 : Fr w12 w112 := Mv.on (F := fun k => k = g) hu v112 fun j hj => by omega
    have f2_112 := hf10.trans f112
    rw [i64w (n := (x.n : Int) - ((22 + k : Nat) : Int)) (by omega) (by omega)]
    refine bD ?_ ?_ <;> intro c3
    · refine bad f2_112 ?_ (by decide)
      rw [hG, if_neg fun h => ?_]
      have h3 := h.2.2
      unfold putP at h3
      rw [if_neg] at h3
      · injection h3 with h3 h4; cases h4
      · intro hok
        have hdl : (parseP b).data.length ≤ 128 := hok.2.2.2.2.2.2.2.2.2
        rw [hparse] at hdl
        simp only [List.length_drop] at hdl
        omega
    have hx112 := hx12.fr f112
    refine slsB (i := ((22 + k : Nat) : Int)) (j := x.n) hx112 (by omega) (by omega) (by omega) fun r115 h115 _ _ => ?_
    rw [Int.toNat_natCast, Int.toNat_natCast, hn, List.take_length] at h115
    refine (Clone_byte_ok h115 (by rw [List.length_drop]; omega)).mono ?_
    rintro x116 w117 ⟨h116, hf117⟩
    rw [nz, addOff]
    have z112 := f112.size
    have zg := v112.size
    refine stData (l := b.drop (22 + k)) (hf117.heap hg112) fun w119 hb119 g119 => ?_
    rw [← hparse] at hb119
    have f119 : Fr w12 w119 := Mv.on (F := fun k => k = g) (f112.trans hf117) (Mv.of_grown g119 rfl) fun j hj => by omega
    have h119 : OwB w119 w112.heap.size t_uint8 x116 (b.drop (22 + k)) := h116.mv (Mv.of_grown (F := fun k => k = g) g119 rfl) fun ad ha e' => by have := (h116.own ad ha).1; omega
    have hdata : (parseP b).data = b.drop (22 + k) := by rw [hparse]
    rw [nz]
    refine ldPk hb119 ?_
    refine (pPut_ok (hdata ▸ h119.bs) (by rw [hdata, List.length_drop]; omega)).mono ?_
    rintro ⟨r122, err, ⟨⟩⟩ w123 ⟨h122, he, hf123⟩
    dsimp -zeta only at h122 he ⊢
    injection he with he _
    have f123 := f119.trans hf123
    have f2_123 := hf10.trans f123
    subst he
    refine bNe ?_ ?_ <;> intro c4
    · refine bad f2_123 ?_ (by decide)
      rw [hG, if_neg fun h => c4 (congrArg Prod.snd h.2.2)]
    refine bstrI h122.rd h122.len.symm (Fr.refl _) ?_
    refine bstrI (hx12.fr f123).rd hn.symm (Fr.refl _) ?_
    rw [beqB_eq]
    by_cases c5 : (putP (parseP b)).1 = b
    rotate_left
    · rw [decide_eq_false c5]
      refine bT rfl (bad f2_123 ?_ (by decide))
      rw [hG, if_neg fun h => c5 (congrArg Prod.fst h.2.2)]
    rw [decide_eq_true c5]
    refine bF rfl ?_
    have hs : getP b = some (parseP b) := by rw [hG, if_pos ⟨by omega, by omega, Prod.ext c5 c4⟩]
    rw [nz]
    refine ldPk (hf123.heap hb119) ?_
    refine stPk (parseP b) x116 (f2_123.heap hb1) fun u' hb' g' s' => ldPk hb' ?_
    rw [hs]
    have vv : Mv (fun k => k = a1) w123 u' := Mv.of_grown g' rfl
    refine ⟨⟨x116, rfl, ?_⟩, ?_⟩
    · rw [hdata]
      refine ((h119.fr hf123).mv vv fun ad ha e' => by have := (h116.own ad ha).1; omega).mono (by omega)
    · exact Mv.on (F := fun k => k = a1) (hf12.trans f123) vv fun j hj => by omega
  clear_value j1
  intro n17
  have f17 := Fr.drewN w12 n17
  have hx17 := hx12.fr f17
  generalize w12.drewN n17 = w17 at *
  refine ixG (j := 1) hx17 (Fr.refl _) rfl (by omega) ?_
  refine ixG (j := 2) hx17 (Fr.refl _) rfl (by omega) ?_
  refine ixG (j := 3) hx17 (Fr.refl _) rfl (by omega) ?_
  have cutB : ∀ (o : Nat) {i : Int} (_ : i = (o : Int)) (ho : o + 4 ≤ 22) {K : Sl → Prop}, (∀ r, (∀ {u : World}, Fr w17 u → Bs u r (b.drop o)) → K r) → sls x i x.n 1 K := fun o {i} hi ho {K} hk =>
    slsB hx17 (by omega) (by omega) (by omega) fun r hr _ _ => hk r fun hu => by
      rw [hi, Int.toNat_natCast, Int.toNat_natCast, hn, List.take_length] at hr
      exact hr.fr hu
  refine cutB 4 rfl (by decide) fun r24 h4 => ?_
  refine cutB 6 rfl (by decide) fun r25 h6 => ?_
  refine cutB 8 rfl (by decide) fun r26 h8 => ?_
  refine cutB 12 rfl (by decide) fun r27 h12 => ?_
  refine cutB 16 rfl (by decide) fun r28 h16 => ?_
  have z17 := f17.size
  have t1 := (b.getD 1 0).toNat_lt
  have t2 := (b.getD 2 0).toNat_lt
  have t3 := (b.getD 3 0).toNat_lt
  rw [i64w (n := ((b.getD 1 0).toNat : Int)) (by omega) (by omega), i64w (n := ((b.getD 2 0).toNat : Int)) (by omega) (by omega), i64w (n := ((b.getD 3 0).toNat : Int)) (by omega) (by omega)]
  have fin : ∀ (u : World) (g : Nat), Fr w17 u → w17.heap.size ≤ g → PkB u g pk0 ⟨none, 0, 0⟩ →
      st u ⟨g, 0, none⟩ (Kd.av k_api_Packet (((b.getD 1 0).toNat : Int), (((b.getD 2 0).toNat : Int), (g2 (b.drop 4) 0, (g2 (b.drop 6) 0, (g4 (b.drop 8) 0, (g4 (b.drop 12) 0, (((b.getD 3 0).toNat : Int), (g2 (b.drop 16) 0, (0, (0, (⟨none, 0, 0⟩, ())))))))))))) fun w41 => j1 (some ⟨g, 0, none⟩) w41 := by
    intro u g hu hg hgu
    rw [g2_drop, g2_drop, g2_drop, g4_drop, g4_drop]
    show st u ⟨g, 0, none⟩ (Kd.av k_api_Packet (pkT ⟨(b.getD 1 0).toNat, (b.getD 2 0).toNat, g2 b 4, g2 b 6, g4 b 8, g4 b 12, (b.getD 3 0).toNat, g2 b 16, 0, 0, []⟩ ⟨none, 0, 0⟩)) _
    rw [← hP0]
    refine stPk P0 ⟨none, 0, 0⟩ hgu fun u' hb' g' s' => ?_
    exact J1 g u' (f17.trans (Mv.on (F := fun k => k = g) hu (Mv.of_grown g' rfl) fun j hj => by omega)) (by omega) hb'
  have hf := Fr.refl w17
  refine ⟨?_, ?_⟩
  · skip
    refine (pget2_ok (h4 hf) (by rw [List.length_drop]; omega)).mono ?_
    rintro _ u0 ⟨rfl, hf1⟩
    have hf := hf.trans hf1
    refine ⟨hf1, ?_⟩
    refine ⟨?_, ?_⟩
    · skip
      refine (pget2_ok (h6 hf) (by rw [List.length_drop]; omega)).mono ?_
      rintro _ u1 ⟨rfl, hf1⟩
      have hf := hf.trans hf1
      refine ⟨hf1, ?_⟩
      refine ⟨?_, ?_⟩
      · skip
        refine (pget4_ok (h8 hf) (by rw [List.length_drop]; omega)).mono ?_
        rintro _ u2 ⟨rfl, hf1⟩
        have hf := hf.trans hf1
        refine ⟨hf1, ?_⟩
        refine ⟨?_, ?_⟩
        · skip
          refine (pget4_ok (h12 hf) (by rw [List.length_drop]; omega)).mono ?_
          rintro _ u3 ⟨rfl, hf1⟩
          have hf := hf.trans hf1
          refine ⟨hf1, ?_⟩
          refine ⟨?_, ?_⟩
          · skip
            refine (pget2_ok (h16 hf) (by rw [List.length_drop]; omega)).mono ?_
            rintro _ u4 ⟨rfl, hf1⟩
            have hf := hf.trans hf1
            refine ⟨hf1, ?_⟩
            refine newPk pk0 ⟨none, 0, 0⟩ fun g v hgv hf1 hg => ⟨hf1, ?_⟩
            have hz := hf.size
            have hgl : w17.heap.size ≤ g := by omega
            have hf := hf.trans hf1
            exact fin _ _ hf hgl hg
          · skip
            refine newPk pk0 ⟨none, 0, 0⟩ fun g v hgv hf1 hg => ⟨hf1, ?_⟩
            have hz := hf.size
            have hgl : w17.heap.size ≤ g := by omega
            have hf := hf.trans hf1
            refine (pget2_ok (h16 hf) (by rw [List.length_drop]; omega)).mono ?_
            rintro _ u4 ⟨rfl, hf1⟩
            have hf := hf.trans hf1
            have hg := hf1.heap hg
            refine ⟨hf1, ?_⟩
            exact fin _ _ hf hgl hg
        · skip
          refine newPk pk0 ⟨none, 0, 0⟩ fun g v hgv hf1 hg => ⟨hf1, ?_⟩
          have hz := hf.size
          have hgl : w17.heap.size ≤ g := by omega
          have hf := hf.trans hf1
          refine (pget4_ok (h12 hf) (by rw [List.length_drop]; omega)).mono ?_
          rintro _ u3 ⟨rfl, hf1⟩
          have hf := hf.trans hf1
          have hg := hf1.heap hg
          refine ⟨hf1, ?_⟩
          refine (pget2_ok (h16 hf) (by rw [List.length_drop]; omega)).mono ?_
          rintro _ u4 ⟨rfl, hf1⟩
          have hf := hf.trans hf1
          have hg := hf1.heap hg
          refine ⟨hf1, ?_⟩
          exact fin _ _ hf hgl hg
      · skip
        refine newPk pk0 ⟨none, 0, 0⟩ fun g v hgv hf1 hg => ⟨hf1, ?_⟩
        have hz := hf.size
        have hgl : w17.heap.size ≤ g := by omega
        have hf := hf.trans hf1
        refine (pget4_ok (h8 hf) (by rw [List.length_drop]; omega)).mono ?_
        rintro _ u2 ⟨rfl, hf1⟩
        have hf := hf.trans hf1
        have hg := hf1.heap hg
        refine ⟨hf1, ?_⟩
        refine (pget4_ok (h12 hf) (by rw [List.length_drop]; omega)).mono ?_
        rintro _ u3 ⟨rfl, hf1⟩
        have hf := hf.trans hf1
        have hg := hf1.heap hg
        refine ⟨hf1, ?_⟩
        refine (pget2_ok (h16 hf) (by rw [List.length_drop]; omega)).mono ?_
        rintro _ u4 ⟨rfl, hf1⟩
        have hf := hf.trans hf1
        have hg := hf1.heap hg
        refine ⟨hf1, ?_⟩
        exact fin _ _ hf hgl hg
    · skip
      refine newPk pk0 ⟨none, 0, 0⟩ fun g v hgv hf1 hg => ⟨hf1, ?_⟩
      have hz := hf.size
      have hgl : w17.heap.size ≤ g := by omega
      have hf := hf.trans hf1
      refine (pget2_ok (h6 hf) (by rw [List.length_drop]; omega)).mono ?_
      rintro _ u1 ⟨rfl, hf1⟩
      have hf := hf.trans hf1
      have hg := hf1.heap hg
      refine ⟨hf1, ?_⟩
      refine (pget4_ok (h8 hf) (by rw [List.length_drop]; omega)).mono ?_
      rintro _ u2 ⟨rfl, hf1⟩
      have hf := hf.trans hf1
      have hg := hf1.heap hg
      refine ⟨hf1, ?_⟩
      refine (pget4_ok (h12 hf) (by rw [List.length_drop]; omega)).mono ?_
      rintro _ u3 ⟨rfl, hf1⟩
      have hf := hf.trans hf1
      have hg := hf1.heap hg
      refine ⟨hf1, ?_⟩
      refine (pget2_ok (h16 hf) (by rw [List.length_drop]; omega)).mono ?_
      rintro _ u4 ⟨rfl, hf1⟩
      have hf := hf.trans hf1
      have hg := hf1.heap hg
      refine ⟨hf1, ?_⟩
      exact fin _ _ hf hgl hg
  · skip
    refine newPk pk0 ⟨none, 0, 0⟩ fun g v hgv hf1 hg => ⟨hf1, ?_⟩
    have hz := hf.size
    have hgl : w17.heap.size ≤ g := by omega
    have hf := hf.trans hf1
    refine (pget2_ok (h4 hf) (by rw [List.length_drop]; omega)).mono ?_
    rintro _ u0 ⟨rfl, hf1⟩
    have hf := hf.trans hf1
    have hg := hf1.heap hg
    refine ⟨hf1, ?_⟩
    refine (pget2_ok (h6 hf) (by rw [List.length_drop]; omega)).mono ?_
    rintro _ u1 ⟨rfl, hf1⟩
    have hf := hf.trans hf1
    have hg := hf1.heap hg
    refine ⟨hf1, ?_⟩
    refine (pget4_ok (h8 hf) (by rw [List.length_drop]; omega)).mono ?_
    rintro _ u2 ⟨rfl, hf1⟩
    have hf := hf.trans hf1
    have hg := hf1.heap hg
    refine ⟨hf1, ?_⟩
    refine (pget4_ok (h12 hf) (by rw [List.length_drop]; omega)).mono ?_
    rintro _ u3 ⟨rfl, hf1⟩
    have hf := hf.trans hf1
    have hg := hf1.heap hg
    refine ⟨hf1, ?_⟩
    refine (pget2_ok (h16 hf) (by rw [List.length_drop]; omega)).mono ?_
    rintro _ u4 ⟨rfl, hf1⟩
    have hf := hf.trans hf1
    have hg := hf1.heap hg
    refine ⟨hf1, ?_⟩
    exact fin _ _ hf hgl hg

end
end Go.Proofs.YtoglafmpllimgaaGreatDoor
namespace Go.Proofs.YtoglafmpllimgaaGreatDoor
open Go.RowKit Go.Fl

abbrev Zn (G F : Nat → Prop) : Nat → Prop := fun k => G k ∨ F k
def bls (l : List Bool) : List Value := l.map fun b => .bool b
theorem bls_length (l : List Bool) : (bls l).length = l.length := List.length_map _
def preC (c : Cn) (o i : Sl) : List Value := [.int .i64 c.src, .int .i64 c.dst, .int .i64 c.sport, .int .i64 c.dport, .int .i64 c.origin, .int .u32 c.iss, .int .u32 c.una, .int .u32 c.nxt, .int .u32 c.top, slV o, .int .i64 c.wnd, .bool c.shut, .bool c.over, .int .i64 c.sent, .int .u32 c.irs, .int .u32 c.rcv, slV i]
def midC (c : Cn) : List Value := u8s c.early ++ bls c.have_
def postC (c : Cn) (p : Sl) : List Value := [.bool c.told, .int .u32 c.end_, .bool c.fin, .int .i64 c.got, .int .i64 c.state, .int .i64 c.timer, .int .i64 c.tries, .int .i64 c.idle, slV p]
def cnL (c : Cn) (o i p : Sl) : List Value := preC c o i ++ (midC c ++ postC c p)
def packL (l : List Pk) (ss : List Sl) : List Value := (List.zip l ss).flatMap fun e => pkL e.1 e.2
structure CnP (w : World) (Z : Nat → Prop) (p : Sl) (l : List Pk) (ss : List Sl) : Prop where
  n : ss.length = l.length
  own : w.ownsRow 0 t_api_Packet 11 (.slice p.a p.n p.c) p.n (packL l ss)
  all : ∀ e ∈ List.zip l ss, Cb w Z e.2 e.1.data
/-- An endpoint. G: what others may turn; F: what this one may. -/
structure CnR (w : World) (G F : Nat → Prop) (g : Nat) (c : Cn) (o i p : Sl) : Prop where
  cells : w.heap[g]? = some (.cells (cnL c o i p).toArray t_tcp_Conn (0, 0))
  e : c.early.length = 1024
  h : c.have_.length = 1024
  out : Cb w (Zn G F) o c.out
  inn : Cb w (Zn G F) i c.inn
  pack : ∃ ss, CnP w (Zn G F) p c.pack ss
  packf : ∀ ad, p.a = some ad → F ad.block ∧ ad.block ≠ g
  fg : F g
  fl : ∀ k, F k → k < w.heap.size
  gl : ∀ k, G k → k < w.heap.size
  gf : ∀ k, G k → ¬F k
def CnTo (w : World) (F : Nat → Prop) (w' : World) (G : Nat → Prop) (g : Nat) (c : Cn) : Prop := ∃ F' o i p, CnR w' G F' g c o i p ∧ Stp w F w' F'
section
variable {w w' : World} {G F : Nat → Prop} {g : Nat} {c : Cn} {o i p : Sl}
theorem midC_len (h : CnR w G F g c o i p) : (midC c).length = 2048 := by
  unfold midC; rw [List.length_append, u8s_length, bls_length, h.e, h.h]
theorem CnR.preA (h : CnR w G F g c o i p) {j : Nat} {v : Value} (hj : (preC c o i)[j]? = some v) : (cnL c o i p).toArray[j]? = some v := by
  have : j < 17 := (List.getElem?_eq_some_iff.1 hj).1
  rw [List.getElem?_toArray, cnL, List.getElem?_append_left (by show j < 17; omega)]
  exact hj
theorem CnR.postA (h : CnR w G F g c o i p) {j : Nat} {v : Value} (hj : (postC c p)[j]? = some v) : (cnL c o i p).toArray[2065 + j]? = some v := by
  have hm := midC_len h
  rw [List.getElem?_toArray, cnL, List.getElem?_append_right (by show 17 ≤ _; omega)]
  show (midC c ++ postC c p)[2065 + j - 17]? = _
  rw [List.getElem?_append_right (by omega), hm, show 2065 + j - 17 - 2048 = j from by omega]
  exact hj
theorem CnR.postS (h : CnR w G F g c o i p) {j : Nat} {v : Value} {c' : Cn} {p' : Sl} (hq : (postC c p).set j v = postC c' p') (hm : midC c' = midC c) (hp : preC c' o i = preC c o i) : (cnL c o i p).toArray.setIfInBounds (2065 + j) v = (cnL c' o i p').toArray := by
  have hml := midC_len h
  rw [List.setIfInBounds_toArray, cnL, List.set_append_right _ _ (by show 17 ≤ _; omega)]
  show (preC c o i ++ (midC c ++ postC c p).set (2065 + j - 17) v).toArray = _
  rw [List.set_append_right _ _ (by omega), hml, show 2065 + j - 17 - 2048 = j from by omega, hq, ← hm, ← hp]
  rfl
theorem CnR.size (h : CnR w G F g c o i p) : (cnL c o i p).toArray.size = 2074 := by
  have hm := midC_len h
  rw [List.size_toArray, cnL, List.length_append, List.length_append, hm]
  rfl
theorem CnP.mv {E Z Z' : Nat → Prop} {l : List Pk} {ss : List Sl} (h : CnP w Z p l ss) (hm : Mv E w w') (hE : ∀ k, E k → Z k ∨ w.heap.size ≤ k) (hZ : ∀ k, Z' k → Z k ∨ w.heap.size ≤ k) (hp : ∀ ad, p.a = some ad → ¬E ad.block) : CnP w' Z' p l ss :=
  ⟨h.n, own_kp h.own hm.kp hp, fun e he => (h.all e he).mv hm hE hZ⟩
/-- The block has turned, the rest has not. -/
theorem CnR.upd {c' : Cn} {o' i' : Sl} (h : CnR w G F g c o i p) (hb : w'.heap[g]? = some (.cells (cnL c' o' i' p).toArray t_tcp_Conn (0, 0))) (hg : w.grownBy w' (some g)) (hs : w'.heap.size = w.heap.size) (e1 : c'.early.length = 1024) (e2 : c'.have_.length = 1024)
    (ho : Cb w (Zn G F) o' c'.out) (hi : Cb w (Zn G F) i' c'.inn) (hp : c'.pack = c.pack) : CnR w' G F g c' o' i' p ∧ Stp w F w' F := by
  have hm : Mv (fun k => k = g) w w' := Mv.of_grown hg rfl
  have hE : ∀ k, k = g → Zn G F k ∨ w.heap.size ≤ k := fun k hk => .inl (.inr (hk ▸ h.fg))
  obtain ⟨ss, hss⟩ := h.pack
  refine ⟨⟨hb, e1, e2, ho.mv hm hE fun _ h => .inl h, hi.mv hm hE fun _ h => .inl h, ⟨ss, hp ▸ hss.mv hm hE (fun _ h => .inl h) fun ad ha e => (h.packf ad ha).2 e⟩, h.packf, h.fg, fun k hk => hs ▸ h.fl k hk, fun k hk => hs ▸ h.gl k hk, h.gf⟩, hm.mono fun k hk => .inl (hk ▸ h.fg), fun _ h => .inl h⟩
/-- Something else has turned. -/
theorem CnR.other {G' E : Nat → Prop} (h : CnR w G F g c o i p) (hm : Mv E w w') (hE : ∀ k, E k → (G k ∧ ¬F k) ∨ w.heap.size ≤ k) (hG : ∀ k, G' k → G k ∨ w.heap.size ≤ k) (hl : ∀ k, G' k → k < w'.heap.size) : CnR w' G' F g c o i p := by
  have hEZ : ∀ k, E k → Zn G F k ∨ w.heap.size ≤ k := fun k hk => (hE k hk).imp (fun h => .inl h.1) id
  have hZ : ∀ k, Zn G' F k → Zn G F k ∨ w.heap.size ≤ k := fun k hk => by
    rcases hk with hk | hk
    · exact (hG k hk).imp .inl id
    · exact .inl (.inr hk)
  have hEF : ∀ k, F k → ¬E k := fun k hf he => by
    rcases hE k he with h1 | h1
    · exact h1.2 hf
    · have := h.fl k hf; omega
  obtain ⟨ss, hss⟩ := h.pack
  refine ⟨hm.heap h.cells (hEF _ h.fg), h.e, h.h, h.out.mv hm hEZ hZ, h.inn.mv hm hEZ hZ, ⟨ss, hss.mv hm hEZ hZ fun ad ha => hEF _ (h.packf ad ha).1⟩, h.packf, h.fg, fun k hk => Nat.lt_of_lt_of_le (h.fl k hk) hm.size, hl, fun k hk hf => ?_⟩
  rcases hG k hk with h1 | h1
  · exact h.gf k h1 hf
  · have := h.fl k hf; omega
theorem CnR.fr (h : CnR w G F g c o i p) (hf : Fr w w') : CnR w' G F g c o i p :=
  h.other (E := fun _ => False) (Mv.of_fr hf) (fun _ h => h.elim) (fun _ h => .inl h) fun k hk => Nat.lt_of_lt_of_le (h.gl k hk) hf.size
theorem CnR.gt (h : CnR w G F g c o i p) : g < w.heap.size := h.fl g h.fg
theorem CnR.to (h : CnR w G F g c o i p) : CnTo w F w G g c := ⟨F, o, i, p, h, Stp.refl _ _⟩
theorem CnTo.pre {F0 : Nat → Prop} {w0 : World} (hs : Stp w0 F0 w F) (h : CnTo w F w' G g c) : CnTo w0 F0 w' G g c := by
  obtain ⟨F', o, i, p, h1, h2⟩ := h
  exact ⟨F', o, i, p, h1, hs.trans h2⟩
theorem CnR.l_src (h : CnR w G F g c o i p) {K : Int → Prop} (k : K c.src) : ld (.I .i64) w ⟨g, 0, none⟩ K := ldI0 (n := c.src) h.cells (h.preA (j := 0) rfl) k
theorem CnR.l_dst (h : CnR w G F g c o i p) {K : Int → Prop} (k : K c.dst) : ld (.I .i64) w ⟨g, 1, none⟩ K := ldI0 (n := c.dst) h.cells (h.preA (j := 1) rfl) k
theorem CnR.l_sport (h : CnR w G F g c o i p) {K : Int → Prop} (k : K c.sport) : ld (.I .i64) w ⟨g, 2, none⟩ K := ldI0 (n := c.sport) h.cells (h.preA (j := 2) rfl) k
theorem CnR.l_dport (h : CnR w G F g c o i p) {K : Int → Prop} (k : K c.dport) : ld (.I .i64) w ⟨g, 3, none⟩ K := ldI0 (n := c.dport) h.cells (h.preA (j := 3) rfl) k
theorem CnR.l_origin (h : CnR w G F g c o i p) {K : Int → Prop} (k : K c.origin) : ld (.I .i64) w ⟨g, 4, none⟩ K := ldI0 (n := c.origin) h.cells (h.preA (j := 4) rfl) k
theorem CnR.l_iss (h : CnR w G F g c o i p) {K : Int → Prop} (k : K c.iss) : ld (.I .u32) w ⟨g, 5, none⟩ K := ldI0 (n := c.iss) h.cells (h.preA (j := 5) rfl) k
theorem CnR.l_rcv (h : CnR w G F g c o i p) {K : Int → Prop} (k : K c.rcv) : ld (.I .u32) w ⟨g, 15, none⟩ K := ldI0 (n := c.rcv) h.cells (h.preA (j := 15) rfl) k
theorem CnR.l_inn (h : CnR w G F g c o i p) {K : Sl → Prop} (k : K i) : ld .L w ⟨g, 16, none⟩ K := ldL0 (s := i) h.cells (h.preA (j := 16) rfl) k
theorem CnR.l_state (h : CnR w G F g c o i p) {K : Int → Prop} (k : K c.state) : ld (.I .i64) w ⟨g, 2069, none⟩ K := ldI0 (n := c.state) h.cells (h.postA (j := 4) rfl) k
theorem CnR.l_pack (h : CnR w G F g c o i p) {K : Sl → Prop} (k : K p) : ld .L w ⟨g, 2073, none⟩ K := ldL0 (s := p) h.cells (h.postA (j := 8) rfl) k
end
end Go.Proofs.YtoglafmpllimgaaGreatDoor
namespace Go.Fl
open Go.RowKit
theorem ownT {w : World} {base : Nat} {e : TypeId} {sz : Nat} {s : Sl} {n : Nat} {xs : List Value} (h : w.ownsRow base e sz (.slice s.a s.n s.c) n xs) {ad : Addr} (ha : s.a = some ad) : ∃ cur, w.heap[ad.block]? = some (.cells cur e (0, 0)) := by
  rcases h.2 with ⟨hv, _⟩ | ⟨g, cap, cur, hv, _, hc, _⟩
  · injection hv with h1; rw [ha] at h1; cases h1
  · injection hv with h1; rw [ha] at h1; cases h1; exact ⟨cur, hc⟩
theorem own_ne {w : World} {base base' : Nat} {e e' : TypeId} {sz sz' : Nat} {s s' : Sl} {n n' : Nat} {xs xs' : List Value} (h : w.ownsRow base e sz (.slice s.a s.n s.c) n xs) (h' : w.ownsRow base' e' sz' (.slice s'.a s'.n s'.c) n' xs') (he : e ≠ e')
    {ad ad' : Addr} (ha : s.a = some ad) (ha' : s'.a = some ad') : ad.block ≠ ad'.block := by
  obtain ⟨c, hc⟩ := ownT h ha
  obtain ⟨c', hc'⟩ := ownT h' ha'
  intro e1
  rw [e1, hc'] at hc
  simp only [Option.some.injEq, Obj.cells.injEq] at hc
  exact he hc.2.1.symm
theorem own_neC {w : World} {base : Nat} {e t : TypeId} {sz : Nat} {s : Sl} {n g : Nat} {xs : List Value} {cs : Array Value} {f : Nat × Nat} (h : w.ownsRow base e sz (.slice s.a s.n s.c) n xs) (h' : w.heap[g]? = some (.cells cs t f)) (he : e ≠ t)
    {ad : Addr} (ha : s.a = some ad) : ad.block ≠ g := by
  obtain ⟨c, hc⟩ := ownT h ha
  intro e1
  rw [e1, h'] at hc
  simp only [Option.some.injEq, Obj.cells.injEq] at hc
  exact he hc.2.1.symm
theorem mv_own {w w' : World} {s : Sl} (hg : w.grownBy w' (Value.slice s.a s.n s.c).ownBlock) : Mv (fun q => ∃ ad, s.a = some ad ∧ ad.block = q) w w' := by
  refine ⟨hg.os, hg.tape, hg.output, hg.size, fun q hq hn => hg.block q hq fun e => ?_⟩
  cases hfa : s.a with
  | none => rw [hfa] at e; cases e
  | some ad => rw [hfa] at e; exact hn ⟨ad, hfa, (Option.some.inj e).symm⟩
end Go.Fl
namespace Go.Proofs.YtoglafmpllimgaaGreatDoor
open Go.RowKit Go.Fl

theorem slPk : SlT Tryz.prog t_s_api_Packet t_api_Packet 11 96 := SlT.mk' (z := .agg (pkL pk0 ⟨none, 0, 0⟩).toArray) (by kernel_rfl) (by kernel_rfl) rfl (by decide)
theorem packL_len (l : List Pk) (ss : List Sl) : (packL l ss).length = (List.zip l ss).length * 11 := flat_len (f := fun e : Pk × Sl => pkL e.1 e.2) (sz := 11) (fun _ => rfl) _
section
variable {w : World} {G F : Nat → Prop} {g : Nat} {c : Cn} {o i p : Sl}
theorem CnR.len (h : CnR w G F g c o i p) : p.n = c.pack.length := by
  obtain ⟨ss, hss⟩ := h.pack
  have h1 := hss.own.1
  rw [packL_len, List.length_zip, hss.n, Nat.min_self] at h1
  omega
theorem window_ok (h : CnR w G F g c o i p) (hi : c.inn.length ≤ 1024) : cl Tryz.prog n_tcp_Conn_window #[.pointer (some ⟨g, 0, none⟩)] (.I .i64) w fun (r : Int) w' => r = c.window ∧ w = w' := by
  refine tcp_Conn_window.cl ?_
  unfold tcp_Conn_window
  rw [nz, addOff, addOff]
  refine h.l_inn ⟨?_, rfl⟩
  have := h.inn.bs.len
  rw [i64w (by omega) (by omega), this]
  rfl
/-- One packet more is put out. -/
theorem pack_app (h : CnR w G F g c o i p) {q : Pk} {s x : Sl} (hx : Rd w x.a (pkL q s)) (hxn : x.n = 1) (hq : Cb w (Zn G F) s q.data) (hpl : c.pack.length ≤ 1000000) {K : World → Prop} (hk : ∀ w', CnTo w F w' G g { c with pack := c.pack ++ [q] } → K w') :
    app Tryz.prog t_s_api_Packet t_s_api_Packet p x w fun r w' => nz (some ⟨g, 0, none⟩) fun a => st1 w' (a.add 2073) (.slice r.a r.n r.c) K := by
  obtain ⟨ss, hss⟩ := h.pack
  have hpn := h.len
  refine app_own slPk (base := 0) hss.own hx (by rw [hxn]; rfl) (pkL_one q s) (by rw [hxn]; omega) (by rw [hxn]; omega) (Nat.zero_le _) fun r w2 hr ho hg hat => ?_
  have hl : (packL c.pack ss ++ pkL q s) = packL (c.pack ++ [q]) (ss ++ [s]) := by
    unfold packL
    rw [List.zip_append hss.n.symm, List.flatMap_append]
    simp
  rw [hl] at ho
  obtain ⟨E, hE⟩ : ∃ E : Nat → Prop, E = fun k => (Value.slice p.a p.n p.c).ownBlock = some k := ⟨_, rfl⟩
  have hm : Mv E w w2 := ⟨hg.os, hg.tape, hg.output, hg.size, fun k hk hn => hg.block k hk fun e => hn (by rw [hE]; exact e.symm)⟩
  have hEF : ∀ k, E k → F k ∧ k ≠ g := fun k hk => by
    rw [hE] at hk
    obtain ⟨ad, ha, rfl⟩ : ∃ ad, p.a = some ad ∧ ad.block = k := by
      rw [ownB_slice'] at hk
      cases hp : p.a with
      | none => rw [hp] at hk; cases hk
      | some ad => rw [hp] at hk; exact ⟨ad, rfl, Option.some.inj hk⟩
    exact h.packf ad ha
  have hEZ : ∀ k, E k → Zn G F k ∨ w.heap.size ≤ k := fun k hk => .inl (.inr (hEF k hk).1)
  -- the new row's block
  obtain ⟨F2, hF2⟩ : ∃ F2 : Nat → Prop, F2 = fun k => F k ∨ (Value.slice r.a r.n r.c).ownBlock = some k := ⟨_, rfl⟩
  have hF2sub : ∀ k, F2 k → F k ∨ w.heap.size ≤ k := fun k hk => by
    rw [hF2] at hk
    rcases hk with hk | hk
    · exact .inl hk
    · rcases hat with e | e
      · left
        exact (hEF k (by rw [hE]; exact e ▸ hk)).1
      · rw [e] at hk
        right
        have := Option.some.inj hk
        omega
  have hr_a : ∀ ad, r.a = some ad → F2 ad.block := fun ad ha => by
    rw [hF2, ownB_slice', ha]; exact .inr rfl
  have hZ2 : ∀ k, Zn G F2 k → Zn G F k ∨ w.heap.size ≤ k := fun k hk => by
    rcases hk with hk | hk
    · exact .inl (.inl hk)
    · exact (hF2sub k hk).imp .inr id
  have hgl := h.gt
  have hgn : ∀ ad, r.a = some ad → ad.block ≠ g := fun ad ha e => by
    have hb : (Value.slice r.a r.n r.c).ownBlock = some g := by rw [ownB_slice', ha, Option.map_some, e]
    rcases hat with e2 | e2
    · rw [e2] at hb
      exact (hEF g (by rw [hE]; exact hb)).2 rfl
    · rw [e2] at hb
      have := Option.some.inj hb
      omega
  have hlt2 : ∀ k, F2 k → k < w2.heap.size := fun k hk => by
    rw [hF2] at hk
    rcases hk with hk | hk
    · exact Nat.lt_of_lt_of_le (h.fl k hk) hm.size
    · exact (World.ownsRow.lt ho k hk).2
  have hall : ∀ e ∈ List.zip (c.pack ++ [q]) (ss ++ [s]), Cb w2 (Zn G F2) e.2 e.1.data := fun e he => by
    rw [List.zip_append hss.n.symm] at he
    rcases List.mem_append.1 he with he | he
    · exact (hss.all e he).mv hm hEZ hZ2
    · have : e = (q, s) := by simpa using he
      rw [this]
      exact hq.mv hm hEZ hZ2
  -- the endpoint, its packets aside
  have hz : ¬E g := fun he => (hEF g he).2 rfl
  rw [nz, addOff]
  refine st0 (hm.heap h.cells hz) (by rw [h.size]; decide) fun w3 hb3 hg3 hs3 => hk w3 ?_
  have hm3 : Mv (fun k => k = g) w2 w3 := Mv.of_grown hg3 rfl
  have hF2g : F2 g := by rw [hF2]; exact .inl h.fg
  have hE3 : ∀ k, k = g → Zn G F2 k ∨ w2.heap.size ≤ k := fun k hk => .inl (.inr (hk ▸ hF2g))
  refine ⟨F2, o, i, r, ⟨?_, h.e, h.h, (h.out.mv hm hEZ hZ2).mv hm3 hE3 fun _ h => .inl h, (h.inn.mv hm hEZ hZ2).mv hm3 hE3 fun _ h => .inl h, ⟨ss ++ [s], ?_, own_kp ho hm3.kp fun ad ha => hgn ad ha, fun e he => (hall e he).mv hm3 hE3 fun _ h => .inl h⟩, fun ad ha => ⟨hr_a ad ha, hgn ad ha⟩, hF2g, fun k hk => hs3 ▸ hlt2 k hk, fun k hk => hs3 ▸ Nat.lt_of_lt_of_le (h.gl k hk) hm.size, fun k hk hf => ?_⟩, ⟨?_, hF2sub⟩⟩
  · rw [hb3, h.postS (c' := { c with pack := c.pack ++ [q] }) (p' := r) (j := 8) rfl rfl rfl]
  · rw [List.length_append, List.length_append, hss.n]; rfl
  · rcases hF2sub k hf with h1 | h1
    · exact h.gf k hk h1
    · have := h.gl k hk; omega
  · exact (hm.mono fun k hk => .inl (hEF k hk).1 : Mv F w w2).trans hm3 fun k hk => .inl (hk ▸ h.fg)
theorem bit1n {f : Int} (h : 0 ≤ f ∧ f ≤ 15) {X Y : Prop} (ht : bitQ f 0 = true → X) (hf : bitQ f 0 = false → Y) : bif (bits .and .i64 f 1 != 0) then X else Y := by rw [bit1 h]; exact bB ht hf
theorem bit2n {f : Int} (h : 0 ≤ f ∧ f ≤ 15) {X Y : Prop} (ht : bitQ f 1 = true → X) (hf : bitQ f 1 = false → Y) : bif (bits .and .i64 f 2 != 0) then X else Y := by rw [bit2 h]; exact bB ht hf
theorem emit_ok {fl at_ : Int} {s : Sl} {d : List UInt8} (h : CnR w G F g c o i p) (hi : c.inn.length ≤ 1024) (hfl : 0 ≤ fl ∧ fl ≤ 15) (hs : Bs w s d) (hd : d.length ≤ 1048576) (hpl : c.pack.length ≤ 1000000) :
    cl Tryz.prog n_tcp_Conn_emit #[.pointer (some ⟨g, 0, none⟩), .int .i64 fl, .int .u32 at_, .slice s.a s.n s.c] (.tup .nil) w fun (_ : Unit) w' => CnTo w F w' G g (c.emit fl at_ d) := by
  refine tcp_Conn_emit.cl (p3 := s) ?_
  unfold tcp_Conn_emit
  have hZlt : ∀ {u : World}, w.heap.size ≤ u.heap.size → ∀ k, Zn G F k → k < u.heap.size := fun hu k hk => by
    rcases hk with hk | hk
    · exact Nat.lt_of_lt_of_le (h.gl k hk) hu
    · exact Nat.lt_of_lt_of_le (h.fl k hk) hu
  intro j4
  have J4 : ∀ (b : Nat) (x : Sl) (u : World), Fr w u → w.heap.size ≤ b → OwB u w.heap.size t_uint8 x d → PkB u b ⟨c.src, c.dst, c.sport, c.dport, at_, 0, fl, c.window, 0, 0, d⟩ x → j4 (some ⟨b, 0, none⟩) u := by
    intro b x u hu hb hx hbu
    unfold j4
    have hxC : ∀ {v : World}, Fr w v → OwB v w.heap.size t_uint8 x d → Cb v (Zn G F) x d := fun hv ho => Cb.own ho fun k hk => hZlt (Nat.le_refl _) k hk
    intro j6
    have J6 : ∀ (ak : Int) (v : World), Fr w v → OwB v w.heap.size t_uint8 x d → PkB v b ⟨c.src, c.dst, c.sport, c.dport, at_, ak, fl, c.window, 0, 0, d⟩ x → ak = (if bitQ fl 1 then c.rcv else 0) → j6 v := by
      intro ak v hv hxv hbv hak
      unfold j6
      intro j7
      have J7 : ∀ (og : Int) (u : World), Fr w u → OwB u w.heap.size t_uint8 x d → PkB u b ⟨c.src, c.dst, c.sport, c.dport, at_, ak, fl, c.window, 0, og, d⟩ x → og = (if bitQ fl 0 then c.origin else 0) → j7 u := by
        intro og u hu hxu hbu hog
        unfold j7
        intro n131
        have hu131 := hu.trans (Fr.drewN u n131)
        have hx131 := hxu.fr (Fr.drewN u n131)
        have hb131 := (Fr.drewN u n131).heap hbu
        generalize u.drewN n131 = v at *
        have h131 := h.fr hu131
        rw [nz, addOff]
        refine h131.l_pack ?_
        rw [nz]
        refine ldPk hb131 ?_
        refine nwI fun a136 w137 ha136 hs137 hf137 hb137 hr137 => ⟨hf137, ?_⟩
        have h137 := h131.fr hf137
        refine pack_app h137 (q := ⟨c.src, c.dst, c.sport, c.dport, at_, ak, fl, c.window, 0, og, d⟩) (s := x) hr137 rfl (hxC (hu131.trans hf137) (hx131.fr hf137)) hpl fun w' hto => ?_
        have := CnTo.pre (Stp.of_fr (hu131.trans hf137)) hto
        unfold Cn.emit
        rw [← hak, ← hog]
        exact this
      clear_value j7
      refine bit1n hfl ?_ ?_ <;> intro hbit
      · rw [nz, addOff]
        refine (h.fr hv).l_origin ?_
        rw [nz, addOff]
        refine stOrigin hbv fun w' hb' hg' => ?_
        have hm : Mv (fun k => k = b) v w' := Mv.of_grown hg' rfl
        refine J7 c.origin w' (Mv.on (F := fun k => k = b) hv hm fun j hj => by omega) (hxv.mv hm fun ad ha e => ?_) hb' (by rw [hbit]; rfl)
        exact own_neC hxv hbv (by decide) ha e
      · exact J7 0 v hv hxv hbv (by rw [hbit]; rfl)
    clear_value j6
    refine bit2n hfl ?_ ?_ <;> intro hbit
    · rw [nz, addOff, addOff]
      refine (h.fr hu).l_rcv ?_
      rw [nz, addOff]
      refine st0 hbu (by show 5 < 11; decide) fun w' hb' hg' hs' => ?_
      have hm : Mv (fun k => k = b) u w' := Mv.of_grown hg' rfl
      refine J6 c.rcv w' (Mv.on (F := fun k => k = b) hu hm fun j hj => by omega) (hx.mv hm fun ad ha e => ?_) hb' (by rw [hbit]; rfl)
      exact own_neC hx hbu (by decide) ha e
    · exact J6 0 u hu hx hbu (by rw [hbit]; rfl)
  clear_value j4
  intro n1
  have f1 := Fr.drewN w n1
  have h1 := h.fr f1
  have hs1 := hs.fr f1
  generalize w.drewN n1 = w1 at *
  rw [nz]
  refine h1.l_src ?_
  rw [nz, addOff]
  refine h1.l_dst ?_
  rw [nz, addOff]
  refine h1.l_sport ?_
  rw [nz, addOff]
  refine h1.l_dport ?_
  have hz1 := f1.size
  have fin : ∀ (b : Nat) (x : Sl) (u : World), Fr w1 u → w1.heap.size ≤ b → OwB u w1.heap.size t_uint8 x d → PkB u b pk0 ⟨none, 0, 0⟩ → st u ⟨b, 0, none⟩ (Kd.av k_api_Packet (pkT ⟨c.src, c.dst, c.sport, c.dport, at_, 0, fl, c.window, 0, 0, d⟩ x)) fun w16 => j4 (some ⟨b, 0, none⟩) w16 := by
    intro b x u hu hb hx hbu
    refine stPk _ x hbu fun u' hb' hg' hs' => ?_
    have hm : Mv (fun k => k = b) u u' := Mv.of_grown hg' rfl
    exact J4 b x u' (f1.trans (Mv.on (F := fun k => k = b) hu hm fun j hj => by omega)) (by omega) ((hx.mv hm fun ad ha e => own_neC hx hbu (by decide) ha e).mono hz1) hb'
  refine ⟨?_, ?_⟩
  · refine (window_ok h1 hi).mono ?_
    rintro _ _ ⟨rfl, rfl⟩
    refine ⟨Fr.refl _, ?_, ?_⟩
    · refine (Clone_byte_ok hs1 (by omega)).mono ?_
      rintro x12 w13 ⟨ho, hf13⟩
      refine ⟨hf13, ?_⟩
      refine newPk pk0 ⟨none, 0, 0⟩ fun b w15 hb hf15 hbb => ⟨hf15, ?_⟩
      exact fin b x12 w15 (hf13.trans hf15) (by have := hf13.size; omega) (ho.fr hf15) hbb
    · refine newPk pk0 ⟨none, 0, 0⟩ fun b w18 hb hf18 hbb => ⟨hf18, ?_⟩
      refine (Clone_byte_ok (hs1.fr hf18) (by omega)).mono ?_
      rintro x19 w20 ⟨ho, hf20⟩
      exact ⟨hf20, fin b x19 w20 (hf18.trans hf20) (by omega) (ho.mono hf18.size) (hf20.heap hbb)⟩
  · refine newPk pk0 ⟨none, 0, 0⟩ fun b w23 hb hf23 hbb => ⟨hf23, ?_⟩
    refine (window_ok (h1.fr hf23) hi).mono ?_
    rintro _ _ ⟨rfl, rfl⟩
    refine ⟨Fr.refl _, ?_⟩
    refine (Clone_byte_ok (hs1.fr hf23) (by omega)).mono ?_
    rintro x26 w27 ⟨ho, hf27⟩
    exact ⟨hf27, fin b x26 w27 (hf23.trans hf27) (by omega) (ho.mono hf23.size) (hf27.heap hbb)⟩
end
end Go.Proofs.YtoglafmpllimgaaGreatDoor
namespace Go.Proofs.YtoglafmpllimgaaGreatDoor
open Go.RowKit Go.Fl

section
variable {w : World} {G F : Nat → Prop} {g : Nat} {c : Cn} {o i p : Sl}
theorem syn_ok (h : CnR w G F g c o i p) (hi : c.inn.length ≤ 1024) (hpl : c.pack.length ≤ 1000000) : cl Tryz.prog n_tcp_Conn_syn #[.pointer (some ⟨g, 0, none⟩)] (.tup .nil) w fun (_ : Unit) w' => CnTo w F w' G g c.syn := by
  refine tcp_Conn_syn.cl ?_
  unfold tcp_Conn_syn
  rw [nz, addOff]
  refine h.l_state ?_
  refine bE ?_ ?_ <;> intro hs
  · rw [nz, addOff]
    refine h.l_iss ?_
    refine (emit_ok (s := ⟨none, 0, 0⟩) (d := []) h hi (by decide) (Bs.nil _ _) (by decide) hpl).mono fun _ _ h => ?_
    unfold Cn.syn
    rw [if_pos hs]
    exact h
  · rw [nz, addOff]
    refine h.l_iss ?_
    refine (emit_ok (s := ⟨none, 0, 0⟩) (d := []) h hi (by decide) (Bs.nil _ _) (by decide) hpl).mono fun _ _ h => ?_
    unfold Cn.syn
    rw [if_neg hs]
    exact h
end
end Go.Proofs.YtoglafmpllimgaaGreatDoor
namespace Go.Proofs.YtoglafmpllimgaaGreatDoor
open Go.RowKit Go.Fl

section
variable {w : World} {G : Nat → Prop}
/-- An endpoint that is new. -/
theorem CnR.new {w' : World} {b : Nat} {c : Cn} (hb : w'.heap[b]? = some (.cells (cnL c ⟨none, 0, 0⟩ ⟨none, 0, 0⟩ ⟨none, 0, 0⟩).toArray t_tcp_Conn (0, 0))) (he : c.early.length = 1024) (hh : c.have_.length = 1024) (ho : c.out = []) (hi : c.inn = []) (hp : c.pack = []) (hG : ∀ k, G k → k < b) :
    CnR w' G (fun k => k = b) b c ⟨none, 0, 0⟩ ⟨none, 0, 0⟩ ⟨none, 0, 0⟩ := by
  have hlt : b < w'.heap.size := (Array.getElem?_eq_some_iff.1 hb).1
  refine ⟨hb, he, hh, ho ▸ Cb.nil _ _ 0, hi ▸ Cb.nil _ _ 0, ⟨[], ?_⟩, fun ad ha => (by cases ha), rfl, fun k (hk : k = b) => hk ▸ hlt, fun k hk => Nat.lt_trans (hG k hk) hlt, fun k hk (e : k = b) => by have := hG k hk; omega⟩
  rw [hp]
  exact ⟨rfl, ⟨rfl, .inl ⟨rfl, rfl⟩⟩, fun e he => by cases he⟩
end
end Go.Proofs.YtoglafmpllimgaaGreatDoor
namespace Go.Proofs.YtoglafmpllimgaaGreatDoor
open Go.RowKit Go.Fl

section
variable {w : World}
theorem getP_len {b : List UInt8} {p : Pk} (h : getP b = some p) : p.data.length ≤ b.length := by
  unfold getP at h
  split at h
  · rw [← Option.some.inj h]
    show (b.drop _).length ≤ _
    rw [List.length_drop]
    omega
  · cases h
def ProbedK (w : World) (base : Nat) (r : Sl × Int × Unit) (n : Int) : Option Pk → Prop
  | none => r.1 = ⟨none, 0, 0⟩ ∧ r.2.1 ≠ 0
  | some p => OwB w base t_uint8 r.1 (putP { p with probe := n }).1 ∧ r.2 = ((putP { p with probe := n }).2, ())
theorem probed_ok {x : Sl} {b : List UInt8} {n : Int} (hx : Bs w x b) (hl : b.length ≤ 1048576) : cl Tryz.prog n_packet_Probed #[.slice x.a x.n x.c, .int .i64 n] (.tup (.pair .L (.pair (.I .i64) .nil))) w fun (r : Sl × Int × Unit) w' => ProbedK w' w.heap.size r n (getP b) ∧ Fr w w' := by
  refine packet_Probed.cl (p0 := x) ?_
  unfold packet_Probed
  refine (pGet_ok hx (by omega)).mono ?_
  rintro ⟨x1, x2, ⟨⟩⟩ w2 ⟨hg, f2⟩
  refine newPk pk0 ⟨none, 0, 0⟩ fun a3 w4 ha3 f4 hb4 => ?_
  have z2 := f2.size
  have z4 := f4.size
  cases hp : getP b with
  | none =>
    rw [hp] at hg
    obtain ⟨h1, h2⟩ := hg
    dsimp only at h1 h2
    subst h1
    refine stPk pk0 ⟨none, 0, 0⟩ hb4 fun w5 hb5 hg5 hs5 => ?_
    refine bT (bne_iff_ne.2 h2) ?_
    exact ⟨⟨rfl, h2⟩, Mv.on (F := fun k => k = a3) (f2.trans f4) (Mv.of_grown hg5 rfl) fun j hj => by omega⟩
  | some q =>
    rw [hp] at hg
    obtain ⟨s, h1, ho⟩ := hg
    cases h1
    refine stPk q s hb4 fun w5 hb5 hg5 hs5 => ?_
    refine bF rfl ?_
    rw [addOff]
    refine stProbe hb5 fun w6 hb6 hg6 => ?_
    have m5 : Mv (fun k => k = a3) w4 w5 := Mv.of_grown hg5 rfl
    have m6 : Mv (fun k => k = a3) w5 w6 := Mv.of_grown hg6 rfl
    have f6 : Fr w w6 := Mv.on (F := fun k => k = a3) (Mv.on (F := fun k => k = a3) (f2.trans f4) m5 fun j hj => by omega) m6 fun j hj => by omega
    have ho6 : OwB w6 w.heap.size t_uint8 s q.data := ((ho.fr f4).mv m5 fun ad ha e => own_neC (ho.fr f4) hb4 (by decide) ha e).mv m6 fun ad ha e => own_neC ((ho.fr f4).mv m5 fun ad ha e => own_neC (ho.fr f4) hb4 (by decide) ha e) hb5 (by decide) ha e
    refine ldPk hb6 ?_
    refine (pPut_ok (p := { q with probe := n }) ho6.bs (by have := getP_len hp; show q.data.length ≤ _; omega)).mono ?_
    rintro ⟨r1, r2, ⟨⟩⟩ w9 ⟨h1, h2, f9⟩
    have z6 := f6.size
    exact ⟨⟨h1.mono z6, h2⟩, f6.trans f9⟩
end
end Go.Proofs.YtoglafmpllimgaaGreatDoor
namespace Go.Fl
def blen (n : Nat) : Nat := if n = 0 then 0 else n.log2 + 1
theorem blen_shift {n k : Nat} (h : 2 ^ k ≤ n) : blen n = blen (n / 2 ^ k) + k := by
  have hk : 0 < 2 ^ k := Nat.two_pow_pos k
  have h0 : n ≠ 0 := by omega
  have h1 : n / 2 ^ k ≠ 0 := Nat.pos_iff_ne_zero.1 (Nat.div_pos h hk)
  have h2 : n.log2 = (n / 2 ^ k).log2 + k := by
    rw [Nat.log2_eq_iff h0]
    obtain ⟨a, b⟩ := (Nat.log2_eq_iff h1).1 rfl
    generalize (n / 2 ^ k).log2 = m at *
    refine ⟨?_, ?_⟩
    · rw [Nat.pow_add]
      exact (Nat.le_div_iff_mul_le hk).1 a
    · rw [show m + k + 1 = (m + 1) + k from by omega, Nat.pow_add]
      exact (Nat.div_lt_iff_lt_mul hk).1 b
  unfold blen
  rw [if_neg h0, if_neg h1, h2]
  omega
theorem blen_le {n k : Nat} : blen n ≤ k ↔ n < 2 ^ k := by
  unfold blen
  split
  · rename_i h; rw [h]; exact ⟨fun _ => Nat.two_pow_pos k, fun _ => Nat.zero_le _⟩
  · rename_i h; exact ⟨fun h1 => (Nat.log2_lt h).1 h1, fun h1 => (Nat.log2_lt h).2 h1⟩
theorem blen_zero {n : Nat} : blen n = 0 ↔ n = 0 := by
  unfold blen
  split <;> omega
theorem blen_low {n : Nat} (h : n ≠ 0) : 2 ^ (blen n - 1) ≤ n := by
  have hb : blen n ≠ 0 := fun e => h (blen_zero.1 e)
  apply Nat.le_of_not_lt
  intro hl
  have := blen_le.2 hl
  omega
theorem blen_high (n : Nat) : n < 2 ^ blen n := blen_le.1 (Nat.le_refl _)
theorem bit_top {a n : Nat} (h : 2 ^ n ≤ a) (h' : a < 2 ^ (n + 1)) : a.testBit n = true := by
  have hp := Nat.two_pow_pos n
  rw [Nat.pow_succ] at h'
  have : a / 2 ^ n = 1 := Nat.div_eq_of_lt_le (by omega) (by omega)
  rw [Nat.testBit_eq_decide_div_mod_eq, this]
  rfl
theorem xor_top {a b n : Nat} (ha : 2 ^ n ≤ a) (ha' : a < 2 ^ (n + 1)) (hb : 2 ^ n ≤ b) (hb' : b < 2 ^ (n + 1)) : a ^^^ b < 2 ^ n := by
  apply Nat.lt_pow_two_of_testBit
  intro i hi
  rw [Nat.testBit_xor]
  rcases Nat.lt_or_ge n i with h | h
  · have hp : 2 ^ (n + 1) ≤ 2 ^ i := Nat.pow_le_pow_right (by decide) h
    rw [Nat.testBit_lt_two_pow (Nat.lt_of_lt_of_le ha' hp), Nat.testBit_lt_two_pow (Nat.lt_of_lt_of_le hb' hp)]
    rfl
  · have : i = n := by omega
    subst this
    rw [bit_top ha ha', bit_top hb hb']
    rfl
theorem pshift_low {a p : Nat} (hp : p ≠ 0) (h : blen p ≤ blen a) : 2 ^ (blen a - 1) ≤ p * 2 ^ (blen a - blen p) := by
  have hb : blen p ≠ 0 := fun e => hp (blen_zero.1 e)
  have h1 := blen_low hp
  have h2 : blen a - 1 = (blen p - 1) + (blen a - blen p) := by omega
  rw [h2, Nat.pow_add]
  exact Nat.mul_le_mul_right _ h1
theorem pshift_high {a p : Nat} (h : blen p ≤ blen a) : p * 2 ^ (blen a - blen p) < 2 ^ blen a := by
  have h1 := blen_high p
  have h2 : blen a = blen p + (blen a - blen p) := by omega
  conv => rhs; rw [h2, Nat.pow_add]
  exact Nat.mul_lt_mul_of_pos_right h1 (Nat.two_pow_pos _)
/-- A step of a division. -/
def pstep (a p : Nat) : Nat := a ^^^ (p * 2 ^ (blen a - blen p))
theorem pstep_lt {a p : Nat} (hp : p ≠ 0) (h : blen p ≤ blen a) : blen (pstep a p) < blen a := by
  have hb : blen p ≠ 0 := fun e => hp (blen_zero.1 e)
  have ha : a ≠ 0 := fun e => by rw [e] at h; have : blen 0 = 0 := rfl; omega
  have e : blen a - 1 + 1 = blen a := by omega
  have := xor_top (n := blen a - 1) (blen_low ha) (by rw [e]; exact blen_high a) (pshift_low hp h) (by rw [e]; exact pshift_high h)
  have := blen_le.2 this
  unfold pstep
  omega
def pmodF : Nat → Nat → Nat → Nat
  | 0, a, _ => a
  | f + 1, a, p => if blen a < blen p then a else pmodF f (pstep a p) p
/-- What is left of a polynomial by another one. -/
def pmod (a p : Nat) : Nat := if p = 0 then a else pmodF 65 a p
theorem pmodF_lt {p : Nat} (hp : p ≠ 0) : ∀ {f a : Nat}, blen a < f → blen (pmodF f a p) < blen p
  | 0, _, h => by omega
  | f + 1, a, h => by
    unfold pmodF
    split
    · assumption
    · exact pmodF_lt hp (by have := pstep_lt (a := a) hp (by omega); omega)
theorem pmod_lt {a p : Nat} (hp : p ≠ 0) (ha : a < 2 ^ 64) : blen (pmod a p) < blen p := by
  rw [pmod, if_neg hp]
  exact pmodF_lt hp (by have := blen_le.2 ha; omega)
def pmulF : Nat → Nat → Nat → Nat → Nat → Nat
  | 0, _, _, _, out => out
  | f + 1, a, b, p, out => if b = 0 then out else pmulF f (pmod (a * 2 % 2 ^ 64) p) (b / 2) p (out ^^^ (a * (b % 2)))
/-- The product of two by a third one. -/
def pmul (a b p : Nat) : Nat := if p = 0 ∨ 63 < blen p then 0 else pmod (pmulF 65 (pmod a p) b p 0) p
def pgcdF : Nat → Nat → Nat → Nat
  | 0, a, _ => a
  | f + 1, a, b => if b = 0 then a else pgcdF f b (pmod a b)
def pgcd (a b : Nat) : Nat := pgcdF 66 a b
def primeF : Nat → Nat → Nat → Bool
  | 0, _, _ => true
  | k + 1, x, p => if 1 < blen (pgcd p (pmul x x p ^^^ pmod 2 p)) then false else primeF k (pmul x x p) p
def prime (p : Nat) : Bool := if blen p < 2 ∨ 32 < blen p then false else primeF ((blen p - 1) / 2) (pmod 2 p) p
theorem pmod_u64 {a p : Nat} (ha : a < 2 ^ 64) (hp : p < 2 ^ 64) : pmod a p < 2 ^ 64 := by
  by_cases h : p = 0
  · rw [pmod, if_pos h]; exact ha
  · have h1 := pmod_lt h ha
    have h2 := blen_le.2 hp
    exact blen_le.1 (by omega)
theorem ofInt64 (a : Nat) (ha : a < 2 ^ 64) : (BitVec.ofInt 64 (a : Int)).toNat = a := by
  rw [BitVec.ofInt_natCast, BitVec.toNat_ofNat]; exact Nat.mod_eq_of_lt ha
theorem rab_xor (a b : Nat) (ha : a < 2 ^ 64) (hb : b < 2 ^ 64) : bits .xor .u64 (a : Int) (b : Int) = ((a ^^^ b : Nat) : Int) := by
  have hx : a ^^^ b < 2 ^ 64 := Nat.xor_lt_two_pow ha hb
  show IntKind.u64.wrap ((BitVec.ofInt 64 (a : Int) ^^^ BitVec.ofInt 64 (b : Int)).toNat : Int) = _
  rw [BitVec.toNat_xor, ofInt64 a ha, ofInt64 b hb, u64w (by omega) (by omega)]
theorem rab_and (a b : Nat) (ha : a < 2 ^ 64) (hb : b < 2 ^ 64) : bits .and .u64 (a : Int) (b : Int) = ((a &&& b : Nat) : Int) := by
  have hx : a &&& b < 2 ^ 64 := Nat.and_lt_two_pow a hb
  show IntKind.u64.wrap ((BitVec.ofInt 64 (a : Int) &&& BitVec.ofInt 64 (b : Int)).toNat : Int) = _
  rw [BitVec.toNat_and, ofInt64 a ha, ofInt64 b hb, u64w (by omega) (by omega)]
theorem prime_given : prime 0x80000009 = true := by decide +kernel
end Go.Fl
namespace Go.Proofs.YtoglafmpllimgaaGreatDoor
open Go.RowKit Go.Fl

theorem tab0 {m : Nat} (hm : m < 256) : IntKind.u8.wrap (m : Int) = (m : Int) := by rw [u8w]; omega
theorem tab1 {T : ByteArray} {m : Nat} (hz : T.size = 256) (hm : m < 256) : IntKind.u8.wrap (m : Int) < (T.size : Int) := by rw [tab0 hm, hz]; omega
theorem tabV {T : ByteArray} {m s : Nat} (hT : ∀ m, m < 256 → (T.data.toList.getD m 0).toNat = blen m) (hm : m < 256) (hs : s ≤ 64) :
    IntKind.i64.wrap ((s : Int) + IntKind.i64.wrap (((T.data.toList.getD (Int.toNat (IntKind.u8.wrap (m : Int))) 0).toNat : Int))) = ((s + blen m : Nat) : Int) := by
  have hb := (T.data.toList.getD m 0).toNat_lt
  have ht := hT m hm
  rw [tab0 hm, Int.toNat_natCast, ht]
  rw [ht] at hb
  rw [i64w (n := ((blen m : Nat) : Int)) (by omega) (by omega), i64w (by omega) (by omega), Int.natCast_add]
section
variable {w : World}
theorem len64_ok {n : Nat} (hn : n < 18446744073709551616) : cl Tryz.prog n_math_bits_Len64 #[.int .u64 (n : Int)] (.I .i64) w fun (r : Int) w' => r = ((blen n : Nat) : Int) ∧ w = w' := by
  refine math_bits_Len64.cl ?_
  unfold math_bits_Len64
  intro j4
  have J4 : ∀ m s : Nat, m < 4294967296 → blen m + s = blen n → s ≤ 32 → j4 (m : Int) (s : Int) w := by
    intro m s hm hb hs
    unfold j4
    intro j6
    have J6 : ∀ m s : Nat, m < 65536 → blen m + s = blen n → s ≤ 48 → j6 (m : Int) (s : Int) w := by
      intro m s hm hb hs
      unfold j6
      intro j7
      have J7 : ∀ m s : Nat, m < 256 → blen m + s = blen n → s ≤ 56 → j7 (m : Int) (s : Int) w := by
        intro m s hm hb hs
        unfold j7
        refine ⟨by rw [tab0 hm]; omega, tab1 ?_ hm, (tabV ?_ hm ?_).trans ?_, rfl⟩
        · decide +kernel
        · decide +kernel
        · omega
        · rw [← hb, Nat.add_comm]
      clear_value j7
      refine bB ?_ ?_ <;> intro hq
      · have hq := of_decide_eq_true hq
        rw [i64w (by omega) (by omega)]
        have e : (m : Int) / 2 ^ (min 8 64) = ((m / 2 ^ 8 : Nat) : Int) := by norm_cast
        rw [e]
        refine J7 (m / 2 ^ 8) (s + 8) (by omega) ?_ (by omega)
        rw [← hb, blen_shift (n := m) (k := 8) (by omega)]
        omega
      · have hq := of_decide_eq_false hq
        exact J7 m s (by omega) hb (by omega)
    clear_value j6
    refine bB ?_ ?_ <;> intro hq
    · have hq := of_decide_eq_true hq
      rw [i64w (by omega) (by omega)]
      have e : (m : Int) / 2 ^ (min 16 64) = ((m / 2 ^ 16 : Nat) : Int) := by norm_cast
      rw [e]
      refine J6 (m / 2 ^ 16) (s + 16) (by omega) ?_ (by omega)
      rw [← hb, blen_shift (n := m) (k := 16) (by omega)]
      omega
    · have hq := of_decide_eq_false hq
      exact J6 m s (by omega) hb (by omega)
  clear_value j4
  refine bB ?_ ?_ <;> intro hq
  · have hq := of_decide_eq_true hq
    have e : (n : Int) / 2 ^ (min 32 64) = ((n / 2 ^ 32 : Nat) : Int) := by norm_cast
    rw [e]
    refine J4 (n / 2 ^ 32) 32 (by omega) ?_ (by omega)
    rw [blen_shift (n := n) (k := 32) (by omega)]
  · have hq := of_decide_eq_false hq
    exact J4 n 0 (by omega) rfl (by omega)
end
end Go.Proofs.YtoglafmpllimgaaGreatDoor
namespace Go.Proofs.YtoglafmpllimgaaGreatDoor
open Go.RowKit Go.Fl

section
variable {w : World}
theorem deg_ok {n : Nat} (hn : n < 2 ^ 64) : cl Tryz.prog n_rabin_Deg #[.int .u64 (n : Int)] (.I .i64) w fun (r : Int) w' => r = (blen n : Int) - 1 ∧ w = w' := by
  refine rabin_Deg.cl ?_
  unfold rabin_Deg
  refine (len64_ok (by omega)).mono ?_
  rintro _ _ ⟨rfl, rfl⟩
  have := blen_le.2 hn
  exact ⟨i64w (by omega) (by omega), rfl⟩
theorem natEq0 {n : Nat} : ((n : Int) == 0) = decide (n = 0) := by
  rw [Bool.eq_iff_iff, beq_iff_eq, decide_eq_true_iff]; omega
theorem mod_ok {a p : Nat} (ha : a < 2 ^ 64) (hp : p < 2 ^ 64) : cl Tryz.prog n_rabin_Mod #[.int .u64 (a : Int), .int .u64 (p : Int)] (.I .u64) w fun (r : Int) w' => r = ((pmod a p : Nat) : Int) ∧ w = w' := by
  refine rabin_Mod.cl ?_
  unfold rabin_Mod
  rw [natEq0]
  refine bD ?_ ?_ <;> intro h0
  · exact ⟨by rw [pmod, if_pos h0], rfl⟩
  refine (deg_ok hp).mono ?_
  rintro _ _ ⟨rfl, rfl⟩
  have hbp := blen_le.2 hp
  refine lpI (fun (s : Int × Unit) v => ∃ f a' : Nat, s.1 = (a' : Int) ∧ a' < 2 ^ 64 ∧ blen a' < f ∧ pmodF f a' p = pmod a p ∧ w = v) (fun s _ => blen s.1.toNat) ⟨65, a, rfl, ha, by have := blen_le.2 ha; omega, by rw [pmod, if_neg h0], rfl⟩ ?_
  rintro D ⟨_, ⟨⟩⟩ _ ⟨f, a', rfl, ha', hf, hR, rfl⟩
  dsimp -zeta only
  have hba := blen_le.2 ha'
  refine (deg_ok ha').mono ?_
  rintro _ _ ⟨rfl, rfl⟩
  cases f with
  | zero => omega
  | succ f =>
    refine bD ?_ ?_ <;> intro h1
    · have hle : blen p ≤ blen a' := by omega
      have hlt := pstep_lt h0 hle
      refine (deg_ok ha').mono ?_
      rintro _ _ ⟨rfl, rfl⟩
      have e1 : IntKind.i64.wrap ((blen a' : Int) - 1 - ((blen p : Int) - 1)) = ((blen a' - blen p : Nat) : Int) := by rw [i64w (by omega) (by omega)]; omega
      rw [e1]
      refine bT (decide_eq_true (by omega)) ?_
      rw [Int.toNat_natCast, Nat.min_eq_left (by omega)]
      have hs := pshift_high (a := a') (p := p) hle
      have hs2 : p * 2 ^ (blen a' - blen p) < 2 ^ 64 := Nat.lt_of_lt_of_le hs (Nat.pow_le_pow_right (by decide) hba)
      have e2 : (p : Int) * 2 ^ (blen a' - blen p) = ((p * 2 ^ (blen a' - blen p) : Nat) : Int) := by push_cast; rfl
      rw [e2, u64w (by omega) (by omega), rab_xor _ _ ha' hs2]
      refine ⟨⟨f, pstep a' p, rfl, blen_le.1 (by omega), by omega, ?_, rfl⟩, ?_⟩
      · rw [← hR]
        conv => rhs; rw [pmodF, if_neg (by omega)]
      · show blen (Int.toNat ((_ : Nat) : Int)) < blen (Int.toNat ((a' : Nat) : Int))
        rw [Int.toNat_natCast, Int.toNat_natCast]
        exact hlt
    · refine ⟨?_, rfl⟩
      rw [← hR, pmodF, if_pos (by omega)]
theorem mul_ok {a b p : Nat} (ha : a < 2 ^ 64) (hb : b < 2 ^ 64) (hp : p < 2 ^ 64) : cl Tryz.prog n_rabin_Mul #[.int .u64 (a : Int), .int .u64 (b : Int), .int .u64 (p : Int)] (.I .u64) w fun (r : Int) w' => r = ((pmul a b p : Nat) : Int) ∧ w = w' := by
  refine rabin_Mul.cl ?_
  unfold rabin_Mul
  rw [natEq0]
  refine bD ?_ ?_ <;> intro h0
  · exact ⟨by rw [pmul, if_pos (.inl h0)]; rfl, rfl⟩
  refine (deg_ok hp).mono ?_
  rintro _ _ ⟨rfl, rfl⟩
  refine bD ?_ ?_ <;> intro h1
  · exact ⟨by rw [pmul, if_pos (.inr (by omega))]; rfl, rfl⟩
  refine (mod_ok ha hp).mono ?_
  rintro _ _ ⟨rfl, rfl⟩
  have e0 : pmul a b p = pmod (pmulF 65 (pmod a p) b p 0) p := by rw [pmul, if_neg (by omega)]
  refine lpI (fun (s : Int × Int × Int × Unit) v => ∃ f a' b' o : Nat, s.1 = (a' : Int) ∧ s.2.1 = (b' : Int) ∧ s.2.2.1 = (o : Int) ∧ a' < 2 ^ 64 ∧ b' < 2 ^ 64 ∧ o < 2 ^ 64 ∧ blen b' < f ∧ pmulF f a' b' p o = pmulF 65 (pmod a p) b p 0 ∧ w = v) (fun s _ => s.2.1.toNat)
    ⟨65, pmod a p, b, 0, rfl, rfl, rfl, pmod_u64 ha hp, hb, by decide, by have := blen_le.2 hb; omega, rfl, rfl⟩ ?_
  rintro D ⟨_, _, _, ⟨⟩⟩ _ ⟨f, a', b', o, rfl, rfl, rfl, ha', hb', ho, hf, hR, rfl⟩
  dsimp -zeta only
  cases f with
  | zero => omega
  | succ f =>
    refine bD ?_ ?_ <;> intro h2
    · have e1 : (a' : Int) * 2 ^ (min 1 64) = ((a' * 2 : Nat) : Int) := by push_cast; rfl
      have e2 : IntKind.u64.wrap ((a' * 2 : Nat) : Int) = ((a' * 2 % 2 ^ 64 : Nat) : Int) := by
        simp only [IntKind.wrap, IntKind.bits, IntKind.signed]; simp
      rw [e1, e2]
      refine (mod_ok (Nat.mod_lt _ (by decide)) hp).mono ?_
      rintro _ _ ⟨rfl, rfl⟩
      have e3 : bits .and .u64 (b' : Int) 1 = ((b' % 2 : Nat) : Int) := by
        have := rab_and b' 1 hb' (by decide)
        rw [show ((1 : Nat) : Int) = 1 from rfl] at this
        rw [this, Nat.and_one_is_mod]
      have hm : a' * (b' % 2) < 2 ^ 64 := by
        rcases Nat.mod_two_eq_zero_or_one b' with h | h <;> rw [h] <;> omega
      have e4 : IntKind.u64.wrap ((a' : Int) * ((b' % 2 : Nat) : Int)) = ((a' * (b' % 2) : Nat) : Int) := by
        rw [← Int.natCast_mul, u64w (by omega) (by omega)]
      rw [e3, e4, rab_xor _ _ ho hm]
      have e5 : (b' : Int) / 2 ^ (min 1 64) = ((b' / 2 : Nat) : Int) := by norm_cast
      rw [e5]
      refine ⟨⟨f, pmod (a' * 2 % 2 ^ 64) p, b' / 2, o ^^^ (a' * (b' % 2)), rfl, rfl, rfl, pmod_u64 (Nat.mod_lt _ (by decide)) hp, by omega, Nat.xor_lt_two_pow ho hm, ?_, ?_, rfl⟩, by simp; omega⟩
      · have hb0 : b' ≠ 0 := by omega
        by_cases h : b' = 1
        · subst h
          have : blen 1 = 1 := by decide +kernel
          have : blen (1 / 2) = 0 := by decide +kernel
          omega
        · have := blen_shift (n := b') (k := 1) (by omega)
          rw [show 2 ^ 1 = 2 from rfl] at this
          omega
      · rw [← hR]
        conv => rhs; rw [pmulF, if_neg (by omega)]
    · refine (mod_ok ho hp).mono ?_
      rintro _ _ ⟨rfl, rfl⟩
      refine ⟨?_, rfl⟩
      rw [e0, ← hR, pmulF, if_pos (by omega)]
theorem gcd_ok {a b : Nat} (ha : a < 2 ^ 64) (hb : b < 2 ^ 64) : cl Tryz.prog n_rabin_Gcd #[.int .u64 (a : Int), .int .u64 (b : Int)] (.I .u64) w fun (r : Int) w' => r = ((pgcd a b : Nat) : Int) ∧ pgcd a b < 2 ^ 64 ∧ w = w' := by
  refine rabin_Gcd.cl ?_
  unfold rabin_Gcd
  refine lpI (fun (s : Int × Int × Unit) v => ∃ f a' b' : Nat, s.1 = (a' : Int) ∧ s.2.1 = (b' : Int) ∧ a' < 2 ^ 64 ∧ b' < 2 ^ 64 ∧ blen b' < f ∧ pgcdF f a' b' = pgcd a b ∧ w = v) (fun s _ => blen s.2.1.toNat)
    ⟨66, a, b, rfl, rfl, ha, hb, by have := blen_le.2 hb; omega, rfl, rfl⟩ ?_
  rintro D ⟨_, _, ⟨⟩⟩ _ ⟨f, a', b', rfl, rfl, ha', hb', hf, hR, rfl⟩
  dsimp -zeta only
  cases f with
  | zero => omega
  | succ f =>
    rw [show ((b' : Int) != 0) = decide (b' ≠ 0) from by rw [bne, natEq0]; simp]
    refine bD ?_ ?_ <;> intro h0
    · refine (mod_ok ha' hb').mono ?_
      rintro _ _ ⟨rfl, rfl⟩
      have := pmod_lt h0 ha'
      refine ⟨⟨f, b', pmod a' b', rfl, rfl, hb', pmod_u64 ha' hb', by omega, ?_, rfl⟩, by simpa using this⟩
      rw [← hR]
      conv => rhs; rw [pgcdF, if_neg h0]
    · have h0 : b' = 0 := by omega
      have e : pgcd a b = a' := by rw [← hR, pgcdF, if_pos h0]
      exact ⟨by rw [e], by rw [e]; exact ha', rfl⟩
theorem pmul_u64 {a b p : Nat} (hp : p < 2 ^ 64) (hF : pmulF 65 (pmod a p) b p 0 < 2 ^ 64) : pmul a b p < 2 ^ 64 := by
  unfold pmul
  split
  · decide
  · exact pmod_u64 hF hp
theorem pmulF_u64 {p : Nat} (hp : p < 2 ^ 64) : ∀ {f a b o : Nat}, a < 2 ^ 64 → o < 2 ^ 64 → pmulF f a b p o < 2 ^ 64
  | 0, _, _, _, _, ho => ho
  | f + 1, a, b, o, ha, ho => by
    unfold pmulF
    split
    · exact ho
    · refine pmulF_u64 hp (pmod_u64 (Nat.mod_lt _ (by decide)) hp) (Nat.xor_lt_two_pow ho ?_)
      rcases Nat.mod_two_eq_zero_or_one b with h | h <;> rw [h] <;> omega
theorem prime_ok {p : Nat} (hp : p < 2 ^ 64) : cl Tryz.prog n_rabin_Prime #[.int .u64 (p : Int)] .B w fun (r : Bool) w' => r = prime p ∧ w = w' := by
  refine rabin_Prime.cl ?_
  unfold rabin_Prime
  refine (deg_ok hp).mono ?_
  rintro _ _ ⟨rfl, rfl⟩
  refine bD ?_ ?_ <;> intro h1
  · exact ⟨by rw [prime, if_pos (by omega)], rfl⟩
  refine bD ?_ ?_ <;> intro h2
  · exact ⟨by rw [prime, if_pos (by omega)], rfl⟩
  have e0 : prime p = primeF ((blen p - 1) / 2) (pmod 2 p) p := by rw [prime, if_neg (by omega)]
  have h22 : (2 : Nat) < 2 ^ 64 := by decide
  refine (mod_ok (a := 2) h22 hp).mono ?_
  rintro _ _ ⟨rfl, rfl⟩
  have e1 : IntKind.i64.wrap (Int.tdiv ((blen p : Int) - 1) 2) = (((blen p - 1) / 2 : Nat) : Int) := by
    rw [Int.tdiv_eq_ediv_of_nonneg (by omega), i64w (by omega) (by omega)]
    omega
  rw [e1]
  refine lpI (fun (s : Int × Int × Unit) v => ∃ k x' : Nat, s.1 = (x' : Int) ∧ s.2.1 + (k : Int) = (((blen p - 1) / 2 : Nat) : Int) ∧ 0 ≤ s.2.1 ∧ x' < 2 ^ 64 ∧ primeF k x' p = prime p ∧ w = v) (fun s _ => (((blen p - 1) / 2 : Nat) : Int).toNat - s.2.1.toNat)
    ⟨_, pmod 2 p, rfl, by rw [Int.zero_add], Int.le_refl _, pmod_u64 h22 hp, e0.symm, rfl⟩ ?_
  rintro D ⟨_, i, ⟨⟩⟩ _ ⟨k, x', rfl, hk, hi, hx, hR, rfl⟩
  dsimp -zeta only at hk hi ⊢
  refine bD ?_ ?_ <;> intro h3
  · cases k with
    | zero => omega
    | succ k =>
      have hm := pmul_u64 (a := x') (b := x') hp (pmulF_u64 hp (pmod_u64 hx hp) (by decide))
      refine (mul_ok hx hx hp).mono ?_
      rintro _ _ ⟨rfl, rfl⟩
      refine (mod_ok (a := 2) h22 hp).mono ?_
      rintro _ _ ⟨rfl, rfl⟩
      rw [rab_xor _ _ hm (pmod_u64 h22 hp)]
      refine (gcd_ok hp (Nat.xor_lt_two_pow hm (pmod_u64 h22 hp))).mono ?_
      rintro _ _ ⟨rfl, hg, rfl⟩
      refine (deg_ok hg).mono ?_
      rintro _ _ ⟨rfl, rfl⟩
      refine bD ?_ ?_ <;> intro h4
      · exact ⟨by rw [← hR, primeF, if_pos (by omega)], rfl⟩
      · rw [i64w (by omega) (by omega)]
        refine ⟨⟨k, pmul x' x' p, rfl, by omega, by omega, hm, ?_, rfl⟩, by omega⟩
        rw [← hR]
        conv => rhs; rw [primeF, if_neg (by omega)]
  · have hk0 : k = 0 := by omega
    subst hk0
    exact ⟨by rw [← hR]; rfl, rfl⟩
/-- The given polynomial's table. -/
abbrev tabL : List Value := (Kd.av k_rabin_Table (z_rabin_lazy, (2147483657, ()))).cells
theorem tabNew_ok : cl Tryz.prog n_rabin_New #[.int .u64 2147483657] (.tup (.pair .P (.pair (.I .i64) .nil))) w fun (r : Option Addr × Int × Unit) w' => r = (some ⟨w.heap.size, 0, none⟩, 0, ()) ∧ w'.heap[w.heap.size]? = some (.cells tabL.toArray t_rabin_Table (0, 0)) ∧ w'.heap.size = w.heap.size + 1 ∧ Fr w w' := by
  refine rabin_New.cl ?_
  unfold rabin_New
  have hp : (2147483657 : Nat) < 2 ^ 64 := by decide
  refine (deg_ok hp).mono ?_
  rintro _ _ ⟨rfl, rfl⟩
  refine bF (by decide +kernel) ?_
  refine (prime_ok hp).mono ?_
  rintro _ _ ⟨rfl, rfl⟩
  rw [prime_given]
  refine bF rfl ?_
  refine nwI fun b w2 hb hs2 f2 hb2 _ => ?_
  exact ⟨by rw [hb], by rw [← hb]; exact hb2, hs2, f2⟩
end
end Go.Proofs.YtoglafmpllimgaaGreatDoor
namespace Go.Proofs.YtoglafmpllimgaaGreatDoor
open Go.RowKit Go.Fl

theorem nib_int {j : Nat} (h : j < 16) : Nib.getD j 0 = ((nibN j : Nat) : Int) := by
  have : ∀ j, j < 16 → Nib.getD j 0 = ((nibN j : Nat) : Int) := by decide
  exact this j h
theorem nib_ix {c : Nat} (h : c < 4294967296) : bits .and .u32 (c : Int) 15 = ((c % 16 : Nat) : Int) := by
  rw [show (15 : Int) = ((15 : Nat) : Int) from rfl, u32_and_nat _ _ h (by decide), show 15 = 2 ^ 4 - 1 from rfl, Nat.and_two_pow_sub_one_eq_mod]
theorem nib_sh (c : Nat) : (c : Int) / 2 ^ (min 4 32) = ((c / 16 : Nat) : Int) := by
  rw [show min 4 32 = 4 from rfl]; omega
/-- The table of four bits. -/
def Crc (w : World) : Prop := Glob w g_sums_nibbles Nib
theorem Crc.fr {w w' : World} (h : Crc w) (hf : Fr w w') : Crc w' := Glob.fr h hf
theorem sums_Crc_ok {x : Sl} {b : List UInt8} {a : Nat} {w : World} (hd : Crc w) (ha : w.heap[a]? = some (.cells #[.slice x.a x.n x.c] t_s_uint8 (0, 0))) (hx : Bs w x b) (hl : b.length ≤ 140737488351232) :
    cl Tryz.prog n_sums_Crc #[.slice (some ⟨a, 0, none⟩) 1 1] (.I .u32) w fun (r : Int) w' => r = crcN b ∧ w = w' := by
  refine sums_Crc.cl (p0 := ⟨some ⟨a, 0, none⟩, 1, 1⟩) ?_
  unfold sums_Crc
  have hn := hx.len
  refine lpI (fun s' w' => w = w' ∧ ((s'.2.1 = 0 ∧ s'.1 = 4294967295) ∨ (s'.2.1 = 1 ∧ s'.1 = cfold b))) (fun s' _ => (1 - s'.2.1).toNat) ⟨rfl, .inl ⟨rfl, rfl⟩⟩ ?_
  rintro D ⟨c, i', ⟨⟩⟩ _ ⟨rfl, (⟨h0, h1⟩ | ⟨h0, h1⟩)⟩
  · dsimp only at h0 h1 ⊢
    subst h0 h1
    refine bP (by decide) ?_
    refine ⟨by decide, by decide, ?_⟩
    show ld .L _ (atOff ⟨a, 0, none⟩ 0 1) _
    rw [atH]
    refine ldL0 (s := x) ha rfl ?_
    refine lpI (fun s' w' => w = w' ∧ ∃ i : Nat, i ≤ b.length ∧ s'.2.1 = i ∧ s'.1 = cfold (b.take i)) (fun s' _ => (b.length - s'.2.1).toNat) ⟨rfl, 0, Nat.zero_le _, rfl, rfl⟩ ?_
    rintro D2 ⟨c, i', ⟨⟩⟩ _ ⟨rfl, i, hi, h2, h3⟩
    dsimp only at h2 h3 ⊢
    subst h2 h3
    refine bD ?_ ?_ <;> intro hlt
    · have hib : i < b.length := by omega
      have hc := cfold_lt (b.take i)
      have hx256 := b[i].toNat_lt
      refine ixBc (c := b[i]) hx.rd hx.len (by omega) (by rw [Int.toNat_natCast]; exact List.getElem?_eq_getElem hib) (Fr.refl _) ?_
      rw [u32w, show ((b[i].toNat : Nat) : Int) % 4294967296 = ((b[i].toNat : Nat) : Int) from by omega, u32_xor_nat _ _ hc (by omega)]
      have h1 := lt_xor hc (show b[i].toNat < 4294967296 by omega)
      have hs : cfold (b.take (i + 1)) = cstep (cfold (b.take i)) b[i] := by
        rw [List.take_succ_eq_append_getElem hib, cfold, List.foldl_append]; rfl
      have hs' : cstep (cfold (b.take i)) b[i] = nstep (nstep (cfold (b.take i) ^^^ b[i].toNat)) := rfl
      rw [hs'] at hs
      generalize cfold (b.take i) ^^^ b[i].toNat = c1 at *
      have h2 := nstep_lt h1
      rw [nib_ix h1, nib_sh]
      refine ixGlob hd (show c1 % 16 < Nib.length from Nat.mod_lt _ (by decide)) rfl ?_
      rw [nib_int (Nat.mod_lt _ (by decide)), u32_xor_nat _ _ (by omega) (nibN_lt _)]
      have e1 : c1 / 16 ^^^ nibN (c1 % 16) = nstep c1 := rfl
      rw [e1, nib_ix h2, nib_sh]
      refine ixGlob hd (show nstep c1 % 16 < Nib.length from Nat.mod_lt _ (by decide)) rfl ?_
      rw [nib_int (Nat.mod_lt _ (by decide)), u32_xor_nat _ _ (by omega) (nibN_lt _)]
      rw [i64w (by omega) (by omega)]
      refine ⟨⟨rfl, i + 1, by omega, rfl, ?_⟩, by omega⟩
      show ((nstep (nstep c1) : Nat) : Int) = _
      rw [hs]
    · obtain rfl : i = b.length := by omega
      rw [List.take_length]
      exact ⟨⟨rfl, .inr ⟨rfl, rfl⟩⟩, by decide⟩
  · dsimp only at h0 h1 ⊢
    subst h0 h1
    refine bN (by decide) ⟨?_, rfl⟩
    rw [show (4294967295 : Int) = ((4294967295 : Nat) : Int) from rfl, u32_xor_nat _ _ (by decide) (cfold_lt b)]
    rfl
theorem le4_cells {c : Nat} : ([.int .u8 (IntKind.u8.wrap (c : Int)), .int .u8 (IntKind.u8.wrap ((c : Int) / 2 ^ (min 8 32))), .int .u8 (IntKind.u8.wrap ((c : Int) / 2 ^ (min 16 32))), .int .u8 (IntKind.u8.wrap ((c : Int) / 2 ^ (min 24 32)))] : List Value) = u8s (le4 c) := by
  have e : ∀ n : Nat, IntKind.u8.wrap (n : Int) = ((UInt8.ofNat (n % 256)).toNat : Int) := fun n => by
    rw [u8w, u8_ofNat]; omega
  have e1 : (c : Int) / 2 ^ (min 8 32) = ((c / 256 : Nat) : Int) := by rw [show min 8 32 = 8 from rfl]; omega
  have e2 : (c : Int) / 2 ^ (min 16 32) = ((c / 65536 : Nat) : Int) := by rw [show min 16 32 = 16 from rfl]; omega
  have e3 : (c : Int) / 2 ^ (min 24 32) = ((c / 16777216 : Nat) : Int) := by rw [show min 24 32 = 24 from rfl]; omega
  rw [e1, e2, e3, e, e, e, e]
  rfl
theorem Seal_ok {x : Sl} {b : List UInt8} {w : World} (hd : Crc w) (hx : Bs w x b) (hl : b.length ≤ 140737488351232) :
    cl Tryz.prog n_sums_Seal #[.slice x.a x.n x.c] .L w fun (r : Sl) w' => OwB w' w.heap.size t_uint8 r (sealB b) ∧ Fr w w' := by
  refine sums_Seal.cl ?_
  unfold sums_Seal
  have hn := hx.len
  refine nwI fun a1 w2 ha1 hs2 hf2 hb1 _ => ?_
  refine (sums_Crc_ok (hd.fr hf2) hb1 (hx.fr hf2) hl).mono ?_
  rintro _ _ ⟨rfl, rfl⟩
  refine mks0 slB w.heap.size (b.length + 4) (by rw [i64w (by omega) (by omega)]; omega) (by omega) (by omega) hf2.size fun w6 ho6 hf6 => ?_
  have hf6' := hf2.trans hf6
  refine app_B slB (base := w.heap.size) (l := []) ho6 (hx.fr hf6').rd hx.len.symm (by simp; omega) hf6'.size fun r7 w8 h7 hb8 _ _ => ?_
  rw [List.nil_append] at h7
  have hf8 := hf6'.on hb8
  rw [le4_cells]
  refine nwI fun a9 w10 ha9 hs10 hf10 hb10 hr10 => ?_
  refine app_B slB (base := w.heap.size) (m := le4 (crcN b)) (h7.fr hf10) hr10 rfl (by simp [le4]; omega) (hf8.trans hf10).size fun r11 w12 h11 hb12 _ _ => ⟨h11, (hf8.trans hf10).on hb12⟩
theorem or_le4 {a b c d : UInt8} {n : Nat} (hn : n < 4294967296) :
    (bits .or .u32 (bits .or .u32 (bits .or .u32 (IntKind.u32.wrap (a.toNat : Int)) (IntKind.u32.wrap ((IntKind.u32.wrap (b.toNat : Int)) * 2 ^ (min 8 32)))) (IntKind.u32.wrap ((IntKind.u32.wrap (c.toNat : Int)) * 2 ^ (min 16 32)))) (IntKind.u32.wrap ((IntKind.u32.wrap (d.toNat : Int)) * 2 ^ (min 24 32)))) = ((n : Nat) : Int) ↔ le4 n = [a, b, c, d] := by
  have ha := a.toNat_lt
  have hb := b.toNat_lt
  have hc := c.toNat_lt
  have hd := d.toNat_lt
  have e1 : IntKind.u32.wrap (a.toNat : Int) = ((a.toNat : Nat) : Int) := by rw [u32w]; omega
  have e2 : IntKind.u32.wrap ((IntKind.u32.wrap (b.toNat : Int)) * 2 ^ (min 8 32)) = ((b.toNat * 2 ^ 8 : Nat) : Int) := by rw [u32w, u32w, show min 8 32 = 8 from rfl]; omega
  have e3 : IntKind.u32.wrap ((IntKind.u32.wrap (c.toNat : Int)) * 2 ^ (min 16 32)) = ((c.toNat * 2 ^ 16 : Nat) : Int) := by rw [u32w, u32w, show min 16 32 = 16 from rfl]; omega
  have e4 : IntKind.u32.wrap ((IntKind.u32.wrap (d.toNat : Int)) * 2 ^ (min 24 32)) = ((d.toNat * 2 ^ 24 : Nat) : Int) := by rw [u32w, u32w, show min 24 32 = 24 from rfl]; omega
  have o1 : a.toNat ||| b.toNat * 2 ^ 8 = b.toNat * 2 ^ 8 + a.toNat := by rw [Nat.or_comm]; exact or_add (by omega)
  have o2 : (b.toNat * 2 ^ 8 + a.toNat) ||| c.toNat * 2 ^ 16 = c.toNat * 2 ^ 16 + (b.toNat * 2 ^ 8 + a.toNat) := by rw [Nat.or_comm]; exact or_add (by omega)
  have o3 : (c.toNat * 2 ^ 16 + (b.toNat * 2 ^ 8 + a.toNat)) ||| d.toNat * 2 ^ 24 = d.toNat * 2 ^ 24 + (c.toNat * 2 ^ 16 + (b.toNat * 2 ^ 8 + a.toNat)) := by rw [Nat.or_comm]; exact or_add (by omega)
  rw [e1, e2, e3, e4, u32_or_nat _ _ (by omega) (by omega), o1, u32_or_nat _ _ (by omega) (by omega), o2, u32_or_nat _ _ (by omega) (by omega), o3]
  have eq : ∀ (m : Nat) (x : UInt8), UInt8.ofNat (m % 256) = x ↔ m % 256 = x.toNat := fun m x => by
    constructor
    · rintro rfl; simp
    · intro h; apply UInt8.toNat_inj.1; simp [h]
  simp only [le4, List.cons.injEq, and_true, eq]
  omega
theorem take4 {l : List UInt8} (h : l.length = 4) : ∃ a b c d, l = [a, b, c, d] := by
  match l, h with
  | [a, b, c, d], _ => exact ⟨a, b, c, d, rfl⟩
theorem Open_sum_ok {x : Sl} {b : List UInt8} {w : World} (hd : Crc w) (hx : Bs w x b) (hl : b.length ≤ 140737488351232) :
    cl Tryz.prog n_sums_Open #[.slice x.a x.n x.c] (.tup (.pair .L (.pair (.I .i64) .nil))) w fun (r : Sl × Int × Unit) w' => OwB w' w.heap.size t_uint8 r.1 (openB b).1 ∧ r.2 = (((openB b).2 : Int), ()) ∧ Fr w w' := by
  refine sums_Open.cl ?_
  unfold sums_Open
  have hn := hx.len
  rw [i64w (n := (x.n : Int) - 4) (by omega) (by omega)]
  refine bD ?_ ?_ <;> intro h4
  · have e : openB b = ([], 2) := by rw [openB, if_pos (by omega)]
    rw [e]
    exact ⟨OwB.nil _ _ _, rfl, Fr.refl w⟩
  obtain ⟨c0, c1, c2, c3, hc⟩ := take4 (l := b.drop (b.length - 4)) (by rw [List.length_drop]; omega)
  have byt : ∀ (j : Nat) (c : UInt8) (i : Int) {K : Int → Prop}, (b.drop (b.length - 4))[j]? = some c → i = (x.n : Int) - 4 + j → K c.toNat → ixa x.a x.n i 1 fun a => ld (.I .u8) w a K := by
    intro j c i K hj hi hK
    have hj4 : j < 4 := by
      have := (List.getElem?_eq_some_iff.1 hj).1
      rw [List.length_drop] at this; omega
    refine ixBc (c := c) hx.rd hx.len (by omega) ?_ (Fr.refl w) hK
    rw [List.getElem?_drop] at hj
    rw [show i.toNat = b.length - 4 + j from by omega]
    exact hj
  rw [i64w (n := (x.n : Int) - 4 + 1) (by omega) (by omega), i64w (n := (x.n : Int) - 4 + 2) (by omega) (by omega), i64w (n := (x.n : Int) - 4 + 3) (by omega) (by omega)]
  refine byt 0 c0 _ (by rw [hc]; rfl) (by omega) (byt 1 c1 _ (by rw [hc]; rfl) (by omega) (byt 2 c2 _ (by rw [hc]; rfl) (by omega) (byt 3 c3 _ (by rw [hc]; rfl) (by omega) ?_)))
  intro n
  have hf9 := Fr.drewN w n
  have hx9 := hx.fr hf9
  refine slsB hx9 (by decide) (by omega) (by omega) fun r10 h10 _ _ => ?_
  rw [Int.toNat_zero, List.drop_zero, show ((x.n : Int) - 4).toNat = b.length - 4 from by omega] at h10
  refine nwI fun a11 w12 ha11 hs12 hf12 hb11 _ => ?_
  have hf12' := hf9.trans hf12
  refine (sums_Crc_ok (x := r10) (hd.fr hf12') hb11 (h10.fr hf12) (by rw [List.length_take]; omega)).mono ?_
  rintro _ _ ⟨rfl, rfl⟩
  have key := or_le4 (a := c0) (b := c1) (c := c2) (d := c3) (crcN_lt (b.take (b.length - 4)))
  rw [← hc] at key
  refine bNe ?_ ?_ <;> intro hne
  · have e : openB b = ([], 10) := by rw [openB, if_neg (by omega), if_neg fun h => hne (key.2 h)]
    rw [e]
    exact ⟨OwB.nil _ _ _, rfl, hf12'⟩
  · have e : openB b = (b.take (b.length - 4), 0) := by rw [openB, if_neg (by omega), if_pos (key.1 hne)]
    rw [e]
    refine nwI fun a15 w16 ha15 hs16 hf16 hb15 _ => ?_
    have hf16' := hf12'.trans hf16
    refine slsB (hx.fr hf16') (by decide) (by omega) (by omega) fun r17 h17 _ _ => ?_
    rw [Int.toNat_zero, List.drop_zero, show ((x.n : Int) - 4).toNat = b.length - 4 from by omega] at h17
    refine app0B slB (base := w.heap.size) hb15 (by have := hf12'.size; omega) h17 (by rw [List.length_take]; omega) hf16'.size fun r18 w19 h18 hf19 => ⟨h18, rfl, hf16'.trans hf19⟩
end Go.Proofs.YtoglafmpllimgaaGreatDoor
namespace Go.Proofs.YtoglafmpllimgaaGreatDoor
open Go.RowKit Go.Fl

/-- A reader over bytes. -/
def Rdr (w : World) (base g : Nat) (l : List UInt8) : Prop :=
  ∃ s : Sl, w.heap[g]? = some (.cells #[.slice s.a s.n s.c, .bool true] t_octet_Reader (0, 0)) ∧ Bs w s l ∧ (∀ ad, s.a = some ad → base ≤ ad.block ∧ ad.block < g) ∧ l.length ≤ 140737488351232
theorem Rdr.fr {w w' : World} {base g : Nat} {l : List UInt8} (h : Rdr w base g l) (hf : Fr w w') : Rdr w' base g l := by
  obtain ⟨s, h1, h2, h3⟩ := h
  exact ⟨s, hf.heap h1, h2.fr hf, h3⟩
theorem Rdr.kp {S : Nat → Prop} {w w' : World} {base g : Nat} {l : List UInt8} (h : Rdr w base g l) (hk : Kp S w w') (hS : ∀ k, base ≤ k → k ≤ g → S k) (hg : base ≤ g) : Rdr w' base g l := by
  obtain ⟨s, h1, h2, h3, h4⟩ := h
  exact ⟨s, (hk g (Array.getElem?_eq_some_iff.1 h1).1 (hS g hg (Nat.le_refl _))).trans h1, h2.kp hk fun ad ha => hS _ (h3 ad ha).1 (Nat.le_of_lt (h3 ad ha).2), h3, h4⟩
theorem Rdr.lt {w : World} {base g : Nat} {l : List UInt8} (h : Rdr w base g l) : g < w.heap.size := by
  obtain ⟨s, h1, _⟩ := h
  exact (Array.getElem?_eq_some_iff.1 h1).1

/-- The reader goes on. -/
theorem Rdr.adv {w : World} {base g : Nat} {l : List UInt8} (h : Rdr w base g l) {i : Int} {k : Nat} (hi : i = k) (hk : k ≤ l.length) {K : World → Prop}
    (hK : ∀ w', Rdr w' base g (l.drop k) → w.grownBy w' (some g) → w'.heap.size = w.heap.size → K w') :
    nz (some ⟨g, 0, none⟩) fun a => ld .L w a fun (x : Sl) => sls x i x.n 1 fun r => nz (some ⟨g, 0, none⟩) fun a' => st1 w a' (.slice r.a r.n r.c) fun w' => K w' := by
  obtain ⟨s, h1, h2, h3, h4⟩ := h
  have hl := h2.len
  subst hi
  show ld .L w ⟨g, 0, none⟩ _
  refine ldL0 h1 rfl ?_
  refine slsB h2 (by omega) (by omega) (by omega) fun r hr ha _ => ?_
  show st1 w ⟨g, 0, none⟩ _ _
  refine st0 h1 (by simp) fun w' hb hg hsz => hK w' ⟨r, hb, ?_, ?_, by simp; omega⟩ hg hsz
  · rw [Int.toNat_natCast, Int.toNat_natCast, List.take_of_length_le (by omega)] at hr
    refine hr.kp (kp_grown hg) fun ad had => ?_
    obtain ⟨ad', h5, h6⟩ := ha ad had
    rw [h6]
    exact Nat.ne_of_lt (h3 ad' h5).2
  · intro ad had
    obtain ⟨ad', h5, h6⟩ := ha ad had
    rw [h6]
    exact h3 ad' h5

theorem Read_ok {s : Sl} {l : List UInt8} {w : World} (hs : Bs w s l) (hl : l.length ≤ 140737488351232) :
    cl Tryz.prog n_octet_Read #[.slice s.a s.n s.c] .P w fun (r : Option Addr) w' => ∃ g, r = some ⟨g, 0, none⟩ ∧ w.heap.size ≤ g ∧ Rdr w' w.heap.size g l ∧ Fr w w' := by
  refine octet_Read.cl ?_
  unfold octet_Read
  refine copyB slB hs (by omega) fun r w1 ho hf => ?_
  refine nwI fun b w2 hb hsz hf2 hblk _ => ?_
  have hh := hf.size
  exact ⟨b, rfl, by omega, ⟨r, hblk, ho.bs.fr hf2, fun ad ha => ⟨(ho.own ad ha).1, by have := (ho.own ad ha).2; omega⟩, hl⟩, hf.trans hf2⟩

section
variable {w : World} {base g : Nat} {l : List UInt8}
/-- The next number, its error, how many bytes it has. -/
theorem Reader_Number_ok (h : Rdr w base g l) : cl Tryz.prog n_octet_Reader_Number #[.pointer (some ⟨g, 0, none⟩)] (.tup (.pair (.I .i64) (.pair (.I .i64) .nil))) w
    fun (r : Int × Int × Unit) w' => r = (((lookS l).1 : Int), ((lookS l).2.2 : Int), ()) ∧ Rdr w' base g (l.drop (lookS l).2.1) ∧ w.grownBy w' (some g) := by
  have h' := h
  obtain ⟨s, h1, h2, h3, h4⟩ := h
  refine octet_Reader_Number.cl ?_
  unfold octet_Reader_Number
  refine bF rfl ?_
  show ld .B w ⟨g, 1, none⟩ _
  refine ldB0 h1 rfl (bF rfl ?_)
  show ld .L w ⟨g, 0, none⟩ _
  refine ldL0 h1 rfl ?_
  refine (octet_look_ok h2 h4).mono ?_
  rintro _ _ ⟨rfl, rfl⟩
  exact h'.adv rfl (lookS_le l) fun w' hr hg _ => ⟨rfl, hr, hg⟩

theorem End_ok (h : Rdr w base g l) : cl Tryz.prog n_octet_Reader_End #[.pointer (some ⟨g, 0, none⟩)] (.I .i64) w fun (r : Int) w' => r = (if l = [] then 0 else 3) ∧ w = w' := by
  obtain ⟨s, h1, h2, h3, h4⟩ := h
  refine octet_Reader_End.cl ?_
  unfold octet_Reader_End
  refine bF rfl ?_
  show ld .B w ⟨g, 1, none⟩ _
  refine ldB0 h1 rfl (bF rfl ?_)
  show ld .L w ⟨g, 0, none⟩ _
  refine ldL0 h1 rfl ?_
  have hl := h2.len
  cases l with
  | nil => exact bN (by simp [hl]) ⟨rfl, rfl⟩
  | cons b t => exact bP (by simp [hl]) ⟨rfl, rfl⟩

theorem Reader_Text_ok (h : Rdr w base g l) {most : Int} : cl Tryz.prog n_octet_Reader_Text #[.pointer (some ⟨g, 0, none⟩), .int .i64 most] (.tup (.pair .L (.pair (.I .i64) .nil))) w
    fun (r : Sl × Int × Unit) w' => r.2 = (((rdText l most).2.1 : Int), ()) ∧ OwB w' w.heap.size t_uint8 r.1 (rdText l most).1 ∧ Rdr w' base g (l.drop (rdText l most).2.2) ∧ w.grownBy w' (some g) := by
  have h' := h
  obtain ⟨s, h1, h2, h3, h4⟩ := h
  refine octet_Reader_Text.cl ?_
  unfold octet_Reader_Text
  refine bF rfl ?_
  show ld .B w ⟨g, 1, none⟩ _
  refine ldB0 h1 rfl (bF rfl ?_)
  show ld .L w ⟨g, 0, none⟩ _
  refine ldL0 h1 rfl ?_
  refine (octet_look_ok h2 h4).mono ?_
  rintro _ _ ⟨rfl, rfl⟩
  dsimp only
  have hle := lookS_le l
  have hn := h2.len
  unfold rdText
  refine bNe ?_ ?_ <;> intro he
  · rw [if_pos (by omega)]
    exact ⟨rfl, OwB.nil _ _ _, h', World.grownBy.refl _ _⟩
  · rw [if_neg (by omega)]
    refine bD ?_ ?_ <;> intro hm
    · rw [if_pos hm]
      exact ⟨rfl, OwB.nil _ _ _, h', World.grownBy.refl _ _⟩
    · rw [if_neg hm]
      show ld .L w ⟨g, 0, none⟩ _
      refine ldL0 h1 rfl ?_
      rw [i64w (n := (s.n : Int) - _) (by omega) (by omega)]
      refine bD ?_ ?_ <;> intro hs
      · rw [if_pos (by omega)]
        exact ⟨rfl, OwB.nil _ _ _, h', World.grownBy.refl _ _⟩
      · rw [if_neg (by omega)]
        generalize (lookS l).2.1 = k at *
        generalize (lookS l).1 = n at *
        refine nwI fun b w1 hb hsz hf hblk _ => ?_
        show ld .L w1 ⟨g, 0, none⟩ _
        refine ldL0 (hf.heap h1) rfl ?_
        rw [i64w (n := (k : Int) + n) (by omega) (by omega)]
        refine slsB (h2.fr hf) (by omega) (by omega) (by omega) fun x hx _ _ => ?_
        rw [show ((k : Int) + n).toNat = k + n from by omega, Int.toNat_natCast] at hx
        refine app_B slB (base := w.heap.size) (l := []) (OwB.new hblk (by omega)) hx.rd hx.len.symm (by simp; omega) hf.size fun r w2 ho hb2 hkp hor => ?_
        have hf2 : Fr w w2 := hf.on hb2
        refine (h'.fr hf2).adv (k := k + n) (by omega) (by omega) fun w3 hr hg hsz3 => ⟨rfl, ?_, hr, ?_⟩
        · have hlt := h'.lt
          have e : (l.take (k + n)).drop k = (l.drop k).take n := by rw [List.drop_take, Nat.add_sub_cancel_left]
          rw [List.nil_append, e] at ho
          refine ho.kp (kp_grown hg) fun ad ha => ?_
          have := (ho.own ad ha).1
          omega
        · exact World.grownBy.trans (fr_grown hf2) hg
end

section
variable {w : World} {p : Option Addr}
end
end Go.Proofs.YtoglafmpllimgaaGreatDoor
namespace Go.Proofs.YtoglafmpllimgaaGreatDoor
open Go.RowKit Go.Fl

abbrev frV (p : y_api_Frame) : Value := (Kd.av k_api_Frame p).val
abbrev frC (p : y_api_Frame) : List Value := (Kd.av k_api_Frame p).cells
/-- What a frame in memory is. -/
abbrev fmOf (p : y_api_Frame) (b : List UInt8) : Fm := ⟨p.1, p.2.1, p.2.2.1, p.2.2.2.1, p.2.2.2.2.1, p.2.2.2.2.2.1, b⟩
abbrev okP (p : y_api_Frame) : Prop := okF p.1 p.2.1 p.2.2.1 p.2.2.2.1 p.2.2.2.2.1 p.2.2.2.2.2.1 p.2.2.2.2.2.2.1.n
def chkP (p : y_api_Frame) : Int := if okP p then 0 else 120
theorem tCheck_ok {p : y_api_Frame} {w : World} : cl Tryz.prog n_tunnel_Check #[frV p] (.I .i64) w fun (r : Int) w' => r = chkP p ∧ Fr w w' := by
  refine tunnel_Check.cl (p0 := p) ?_
  unfold tunnel_Check
  refine nwI fun a1 w2 ha hs hf hb _ => ?_
  obtain ⟨k, fr, yo, sq, ac, bi, s, ⟨⟩⟩ := p
  have e : chkP (k, fr, yo, sq, ac, bi, s, ()) = if okF k fr yo sq ac bi s.n then 0 else 120 := rfl
  rw [e]
  have c0 : ∀ {K : Int → Prop}, K k → ld (.I .i64) w2 ⟨a1, 0, none⟩ K := fun h => ldI0 hb rfl h
  have c1 : ∀ {K : Int → Prop}, K fr → ld (.I .i64) w2 ((⟨a1, 0, none⟩ : Addr).add 1) K := fun h => ldI0 hb rfl h
  have c2 : ∀ {K : Int → Prop}, K yo → ld (.I .i64) w2 ((⟨a1, 0, none⟩ : Addr).add 2) K := fun h => ldI0 hb rfl h
  have c3 : ∀ {K : Int → Prop}, K sq → ld (.I .i64) w2 ((⟨a1, 0, none⟩ : Addr).add 3) K := fun h => ldI0 hb rfl h
  have c4 : ∀ {K : Int → Prop}, K ac → ld (.I .i64) w2 ((⟨a1, 0, none⟩ : Addr).add 4) K := fun h => ldI0 hb rfl h
  have c5 : ∀ {K : Int → Prop}, K bi → ld (.I .i64) w2 ((⟨a1, 0, none⟩ : Addr).add 5) K := fun h => ldI0 hb rfl h
  have c6 : ∀ {K : Sl → Prop}, K s → ld .L w2 ((⟨a1, 0, none⟩ : Addr).add 6) K := fun h => ldL0 (s := s) hb rfl h
  have yes : okF k fr yo sq ac bi s.n → (0 : Int) = (if okF k fr yo sq ac bi s.n then 0 else 120) ∧ Fr w w2 := fun h => ⟨by rw [if_pos h], hf⟩
  have no : ¬okF k fr yo sq ac bi s.n → (120 : Int) = (if okF k fr yo sq ac bi s.n then 0 else 120) ∧ Fr w w2 := fun h => ⟨by rw [if_neg h], hf⟩
  unfold okF at yes no ⊢
  intro j4
  have hj4 : ∀ y : Bool, (y = true ↔ ((1 ≤ fr ∧ fr ≤ 1099511627776) ∧ (0 ≤ yo ∧ yo ≤ 1099511627776) ∧ s.n ≤ 512)) → j4 y w2 := by
    intro y hy
    unfold j4
    intro j6
    have hj6 : ∀ (y seq ack : Bool), (y = true ↔ ((1 ≤ fr ∧ fr ≤ 1099511627776) ∧ (0 ≤ yo ∧ yo ≤ 1099511627776) ∧ s.n ≤ 512 ∧ (k = 1 ∨ k = 2 ∨ k = 3))) → (y = true → (seq = true ↔ k = 2)) → (y = true → (ack = true ↔ k = 3)) → j6 y seq ack w2 := by
      intro y seq ack hy hseq hack
      unfold j6
      intro j7
      have hj7 : ∀ z : Bool, (z = true ↔ (y = true ∧ (seq = true ↔ sq > 0) ∧ 0 ≤ sq ∧ sq ≤ 1099511627776 ∧ (seq = true ∨ s.n = 0))) → j7 z w2 := by
        intro z hz
        unfold j7
        refine bB ?_ ?_ <;> intro hz1
        · refine no fun h => ?_
          have hz0 : ¬(z = true) := by simpa using hz1
          rw [hz] at hz0
          refine hz0 ?_
          have hyt : y = true := hy.2 ⟨h.1, h.2.1, by omega, by omega⟩
          have := hseq hyt
          refine ⟨hyt, ?_, by omega, by omega, ?_⟩
          · rw [this]; omega
          · rw [this]; omega
        · have hz1 : z = true := by simpa using hz1
          obtain ⟨hyt, hq, hq0, hq1, hqn⟩ := hz.1 hz1
          have h1 := hy.1 hyt
          have hs1 := hseq hyt
          have ha1 := hack hyt
          rw [hs1] at hq hqn
          refine c4 (bD ?_ ?_) <;> intro g1
          · exact no fun h => by omega
          refine c4 (bD ?_ ?_) <;> intro g2
          · exact no fun h => by omega
          refine c5 (bD ?_ ?_) <;> intro g3
          · exact no fun h => by omega
          refine c5 (bD ?_ ?_) <;> intro g4
          · exact no fun h => by omega
          refine bB ?_ ?_ <;> intro g5
          · have hk3 : k ≠ 3 := fun h => by rw [ha1.2 h] at g5; cases g5
            refine c4 (bNe ?_ ?_) <;> intro g6
            · exact no fun h => by omega
            refine c5 (bNe ?_ ?_) <;> intro g7
            · exact no fun h => by omega
            · exact yes (by omega)
          · have hk3 : k = 3 := ha1.1 (by simpa using g5)
            exact yes (by omega)
      clear_value j7
      refine bB ?_ ?_ <;> intro hyv
      · refine c3 (bB ?_ ?_) <;> intro g1
        · have g1 : seq = decide (sq > 0) := by simpa using g1
          refine c3 (bD ?_ ?_) <;> intro g2
          · refine c3 (bD ?_ ?_) <;> intro g3
            · refine bB ?_ ?_ <;> intro g4
              · exact hj7 true ⟨fun _ => ⟨hyv, by rw [g1, decide_eq_true_iff], by omega, by omega, .inl g4⟩, fun _ => rfl⟩
              · refine c6 (hj7 _ ?_)
                rw [beq_iff_eq]
                constructor
                · intro h; exact ⟨hyv, by rw [g1, decide_eq_true_iff], by omega, by omega, .inr (by omega)⟩
                · intro h
                  have := h.2.2.2.2.resolve_left (by rw [g4]; simp)
                  omega
            · exact hj7 false ⟨(fun h => by cases h), fun h => by omega⟩
          · exact hj7 false ⟨(fun h => by cases h), fun h => by omega⟩
        · refine hj7 false ⟨(fun h => by cases h), fun h => ?_⟩
          have g1 : seq ≠ decide (sq > 0) := by simpa using g1
          exact absurd (by rw [Bool.eq_iff_iff, decide_eq_true_iff]; exact h.2.1) g1
      · exact hj7 false ⟨(fun h => by cases h), fun h => by rw [hyv] at h; cases h.1⟩
    clear_value j6
    refine c0 (bE ?_ ?_) <;> intro k1
    · exact hj6 y false false (by rw [hy]; omega) (fun _ => by simp; omega) (fun _ => by simp; omega)
    refine bE ?_ ?_ <;> intro k2
    · exact hj6 y true false (by rw [hy]; omega) (fun _ => by simp; omega) (fun _ => by simp; omega)
    refine bE ?_ ?_ <;> intro k3
    · exact hj6 y false true (by rw [hy]; omega) (fun _ => by simp; omega) (fun _ => by simp; omega)
    · exact hj6 false false false (by simp; omega) (fun h => by cases h) (fun h => by cases h)
  clear_value j4
  have nn : ∀ {P : Prop}, ¬P → (false = true ↔ P) := fun h => ⟨(fun h => by cases h), fun hp => absurd hp h⟩
  refine c1 (bD ?_ ?_) <;> intro g1
  · refine c1 (bD ?_ ?_) <;> intro g2
    · refine c2 (bD ?_ ?_) <;> intro g3
      · refine c2 (bD ?_ ?_) <;> intro g4
        · refine c6 (hj4 _ ?_)
          rw [decide_eq_true_iff]
          omega
        · exact hj4 false (nn (by omega))
      · exact hj4 false (nn (by omega))
    · exact hj4 false (nn (by omega))
  · exact hj4 false (nn (by omega))
end Go.Proofs.YtoglafmpllimgaaGreatDoor
namespace Go.Proofs.YtoglafmpllimgaaGreatDoor
open Go.RowKit Go.Fl

theorem okP_of {p : y_api_Frame} {b : List UInt8} (h : p.2.2.2.2.2.2.1.n = b.length) : okP p ↔ (fmOf p b).ok := by
  unfold okP Fm.ok
  rw [h]
theorem tPut_ok {p : y_api_Frame} {b : List UInt8} {w : World} (hd : Crc w) (hb : Bs w p.2.2.2.2.2.2.1 b) :
    cl Tryz.prog n_tunnel_Put #[frV p] (.tup (.pair .L (.pair (.I .i64) .nil))) w fun (r : Sl × Int × Unit) w' => OwB w' w.heap.size t_uint8 r.1 (putF (fmOf p b)).1 ∧ r.2 = ((putF (fmOf p b)).2, ()) ∧ Fr w w' := by
  refine tunnel_Put.cl (p0 := p) ?_
  unfold tunnel_Put
  have hn := hb.len
  have hok := okP_of hn
  refine nwI fun a1 w2 ha1 hs2 hf2 hb1 _ => ?_
  refine ldW (k := k_api_Frame) (x := p) hb1 rfl ?_
  refine (tCheck_ok (p := p)).mono ?_
  rintro _ w5 ⟨rfl, hf5⟩
  have hf5' := hf2.trans hf5
  by_cases h : okP p
  rotate_left
  · have e : putF (fmOf p b) = ([], 120) := by rw [putF, if_neg fun hh => h (hok.2 hh)]
    rw [chkP, if_neg h, e]
    exact bT rfl ⟨OwB.nil _ _ _, rfl, hf5'⟩
  have e : putF (fmOf p b) = ((fmOf p b).bytes, 0) := by rw [putF, if_pos (hok.1 h)]
  rw [chkP, if_pos h, e]
  refine bF rfl ?_
  have hi := okF_in h
  have h1 := h.1
  have h2 := h.2.1
  refine nwI fun a6 w7 ha6 hs7 hf7 hb6 hr6 => ?_
  have hb17 := hf7.heap (hf5.heap hb1)
  refine ldI0 hb17 rfl (ldI0 hb17 rfl (ldI0 hb17 rfl (ldI0 hb17 rfl (ldI0 hb17 rfl (ldI0 hb17 rfl ?_)))))
  refine nwI fun a14 w15 ha14 hs15 hf15 hb14 hr14 => ?_
  have hf15' := (hf5'.trans hf7).trans hf15
  have h6 : Bs w15 ⟨some ⟨a6, 0, none⟩, 1, 1⟩ [85] := Bs.fr ⟨hr6, rfl, Nat.le_refl _⟩ hf15
  refine (octet_Numbers_ok (x := ⟨some ⟨a14, 0, none⟩, 6, 6⟩) (ns := (fmOf p b).nums) h6 ⟨hr14, rfl, Nat.le_refl _⟩ (by simp [Fm.nums]) (by
    intro n hn
    simp only [Fm.nums, List.mem_cons, List.not_mem_nil, or_false] at hn
    rcases hn with rfl | rfl | rfl | rfl | rfl | rfl <;> omega)).mono ?_
  rintro x16 w17 ⟨h16, _, hf17⟩
  have hf17' := hf15'.trans hf17
  refine ldL0 (s := p.2.2.2.2.2.2.1) (hf17.heap (hf15.heap hb17)) rfl ?_
  have hnl := numsB_le (fmOf p b).nums
  have hnl6 : (fmOf p b).nums.length = 6 := rfl
  refine (octet_Text_ok h16 (hb.fr hf17') (by rw [List.length_append]; simp; omega) (by omega)).mono ?_
  rintro x19 w20 ⟨h19, hf20⟩
  have hf20' := hf17'.trans hf20
  have hnb := numB_le b.length
  refine (Seal_ok (hd.fr hf20') h19.bs (by simp only [List.length_append, List.length_cons, List.length_nil]; omega)).mono ?_
  rintro x21 w22 ⟨h21, hf22⟩
  refine ⟨?_, rfl, hf20'.trans hf22⟩
  have eb : (fmOf p b).bytes = sealB ([85] ++ numsB (fmOf p b).nums ++ numB b.length ++ b) := by simp [Fm.bytes, rawF]
  show OwB w22 w.heap.size t_uint8 x21 (fmOf p b).bytes
  rw [eb]
  exact h21.mono hf20'.size
/-- What a frame that was read is. -/
def FGetP (w : World) (own : Nat) (r : y_api_Frame × Int × Unit) (p : List UInt8) : Prop :=
  match getF p with
  | some f => r.2 = (0, ()) ∧ fmOf r.1 f.bd = f ∧ OwB w own t_uint8 r.1.2.2.2.2.2.2.1 f.bd
  | none => r = (z_api_Frame, getE p, ())
theorem FGetP.some {w : World} {own : Nat} {r : y_api_Frame × Int × Unit} {p : List UInt8} {f : Fm} (h : getF p = .some f) (h1 : r.2 = (0, ())) (h2 : fmOf r.1 f.bd = f) (h3 : OwB w own t_uint8 r.1.2.2.2.2.2.2.1 f.bd) : FGetP w own r p := by
  unfold FGetP; rw [h]; exact ⟨h1, h2, h3⟩
theorem FGetP.none {w : World} {own : Nat} {r : y_api_Frame × Int × Unit} {p : List UInt8} (h : getF p = .none) (h1 : r = (z_api_Frame, getE p, ())) : FGetP w own r p := by
  unfold FGetP; rw [h]; exact h1
/-- A frame is put into the results' block, and read there. -/
theorem finF {w : World} {g : Nat} {q : List Value} {t : TypeId} (hg : w.heap[g]? = some (.cells q.toArray t (0, 0))) (hq : q.length = 7) (p : y_api_Frame) {K : y_api_Frame → World → Prop}
    (hk : ∀ w', w.grownBy w' (some g) → w'.heap.size = w.heap.size → K p w') : st w ⟨g, 0, none⟩ (Kd.av k_api_Frame p) fun w1 => ld k_api_Frame w1 ⟨g, 0, none⟩ fun r => K r w1 :=
  stW (Kd.av k_api_Frame p) rfl hg hq fun w' h' g' s' => ldW (k := k_api_Frame) (x := p) h' rfl (hk w' g' s')
/-- A frame whose first numbers are known. -/
def numP (ns : List Int) (s : Sl) : y_api_Frame := (ns.getD 0 0, ns.getD 1 0, ns.getD 2 0, ns.getD 3 0, ns.getD 4 0, ns.getD 5 0, s, ())
theorem numP_set {ns : List Int} {s : Sl} (h : ns.length < 6) (x : Int) : (frC (numP ns s)).toArray.setIfInBounds ns.length (.int .i64 x) = (frC (numP (ns ++ [x]) s)).toArray := by
  match ns, h with
  | [], _ => rfl
  | [_], _ => rfl
  | [_, _], _ => rfl
  | [_, _, _], _ => rfl
  | [_, _, _, _], _ => rfl
  | [_, _, _, _, _], _ => rfl
  | _ :: _ :: _ :: _ :: _ :: _ :: _, h => exact absurd h (by simp)
theorem numsS_some {n : Nat} {l : List UInt8} {ns : List Int} {r : List UInt8} (h : numsS n l = some (ns, r)) (he : (lookS r).2.2 = 0) : numsS (n + 1) l = some (ns ++ [((lookS r).1 : Int)], r.drop (lookS r).2.1) := by
  rw [numsS_snoc h, if_neg (by omega)]
theorem numsS_bad {n m : Nat} {l : List UInt8} {ns : List Int} {r : List UInt8} (h : numsS n l = some (ns, r)) (he : (lookS r).2.2 ≠ 0) (hm : n + 1 ≤ m) : numsS m l = none :=
  numsS_none m (by rw [numsS_snoc h, if_pos he]) hm
theorem tGet_ok {s : Sl} {b : List UInt8} {w : World} (hd : Crc w) (hs : Bs w s b) (hl : b.length ≤ 140737488351232) :
    cl Tryz.prog n_tunnel_Get #[.slice s.a s.n s.c] (.tup (.pair k_api_Frame (.pair (.I .i64) .nil))) w fun (r : y_api_Frame × Int × Unit) w' => FGetP w' w.heap.size r b ∧ Fr w w' := by
  refine tunnel_Get.cl ?_
  unfold tunnel_Get
  refine nwI fun a1 w2 ha1 hs2 hf2 hb1 _ => ?_
  refine (Open_sum_ok (hd.fr hf2) (hs.fr hf2) hl).mono ?_
  rintro ⟨x3, e3, ⟨⟩⟩ w4 ⟨h3, he3, hf4⟩
  dsimp only at h3 he3
  obtain ⟨rfl, _⟩ := Prod.mk.inj he3
  dsimp -zeta only
  have hb14 := hf4.heap hb1
  have hf4' := hf2.trans hf4
  have la1 := (Array.getElem?_eq_some_iff.1 hb1).1
  have frg : ∀ {u u' : World} {m : Nat}, Fr w u → u.grownBy u' (some m) → w.heap.size ≤ m → Fr w u' := fun {u u' m} hf hk hm => hf.on (grown_below hk hm hf.size)
  have bad : ∀ {u : World} {e : Int} {K : y_api_Frame → World → Prop}, Fr w u → u.heap[a1]? = some (.cells (frC z_api_Frame).toArray t_api_Frame (0, 0)) → getF b = none → e = getE b →
      (∀ u', FGetP u' w.heap.size (z_api_Frame, e, ()) b ∧ Fr w u' → K z_api_Frame u') → st u ⟨a1, 0, none⟩ (Kd.av k_api_Frame (0, (0, (0, (0, (0, (0, (⟨none, 0, 0⟩, ())))))))) fun u1 => ld k_api_Frame u1 ⟨a1, 0, none⟩ fun r => K r u1 := by
    intro u e K hfu h1 hg he hK
    refine finF h1 rfl z_api_Frame fun u' hg' _ => hK u' ⟨FGetP.none hg (by rw [he]), frg hfu hg' (by omega)⟩
  refine bNe ?_ ?_ <;> intro h0
  · have hg : getF b = none := by rw [getF, if_pos (by omega)]
    refine bad hf4' hb14 hg (by rw [getE, if_pos (by omega)]) fun u' hu => hu
  have hgo : getF b = bodyF (openB b).1 := by rw [getF, if_neg (by omega)]
  have heo : getF b = none → (120 : Int) = getE b := fun h => by rw [getE, if_neg (by omega), h]; rfl
  have ho : (openB b).1.length ≤ 140737488351232 := by
    unfold openB
    split
    · simp
    · split
      · dsimp only; rw [List.length_take]; omega
      · simp
  generalize (openB b).1 = p at *
  have h3n := h3.len
  refine bE ?_ ?_ <;> intro hp0
  · have : p = [] := List.eq_nil_of_length_eq_zero (by omega)
    have hg : getF b = none := by rw [hgo, this]; rfl
    exact bad hf4' hb14 hg (heo hg) fun u' hu => hu
  obtain ⟨c, l, rfl⟩ : ∃ c l, p = c :: l := by
    cases p with
    | nil => simp at h3n; omega
    | cons c l => exact ⟨c, l, rfl⟩
  have hgc : getF b = if c = 85 then readF l else none := hgo
  refine ixB0 h3.rd h3n (Fr.refl _) ?_
  refine bNe ?_ ?_ <;> intro hc
  · have hg : getF b = none := by rw [hgc, if_neg fun h => hc (by rw [h]; rfl)]
    exact bad hf4' hb14 hg (heo hg) fun u' hu => hu
  have hc : c = 85 := UInt8.toNat_inj.1 (by show c.toNat = 85; omega)
  rw [if_pos hc] at hgc
  refine nwI fun a13 w14 ha13 hs14 hf14 hb13 _ => ?_
  have hf14' := hf4'.trans hf14
  refine slsB (h3.bs.fr hf14) (by decide) (by rw [h3n]; simp; omega) (by rw [h3n]; exact Int.le_refl _) fun r15 h15 _ _ => ?_
  rw [show ((1 : Int)).toNat = 1 from rfl, h3n, Int.toNat_natCast, List.take_length, List.drop_one, List.tail_cons] at h15
  refine (Read_ok h15 (by simp at ho; omega)).mono ?_
  rintro _ w17 ⟨g, rfl, hgg, hr17, hf17⟩
  have hf17' := hf14'.trans hf17
  refine nwI fun a18 w19 ha18 hs19 hf19 hb18 _ => ?_
  simp only [addOff] at hb18
  have hf19' := hf17'.trans hf19
  have hb1 := hf19.heap (hf17.heap (hf14.heap hb14))
  have hb13 := hf19.heap (hf17.heap hb13)
  have hr19 := hr17.fr hf19
  have hgl := hr17.lt
  have la13 : w4.heap.size = a13 := ha13.symm
  have hz4 := hf4.size
  have hz14 := hf14.size
  have hz17 := hf17.size
  have rdk : ∀ {u u' : World} {m : Nat} {l : List UInt8}, Rdr u w14.heap.size g l → u.grownBy u' (some m) → (m < w14.heap.size ∨ g < m) → Rdr u' w14.heap.size g l := fun {u u' m l} hr hk hm => hr.kp (kp_grown hk) (fun k _ hk => by omega) hgg
  have stp : ∀ {u u' : World} {m j : Nat} {o : Obj}, u.grownBy u' (some j) → j ≠ m → u.heap[m]? = some o → u'.heap[m]? = some o := fun {u u' m j o} hk hm ho => (hk.block m (Array.getElem?_eq_some_iff.1 ho).1 (by simp; omega)).trans ho
  have hpt : ([.pointer (some ⟨a13, 0, none⟩), .pointer (some ⟨a13, 0 + 1, none⟩), .pointer (some ⟨a13, 0 + 2, none⟩), .pointer (some ⟨a13, 0 + 3, none⟩), .pointer (some ⟨a13, 0 + 4, none⟩), .pointer (some ⟨a13, 0 + 5, none⟩)] : List Value) = (List.range 6).map fun o => Value.pointer (some ⟨a13, o, none⟩) := rfl
  rw [hpt] at hb18
  refine lpI (fun s' w' => Fr w w' ∧ ∃ (i : Nat) (l' : List UInt8) (ns : List Int), i ≤ 6 ∧ s'.1 = i ∧ ns.length = i ∧ numsS i l = some (ns, l') ∧ Rdr w' w14.heap.size g l' ∧ w'.heap[a1]? = some (.cells (frC z_api_Frame).toArray t_api_Frame (0, 0)) ∧ w'.heap[a13]? = some (.cells (frC (numP ns ⟨none, 0, 0⟩)).toArray t_api_Frame (0, 0)) ∧
      w'.heap[a18]? = some (.cells ((List.range 6).map fun o => Value.pointer (some ⟨a13, o, none⟩)).toArray t_p_int (0, 0))) (fun s' _ => (6 - s'.1).toNat)
    ⟨hf19', 0, l, [], by decide, rfl, rfl, rfl, hr19, hb1, hb13, hb18⟩ ?_
  rintro _ ⟨i', ⟨⟩⟩ w21 ⟨hf21, i, l', ns, hi, rfl, hnl, hns, hr21, h121, h1321, h1821⟩
  dsimp -zeta only
  refine bD ?_ ?_ <;> intro hlt
  · have hi6 : i < 6 := by omega
    refine ixP h1821 (by omega) (by omega) (by rw [Int.toNat_natCast, List.getElem?_map, List.getElem?_range hi6]; rfl) ?_
    refine (Reader_Number_ok hr21).mono ?_
    rintro _ w27 ⟨rfl, hr27, hg27⟩
    dsimp only
    have hf27 := frg hf21 hg27 (by omega)
    refine bNe ?_ ?_ <;> intro hx
    · have hg : getF b = none := by rw [hgc, readF, numsS_bad hns (by omega) (by omega)]
      exact bad hf27 (stp hg27 (by omega) h121) hg (heo hg) fun u' hu => hu
    refine nzS ?_
    refine st0 (stp hg27 (by omega) h1321) (by show i < 7; omega) fun w31 hb31 hg31 hs31 => ?_
    rw [i64w (by omega) (by omega)]
    have hb31' : w31.heap[a13]? = some (.cells (frC (numP (ns ++ [((lookS l').1 : Int)]) ⟨none, 0, 0⟩)).toArray t_api_Frame (0, 0)) := by
      rw [hb31, ← numP_set (by omega), hnl]
    exact ⟨⟨frg hf27 hg31 (by omega), i + 1, _, _, by omega, rfl, by simp [hnl], numsS_some hns (by omega), rdk hr27 hg31 (by omega), stp hg31 (by omega) (stp hg27 (by omega) h121), hb31', stp hg31 (by omega) (stp hg27 (by omega) h1821)⟩, by omega⟩
  obtain rfl : i = 6 := by omega
  have hz21 := hf21.size
  have la1321 := (Array.getElem?_eq_some_iff.1 h1321).1
  refine (Reader_Text_ok (most := 512) hr21).mono ?_
  rintro ⟨x32, e32, ⟨⟩⟩ w33 ⟨he, h32, hr33, hg33⟩
  dsimp only at he h32
  obtain ⟨rfl, _⟩ := Prod.mk.inj he
  dsimp -zeta only
  have hf33 := frg hf21 hg33 (by omega)
  rw [addOff, Nat.zero_add]
  refine st0 (stp hg33 (by omega) h1321) (by show 6 < 7; decide) fun w34 hb34 hg34 hs34 => ?_
  have hb34 : w34.heap[a13]? = some (.cells (frC (numP ns x32)).toArray t_api_Frame (0, 0)) := hb34
  have hf34 := frg hf33 hg34 (by omega)
  have h134 := stp hg34 (by omega) (stp hg33 (by omega) h121)
  have hr34 := rdk hr33 hg34 (by omega)
  have h32' : OwB w34 w.heap.size t_uint8 x32 (rdText l' 512).1 := (h32.mono hz21).kp (kp_grown hg34) fun ad had => by have := (h32.own ad had).1; omega
  have hrf : readF l = _ := readF.eq_1 l
  rw [hns] at hrf
  dsimp only at hrf
  have h32n := h32'.len
  have hmk : fmOf (numP ns x32) (rdText l' 512).1 = mkFm ns (rdText l' 512).1 := rfl
  have hna : ∀ ad, x32.a = some ad → ad.block ≠ a1 := fun ad had => by have := (h32.own ad had).1; omega
  intro j1
  have hj1 : ∀ (y : Bool) (u : World), Fr w34 u → (y = true ↔ ¬((rdText l' 512).2.1 = 0 ∧ l'.drop (rdText l' 512).2.2 = [] ∧ (mkFm ns (rdText l' 512).1).ok)) → j1 y u := by
    intro y u hfu hy
    show bif y then _ else _
    have hfw := hf34.trans hfu
    cases y with
    | true =>
      have hno := hy.1 rfl
      have hg : getF b = none := by
        rw [hgc, hrf]
        by_cases h0 : (rdText l' 512).2.1 = 0
        · rw [if_neg (by omega), if_neg fun h => hno ⟨h0, h⟩]
        · rw [if_pos h0]
      exact bT rfl (bad hfw (hfu.heap h134) hg (heo hg) fun u' hu => hu)
    | false =>
      have hyes : (rdText l' 512).2.1 = 0 ∧ l'.drop (rdText l' 512).2.2 = [] ∧ (mkFm ns (rdText l' 512).1).ok := Decidable.not_not.1 fun h => by have := hy.2 h; cases this
      have hg : getF b = some (mkFm ns (rdText l' 512).1) := by rw [hgc, hrf, if_neg (by omega), if_pos hyes.2]
      refine bF rfl ?_
      refine ldW (k := k_api_Frame) (x := numP ns x32) (hfu.heap hb34) rfl ?_
      refine finF (hfu.heap h134) rfl (numP ns x32) fun u' hg' _ => ⟨?_, frg hfw hg' (by omega)⟩
      exact FGetP.some hg rfl hmk ((h32'.fr hfu).kp (kp_grown hg') hna)
  clear_value j1
  refine bNe ?_ ?_ <;> intro ht
  · exact hj1 true w34 (Fr.refl _) ⟨fun _ h => by omega, fun _ => rfl⟩
  refine (End_ok hr34).mono ?_
  rintro _ _ ⟨rfl, rfl⟩
  by_cases hend : l'.drop (rdText l' 512).2.2 = []
  · rw [if_pos hend]
    refine bF rfl ?_
    refine ldW (k := k_api_Frame) (x := numP ns x32) hb34 rfl ?_
    refine (tCheck_ok (p := numP ns x32)).mono ?_
    rintro _ w39 ⟨rfl, hf39⟩
    refine hj1 _ w39 hf39 ?_
    have hok := okP_of (p := numP ns x32) (b := (rdText l' 512).1) h32n
    rw [hmk] at hok
    rw [bne_iff_ne, chkP]
    by_cases h : okP (numP ns x32)
    · rw [if_pos h]; exact ⟨fun h => absurd rfl h, fun hn => absurd ⟨by omega, hend, hok.1 h⟩ hn⟩
    · rw [if_neg h]; exact ⟨fun _ hh => h (hok.2 hh.2.2), fun _ => by decide⟩
  · rw [if_neg hend]
    refine bT rfl ?_
    exact hj1 true w34 (Fr.refl _) ⟨fun _ h => hend h.2.1, fun _ => rfl⟩
end Go.Proofs.YtoglafmpllimgaaGreatDoor
