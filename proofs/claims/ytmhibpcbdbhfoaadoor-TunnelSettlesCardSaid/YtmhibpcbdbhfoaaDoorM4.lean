/- Contracts and plain laws that the claims of this seat lean on, put together. -/
import Derived.Test.YtmhibpcbdbhfoaaDoorM3
namespace Go.Fl
open Go.RowKit

def intsV (l : List Int) : List Value := l.map (Value.int .i64)
/-- Rows of integers as keys. -/
def keyN {n : Nat} (l : {l : List Int // l.length = n}) : Value := .agg (intsV l.1).toArray
theorem intsV_inj : ∀ {a b : List Int}, intsV a = intsV b → a = b
  | [], [], _ => rfl
  | [], _ :: _, h => by simp [intsV] at h
  | _ :: _, [], h => by simp [intsV] at h
  | x :: a, y :: b, h => by
    simp only [intsV, List.map_cons, List.cons.injEq, Value.int.injEq, true_and] at h
    rw [h.1, intsV_inj (a := a) (b := b) h.2]
theorem sameBits_ints (n : Nat) : ∀ l : List Int, ((intsV l).zip (intsV l)).all (fun (x, y) => Instr.sameBits n x y) = true
  | [] => rfl
  | x :: l => by
    have := sameBits_ints n l
    simp only [intsV, List.map_cons, List.zip_cons_cons, List.all_cons, Bool.and_eq_true] at this ⊢
    exact ⟨by cases n <;> simp [Instr.sameBits], this⟩
theorem run_checkKey_ints {P : Program} (em : Bool) (d : Nat) (t e : TypeId) (n : Nat) (ht : P.underlying t = some (.array n e)) (he : P.underlying e = some (.int .i64)) (hsz : ∀ w, (sizeOf e).run P w = .ok 1 w) (xs : List Int) (hx : xs.length = n) (w : World) :
    (Instr.checkKey em (d + 2) t (.agg (intsV xs).toArray)).run P w = .ok () w := by
  rw [Instr.checkKey]
  simp only [Sem.run_bind, run_underlying ht, Result.andThen_ok, Std.Legacy.Range.forIn_eq_forIn_range', Std.Legacy.Range.size, Nat.sub_zero, Nat.add_sub_cancel, Nat.div_one]
  have hl : ∀ i ∈ List.range' 0 n 1, i < n := fun i hi => by simpa using (List.mem_range'_1.1 hi).2
  generalize List.range' 0 n 1 = l at hl ⊢
  induction l with
  | nil => simp
  | cons i l ih =>
    have hi : i < n := hl i (by simp)
    have px : (part e (intsV xs).toArray (i * 1)).run P w = .ok (.int .i64 (xs.getD i 0)) w := by
      simp [part, isAgg, run_underlying he, intsV, List.getD, List.getElem?_eq_getElem (show i < xs.length by omega)]
    have pc : (Instr.checkKey em (d + 1) e (.int .i64 (xs.getD i 0))).run P w = .ok () w := by
      rw [Instr.checkKey]
      simp [run_underlying he]
    simp only [List.forIn_cons, Sem.run_bind, hsz, px, pc, Result.andThen_ok, Sem.run_pure] at ih ⊢
    exact ih fun j hj => hl j (by simp [hj])
theorem all_range_ints : ∀ (xs ys : List Int), xs.length = ys.length → ((List.range xs.length).all fun i => xs.getD i 0 == ys.getD i 0) = (xs == ys)
  | [], [], _ => rfl
  | x :: xs, y :: ys, h => by
    have ih := all_range_ints xs ys (by simpa using h)
    rw [List.length_cons, List.range_succ_eq_map, List.all_cons, List.all_map]
    simp only [List.getD_cons_zero, Function.comp_def, List.getD_cons_succ, ih]
    simp [List.cons_beq_cons]
  | [], _ :: _, h => by simp at h
  | _ :: _, [], h => by simp at h
theorem run_equalIn_ints {P : Program} (w : World) (d : Nat) (t e : TypeId) (n : Nat) (ht : P.underlying t = some (.array n e)) (he : P.underlying e = some (.int .i64)) (hsz : ∀ w, (sizeOf e).run P w = .ok 1 w)
    (xs ys : List Int) (hx : xs.length = n) (hy : ys.length = n) :
    (Op.equalIn (d + 2) t (.agg (intsV xs).toArray) (.agg (intsV ys).toArray)).run P w = .ok (xs == ys) w := by
  rw [← all_range_ints xs ys (hx.trans hy.symm), hx, List.range_eq_range', Op.equalIn]
  simp only [Sem.run_bind, run_underlying ht, Result.andThen_ok, hsz, Std.Legacy.Range.forIn_eq_forIn_range', Std.Legacy.Range.size, Nat.sub_zero, Nat.add_sub_cancel, Nat.div_one]
  have hl : ∀ i ∈ List.range' 0 n 1, i < n := fun i hi => by simpa using (List.mem_range'_1.1 hi).2
  generalize List.range' 0 n 1 = l at hl ⊢
  induction l with
  | nil => simp
  | cons i l ih =>
    have hi : i < n := hl i (by simp)
    have px : (part e (intsV xs).toArray (i * 1)).run P w = .ok (.int .i64 (xs.getD i 0)) w := by
      simp [part, isAgg, run_underlying he, intsV, List.getD, List.getElem?_eq_getElem (show i < xs.length by omega)]
    have py : (part e (intsV ys).toArray (i * 1)).run P w = .ok (.int .i64 (ys.getD i 0)) w := by
      simp [part, isAgg, run_underlying he, intsV, List.getD, List.getElem?_eq_getElem (show i < ys.length by omega)]
    have pe : (Op.equalIn (d + 1) e (.int .i64 (xs.getD i 0)) (.int .i64 (ys.getD i 0))).run P w = .ok (xs.getD i 0 == ys.getD i 0) w := by
      rw [run_equalIn_int w d e .i64 .i64 _ _ he]
    simp only [List.forIn_cons, Sem.run_bind, px, py, pe, Result.andThen_ok, List.all_cons]
    cases hb : (xs.getD i 0 == ys.getD i 0)
    · simp
    · simp only [Bool.not_true, Bool.false_eq_true, if_false, Sem.run_pure, Result.andThen_ok, Bool.true_and]
      exact ih fun j hj => hl j (by simp [hj])
theorem keyM_ints {P : Program} {t e : TypeId} {n : Nat} (ht : P.underlying t = some (.array n e)) (he : P.underlying e = some (.int .i64)) (hsz : ∀ w, (sizeOf e).run P w = .ok 1 w) : KeyM P t (keyN (n := n)) where
  inj a b h := by
    unfold keyN at h
    rw [Value.agg.injEq] at h
    exact Subtype.ext (intsV_inj (by simpa using h))
  check em w k := run_checkKey_ints em 9998 t e n ht he hsz k.1 k.2 w
  find w k es hes := by
    have heq : ∀ a b : {l : List Int // l.length = n}, ∃ r : Bool, (Op.equal t (keyN a) (keyN b)).run P w = .ok r w ∧ (r = true ↔ a = b) := fun a b =>
      ⟨a.1 == b.1, run_equalIn_ints w 9998 t e n ht he hsz a.1 b.1 a.2 b.2, by rw [beq_iff_eq]; exact Subtype.ext_iff.symm⟩
    have hfind : (Instr.findKey t (keyN k) es).run P w = (Instr.findAsking t (keyN k) es 0).run P w := by
      cases es with
      | nil => simp [Instr.findKey, run_underlying ht, Instr.findNow, Instr.findAsking]
      | cons x es => simp [Instr.findKey, run_underlying ht, Instr.findNow, Instr.sameNow]
    rw [hfind]
    rcases findAsking_of w heq k es 0 hes with ⟨h1, h2⟩ | ⟨j, x, h1, h2, h3⟩
    · exact .inl ⟨h1, fun x hx h => h2 x hx k h rfl⟩
    · exact .inr ⟨j, x, by simpa using h1, h2, h3⟩
  same k := by
    unfold keyN
    simp only [Instr.sameBits, BEq.rfl, Bool.true_and]
    exact sameBits_ints _ _
/-- A map's entries, as a function; each bears a stamp of its own. -/
structure MapB {κ : Type} (key : κ → Value) (es : Array MapEntry) (clock : Nat) (f : κ → Option Value) : Prop where
  ent : ∀ e ∈ es.toList, ∃ k, e.key = key k ∧ f k = some e.val
  nd : (es.toList.map (·.key)).Nodup
  all : ∀ k v, f k = some v → ∃ e ∈ es.toList, e.key = key k ∧ e.val = v
  lt : ∀ e ∈ es.toList, e.born < clock
  bnd : (es.toList.map (·.born)).Nodup
def MapS {κ : Type} (key : κ → Value) (w : World) (r : Nat) (f : κ → Option Value) : Prop := ∃ es clock, w.heap[r]? = some (.map es clock) ∧ MapB key es clock f
/-- An entry that was made, and is to be written. -/
def Ent {κ : Type} [DecidableEq κ] (key : κ → Value) (w : World) (r : Nat) (f : κ → Option Value) (k : κ) (st : Int) : Prop :=
  ∃ es clock j, w.heap[r]? = some (.map es clock) ∧ es.findIdx? (fun e => (e.born : Int) == st) = some j ∧ ∀ v, MapB key (es.modify j fun e => { e with val := v }) clock (fun k' => if k' = k then some v else f k')
theorem findIdx_of_born {l : List MapEntry} (hn : (l.map (·.born)).Nodup) {j : Nat} {e0 : MapEntry} (h : l[j]? = some e0) : l.findIdx? (fun e => ((e.born : Nat) : Int) == ((e0.born : Nat) : Int)) = some j := by
  induction l generalizing j with
  | nil => simp at h
  | cons a r ih =>
    simp only [List.map_cons, List.nodup_cons] at hn
    cases j with
    | zero =>
      simp only [List.getElem?_cons_zero, Option.some.injEq] at h
      subst h
      simp [List.findIdx?_cons]
    | succ j =>
      simp only [List.getElem?_cons_succ] at h
      have hne : a.born ≠ e0.born := fun e1 => hn.1 (List.mem_map.2 ⟨e0, List.mem_of_getElem? h, e1.symm⟩)
      have hb : (((a.born : Nat) : Int) == ((e0.born : Nat) : Int)) = false := by
        rw [beq_eq_false_iff_ne]; omega
      rw [List.findIdx?_cons, hb]
      simp [ih hn.2 h]
theorem findIdx_arr' (xs : Array MapEntry) (p : MapEntry → Bool) : xs.findIdx? p = xs.toList.findIdx? p := by
  cases xs; simp
section
variable {κ : Type} {key : κ → Value} {w : World} {r : Nat} {f : κ → Option Value} {P : Program} {t kt et : TypeId}
theorem MapS.mapF (h : MapS key w r f) : MapF key w r f := by
  obtain ⟨es, clock, h1, h2⟩ := h
  exact ⟨es, clock, h1, h2.ent, h2.nd, h2.all⟩
theorem MapS.sub {w' : World} (h : MapS key w r f) (hb : w'.heap[r]? = w.heap[r]?) : MapS key w' r f := by
  obtain ⟨es, clock, h1, h2⟩ := h
  exact ⟨es, clock, hb.trans h1, h2⟩
theorem MapS.lt (h : MapS key w r f) : r < w.heap.size := h.mapF.lt
theorem rnNewS {Q : Option Nat → World → Prop} (hQ : ∀ m w', m = w.heap.size → MapS key w' m (fun _ => none) → Fr w w' → w'.heap.size = w.heap.size + 1 → Q (some m) w') : rn P (Instr.makeMap t none) .M w Q :=
  ⟨some w.heap.size, w.alloc (.map #[] 0), run_makeMap _ _, hQ _ _ rfl ⟨#[], 0, heap_alloc_new w _, by simp, by simp, by simp, by simp, by simp⟩ (Fr.alloc _ _) (by simp)⟩
variable [DecidableEq κ]
theorem Ent.sub {w' : World} {k : κ} {st : Int} (h : Ent key w r f k st) (hb : w'.heap[r]? = w.heap[r]?) : Ent key w' r f k st := by
  obtain ⟨es, clock, j, h1, h2⟩ := h
  exact ⟨es, clock, j, hb.trans h1, h2⟩
theorem Ent.lt {k : κ} {st : Int} (h : Ent key w r f k st) : r < w.heap.size := by
  obtain ⟨es, clock, j, h1, h2⟩ := h
  exact (Array.getElem?_eq_some_iff.1 h1).1
/-- The value of entry j is another one. -/
theorem MapB.setVal {es : Array MapEntry} {clock : Nat} {g : κ → Option Value} (h : MapB key es clock g) (hinj : ∀ a b, key a = key b → a = b) {j : Nat} {e0 : MapEntry} {k : κ} (hj : es.toList[j]? = some e0) (hk : e0.key = key k) (v : Value) : MapB key (es.modify j fun e => { e with val := v }) clock (fun k' => if k' = k then some v else g k') := by
  have hjl : j < es.toList.length := (List.getElem?_eq_some_iff.1 hj).1
  have e1 : (es.modify j fun e => { e with val := v }).toList = es.toList.set j { e0 with val := v } := by
    apply List.ext_getElem?
    intro i
    rw [Array.toList_modify, List.getElem?_modify, List.getElem?_set]
    by_cases h : j = i
    · subst h
      rw [hj]
      simp only [if_true]
      rw [if_pos hjl]
      rfl
    · simp [h]
  have keys : (es.toList.set j { e0 with val := v }).map (·.key) = es.toList.map (·.key) := by
    rw [List.map_set]
    apply List.ext_getElem?
    intro i
    rw [List.getElem?_set]
    split
    · rename_i h
      subst h
      rw [if_pos (by simpa using hjl), List.getElem?_map, hj]; rfl
    · rfl
  have borns : (es.toList.set j { e0 with val := v }).map (·.born) = es.toList.map (·.born) := by
    rw [List.map_set]
    apply List.ext_getElem?
    intro i
    rw [List.getElem?_set]
    split
    · rename_i h
      subst h
      rw [if_pos (by simpa using hjl), List.getElem?_map, hj]; rfl
    · rfl
  refine ⟨?_, ?_, ?_, ?_, ?_⟩
  all_goals rw [e1]
  · intro x hx
    obtain ⟨i, hi⟩ := List.mem_iff_getElem?.1 hx
    rw [List.getElem?_set] at hi
    by_cases hji : j = i
    · subst hji
      rw [if_pos rfl, if_pos hjl, Option.some.injEq] at hi
      subst hi
      exact ⟨k, hk, if_pos rfl⟩
    · rw [if_neg hji] at hi
      obtain ⟨k', hk', hv⟩ := h.ent x (List.mem_of_getElem? hi)
      refine ⟨k', hk', ?_⟩
      rw [if_neg]
      · exact hv
      · rintro rfl
        have e1 : (es.toList.map (·.key))[i]? = some (key k') := by rw [List.getElem?_map, hi]; simp [hk']
        have e2 : (es.toList.map (·.key))[j]? = some (key k') := by rw [List.getElem?_map, hj]; simp [hk]
        have hil : i < (es.toList.map (·.key)).length := (List.getElem?_eq_some_iff.1 e1).1
        exact hji (((List.getElem?_inj hil h.nd).1 (e1.trans e2.symm)).symm)
  · rw [keys]; exact h.nd
  · intro k' v' hv'
    by_cases hkk : k' = k
    · rw [if_pos hkk] at hv'
      exact ⟨_, List.mem_iff_getElem?.2 ⟨j, by rw [List.getElem?_set, if_pos rfl, if_pos hjl]⟩, by rw [hkk]; exact hk, Option.some.inj hv'⟩
    · rw [if_neg hkk] at hv'
      obtain ⟨x, hx, h5, h6⟩ := h.all k' v' hv'
      obtain ⟨i, hi⟩ := List.mem_iff_getElem?.1 hx
      refine ⟨x, List.mem_iff_getElem?.2 ⟨i, ?_⟩, h5, h6⟩
      rw [List.getElem?_set, if_neg]
      · exact hi
      · rintro rfl
        rw [hj] at hi
        cases hi
        exact hkk (hinj _ _ (h5.symm.trans hk))
  · intro x hx
    obtain ⟨i, hi⟩ := List.mem_iff_getElem?.1 hx
    have := congrArg (fun l => l[i]?) borns
    simp only [List.getElem?_map, hi, Option.map_some] at this
    cases he : es.toList[i]? with
    | none => rw [he] at this; cases this
    | some y =>
      rw [he] at this
      simp only [Option.map_some, Option.some.injEq] at this
      rw [this]
      exact h.lt y (List.mem_of_getElem? he)
  · rw [borns]; exact h.bnd
/-- An entry is made, or found. -/
theorem rnEntry {kd : Kd} (K : KeyM P kt key) (ht : P.underlying t = some (.map kt et)) {z : Value} (hz : ∀ w, (zeroValue et).run P w = .ok z w) (h : MapS key w r f) (k : κ) (x : kd.T) (hx : (kd.av x).val = (f k).getD z) {Q : kd.T × Int × Unit → World → Prop}
    (hQ : ∀ st w', Ent key w' r f k st → w.grownBy w' (some r) → w'.heap.size = w.heap.size → Q (x, st, ()) w') : rn P (Instr.mapEntry t (.map (some r)) (key k)) (.tup (.pair kd (.pair (.I .i64) .nil))) w Q := by
  obtain ⟨es, clock, h1, hB⟩ := h
  have hr : r < w.heap.size := (Array.getElem?_eq_some_iff.1 h1).1
  have hgrow : ∀ o : Obj, w.grownBy { w with heap := w.heap.setIfInBounds r o } (some r) := fun o =>
    ⟨rfl, rfl, rfl, by simp, fun k _ hk => by
      have : r ≠ k := fun e => hk (by rw [e])
      simp [this]⟩
  rcases K.find w k es.toList (fun e he => (hB.ent e he).imp fun k h => h.1) with ⟨hf, hn⟩ | ⟨j, e, hf, hj, hk⟩
  · have hfk : f k = none := by
      cases hfk : f k with
      | none => rfl
      | some v =>
        obtain ⟨e, he, hek, _⟩ := hB.all k v hfk
        exact absurd hek (hn e he)
    have hB' : MapB key (es.push ⟨key k, z, clock⟩) (clock + 1) (fun k' => if k' = k then some z else f k') := by
      refine ⟨fun y hy => ?_, ?_, fun k' v' hv' => ?_, fun y hy => ?_, ?_⟩
      · rw [Array.toList_push, List.mem_append, List.mem_singleton] at hy
        rcases hy with hy | rfl
        · obtain ⟨k', hk', hv⟩ := hB.ent y hy
          exact ⟨k', hk', by rw [if_neg fun e => hn y hy (by rw [hk', e])]; exact hv⟩
        · exact ⟨k, rfl, if_pos rfl⟩
      · rw [Array.toList_push, List.map_append, List.nodup_append]
        refine ⟨hB.nd, by simp, fun a ha b hb => ?_⟩
        simp only [List.map_cons, List.map_nil, List.mem_singleton] at hb
        obtain ⟨y, hy, rfl⟩ := List.mem_map.1 ha
        rw [hb]; exact hn y hy
      · rw [Array.toList_push]
        by_cases e : k' = k
        · rw [if_pos e] at hv'
          exact ⟨_, List.mem_append_right _ (List.mem_singleton.2 rfl), by rw [e], Option.some.inj hv'⟩
        · rw [if_neg e] at hv'
          obtain ⟨y, hy, h5⟩ := hB.all k' v' hv'
          exact ⟨y, List.mem_append_left _ hy, h5⟩
      · rw [Array.toList_push, List.mem_append, List.mem_singleton] at hy
        rcases hy with hy | rfl
        · exact Nat.lt_succ_of_lt (hB.lt y hy)
        · exact Nat.lt_succ_self _
      · rw [Array.toList_push, List.map_append, List.nodup_append]
        refine ⟨hB.bnd, by simp, fun a ha b hb => ?_⟩
        simp only [List.map_cons, List.map_nil, List.mem_singleton] at hb
        obtain ⟨y, hy, rfl⟩ := List.mem_map.1 ha
        have := hB.lt y hy
        omega
    refine ⟨(x, (clock : Int), ()), { w with heap := w.heap.setIfInBounds r (.map (es.push { key := key k, val := z, born := clock }) (clock + 1)) }, ?_, hQ _ _ ⟨es.push ⟨key k, z, clock⟩, clock + 1, es.size, by simp [hr], ?_, fun v => ?_⟩ (hgrow _) (by simp)⟩
    · rw [hfk] at hx
      simp [Instr.mapEntry, run_underlying ht, Go.MapKept.run_getObj_map h1, K.check, hf, hz, Go.MapKept.run_setObj_map _ h1, Kd.av, AV.val, goInt]
      show [z, Value.int .i64 (clock : Int)] = [(kd.av x).val, Value.int .i64 (clock : Int)]
      rw [hx]; rfl
    · rw [findIdx_arr']
      exact findIdx_of_born hB'.bnd (e0 := ⟨key k, z, clock⟩) (by simp)
    · have := hB'.setVal K.inj (j := es.size) (e0 := ⟨key k, z, clock⟩) (k := k) (by simp) rfl v
      refine ⟨this.ent, this.nd, this.all, this.lt, this.bnd⟩ |> fun (hh : MapB key _ _ _) => ?_
      have e : (fun k' => if k' = k then some v else if k' = k then some z else f k') = fun k' => if k' = k then some v else f k' := by
        funext k'
        by_cases h : k' = k <;> simp [h]
      rw [e] at this
      exact this
  · have hjs : j < es.size := by simpa using (List.getElem?_eq_some_iff.1 hj).1
    have hj' : es[j]? = some e := by simpa using hj
    have hfk : f k = some e.val := by
      obtain ⟨k', hk', hv⟩ := hB.ent e (List.mem_of_getElem? hj)
      rw [hk] at hk'
      rw [K.inj _ _ hk']; exact hv
    have hsame : es.modify j (fun e' => { e' with key := key k }) = es := by
      apply Array.ext'
      apply List.ext_getElem?
      intro i
      rw [Array.toList_modify, List.getElem?_modify]
      by_cases h : j = i
      · subst h
        rw [hj, ← hk]
        simp
      · simp [h]
    refine ⟨(x, (e.born : Int), ()), { w with heap := w.heap.setIfInBounds r (.map es clock) }, ?_, hQ _ _ ⟨es, clock, j, by simp [hr], ?_, fun v => hB.setVal K.inj hj hk v⟩ (hgrow _) (by simp)⟩
    · rw [hfk] at hx
      have hs : (Instr.keyThatStays e.key (key k)).run P w = .ok (key k) w := by
        rw [hk]; simp [Instr.keyThatStays, K.same]
      simp [Instr.mapEntry, run_underlying ht, Go.MapKept.run_getObj_map h1, K.check, hf, hj', hs, hsame, Go.MapKept.run_setObj_map _ h1, Kd.av, AV.val, goInt]
      show [e.val, Value.int .i64 (e.born : Int)] = [(kd.av x).val, Value.int .i64 (e.born : Int)]
      rw [hx]; rfl
    · rw [findIdx_arr']
      exact findIdx_of_born hB.bnd hj
/-- The entry is written. -/
theorem ruEntry {k : κ} {st : Int} (h : Ent key w r f k st) (v : Value) {Q : World → Prop}
    (hQ : ∀ w', MapS key w' r (fun k' => if k' = k then some v else f k') → w.grownBy w' (some r) → w'.heap.size = w.heap.size → Q w') : ru P (Instr.entryStore t (.map (some r)) (.int .i64 st) v) w Q := by
  obtain ⟨es, clock, j, h1, h2, h3⟩ := h
  have hr : r < w.heap.size := (Array.getElem?_eq_some_iff.1 h1).1
  refine ⟨{ w with heap := w.heap.setIfInBounds r (.map (es.modify j fun e => { e with val := v }) clock) }, ?_, hQ _ ⟨_, clock, by simp [hr], h3 v⟩ ⟨rfl, rfl, rfl, by simp, fun k _ hk => ?_⟩ (by simp)⟩
  · simp [Instr.entryStore, Go.MapKept.run_getObj_map h1, asInt, asIntOf, h2, Go.MapKept.run_setObj_map _ h1]
  · have : r ≠ k := fun e => hk (by rw [e])
    simp [this]
end
end Go.Fl
namespace Go.Proofs.YtmhibpcbdbhfoaaDoor
open Go.RowKit Go.Fl

theorem KeyM.comp {P : Program} {kt : TypeId} {κ κ' : Type} {key : κ → Value} (K : KeyM P kt key) (i : κ' → κ) (hi : ∀ a b, i a = i b → a = b) : KeyM P kt (fun k => key (i k)) where
  inj _a _b h := hi _ _ (K.inj _ _ h)
  check em w k := K.check em w (i k)
  find w k es hes := K.find w (i k) es fun e he => (hes e he).imp' i fun _ h => h
  same k := K.same (i k)
def key3 (k : Key3) : Value := keyN (n := 3) ⟨[k.1, k.2.1, k.2.2], rfl⟩
theorem keyM3 : KeyM Tryd.prog t_3_int key3 :=
  KeyM.comp (keyM_ints (t := t_3_int) (e := t_int) (by kernel_rfl) (by kernel_rfl) (fun w => by
    have h : (Tryd.prog.info? t_int).isSome = true := by kernel_rfl
    obtain ⟨i, hi⟩ := Option.isSome_iff_exists.1 h
    have hc : Tryd.prog.cellsOf t_int = 1 := by kernel_rfl
    have hs : i.size = 1 := by simpa [Program.cellsOf, hi] using hc
    simp [sizeOf, typeInfo, hi, hs])) (fun k : Key3 => (⟨[k.1, k.2.1, k.2.2], rfl⟩ : {l : List Int // l.length = 3})) fun a b h => by
    have h := congrArg Subtype.val h
    simp only [List.cons.injEq, and_true] at h
    exact Prod.ext h.1 (Prod.ext h.2.1 h.2.2)
/-- Whose a block is. -/
inductive Tag
  | none
  | pair
  | msent
  | mtold
  | bag (s : Bool)
  | sent (k : Key3)
  | told (k : Key3)
  | tun (s : Bool)
deriving DecidableEq
/-- Where a pair's parts lie. -/
structure PShp where
  g : Bool → Nat
  x : Bool → Shp
  bag : Bool → Sl
  bh : Bool → List Sl
  ms : Nat
  mt : Nat
  fS : Key3 → Option Value
  fT : Key3 → Option Value
  rs : Key3 → Sl
  rt : Key3 → Sl
  hS : Key3 → List Sl
  hT : Key3 → List Sl
abbrev prC (y : PShp) : List Value := [.pointer (some ⟨y.g false, 0, none⟩), .pointer (some ⟨y.g true, 0, none⟩), slV (y.bag false), slV (y.bag true), .map (some y.ms), .map (some y.mt)]
abbrev ZT (G : Nat → Prop) (tag : Nat → Tag) : Nat → Prop := fun k => G k ∨ tag k ≠ .none
/-- Rows of a map. -/
structure RowsW (w : World) (Z : Nat → Prop) (tag : Nat → Tag) (tg : Key3 → Tag) (m : Nat) (f : Key3 → Option Value) (r : Key3 → Sl) (h : Key3 → List Sl) (L : Key3 → Rows8) : Prop where
  map : MapS key3 w m f
  rows : ∀ k, (f k = none ∧ L k = []) ∨ (f k = some (slV (r k)) ∧ OwS w 0 t_s_uint8 (r k) (h k) ∧ All2 (Cb w Z) (h k) (L k) ∧ ∀ j, BK (r k) j → tag j = tg k)
/-- A pair. -/
structure PairW (w : World) (G : Nat → Prop) (tag : Nat → Tag) (gp : Nat) (p : Pr) (y : PShp) : Prop where
  cells : w.heap[gp]? = some (.cells (prC y).toArray t_flumelaw12_pair (0, 0))
  tgp : tag gp = .pair
  tms : tag y.ms = .msent
  tmt : tag y.mt = .mtold
  lt : ∀ k, tag k ≠ .none → k < w.heap.size
  gl : ∀ k, G k → k < w.heap.size
  gt : ∀ k, G k → tag k = .none
  tun : ∀ s, Tun w (fun k => G k ∨ (tag k ≠ .none ∧ tag k ≠ .tun s)) (fun k => tag k = .tun s) (y.g s) (p.t s) (y.x s)
  bag : ∀ s, OwS w 0 t_s_uint8 (y.bag s) (y.bh s) ∧ All2 (Cb w (ZT G tag)) (y.bh s) (p.bag s) ∧ ∀ k, BK (y.bag s) k → tag k = .bag s
  sent : RowsW w (ZT G tag) tag .sent y.ms y.fS y.rs y.hS p.sent
  told : RowsW w (ZT G tag) tag .told y.mt y.fT y.rt y.hT p.told
/-- Rows, behind something that did not touch them. -/
theorem RowsW.mv {w w' : World} {Z Z' E : Nat → Prop} {tag tag' : Nat → Tag} {tg : Key3 → Tag} {m : Nat} {f : Key3 → Option Value} {r : Key3 → Sl} {h : Key3 → List Sl} {L : Key3 → Rows8} (hr : RowsW w Z tag tg m f r h L) (hm : Mv E w w')
    (hEm : ¬E m) (hE : ∀ k, E k → Z k ∨ w.heap.size ≤ k) (hZ : ∀ k, Z' k → Z k ∨ w.heap.size ≤ k) (hEt : ∀ k j, tag j = tg k → ¬E j) (ht : ∀ k j, j < w.heap.size → tag j = tg k → tag' j = tg k) : RowsW w' Z' tag' tg m f r h L := by
  refine ⟨hr.map.sub (hm.block m hr.map.lt hEm), fun k => ?_⟩
  rcases hr.rows k with h0 | ⟨h1, h2, h3, h4⟩
  · exact .inl h0
  · exact .inr ⟨h1, h2.mv hm fun ad ha he => hEt k _ (h4 _ ⟨ad, ha, rfl⟩) he, h3.mono fun a b _ _ hc => hc.mv hm hE hZ, fun j hj => by
      obtain ⟨ad, ha, e⟩ := hj
      exact ht k j (by rw [← e]; exact (h2.own ad ha).2) (h4 j ⟨ad, ha, e⟩)⟩
open Classical in
/-- The owners, when a tunnel has other blocks now. -/
noncomputable def tagT (tag : Nat → Tag) (s : Bool) (F' : Nat → Prop) : Nat → Tag := fun k => if F' k then .tun s else if tag k = .tun s then .none else tag k
section
variable {w w' : World} {G : Nat → Prop} {tag : Nat → Tag} {gp : Nat} {p : Pr} {y : PShp} {s : Bool}
theorem tagT_tun {F' : Nat → Prop} {k : Nat} : tagT tag s F' k = .tun s ↔ F' k := by
  unfold tagT
  split
  · rename_i h; exact ⟨fun _ => h, fun _ => rfl⟩
  · rename_i h
    split
    · exact ⟨(fun e => by cases e), fun e => absurd e h⟩
    · rename_i h2; exact ⟨fun e => absurd e h2, fun e => absurd e h⟩
theorem tagT_other {F' : Nat → Prop} (hF : ∀ k, F' k → tag k = .tun s ∨ tag k = .none) {T : Tag} (h1 : T ≠ .tun s) (h2 : T ≠ .none) {k : Nat} : tagT tag s F' k = T ↔ tag k = T := by
  unfold tagT
  split
  · rename_i h
    refine ⟨fun e => absurd e.symm h1, fun e => ?_⟩
    rcases hF k h with h3 | h3
    · rw [h3] at e; exact absurd e.symm h1
    · rw [h3] at e; exact absurd e.symm h2
  · split
    · rename_i h3
      exact ⟨fun e => absurd e.symm h2, fun e => by rw [h3] at e; exact absurd e.symm h1⟩
    · exact Iff.rfl
theorem tagT_ne {F' : Nat → Prop} {k : Nat} (h : tagT tag s F' k ≠ .none) : F' k ∨ tag k ≠ .none := by
  unfold tagT at h
  split at h
  · rename_i h1; exact .inl h1
  · split at h
    · exact absurd rfl h
    · exact .inr h
/-- A pair that went on. -/
def PairTo (w w' : World) (G : Nat → Prop) (tag : Nat → Tag) (gp : Nat) (p : Pr) : Prop :=
  ∃ tag' y', PairW w' G tag' gp p y' ∧ Mv (fun k => tag k ≠ .none) w w' ∧ ∀ k, tag' k ≠ .none → tag k ≠ .none ∨ w.heap.size ≤ k
/-- One of the tunnels acts: the owners are known. -/
theorem PairW.act1 (h : PairW w G tag gp p y) {t' : Tn} {F' : Nat → Prop} {x' : Shp} (t1 : Tun w' (fun k => G k ∨ (tag k ≠ .none ∧ tag k ≠ .tun s)) F' (y.g s) t' x') (m1 : Mv (fun k => tag k = .tun s) w w') (f1 : ∀ k, F' k → tag k = .tun s ∨ w.heap.size ≤ k) :
    PairW w' G (tagT tag s F') gp { p with t := setB p.t s t' } { y with x := setB y.x s x' } ∧ Mv (fun k => tag k ≠ .none) w w' ∧ ∀ k, tagT tag s F' k ≠ .none → tag k ≠ .none ∨ w.heap.size ≤ k := by
  have hF : ∀ k, F' k → tag k = .tun s ∨ tag k = .none := fun k hk => by
    rcases f1 k hk with h1 | h1
    · exact .inl h1
    · right
      apply Classical.byContradiction
      intro hn
      have := h.lt k hn
      omega
  have hne : ∀ k, tagT tag s F' k ≠ .none → tag k ≠ .none ∨ w.heap.size ≤ k := fun k hk => by
    rcases tagT_ne hk with h1 | h1
    · rcases f1 k h1 with h2 | h2
      · left; rw [h2]; exact fun e => by cases e
      · exact .inr h2
    · exact .inl h1
  have hEZ : ∀ k, tag k = .tun s → ZT G tag k ∨ w.heap.size ≤ k := fun k hk => .inl (.inr (by rw [hk]; exact fun e => by cases e))
  have hZ : ∀ k, ZT G (tagT tag s F') k → ZT G tag k ∨ w.heap.size ≤ k := fun k hk => by
    rcases hk with hk | hk
    · exact .inl (.inl hk)
    · exact (hne k hk).imp .inr id
  have oth : ∀ {T : Tag}, T ≠ .tun s → T ≠ .none → ∀ k, (tagT tag s F' k = T ↔ tag k = T) := fun h1 h2 k => tagT_other hF h1 h2
  have hz := m1.size
  refine ⟨⟨m1.heap h.cells (by rw [h.tgp]; exact fun e => by cases e), (oth (by exact fun e => by cases e) (by exact fun e => by cases e) gp).2 h.tgp, (oth (by exact fun e => by cases e) (by exact fun e => by cases e) _).2 h.tms, (oth (by exact fun e => by cases e) (by exact fun e => by cases e) _).2 h.tmt, fun k hk => ?_, fun k hk => by have := h.gl k hk; omega, fun k hk => ?_, fun u => ?_, fun u => ?_, ?_, ?_⟩, m1.mono fun k hk => .inl (by rw [hk]; exact fun e => by cases e), hne⟩
  · rcases tagT_ne hk with h1 | h1
    · exact t1.fl k h1
    · have := h.lt k h1; omega
  · apply Classical.byContradiction
    intro hn
    rcases tagT_ne hn with h1 | h1
    · exact t1.gf k (.inl hk) h1
    · exact h1 (h.gt k hk)
  · rcases bool_cases s u with hu | hu
    · subst hu
      show Tun w' _ _ (y.g u) (setB p.t u t' u) (setB y.x u x' u)
      rw [setB_same, setB_same]
      have eF : (fun k => tagT tag u F' k = .tun u) = F' := funext fun k => propext tagT_tun
      rw [eF]
      refine t1.anti fun k hk => ?_
      rcases hk with hk | ⟨h1, h2⟩
      · exact .inl hk
      · have h3 := (oth h2 h1 k).1 rfl
        rw [← h3] at h1 h2
        exact .inr ⟨h1, h2⟩
    · subst hu
      show Tun w' _ _ (y.g (!s)) (setB p.t s t' (!s)) (setB y.x s x' (!s))
      rw [setB_other, setB_other]
      have hsn : (Tag.tun (!s)) ≠ .tun s := fun e => by injection e with e; cases s <;> cases e
      have eF : (fun k => tagT tag s F' k = .tun (!s)) = fun k => tag k = .tun (!s) := funext fun k => propext (oth hsn (fun e => by cases e) k)
      rw [eF]
      refine (h.tun (!s)).other m1 (fun k hk => .inl ⟨.inr ⟨(by rw [hk]; exact fun e => (by cases e)), (by rw [hk]; exact fun e => hsn e.symm)⟩, (by rw [hk]; exact fun e => hsn e.symm)⟩) (fun k hk => ?_) fun k hk => ?_
      · rcases hk with hk | ⟨h1, h2⟩
        · exact .inl (.inl hk)
        · rcases hne k h1 with h3 | h3
          · exact .inl (.inr ⟨h3, fun e => h2 ((oth hsn (fun e => by cases e) k).2 e)⟩)
          · exact .inr h3
      · rcases hk with hk | ⟨h1, h2⟩
        · have := h.gl k hk; omega
        · rcases tagT_ne h1 with h3 | h3
          · exact t1.fl k h3
          · have := h.lt k h3; omega
  · obtain ⟨b1, b2, b3⟩ := h.bag u
    refine ⟨b1.mv m1 fun ad ha e => ?_, b2.mono fun a c _ _ hc => hc.mv m1 hEZ hZ, fun k hk => (oth (fun e => by cases e) (fun e => by cases e) k).2 (b3 k hk)⟩
    rw [b3 _ ⟨ad, ha, rfl⟩] at e; cases e
  · exact h.sent.mv m1 (by rw [h.tms]; exact fun e => by cases e) hEZ hZ (fun k j hj e => by rw [hj] at e; cases e) fun k j _ hj => (oth (fun e => by cases e) (fun e => by cases e) j).2 hj
  · exact h.told.mv m1 (by rw [h.tmt]; exact fun e => by cases e) hEZ hZ (fun k j hj e => by rw [hj] at e; cases e) fun k j _ hj => (oth (fun e => by cases e) (fun e => by cases e) j).2 hj
/-- One of the tunnels acts. -/
theorem PairW.act (h : PairW w G tag gp p y) {t' : Tn} (ht : TunTo w w' (fun k => G k ∨ (tag k ≠ .none ∧ tag k ≠ .tun s)) (fun k => tag k = .tun s) (y.g s) t') : PairTo w w' G tag gp { p with t := setB p.t s t' } := by
  obtain ⟨F', x', t1, m1, f1⟩ := ht
  obtain ⟨h1, h2, h3⟩ := h.act1 t1 m1 f1
  exact ⟨_, _, h1, h2, h3⟩
end
end Go.Proofs.YtmhibpcbdbhfoaaDoor
namespace Go.Proofs.YtmhibpcbdbhfoaaDoor
open Go.RowKit Go.Fl

def tag0 (ga gb ms mt gp : Nat) : Nat → Tag := fun k => if k = ga then .tun false else if k = gb then .tun true else if k = ms then .msent else if k = mt then .mtold else if k = gp then .pair else .none
theorem build_two (a b : Option Addr) (w : World) : (Instr.build t_2_p_tunnel_Tunnel #[(0, .pointer a), (1, .pointer b)]).run Tryd.prog w = .ok (.agg #[.pointer a, .pointer b]) w := by
  simp [Instr.build, run_underlying u_2_p_tunnel_Tunnel, Instr.fill, Value.cells]
theorem build_three (a b c : Int) (w : World) : (Instr.build t_3_int #[(0, .int .i64 a), (1, .int .i64 b), (2, .int .i64 c)]).run Tryd.prog w = .ok (.agg #[.int .i64 a, .int .i64 b, .int .i64 c]) w := by
  simp [Instr.build, run_underlying u_3_int, Instr.fill, Value.cells]
theorem begun_ok {w : World} {G : Nat → Prop} (hd : Crc w) (hG : ∀ k, G k → k < w.heap.size) (hG0 : ¬G g_sums_nibbles) :
    cl Tryd.prog n_flumelaw12_begun #[] .P w fun (r : Option Addr) w' => ∃ tag gp y, r = some ⟨gp, 0, none⟩ ∧ PairW w' G tag gp pr0 y ∧ Fr w w' ∧ ∀ k, tag k ≠ .none → w.heap.size ≤ k := by
  refine flumelaw12_begun.cl ?_
  unfold flumelaw12_begun
  refine (tNew_ok (G := G) hd hG hG0).mono ?_
  rintro r1 w2 ⟨h1, hf2⟩
  rw [if_pos (by decide)] at h1
  obtain ⟨ga, xa, rfl, hga, ta⟩ := h1
  refine (tNew_ok (G := fun k => G k ∨ k = ga) (hd.fr hf2) (fun k hk => by rcases hk with hk | hk; exact ta.gl k hk; rw [hk]; exact tun_lt ta) fun h => by rcases h with h | h; exact hG0 h; have := hd.lt; omega).mono ?_
  rintro r2 w4 ⟨h2, hf4⟩
  rw [if_pos (by decide)] at h2
  obtain ⟨gb, xb, rfl, hgb, tb⟩ := h2
  have hz2 := hf2.size
  have hz4 := hf4.size
  refine ⟨⟨[.pointer (some ⟨ga, 0, none⟩), .pointer (some ⟨gb, 0, none⟩)], rfl⟩, fun w' _ => build_two _ _ w', ?_⟩
  refine rnNewS (key := key3) fun ms w7 hms hS hf7 hs7 => ?_
  refine rnNewS (key := key3) fun mt w9 hmt hT hf9 hs9 => ?_
  refine nwI fun gp w11 hgp hs11 hf11 hb11 _ => ?_
  have hb11 : w11.heap[gp]? = some (.cells #[.pointer (some ⟨ga, 0, none⟩), .pointer (some ⟨gb, 0, none⟩), .slice none 0 0, .slice none 0 0, .map (some ms), .map (some mt)] t_flumelaw12_pair (0, 0)) := hb11
  have hla := tun_lt ta
  have hlb := tun_lt tb
  have hf4e := (hf7.trans hf9).trans hf11
  have hfe := (hf2.trans hf4).trans hf4e
  let y : PShp := ⟨fun s => if s then gb else ga, fun s => if s then xb else xa, fun _ => ⟨none, 0, 0⟩, fun _ => [], ms, mt, fun _ => none, fun _ => none, fun _ => ⟨none, 0, 0⟩, fun _ => ⟨none, 0, 0⟩, fun _ => [], fun _ => []⟩
  have hne : ga ≠ gb ∧ ga ≠ ms ∧ ga ≠ mt ∧ ga ≠ gp ∧ gb ≠ ms ∧ gb ≠ mt ∧ gb ≠ gp ∧ ms ≠ mt ∧ ms ≠ gp ∧ mt ≠ gp := by omega
  obtain ⟨n1, n2, n3, n4, n5, n6, n7, n8, n9, n10⟩ := hne
  have htag : ∀ k, tag0 ga gb ms mt gp k ≠ .none → k = ga ∨ k = gb ∨ k = ms ∨ k = mt ∨ k = gp := fun k hk => by
    unfold tag0 at hk
    by_cases h1 : k = ga
    · exact .inl h1
    rw [if_neg h1] at hk
    by_cases h2 : k = gb
    · exact .inr (.inl h2)
    rw [if_neg h2] at hk
    by_cases h3 : k = ms
    · exact .inr (.inr (.inl h3))
    rw [if_neg h3] at hk
    by_cases h4 : k = mt
    · exact .inr (.inr (.inr (.inl h4)))
    rw [if_neg h4] at hk
    by_cases h5 : k = gp
    · exact .inr (.inr (.inr (.inr h5)))
    rw [if_neg h5] at hk
    exact absurd rfl hk
  have hta : ∀ k, tag0 ga gb ms mt gp k = .tun false ↔ k = ga := fun k => by
    unfold tag0
    by_cases h1 : k = ga
    · simp [h1]
    · rw [if_neg h1]
      refine ⟨fun h => ?_, fun h => absurd h h1⟩
      repeat' split at h
      all_goals cases h
  have htb : ∀ k, tag0 ga gb ms mt gp k = .tun true ↔ k = gb := fun k => by
    unfold tag0
    by_cases h2 : k = gb
    · subst h2
      simp [Ne.symm n1]
    · refine ⟨fun h => ?_, fun h => absurd h h2⟩
      rw [if_neg h2] at h
      repeat' split at h
      all_goals cases h
  have hG' : ∀ k, G k → k < w.heap.size := hG
  have hlt : ∀ k, tag0 ga gb ms mt gp k ≠ .none → w.heap.size ≤ k ∧ k < w11.heap.size := fun k hk => by
    rcases htag k hk with h | h | h | h | h <;> omega
  refine ⟨tag0 ga gb ms mt gp, gp, y, rfl, ⟨hb11, ?_, ?_, ?_, fun k hk => (hlt k hk).2, fun k hk => by have := hG k hk; omega, fun k hk => ?_, fun s => ?_, fun s => ⟨OwS.nil _ _ _, trivial, fun k hk => absurd hk BK.none⟩, ⟨?_, fun k => .inl ⟨rfl, rfl⟩⟩, ⟨?_, fun k => .inl ⟨rfl, rfl⟩⟩⟩, hfe, fun k hk => (hlt k hk).1⟩
  · unfold tag0
    rw [if_neg (Ne.symm n4), if_neg (Ne.symm n7), if_neg (Ne.symm n9), if_neg (Ne.symm n10), if_pos rfl]
  · show tag0 ga gb ms mt gp ms = _
    unfold tag0
    rw [if_neg (Ne.symm n2), if_neg (Ne.symm n5), if_pos rfl]
  · show tag0 ga gb ms mt gp mt = _
    unfold tag0
    rw [if_neg (Ne.symm n3), if_neg (Ne.symm n6), if_neg (Ne.symm n8), if_pos rfl]
  · apply Classical.byContradiction
    intro hn
    have := (hlt k hn).1
    have := hG k hk
    omega
  · cases s
    · show Tun w11 _ _ ga (tn0 1000) xa
      have eF : (fun k => tag0 ga gb ms mt gp k = .tun false) = fun k => k = ga := funext fun k => propext (hta k)
      rw [eF]
      refine ta.other (E := fun _ => False) (Mv.of_fr (hf4.trans hf4e)) (fun _ h => h.elim) (fun k hk => ?_) fun k hk => ?_
      · rcases hk with hk | ⟨h1, h2⟩
        · exact .inl hk
        · right
          rcases htag k h1 with h | h | h | h | h
          · exact absurd ((hta k).2 h) h2
          all_goals omega
      · rcases hk with hk | ⟨h1, _⟩
        · have := hG k hk; omega
        · exact (hlt k h1).2
    · show Tun w11 _ _ gb (tn0 5000) xb
      have eF : (fun k => tag0 ga gb ms mt gp k = .tun true) = fun k => k = gb := funext fun k => propext (htb k)
      rw [eF]
      refine tb.other (E := fun _ => False) (Mv.of_fr hf4e) (fun _ h => h.elim) (fun k hk => ?_) fun k hk => ?_
      · rcases hk with hk | ⟨h1, h2⟩
        · exact .inl (.inl hk)
        · rcases htag k h1 with h | h | h | h | h
          · exact .inl (.inr h)
          · exact absurd ((htb k).2 h) h2
          all_goals (right; omega)
      · rcases hk with hk | ⟨h1, _⟩
        · have := hG k hk; omega
        · exact (hlt k h1).2
  · exact (hS.sub ((hf9.trans hf11).block _ hS.lt))
  · exact (hT.sub (hf11.block _ hT.lt))
end Go.Proofs.YtmhibpcbdbhfoaaDoor
namespace Go.Proofs.YtmhibpcbdbhfoaaDoor
open Go.RowKit Go.Fl

open Classical in
/-- The owners, when a thing of owner T lies in another block now. -/
noncomputable def tagB (tag : Nat → Tag) (T : Tag) (r : Sl) : Nat → Tag := fun k => if BK r k then T else if tag k = T then .none else tag k
section
variable {w w' : World} {G : Nat → Prop} {tag : Nat → Tag} {gp : Nat} {p : Pr} {y : PShp} {T : Tag} {r : Sl}
theorem tagB_own {k : Nat} (h : BK r k) : tagB tag T r k = T := if_pos h
theorem tagB_other (hr : ∀ k, BK r k → tag k = T ∨ tag k = .none) {U : Tag} (h1 : U ≠ T) (h2 : U ≠ .none) {k : Nat} : tagB tag T r k = U ↔ tag k = U := by
  unfold tagB
  split
  · rename_i h
    refine ⟨fun e => absurd e.symm h1, fun e => ?_⟩
    rcases hr k h with h3 | h3
    · rw [h3] at e; exact absurd e.symm h1
    · rw [h3] at e; exact absurd e.symm h2
  · split
    · rename_i h3
      exact ⟨fun e => absurd e.symm h2, fun e => by rw [h3] at e; exact absurd e.symm h1⟩
    · exact Iff.rfl
theorem tagB_ne {k : Nat} (h : tagB tag T r k ≠ .none) : BK r k ∨ tag k ≠ .none := by
  unfold tagB at h
  split at h
  · rename_i h1; exact .inl h1
  · split at h
    · exact absurd rfl h
    · exact .inr h
theorem PairW.bagSet (h : PairW w G tag gp p y) {u : Bool} {E : Nat → Prop} {hs' : List Sl} {ls : Rows8} (m : Mv E w w') (hE : ∀ k, E k → tag k = .pair ∨ tag k = .bag u) (hr : ∀ k, BK r k → tag k = .bag u ∨ w.heap.size ≤ k) (hl : ∀ k, BK r k → k < w'.heap.size ∧ ¬G k)
    (ho : OwS w' 0 t_s_uint8 r hs') (hc : All2 (Cb w' (ZT G (tagB tag (.bag u) r))) hs' ls) (hcells : w'.heap[gp]? = some (.cells (prC { y with bag := setB y.bag u r }).toArray t_flumelaw12_pair (0, 0))) :
    PairW w' G (tagB tag (.bag u) r) gp { p with bag := setB p.bag u ls } { y with bag := setB y.bag u r, bh := setB y.bh u hs' } ∧ Mv (fun k => tag k ≠ .none) w w' ∧ ∀ k, tagB tag (.bag u) r k ≠ .none → tag k ≠ .none ∨ w.heap.size ≤ k := by
  have hrn : ∀ k, BK r k → tag k = .bag u ∨ tag k = .none := fun k hk => by
    rcases hr k hk with h1 | h1
    · exact .inl h1
    · right
      apply Classical.byContradiction
      intro hn
      have := h.lt k hn
      omega
  have hne : ∀ k, tagB tag (.bag u) r k ≠ .none → tag k ≠ .none ∨ w.heap.size ≤ k := fun k hk => by
    rcases tagB_ne hk with h1 | h1
    · rcases hr k h1 with h2 | h2
      · left; rw [h2]; exact fun e => by cases e
      · exact .inr h2
    · exact .inl h1
  have hEn : ∀ k, E k → tag k ≠ .none := fun k hk => by
    rcases hE k hk with h1 | h1 <;> rw [h1] <;> exact fun e => by cases e
  have hEZ : ∀ k, E k → ZT G tag k ∨ w.heap.size ≤ k := fun k hk => .inl (.inr (hEn k hk))
  have hZ : ∀ k, ZT G (tagB tag (.bag u) r) k → ZT G tag k ∨ w.heap.size ≤ k := fun k hk => by
    rcases hk with hk | hk
    · exact .inl (.inl hk)
    · exact (hne k hk).imp .inr id
  have oth : ∀ {U : Tag}, U ≠ .bag u → U ≠ .none → ∀ k, (tagB tag (.bag u) r k = U ↔ tag k = U) := fun h1 h2 k => tagB_other hrn h1 h2
  have hnE : ∀ {U : Tag} {k : Nat}, tag k = U → U ≠ .pair → U ≠ .bag u → ¬E k := fun {U k} e h1 h2 he => by
    rcases hE k he with h3 | h3
    · exact h1 (e.symm.trans h3)
    · exact h2 (e.symm.trans h3)
  have hz := m.size
  refine ⟨⟨hcells, (oth (fun e => by cases e) (fun e => by cases e) gp).2 h.tgp, (oth (fun e => by cases e) (fun e => by cases e) _).2 h.tms, (oth (fun e => by cases e) (fun e => by cases e) _).2 h.tmt, fun k hk => ?_, fun k hk => by have := h.gl k hk; omega, fun k hk => ?_, fun s => ?_, fun s => ?_, ?_, ?_⟩, m.mono fun k hk => .inl (hEn k hk), hne⟩
  · rcases tagB_ne hk with h1 | h1
    · exact (hl k h1).1
    · have := h.lt k h1; omega
  · apply Classical.byContradiction
    intro hn
    rcases tagB_ne hn with h1 | h1
    · exact (hl k h1).2 hk
    · exact h1 (h.gt k hk)
  · have eF : (fun k => tagB tag (.bag u) r k = .tun s) = fun k => tag k = .tun s := funext fun k => propext (oth (fun e => by cases e) (fun e => by cases e) k)
    show Tun w' _ _ (y.g s) (p.t s) (y.x s)
    rw [eF]
    refine (h.tun s).other m (fun k hk => .inl ⟨.inr ⟨hEn k hk, fun e => hnE e (fun e => by cases e) (fun e => by cases e) hk⟩, fun e => hnE e (fun e => by cases e) (fun e => by cases e) hk⟩) (fun k hk => ?_) fun k hk => ?_
    · rcases hk with hk | ⟨h1, h2⟩
      · exact .inl (.inl hk)
      · rcases hne k h1 with h3 | h3
        · exact .inl (.inr ⟨h3, fun e => h2 ((oth (fun e => by cases e) (fun e => by cases e) k).2 e)⟩)
        · exact .inr h3
    · rcases hk with hk | ⟨h1, _⟩
      · have := h.gl k hk; omega
      · rcases tagB_ne h1 with h3 | h3
        · exact (hl k h3).1
        · have := h.lt k h3; omega
  · rcases bool_cases u s with hu | hu
    · subst hu
      show OwS w' 0 t_s_uint8 (setB y.bag s r s) (setB y.bh s hs' s) ∧ All2 _ (setB y.bh s hs' s) (setB p.bag s ls s) ∧ ∀ k, BK (setB y.bag s r s) k → _
      rw [setB_same, setB_same, setB_same]
      exact ⟨ho, hc, fun k hk => tagB_own hk⟩
    · subst hu
      show OwS w' 0 t_s_uint8 (setB y.bag u r (!u)) (setB y.bh u hs' (!u)) ∧ All2 _ (setB y.bh u hs' (!u)) (setB p.bag u ls (!u)) ∧ ∀ k, BK (setB y.bag u r (!u)) k → _
      rw [setB_other, setB_other, setB_other]
      obtain ⟨b1, b2, b3⟩ := h.bag (!u)
      have hun : Tag.bag (!u) ≠ .bag u := fun e => by injection e with e; cases u <;> cases e
      exact ⟨b1.mv m fun ad ha => hnE (b3 _ ⟨ad, ha, rfl⟩) (fun e => by cases e) hun, b2.mono fun a c _ _ hc => hc.mv m hEZ hZ, fun k hk => (oth hun (fun e => by cases e) k).2 (b3 k hk)⟩
  · exact h.sent.mv m (hnE h.tms (fun e => by cases e) (fun e => by cases e)) hEZ hZ (fun k j hj => hnE hj (fun e => by cases e) (fun e => by cases e)) fun k j _ hj => (oth (fun e => by cases e) (fun e => by cases e) j).2 hj
  · exact h.told.mv m (hnE h.tmt (fun e => by cases e) (fun e => by cases e)) hEZ hZ (fun k j hj => hnE hj (fun e => by cases e) (fun e => by cases e)) fun k j _ hj => (oth (fun e => by cases e) (fun e => by cases e) j).2 hj
end
end Go.Proofs.YtmhibpcbdbhfoaaDoor
namespace Go.Proofs.YtmhibpcbdbhfoaaDoor
open Go.RowKit Go.Fl

section
variable {w w' : World} {G : Nat → Prop} {tag : Nat → Tag} {gp : Nat} {p : Pr} {y : PShp}
theorem PairTo.refl (h : PairW w G tag gp p y) : PairTo w w G tag gp p := ⟨tag, y, h, Mv.refl _ _, fun _ h => .inl h⟩
theorem PairTo.step {w1 w2 : World} {tag1 : Nat → Tag} (m : Mv (fun k => tag k ≠ .none) w w1) (ht : ∀ k, tag1 k ≠ .none → tag k ≠ .none ∨ w.heap.size ≤ k) (h : PairTo w1 w2 G tag1 gp p) : PairTo w w2 G tag gp p := by
  obtain ⟨tag2, y2, h1, h2, h3⟩ := h
  refine ⟨tag2, y2, h1, m.trans h2 ht, fun k hk => ?_⟩
  rcases h3 k hk with h4 | h4
  · exact ht k h4
  · exact .inr (Nat.le_trans m.size h4)
/-- Nothing of it turned. -/
theorem PairW.fr (h : PairW w G tag gp p y) (hf : Fr w w') : PairW w' G tag gp p y := by
  have m : Mv (fun _ => False) w w' := Mv.of_fr hf
  have hz := hf.size
  refine ⟨hf.heap h.cells, h.tgp, h.tms, h.tmt, fun k hk => by have := h.lt k hk; omega, fun k hk => by have := h.gl k hk; omega, h.gt, fun s => (h.tun s).fr hf, fun s => ?_, ?_, ?_⟩
  · obtain ⟨b1, b2, b3⟩ := h.bag s
    exact ⟨b1.fr hf, b2.mono fun a c _ _ hc => hc.mv m (fun _ h => h.elim) fun k hk => .inl hk, b3⟩
  · exact h.sent.mv m (fun h => h) (fun _ h => h.elim) (fun k hk => .inl hk) (fun _ _ _ h => h) fun _ _ _ h => h
  · exact h.told.mv m (fun h => h) (fun _ h => h.elim) (fun k hk => .inl hk) (fun _ _ _ h => h) fun _ _ _ h => h
/-- The struct's cells for a side. -/
theorem PairW.ptr (h : PairW w G tag gp p y) {i : Nat} {s : Bool} (hi : (i : Int) = sideI s) {K : Option Addr → Prop} (hk : K (some ⟨y.g s, 0, none⟩)) : ixa (some ⟨gp, 0, none⟩) 2 (i : Int) 1 fun a => ld .P w a K := by
  cases s
  · obtain rfl : i = 0 := by unfold sideI at hi; simp at hi; omega
    exact ix1 (by omega) (ldP0 h.cells rfl hk)
  · obtain rfl : i = 1 := by unfold sideI at hi; simp at hi; omega
    exact ix1 (by omega) (ldP0 h.cells rfl hk)
theorem ix1o {g o n i : Nat} {K : Addr → Prop} (hi : i < n) (h : K ⟨g, o + i, none⟩) : ixa (some ⟨g, o, none⟩) n (i : Int) 1 K := by
  refine ⟨by omega, by omega, ?_⟩
  show K (atOff ⟨g, o, none⟩ (i : Int) 1)
  rw [atOff_eq, addOff, Int.toNat_natCast, Nat.mul_one]
  exact h
theorem PairW.bagp (h : PairW w G tag gp p y) {i : Nat} {s : Bool} (hi : (i : Int) = sideI s) {K : Sl → Prop} (hk : K (y.bag s)) : ixa (some ((⟨gp, 0, none⟩ : Addr).add 2)) 2 (i : Int) 1 fun a => ld .L w a K := by
  rw [addOff]
  cases s
  · obtain rfl : i = 0 := by unfold sideI at hi; simp at hi; omega
    exact ix1o (by omega) (ldL0 (s := y.bag false) h.cells rfl hk)
  · obtain rfl : i = 1 := by unfold sideI at hi; simp at hi; omega
    exact ix1o (by omega) (ldL0 (s := y.bag true) h.cells rfl hk)
/-- A bag's slice is written. -/
theorem st_bag {r : Sl} {i : Nat} {u : Bool} (hi : (i : Int) = sideI u) (hc : w.heap[gp]? = some (.cells (prC y).toArray t_flumelaw12_pair (0, 0))) {J : World → Prop}
    (hJ : ∀ w', w'.heap[gp]? = some (.cells (prC { y with bag := setB y.bag u r }).toArray t_flumelaw12_pair (0, 0)) → w.grownBy w' (some gp) → w'.heap.size = w.heap.size → J w') : ixa (some ((⟨gp, 0, none⟩ : Addr).add 2)) 2 (i : Int) 1 fun a => st1 w a (.slice r.a r.n r.c) J := by
  rw [addOff]
  cases u
  · obtain rfl : i = 0 := by unfold sideI at hi; simp at hi; omega
    exact ix1o (by omega) (st0 hc (by show 2 < 6; decide) fun w' h1 h2 h3 => hJ w' h1 h2 h3)
  · obtain rfl : i = 1 := by unfold sideI at hi; simp at hi; omega
    exact ix1o (by omega) (st0 hc (by show 3 < 6; decide) fun w' h1 h2 h3 => hJ w' h1 h2 h3)
/-- One more datagram in a bag. -/
theorem PairW.push (h : PairW w G tag gp p y) {u : Bool} {c : Sl} {d : List UInt8} (hc : Cb w (ZT G tag) c d) (hl : (p.bag u).length ≤ 1000000) {i : Nat} (hi : (i : Int) = sideI u) {J : World → Prop} (hJ : ∀ w', PairTo w w' G tag gp { p with bag := setB p.bag u (p.bag u ++ [d]) } → J w') :
    nw w [.slice c.a c.n c.c] t_s_uint8 fun a24 w25 => Fr w w25 ∧ app Tryd.prog t_s_s_uint8 t_s_s_uint8 (y.bag u) ⟨some a24, 1, 1⟩ w25 fun r26 w27 => ixa (some ((⟨gp, 0, none⟩ : Addr).add 2)) 2 (i : Int) 1 fun a28 => st1 w27 a28 (.slice r26.a r26.n r26.c) J := by
  refine nwI fun a w25 ha hs hf hb hr => ⟨hf, ?_⟩
  obtain ⟨b1, b2, b3⟩ := h.bag u
  have hal := b2.length
  have hz := hf.size
  refine app_S slS (by decide) (base := 0) (ms := [c]) (b1.fr hf) hr rfl (by simp; omega) (Nat.zero_le _) fun r w27 h27 hg hat => ?_
  rw [ownB_slice, ownB_slice] at hat
  rw [ownB_slice] at hg
  have hz27 := hg.size
  have hrb : ∀ k, BK r k → BK (y.bag u) k ∨ k = w25.heap.size := by
    rintro k ⟨o, hro, rfl⟩
    rw [hro] at hat
    rcases hat with h1 | h1
    · cases hxa : (y.bag u).a with
      | none => rw [hxa] at h1; cases h1
      | some o' => rw [hxa] at h1; exact .inl ⟨o', hxa, (Option.some.inj h1).symm⟩
    · exact .inr (Option.some.inj h1)
  have m27 : Mv (fun k => BK (y.bag u) k) w25 w27 := ⟨hg.os, hg.tape, hg.output, hg.size, fun k hk hn => hg.block k hk fun e => by
    cases hxa : (y.bag u).a with
    | none => rw [hxa] at e; cases e
    | some o => rw [hxa] at e; exact hn ⟨o, hxa, (Option.some.inj e).symm⟩⟩
  have hgpn : ¬BK (y.bag u) gp := fun hk => by have := b3 gp hk; rw [h.tgp] at this; cases this
  have hgpl : gp < w.heap.size := h.lt gp (by rw [h.tgp]; exact fun e => by cases e)
  have hc27 := m27.heap (hf.heap h.cells) hgpn
  refine st_bag hi hc27 fun w28 hb28 hg28 hs28 => hJ w28 ?_
  have mE : Mv (fun k => k = gp ∨ BK (y.bag u) k) w w28 := ((Mv.of_fr (F := fun k => k = gp ∨ BK (y.bag u) k) hf).trans m27 fun k hk => .inl (.inr hk)).trans (Mv.of_grown (F := fun k => k = gp) hg28 rfl) fun k hk => .inl (.inl hk)
  have hrt : ∀ k, BK r k → tag k = .bag u ∨ w.heap.size ≤ k := fun k hk => (hrb k hk).imp (fun h1 => b3 k h1) fun h1 => by omega
  have hEZ : ∀ k, (k = gp ∨ BK (y.bag u) k) → ZT G tag k ∨ w.heap.size ≤ k := fun k hk => by
    left; right
    rcases hk with hk | hk
    · rw [hk, h.tgp]; exact fun e => by cases e
    · rw [b3 k hk]; exact fun e => by cases e
  have hZ : ∀ k, ZT G (tagB tag (.bag u) r) k → ZT G tag k ∨ w.heap.size ≤ k := fun k hk => by
    rcases hk with hk | hk
    · exact .inl (.inl hk)
    · rcases tagB_ne hk with h1 | h1
      · rcases hrt k h1 with h2 | h2
        · left; right; rw [h2]; exact fun e => by cases e
        · exact .inr h2
      · exact .inl (.inr h1)
  have h27' : OwS w28 0 t_s_uint8 r (y.bh u ++ [c]) := h27.mv (Mv.of_grown (F := fun k => k = gp) hg28 rfl) fun ad had e => by
    rcases hrb ad.block ⟨ad, had, rfl⟩ with h1 | h1
    · rw [e] at h1; exact hgpn h1
    · omega
  have hbl : ∀ k, BK r k → k < w28.heap.size ∧ ¬G k := fun k hk => by
    obtain ⟨ad, had, e⟩ := hk
    refine ⟨by rw [← e]; exact (h27'.own ad had).2, fun hG => ?_⟩
    rcases hrt k ⟨ad, had, e⟩ with h1 | h1
    · have := h.gt k hG; rw [this] at h1; cases h1
    · have := h.gl k hG; omega
  have hall : All2 (Cb w28 (ZT G (tagB tag (.bag u) r))) (y.bh u ++ [c]) (p.bag u ++ [d]) := All2.append (b2.mono fun a c _ _ hcb => hcb.mv mE hEZ hZ) (show All2 _ [c] [d] from ⟨hc.mv mE hEZ hZ, trivial⟩)
  obtain ⟨q1, q2, q3⟩ := h.bagSet mE (fun k hk => hk.imp (fun h1 => by rw [h1]; exact h.tgp) fun h1 => b3 k h1) hrt hbl h27' hall hb28
  exact ⟨_, _, q1, q2, q3⟩
end
end Go.Proofs.YtmhibpcbdbhfoaaDoor
namespace Go.Proofs.YtmhibpcbdbhfoaaDoor
open Go.RowKit Go.Fl

theorem pour_nil (bag : Rows8) : pour bag [] = bag := by simp [pour]
theorem pour_cons (bag : Rows8) (d : List UInt8) (l : Rows8) : pour bag (d :: l) = pour (if bag.length < 200 then bag ++ [d] else bag) l := by
  unfold pour
  split
  · rename_i h
    obtain ⟨n, hn⟩ : ∃ n, 200 - bag.length = n + 1 := ⟨200 - bag.length - 1, by omega⟩
    rw [hn, List.take_succ_cons, List.length_append, List.append_assoc, show 200 - (bag.length + [d].length) = n from by simp; omega]
    rfl
  · rename_i h
    rw [show 200 - bag.length = 0 from by omega]; simp
theorem setB_setB {α : Type} (f : Bool → α) (s : Bool) (a b : α) : setB (setB f s a) s b = setB f s b := by
  funext x; unfold setB; split <;> rfl
theorem setB_self {α : Type} (f : Bool → α) (s : Bool) : setB f s (f s) = f := by
  funext x; unfold setB; split
  · rename_i e; rw [e]
  · rfl
section
variable {w : World} {G : Nat → Prop} {tag : Nat → Tag} {gp : Nat} {p : Pr} {y : PShp}
set_option maxRecDepth 8000 in
/-- All that one said is poured into the other one's bag. -/
theorem pour_ok (h : PairW w G tag gp p y) {x8 : Sl} {hs : List Sl} {ls : Rows8} {u : Bool} {i : Nat} (hi : (i : Int) = sideI u) (ho : OwS w 0 t_s_uint8 x8 hs) (hx : ∀ k, BK x8 k → tag k = .none) (hc : All2 (Cb w (ZT G tag)) hs ls) (hl : ls.length ≤ 1000000) (_hb : (p.bag u).length ≤ 1000000)
    {body : (Nat → AV) → ((Int × Unit) → World → Prop) → (Int × Unit) → World → Prop} {K : World → Prop} (hK : ∀ v, PairTo w v G tag gp { p with bag := setB p.bag u (pour (p.bag u) ls) } → K v)
    (hbody : ∀ D J (s10 : Int × Unit) w11, (bif (decide (s10.1 < (x8.n : Int))) then
  (ixa x8.a x8.n s10.1 1 fun a14 => ld .L w11 a14 fun (x15 : Sl) => ixa (some ((⟨gp, 0, none⟩ : Addr).add 2)) 2 (i : Int) 1 fun a17 => ld .L w11 a17 fun (x18 : Sl) => bif (decide ((x18.n : Int) < 200)) then
  (dr w11 fun w19 => ixa (some ((⟨gp, 0, none⟩ : Addr).add 2)) 2 (i : Int) 1 fun a21 => ld .L w19 a21 fun (x22 : Sl) => nw w19 [.slice x15.a x15.n x15.c] t_s_uint8 fun a24 w25 => Fr w19 w25 ∧ app Tryd.prog t_s_s_uint8 t_s_s_uint8 x22 ⟨some a24, 1, 1⟩ w25 fun r26 w27 => ixa (some ((⟨gp, 0, none⟩ : Addr).add 2)) 2 (i : Int) 1 fun a28 => st1 w27 a28 (.slice r26.a r26.n r26.c) fun w29 => J ((IntKind.i64.wrap (s10.1 + 1)), ()) w29)
  else J ((IntKind.i64.wrap (s10.1 + 1)), ()) w11) else K w11) → body D J s10 w11) : lp (α := Int × Unit) (fun K => K (0, ())) w body := by
  have hal := hc.length
  have hn := ho.len
  refine lpI (fun (s' : Int × Unit) v => ∃ (j : Nat) (b : Rows8) (tag1 : Nat → Tag) (y1 : PShp), j ≤ hs.length ∧ s'.1 = j ∧ pour b (ls.drop j) = pour (p.bag u) ls ∧ b.length ≤ (p.bag u).length + j ∧ PairW v G tag1 gp { p with bag := setB p.bag u b } y1 ∧ Mv (fun k => tag k ≠ .none) w v ∧ (∀ k, tag1 k ≠ .none → tag k ≠ .none ∨ w.heap.size ≤ k)) (fun s' _ => (x8.n - s'.1).toNat)
    ⟨0, p.bag u, tag, y, Nat.zero_le _, rfl, rfl, by omega, by rw [setB_self]; exact h, Mv.refl _ _, fun _ h => .inl h⟩ ?_
  rintro D ⟨j', ⟨⟩⟩ v ⟨j, b, tag1, y1, hj, rfl, hp, hbl, h1, m1, t1⟩
  refine hbody _ _ _ _ ?_
  dsimp only
  have hov : OwS v 0 t_s_uint8 x8 hs := ho.mv m1 fun ad ha hf => hf (hx _ ⟨ad, ha, rfl⟩)
  have hcv : All2 (Cb v (ZT G tag1)) hs ls := hc.mono fun a c _ _ hcb => hcb.mv m1 (fun k hk => .inl (.inr hk)) fun k hk => by
    rcases hk with hk | hk
    · exact .inl (.inl hk)
    · exact (t1 k hk).imp .inr id
  refine bD ?_ ?_ <;> intro hlt
  · have hj1 : j < hs.length := by omega
    have hj2 : j < ls.length := by omega
    refine ixS hov.rd hov.len rfl hj1 (Fr.refl _) ?_
    refine h1.bagp hi ?_
    obtain ⟨g1, g2, _⟩ := h1.bag u
    have gl1 := g1.len
    have gl2 := g2.length
    have gl2 : (y1.bh u).length = b.length := by rw [gl2]; show (setB p.bag u b u).length = _; rw [setB_same]
    have hdrop : ls.drop j = ls[j] :: ls.drop (j + 1) := List.drop_eq_getElem_cons hj2
    rw [hdrop, pour_cons] at hp
    rw [i64w (n := (j : Int) + 1) (by omega) (by omega)]
    refine bD ?_ ?_ <;> intro h200
    · rw [if_pos (by omega)] at hp
      intro n
      have hfn := Fr.drewN v n
      generalize v.drewN n = v2 at *
      have h2 := h1.fr hfn
      refine h2.bagp hi ?_
      have hcb : Cb v2 (ZT G tag1) hs[j] ls[j] := (hcv.get hj1 hj2).mv (Mv.of_fr (F := fun _ => False) hfn) (fun _ h => h.elim) fun k hk => .inl hk
      refine h2.push hcb (by show (setB p.bag u b u).length ≤ _; rw [setB_same]; omega) hi fun v3 h3 => ?_
      obtain ⟨tag3, y3, q1, q2, q3⟩ := h3
      have q1 : PairW v3 G tag3 gp { p with bag := setB (setB p.bag u b) u (setB p.bag u b u ++ [ls[j]]) } y3 := q1
      rw [setB_setB, setB_same] at q1
      have hz := hfn.size
      have hz1 := m1.size
      refine ⟨⟨j + 1, b ++ [ls[j]], tag3, y3, by omega, rfl, hp, by simp; omega, q1, (m1.trans (Mv.of_fr (F := fun _ => False) hfn) fun _ h => h.elim).trans q2 t1, fun k hk => ?_⟩, by omega⟩
      rcases q3 k hk with h4 | h4
      · exact t1 k h4
      · right; omega
    · rw [if_neg (by omega)] at hp
      exact ⟨⟨j + 1, b, tag1, y1, by omega, rfl, hp, by omega, h1, m1, t1⟩, by omega⟩
  · obtain rfl : j = hs.length := by omega
    rw [hal, List.drop_length, pour_nil] at hp
    rw [← hp] at hK
    exact hK v ⟨tag1, y1, h1, m1, t1⟩
end
end Go.Proofs.YtmhibpcbdbhfoaaDoor
namespace Go.Proofs.YtmhibpcbdbhfoaaDoor
open Go.RowKit Go.Fl

/-- One side's part. -/
def out1P (p : Pr) (s : Bool) : Pr := { p with t := setB p.t s (p.t s).clear, bag := setB p.bag (!s) (pour (p.bag (!s)) (p.t s).out) }
theorem out1_out1 (p : Pr) : out1P (out1P p false) true = p.outs := by
  have e1 : setB (setB p.t false (p.t false).clear) true (setB p.t false (p.t false).clear true).clear = fun s => (p.t s).clear := by
    funext s; cases s <;> rfl
  have e2 : setB (setB p.bag true (pour (p.bag true) (p.t false).out)) false (pour (setB p.bag true (pour (p.bag true) (p.t false).out) false) (setB p.t false (p.t false).clear true).out) = fun s => pour (p.bag s) (p.t (!s)).out := by
    funext s; cases s <;> rfl
  unfold out1P Pr.outs
  simp only [Bool.not_false, Bool.not_true]
  rw [e1, e2]
section
variable {w : World} {G : Nat → Prop} {tag : Nat → Tag} {gp : Nat} {p : Pr} {y : PShp}
theorem PairTo.then {w1 w2 : World} {p1 p2 : Pr} (h : PairTo w w1 G tag gp p1) (k : ∀ tag1 y1, PairW w1 G tag1 gp p1 y1 → PairTo w1 w2 G tag1 gp p2) : PairTo w w2 G tag gp p2 := by
  obtain ⟨tag1, y1, h1, h2, h3⟩ := h
  exact PairTo.step h2 h3 (k tag1 y1 h1)
set_option maxRecDepth 8000 in
theorem outs_ok (h : PairW w G tag gp p y) (hme : ∀ s, 1 ≤ (p.t s).me) (hl : ∀ s, (p.t s).out.length ≤ 1000000) (hb : ∀ s, (p.bag s).length ≤ 1000000) :
    cl Tryd.prog n_flumelaw12_pair_out #[.pointer (some ⟨gp, 0, none⟩)] (.tup .nil) w fun (_ : Unit) w' => PairTo w w' G tag gp p.outs := by
  refine flumelaw12_pair_out.cl (p0 := some ⟨gp, 0, none⟩) ?_
  unfold flumelaw12_pair_out
  -- one side
  have side : ∀ {v : World} {tag1 : Nat → Tag} {y1 : PShp} {q : Pr} (s : Bool) (i : Nat) (i' : Nat) {K : World → Prop}, PairW v G tag1 gp q y1 → (i : Int) = sideI s → (i' : Int) = sideI (!s) → IntKind.i64.wrap (1 - (i : Int)) = (i' : Int) → 1 ≤ (q.t s).me → (q.t s).out.length ≤ 1000000 → (q.bag (!s)).length ≤ 1000000 →
      (∀ v', PairTo v v' G tag1 gp (out1P q s) → K v') →
      (ixa (some ⟨gp, 0, none⟩) 2 (i : Int) 1 fun a6 => ld .P v a6 fun (x7 : Option Addr) => cl Tryd.prog n_tunnel_Tunnel_Out #[.pointer x7] .L v fun (x8 : Sl) w9 => lp (α := (Int × Unit)) (fun K => K (0, ())) w9 fun _ J13 s10 w11 =>
  bif (decide (s10.1 < (x8.n : Int))) then
   (ixa x8.a x8.n s10.1 1 fun a14 => ld .L w11 a14 fun (x15 : Sl) => nz (some ⟨gp, 0, none⟩) fun a16 => ixa (some (a16.add 2)) 2 (IntKind.i64.wrap (1 - (i : Int))) 1 fun a17 => ld .L w11 a17 fun (x18 : Sl) => bif (decide ((x18.n : Int) < 200)) then
   (dr w11 fun w19 => nz (some ⟨gp, 0, none⟩) fun a20 => ixa (some (a20.add 2)) 2 (IntKind.i64.wrap (1 - (i : Int))) 1 fun a21 => ld .L w19 a21 fun (x22 : Sl) => nz (some ⟨gp, 0, none⟩) fun a23 => nw w19 [.slice x15.a x15.n x15.c] t_s_uint8 fun a24 w25 => Fr w19 w25 ∧ app Tryd.prog t_s_s_uint8 t_s_s_uint8 x22 ⟨(some a24), 1, 1⟩ w25 fun r26 w27 => ixa (some (a23.add 2)) 2 (IntKind.i64.wrap (1 - (i : Int))) 1 fun a28 => st1 w27 a28 (.slice r26.a r26.n r26.c) fun w29 => J13 ((IntKind.i64.wrap (s10.1 + 1)), ()) w29)
   else J13 ((IntKind.i64.wrap (s10.1 + 1)), ()) w11)
   else K w11) := by
    intro v tag1 y1 q s i i' K h1 hi hi' hw hq hql hqb hK
    refine h1.ptr hi ?_
    refine (tOut_ok (h1.tun s) hq).mono ?_
    rintro x8 w9 ⟨F', x', hs, t1, m1, f1, o1, c1, b1⟩
    obtain ⟨h2, m2, n2⟩ := h1.act1 t1 m1 fun k hk => .inl (f1 k hk)
    have hx8 : ∀ k, BK x8 k → tagT tag1 s F' k = .none := by
      rintro k ⟨ad, ha, rfl⟩
      obtain ⟨e1, e2⟩ := b1 ad ha
      unfold tagT
      rw [if_neg e2, if_pos e1]
    have hc : All2 (Cb w9 (ZT G (tagT tag1 s F'))) hs (q.t s).out := c1.mono fun a b _ _ hcb => hcb.anti fun k hk => by
      rcases hk with hk | hk
      · exact .inl (.inl hk)
      · by_cases e : F' k
        · exact .inr e
        · left; right
          unfold tagT at hk
          rw [if_neg e] at hk
          by_cases e2 : tag1 k = .tun s
          · rw [if_pos e2] at hk; exact absurd rfl hk
          · rw [if_neg e2] at hk; exact ⟨hk, e2⟩
    rw [hw]
    refine pour_ok (u := !s) h2 hi' o1 hx8 hc hql hqb (K := K) (fun v' hv' => hK v' ?_) fun D J s10 w11 hx => hx
    exact PairTo.step m2 n2 hv'
  refine lpI (fun (s' : Int × Unit) v => (s'.1 = 0 ∧ v = w) ∨ (s'.1 = 1 ∧ PairTo w v G tag gp (out1P p false)) ∨ (s'.1 = 2 ∧ PairTo w v G tag gp p.outs)) (fun s' _ => (2 - s'.1).toNat) (.inl ⟨rfl, rfl⟩) ?_
  rintro D ⟨i, ⟨⟩⟩ v hinv
  dsimp only at hinv
  rcases hinv with ⟨rfl, rfl⟩ | ⟨rfl, hv⟩ | ⟨rfl, hv⟩
  · refine bT rfl ?_
    refine side false 0 1 h rfl rfl (by decide) (hme _) (hl _) (hb _) fun v' hv' => ?_
    exact ⟨.inr (.inl ⟨by decide, hv'⟩), by decide⟩
  · refine bT rfl ?_
    obtain ⟨tag1, y1, q1, q2, q3⟩ := hv
    refine side true 1 0 q1 rfl rfl (by decide) (hme true) (hl true) (hb false) fun v' hv' => ?_
    refine ⟨.inr (.inr ⟨by decide, ?_⟩), by decide⟩
    rw [← out1_out1]
    exact PairTo.step q2 q3 hv'
  · exact bF rfl hv
end
end Go.Proofs.YtmhibpcbdbhfoaaDoor
namespace Go.Proofs.YtmhibpcbdbhfoaaDoor
open Go.RowKit Go.Fl

theorem clv_Equal {s x : Sl} {l m : List UInt8} {w : World} (hs : Bs w s l) (hx : Bs w x m) {K : Bool → World → Prop} (hK : K (decide (l = m)) w) :
    clv Tryd.prog (.func (.func n_bytes_Equal) #[] #[]) #[.slice s.a s.n s.c, .slice x.a x.n x.c] .B w K := by
  refine ⟨n_bytes_Equal, #[], #[], rfl, ⟨Tryd.f17, Tryd.func17, by kernel_rfl, by kernel_rfl⟩, ?_⟩
  show cl Tryd.prog n_bytes_Equal #[.slice s.a s.n s.c, .slice x.a x.n x.c] .B w K
  refine (Equal_ok hs hx).mono ?_
  rintro _ _ ⟨rfl, rfl⟩
  exact hK
theorem rows_ok {s x : Sl} {hs hx : List Sl} {l m : Rows8} {w : World} (hr : Rd w s.a (slsV hs)) (hl : s.n = hs.length) (hc : All2 (Bs w) hs l) (kr : Rd w x.a (slsV hx)) (kl : x.n = hx.length) (kc : All2 (Bs w) hx m) (hsz : l.length ≤ 1099511627776) :
    cl Tryd.prog n_flumelaw12_rows #[.slice s.a s.n s.c, .slice x.a x.n x.c] .B w fun (r : Bool) w' => r = decide (l = m) ∧ w = w' := by
  refine flumelaw12_rows.cl ?_
  unfold flumelaw12_rows
  refine slices_EqualFunc_rows_byte_rows_byte_byte_byte.cl (p2 := .func (.func n_bytes_Equal) #[] #[]) ?_
  unfold slices_EqualFunc_rows_byte_rows_byte_byte_byte
  have e1 := hc.length
  have e2 := kc.length
  rcases Nat.decEq l.length m.length with hlen | hlen
  · refine bT (by rw [bne_iff_ne]; omega) ⟨?_, rfl⟩
    rw [eq_comm, decide_eq_false_iff_not]
    rintro rfl; exact hlen rfl
  refine bF (by rw [bne_eq_false_iff_eq]; omega) ?_
  refine lpI (fun (s' : Int × Unit) v => v = w ∧ ∃ j : Nat, j ≤ hs.length ∧ s'.1 = j ∧ l.take j = m.take j) (fun s' _ => (s.n - s'.1).toNat) ⟨rfl, 0, Nat.zero_le _, rfl, rfl⟩ ?_
  rintro D ⟨j', ⟨⟩⟩ v ⟨rfl, j, hj, rfl, ht⟩
  dsimp only
  refine bD ?_ ?_ <;> intro hlt
  · have hj1 : j < hs.length := by omega
    have hj2 : j < hx.length := by omega
    refine ixS hr hl rfl hj1 (Fr.refl _) (ixS kr kl rfl hj2 (Fr.refl _) ?_)
    have hl1 : j < l.length := by omega
    have hm1 : j < m.length := by omega
    refine clv_Equal (hc.get hj1 hl1) (kc.get hj2 hm1) ?_
    by_cases he : l[j] = m[j]
    · rw [decide_eq_true he]
      refine bF rfl ?_
      rw [i64w (n := (j : Int) + 1) (by omega) (by omega)]
      refine ⟨⟨rfl, j + 1, by omega, rfl, ?_⟩, by omega⟩
      rw [List.take_succ_eq_append_getElem hl1, List.take_succ_eq_append_getElem hm1, ht, he]
    · rw [decide_eq_false he]
      refine bT rfl ⟨?_, rfl⟩
      rw [eq_comm, decide_eq_false_iff_not]
      rintro rfl; exact he rfl
  · obtain rfl : j = hs.length := by omega
    refine ⟨?_, rfl⟩
    rw [List.take_of_length_le (by omega), List.take_of_length_le (by omega)] at ht
    rw [ht]; simp
section
variable {w w' : World} {G : Nat → Prop} {tag : Nat → Tag} {gp : Nat} {p : Pr} {y : PShp}
/-- Rows, one session's are others now. -/
theorem RowsW.set {Z Z' E : Nat → Prop} {tg : Key3 → Tag} {m : Nat} {f : Key3 → Option Value} {r : Key3 → Sl} {h : Key3 → List Sl} {L : Key3 → Rows8} (hr : RowsW w Z tag tg m f r h L) (hmv : Mv E w w') {key : Key3} {r1 : Sl} {hs1 : List Sl} {ls : Rows8}
    (hE : ∀ k k', k' ≠ key → tag k = tg k' → ¬E k) (hinj : ∀ a b, tg a = tg b → a = b) (hnn : ∀ k, tg k ≠ .none) (hrt : ∀ k, BK r1 k → tag k = tg key ∨ tag k = .none) (hEZ : ∀ k, E k → Z k ∨ w.heap.size ≤ k) (hZ : ∀ k, Z' k → Z k ∨ w.heap.size ≤ k)
    (hmap : MapS key3 w' m (fun k' => if k' = key then some (slV r1) else f k')) (ho : OwS w' 0 t_s_uint8 r1 hs1) (hc : All2 (Cb w' Z') hs1 ls) :
    RowsW w' Z' (tagB tag (tg key) r1) tg m (fun k' => if k' = key then some (slV r1) else f k') (fun k => if k = key then r1 else r k) (fun k => if k = key then hs1 else h k) (updK L key ls) := by
  refine ⟨hmap, fun k => ?_⟩
  unfold updK
  by_cases hk : k = key
  · subst hk
    rw [if_pos rfl, if_pos rfl, if_pos rfl, if_pos rfl]
    exact .inr ⟨rfl, ho, hc, fun j hj => tagB_own hj⟩
  · rw [if_neg hk, if_neg hk, if_neg hk, if_neg hk]
    rcases hr.rows k with h0 | ⟨h1, h2, h3, h4⟩
    · exact .inl h0
    · refine .inr ⟨h1, h2.mv hmv fun ad ha => hE _ k hk (h4 _ ⟨ad, ha, rfl⟩), h3.mono fun a b _ _ hcb => hcb.mv hmv hEZ hZ, fun j hj => ?_⟩
      exact (tagB_other hrt (fun e => hk (hinj _ _ e)) (hnn k)).2 (h4 j hj)
/-- What is left of a pair when one session's rows are others now. -/
theorem PairW.rest (h : PairW w G tag gp p y) {T M : Tag} {r : Sl} (hTn : T ≠ .none) (hMn : M ≠ .none) (hT : ∀ U : Tag, U = .pair ∨ U = .msent ∨ U = .mtold ∨ (∃ s, U = .bag s) ∨ (∃ s, U = .tun s) → U ≠ T) (hM : ∀ U : Tag, U = .pair ∨ (∃ s, U = .bag s) ∨ (∃ s, U = .tun s) → U ≠ M)
    (m : Mv (fun k => tag k = M ∨ tag k = T) w w') (hr : ∀ k, BK r k → tag k = T ∨ w.heap.size ≤ k) (hl : ∀ k, BK r k → k < w'.heap.size ∧ ¬G k) {p' : Pr} {y' : PShp} (e1 : p'.t = p.t) (e2 : p'.bag = p.bag) (e3 : y'.g = y.g) (e4 : y'.x = y.x) (e5 : y'.bag = y.bag) (e6 : y'.bh = y.bh) (e7 : y'.ms = y.ms) (e8 : y'.mt = y.mt)
    (hs : (∀ k, BK r k → tag k = T ∨ tag k = .none) → (∀ k, (tag k = M ∨ tag k = T) → ZT G tag k ∨ w.heap.size ≤ k) → (∀ k, ZT G (tagB tag T r) k → ZT G tag k ∨ w.heap.size ≤ k) → RowsW w' (ZT G (tagB tag T r)) (tagB tag T r) .sent y'.ms y'.fS y'.rs y'.hS p'.sent ∧ RowsW w' (ZT G (tagB tag T r)) (tagB tag T r) .told y'.mt y'.fT y'.rt y'.hT p'.told) :
    PairW w' G (tagB tag T r) gp p' y' ∧ Mv (fun k => tag k ≠ .none) w w' ∧ ∀ k, tagB tag T r k ≠ .none → tag k ≠ .none ∨ w.heap.size ≤ k := by
  have hrn : ∀ k, BK r k → tag k = T ∨ tag k = .none := fun k hk => by
    rcases hr k hk with h1 | h1
    · exact .inl h1
    · right
      apply Classical.byContradiction
      intro hn
      have := h.lt k hn
      omega
  have hne : ∀ k, tagB tag T r k ≠ .none → tag k ≠ .none ∨ w.heap.size ≤ k := fun k hk => by
    rcases tagB_ne hk with h1 | h1
    · rcases hr k h1 with h2 | h2
      · left; rw [h2]; exact hTn
      · exact .inr h2
    · exact .inl h1
  have hEn : ∀ k, (tag k = M ∨ tag k = T) → tag k ≠ .none := fun k hk => by
    rcases hk with h1 | h1 <;> rw [h1]
    · exact hMn
    · exact hTn
  have hEZ : ∀ k, (tag k = M ∨ tag k = T) → ZT G tag k ∨ w.heap.size ≤ k := fun k hk => .inl (.inr (hEn k hk))
  have hZ : ∀ k, ZT G (tagB tag T r) k → ZT G tag k ∨ w.heap.size ≤ k := fun k hk => by
    rcases hk with hk | hk
    · exact .inl (.inl hk)
    · exact (hne k hk).imp .inr id
  have oth : ∀ {U : Tag}, U ≠ T → U ≠ .none → ∀ k, (tagB tag T r k = U ↔ tag k = U) := fun h1 h2 k => tagB_other hrn h1 h2
  have hnE : ∀ {U : Tag} {k : Nat}, tag k = U → U ≠ M → U ≠ T → ¬(tag k = M ∨ tag k = T) := fun {U k} e h1 h2 he => by
    rcases he with h3 | h3
    · exact h1 (e.symm.trans h3)
    · exact h2 (e.symm.trans h3)
  obtain ⟨hS, hTd⟩ := hs hrn hEZ hZ
  have hz := m.size
  obtain ⟨t', bag', sent', told'⟩ := p'
  obtain ⟨g', x', bg', bh', ms', mt', fS', fT', rs', rt', hS', hT'⟩ := y'
  dsimp only at e1 e2 e3 e4 e5 e6 e7 e8
  subst e1 e2 e3 e4 e5 e6 e7 e8
  refine ⟨⟨m.heap h.cells (hnE h.tgp (hM _ (.inl rfl)) (hT _ (.inl rfl))), (oth (hT _ (.inl rfl)) (fun e => by cases e) gp).2 h.tgp, (oth (hT _ (.inr (.inl rfl))) (fun e => by cases e) _).2 h.tms, (oth (hT _ (.inr (.inr (.inl rfl)))) (fun e => by cases e) _).2 h.tmt, fun k hk => ?_, fun k hk => by have := h.gl k hk; omega, fun k hk => ?_, fun s => ?_, fun s => ?_, hS, hTd⟩, m.mono fun k hk => .inl (hEn k hk), hne⟩
  · rcases tagB_ne hk with h1 | h1
    · exact (hl k h1).1
    · have := h.lt k h1; omega
  · apply Classical.byContradiction
    intro hn
    rcases tagB_ne hn with h1 | h1
    · exact (hl k h1).2 hk
    · exact h1 (h.gt k hk)
  · have hTt : Tag.tun s ≠ T := hT _ (.inr (.inr (.inr (.inr ⟨s, rfl⟩))))
    have hMt : Tag.tun s ≠ M := hM _ (.inr (.inr ⟨s, rfl⟩))
    have eF : (fun k => tagB tag T r k = .tun s) = fun k => tag k = .tun s := funext fun k => propext (oth hTt (fun e => by cases e) k)
    rw [eF]
    refine (h.tun s).other m (fun k hk => .inl ⟨.inr ⟨hEn k hk, fun e => hnE e hMt hTt hk⟩, fun e => hnE e hMt hTt hk⟩) (fun k hk => ?_) fun k hk => ?_
    · rcases hk with hk | ⟨h1, h2⟩
      · exact .inl (.inl hk)
      · rcases hne k h1 with h3 | h3
        · exact .inl (.inr ⟨h3, fun e => h2 ((oth hTt (fun e => by cases e) k).2 e)⟩)
        · exact .inr h3
    · rcases hk with hk | ⟨h1, _⟩
      · have := h.gl k hk; omega
      · rcases tagB_ne h1 with h3 | h3
        · exact (hl k h3).1
        · have := h.lt k h3; omega
  · have hTt : Tag.bag s ≠ T := hT _ (.inr (.inr (.inr (.inl ⟨s, rfl⟩))))
    have hMt : Tag.bag s ≠ M := hM _ (.inr (.inl ⟨s, rfl⟩))
    obtain ⟨b1, b2, b3⟩ := h.bag s
    exact ⟨b1.mv m fun ad ha => hnE (b3 _ ⟨ad, ha, rfl⟩) hMt hTt, b2.mono fun a c _ _ hc => hc.mv m hEZ hZ, fun k hk => (oth hTt (fun e => by cases e) k).2 (b3 k hk)⟩
theorem PairW.toldSet (h : PairW w G tag gp p y) {key : Key3} {r1 : Sl} {hs1 : List Sl} {ls : Rows8} (m : Mv (fun k => tag k = .mtold ∨ tag k = .told key) w w') (hr : ∀ k, BK r1 k → tag k = .told key ∨ w.heap.size ≤ k) (hl : ∀ k, BK r1 k → k < w'.heap.size ∧ ¬G k)
    (hmap : MapS key3 w' y.mt (fun k' => if k' = key then some (slV r1) else y.fT k')) (ho : OwS w' 0 t_s_uint8 r1 hs1) (hc : All2 (Cb w' (ZT G (tagB tag (.told key) r1))) hs1 ls) :
    PairW w' G (tagB tag (.told key) r1) gp { p with told := updK p.told key ls } { y with fT := fun k' => if k' = key then some (slV r1) else y.fT k', rt := fun k => if k = key then r1 else y.rt k, hT := fun k => if k = key then hs1 else y.hT k } ∧ Mv (fun k => tag k ≠ .none) w w' ∧ ∀ k, tagB tag (.told key) r1 k ≠ .none → tag k ≠ .none ∨ w.heap.size ≤ k := by
  refine h.rest (fun e => by cases e) (fun e => by cases e) (fun U hU e => ?_) (fun U hU e => ?_) m hr hl rfl rfl rfl rfl rfl rfl rfl rfl fun hrn hEZ hZ => ⟨?_, ?_⟩
  · subst e
    rcases hU with h | h | h | ⟨_, h⟩ | ⟨_, h⟩ <;> cases h
  · subst e
    rcases hU with h | ⟨_, h⟩ | ⟨_, h⟩ <;> cases h
  · exact h.sent.mv m (fun e => by rw [h.tms] at e; rcases e with e | e <;> cases e) hEZ hZ (fun k j hj e => by rw [hj] at e; rcases e with e | e <;> cases e) fun k j _ hj => (tagB_other hrn (fun e => by cases e) (fun e => by cases e)).2 hj
  · exact h.told.set m (fun k k' hk' hk e => by rw [hk] at e; rcases e with e | e; cases e; exact hk' (by injection e)) (fun a b e => by injection e) (fun k e => by cases e) hrn hEZ hZ hmap ho hc
theorem PairW.sentSet (h : PairW w G tag gp p y) {key : Key3} {r1 : Sl} {hs1 : List Sl} {ls : Rows8} (m : Mv (fun k => tag k = .msent ∨ tag k = .sent key) w w') (hr : ∀ k, BK r1 k → tag k = .sent key ∨ w.heap.size ≤ k) (hl : ∀ k, BK r1 k → k < w'.heap.size ∧ ¬G k)
    (hmap : MapS key3 w' y.ms (fun k' => if k' = key then some (slV r1) else y.fS k')) (ho : OwS w' 0 t_s_uint8 r1 hs1) (hc : All2 (Cb w' (ZT G (tagB tag (.sent key) r1))) hs1 ls) :
    PairW w' G (tagB tag (.sent key) r1) gp { p with sent := updK p.sent key ls } { y with fS := fun k' => if k' = key then some (slV r1) else y.fS k', rs := fun k => if k = key then r1 else y.rs k, hS := fun k => if k = key then hs1 else y.hS k } ∧ Mv (fun k => tag k ≠ .none) w w' ∧ ∀ k, tagB tag (.sent key) r1 k ≠ .none → tag k ≠ .none ∨ w.heap.size ≤ k := by
  refine h.rest (fun e => by cases e) (fun e => by cases e) (fun U hU e => ?_) (fun U hU e => ?_) m hr hl rfl rfl rfl rfl rfl rfl rfl rfl fun hrn hEZ hZ => ⟨?_, ?_⟩
  · subst e
    rcases hU with h | h | h | ⟨_, h⟩ | ⟨_, h⟩ <;> cases h
  · subst e
    rcases hU with h | ⟨_, h⟩ | ⟨_, h⟩ <;> cases h
  · exact h.sent.set m (fun k k' hk' hk e => by rw [hk] at e; rcases e with e | e; cases e; exact hk' (by injection e)) (fun a b e => by injection e) (fun k e => by cases e) hrn hEZ hZ hmap ho hc
  · exact h.told.mv m (fun e => by rw [h.tmt] at e; rcases e with e | e <;> cases e) hEZ hZ (fun k j hj e => by rw [hj] at e; rcases e with e | e <;> cases e) fun k j _ hj => (tagB_other hrn (fun e => by cases e) (fun e => by cases e)).2 hj
end
end Go.Proofs.YtmhibpcbdbhfoaaDoor
namespace Go.Proofs.YtmhibpcbdbhfoaaDoor
open Go.RowKit Go.Fl

theorem All2.erase {α β : Type} {R : α → β → Prop} {l : List α} {m : List β} (h : All2 R l m) (i : Nat) : All2 R (l.eraseIdx i) (m.eraseIdx i) := by
  rw [List.eraseIdx_eq_take_drop_succ, List.eraseIdx_eq_take_drop_succ]
  exact All2.append (h.take i) (h.drop (i + 1))
section
variable {w w' : World} {G : Nat → Prop} {tag : Nat → Tag} {gp : Nat} {p : Pr} {y : PShp}
theorem PairW.drop1 (h : PairW w G tag gp p y) {u : Bool} {n : Nat} (hn : n < (p.bag u).length) (hl : (p.bag u).length ≤ 1000000) {i : Nat} (hi : (i : Int) = sideI u) {J : World → Prop} (hJ : ∀ w', PairTo w w' G tag gp { p with bag := setB p.bag u ((p.bag u).eraseIdx n) } → J w') :
    ixa (some ((⟨gp, 0, none⟩ : Addr).add 2)) 2 (i : Int) 1 fun a8 => ld .L w a8 fun (x9 : Sl) => cl Tryd.prog n_slices_Clone_rows_byte_byte #[.slice x9.a x9.n x9.c] .L w fun (x11 : Sl) w12 => cl Tryd.prog n_slices_Delete_rows_byte_byte #[.slice x11.a x11.n x11.c, .int .i64 (n : Int), .int .i64 (IntKind.i64.wrap ((n : Int) + 1))] .L w12 fun (x13 : Sl) w14 => ixa (some ((⟨gp, 0, none⟩ : Addr).add 2)) 2 (i : Int) 1 fun a15 => st1 w14 a15 (.slice x13.a x13.n x13.c) J := by
  refine h.bagp hi ?_
  obtain ⟨b1, b2, b3⟩ := h.bag u
  have hal := b2.length
  refine (Clone_rows_ok b1.rd b1.len (by omega)).mono ?_
  rintro x11 w12 ⟨o11, hf12⟩
  rw [i64w (n := (n : Int) + 1) (by omega) (by omega)]
  refine (Delete_rows_ok (base := w.heap.size) o11 (by omega) (by omega) hf12.size).mono ?_
  rintro x13 w14 ⟨o13, hb14⟩
  have hf14 : Fr w w14 := hf12.on hb14
  have hz14 := hf14.size
  have hgpl : gp < w.heap.size := h.lt gp (by rw [h.tgp]; exact fun e => by cases e)
  refine st_bag hi (hf14.heap h.cells) fun w' hb' hg' hs' => hJ w' ?_
  have m1 : Mv (fun k => k = gp) w14 w' := Mv.of_grown hg' rfl
  have m : Mv (fun k => k = gp) w w' := (Mv.of_fr hf14).trans m1 fun k hk => .inl hk
  have hrt : ∀ k, BK x13 k → tag k = .bag u ∨ w.heap.size ≤ k := fun k ⟨ad, ha, e⟩ => .inr (by rw [← e]; exact (o13.own ad ha).1)
  have ho' : OwS w' 0 t_s_uint8 x13 ((y.bh u).eraseIdx n) := (o13.mono (Nat.zero_le _)).mv m1 fun ad ha e => by
    have := (o13.own ad ha).1
    omega
  have hZ : ∀ k, ZT G (tagB tag (.bag u) x13) k → ZT G tag k ∨ w.heap.size ≤ k := fun k hk => by
    rcases hk with hk | hk
    · exact .inl (.inl hk)
    · rcases tagB_ne hk with h1 | h1
      · obtain ⟨ad, ha, e⟩ := h1
        right; rw [← e]; exact (o13.own ad ha).1
      · exact .inl (.inr h1)
  obtain ⟨q1, q2, q3⟩ := h.bagSet (r := x13) m (fun k hk => .inl (by rw [hk]; exact h.tgp)) hrt (fun k ⟨ad, ha, e⟩ => ⟨by rw [← e]; exact (ho'.own ad ha).2, fun hG => by have := h.gl k hG; have := (o13.own ad ha).1; omega⟩) ho'
    ((All2.erase b2 n).mono fun a c _ _ hc => hc.mv m (fun k hk => .inl (.inr (by rw [hk, h.tgp]; exact fun e => by cases e))) hZ) hb'
  exact ⟨_, _, q1, q2, q3⟩
/-- What stands under a key. -/
theorem RowsW.get {Z : Nat → Prop} {tg : Key3 → Tag} {m : Nat} {f : Key3 → Option Value} {r : Key3 → Sl} {h : Key3 → List Sl} {L : Key3 → Rows8} (hr : RowsW w Z tag tg m f r h L) (k : Key3) :
    ∃ (x : Sl) (hs : List Sl), slV x = (f k).getD (.slice none 0 0) ∧ OwS w 0 t_s_uint8 x hs ∧ All2 (Cb w Z) hs (L k) ∧ ∀ j, BK x j → tag j = tg k := by
  rcases hr.rows k with ⟨h1, h2⟩ | ⟨h1, h2, h3, h4⟩
  · exact ⟨⟨none, 0, 0⟩, [], by rw [h1]; rfl, OwS.nil _ _ _, by rw [h2]; trivial, fun j hj => absurd hj BK.none⟩
  · exact ⟨r k, h k, by rw [h1]; rfl, h2, h3, h4⟩
theorem OwS.rwb {s : Sl} {hs : List Sl} {ls : Rows8} {Z : Nat → Prop} (h : OwS w 0 t_s_uint8 s hs) (hc : All2 (Cb w Z) hs ls) : RwB w (fun _ => False) s hs ls :=
  ⟨h.rd, h.len, h.cap, fun _ _ _ h => h, hc.mono fun _ _ _ _ hcb => hcb.anti fun _ h => h.elim⟩
set_option maxRecDepth 8000 in
theorem ptake_ok (h : PairW w G tag gp p y) {s : Bool} {n i : Nat} (hi : (i : Int) = sideI s) (hn : n < (p.bag s).length) (hl : (p.bag s).length ≤ 1000000) (hinv : (p.t s).inv) (hd : ((p.bag s).getD n []).length ≤ 1000000) (hol : (p.t s).out.length ≤ 1000000)
    (hT : ∀ k b, ((p.comes s ((p.bag s).getD n []) b).1.told k).length ≤ 1000000) (stay : Bool) :
    cl Tryd.prog n_flumelaw12_pair_take #[.pointer (some ⟨gp, 0, none⟩), .int .i64 (i : Int), .int .i64 (n : Int), .bool stay] .B w fun (r : Bool) w' =>
      r = (p.comes s ((p.bag s).getD n []) (if stay then p.bag else setB p.bag s ((p.bag s).eraseIdx n))).2 ∧ PairTo w w' G tag gp (p.comes s ((p.bag s).getD n []) (if stay then p.bag else setB p.bag s ((p.bag s).eraseIdx n))).1 := by
  refine flumelaw12_pair_take.cl (p0 := some ⟨gp, 0, none⟩) ?_
  unfold flumelaw12_pair_take
  obtain ⟨b1, b2, b3⟩ := h.bag s
  have hal := b2.length
  refine nzS (h.bagp hi ?_)
  have hj1 : n < (y.bh s).length := by omega
  refine ixS b1.rd b1.len rfl hj1 (Fr.refl _) ?_
  have hx5 : Cb w (ZT G tag) (y.bh s)[n] ((p.bag s).getD n []) := by
    have := b2.get hj1 hn
    rwa [List.getD_eq_getElem?_getD, List.getElem?_eq_getElem hn]
  generalize (y.bh s)[n] = x5 at hx5 ⊢
  generalize (p.bag s).getD n [] = d at hx5 hd hT ⊢
  intro j2
  have core : ∀ (v : World) (bag' : Bool → Rows8), PairTo w v G tag gp { p with bag := bag' } → (∀ r v', (r = (p.comes s d bag').2 ∧ PairTo w v' G tag gp (p.comes s d bag').1) → (r = (p.comes s d (if stay then p.bag else setB p.bag s ((p.bag s).eraseIdx n))).2 ∧ PairTo w v' G tag gp (p.comes s d (if stay then p.bag else setB p.bag s ((p.bag s).eraseIdx n))).1)) → j2 v := by
    rintro v bag' ⟨tag1, y1, h1, m1, n1⟩ hQ
    unfold j2
    intro dn
    have hfn := Fr.drewN v dn
    generalize v.drewN dn = v2 at *
    have h2 := h1.fr hfn
    have m2 : Mv (fun k => tag k ≠ .none) w v2 := m1.trans (Mv.of_fr (F := fun _ => False) hfn) fun _ h => h.elim
    have hz2 := hfn.size
    have hb2 : Bs v2 x5 d := (hx5.mv m2 (Z' := ZT G tag) (fun k hk => .inl (.inr hk)) fun k hk => .inl hk).bs
    refine nzS (h2.ptr hi ?_)
    refine (Clone_byte_ok hb2 (by omega)).mono ?_
    rintro x126 w127 ⟨o126, hf127⟩
    refine ⟨hf127, ?_⟩
    have h3 := h2.fr hf127
    have hm : ({ p with bag := bag' } : Pr).t s = p.t s := rfl
    have h3t := h3.tun s
    rw [hm] at h3t
    refine (take_ok h3t hinv o126.bs (by omega) (by omega)).mono ?_
    rintro ⟨xr, xe, ⟨⟩⟩ w129 ⟨he, F', x', hs, t1, mt1, f1, or1, ob1, pw1, nb1, rb1⟩
    have he : xe = ((p.t s).take d).2.2 := he
    have hz1 := m1.size
    have hz3 := hf127.size
    have hz4 := mt1.size
    have t1' : Tun w129 (fun k => G k ∨ (tag1 k ≠ .none ∧ tag1 k ≠ .tun s)) F' (y1.g s) ((p.t s).take d).1 x' := t1.anti fun k hk => .inl hk
    obtain ⟨h4, m4, n4⟩ := h3.act1 t1' mt1 f1
    -- what is known of the new owners
    have hnb : ∀ k, NB hs k → ¬F' k := fun k hk hf => t1.gf k (.inr hk) hf
    have hlow : ∀ k, ¬F' k → (tag1 k = .tun s ∨ w127.heap.size ≤ k) → tagT tag1 s F' k = .none := fun k hk ho => by
      unfold tagT
      rw [if_neg hk]
      rcases ho with e | e
      · rw [if_pos e]
      · have : tag1 k = .none := by
          apply Classical.byContradiction
          intro hx
          have := h3.lt k hx
          omega
        rw [this]; split <;> rfl
    have hGn : ∀ k, (tag1 k = .tun s ∨ w127.heap.size ≤ k) → ¬G k := fun k hk hG => by
      rcases hk with e | e
      · have := h3.gt k hG; rw [this] at e; cases e
      · have := h3.gl k hG; omega
    have hcb : All2 (Cb w129 (ZT G (tagT tag1 s F'))) hs ((p.t s).take d).2.1 := ob1.mono fun a b ha _ hab => ⟨hab.bs, fun _ ad had hz => by
      have hk : NB hs ad.block := ⟨a, ha, ad, had, rfl⟩
      rcases hz with hz | hz
      · exact hGn _ (nb1 _ hk) hz
      · exact hz (hlow _ (hnb _ hk) (nb1 _ hk))⟩
    have hrn : ∀ k, BK xr k → tagT tag1 s F' k = .none := by
      rintro k ⟨ad, ha, rfl⟩
      exact hlow _ (rb1 ad ha).1 (.inr (or1.own ad ha).1)
    have e4 : (({ p with bag := bag' } : Pr).t s).take d = (p.t s).take d := rfl
    dsimp only at h4
    generalize tagT tag1 s F' = tag4 at *
    intro j3
    have c3 : ∀ (g : Nat) (u : World), Fr w129 u → w129.heap.size ≤ g → u.heap[g]? = some (.cells ([.int .i64 ((p.t s).take d).1.you, .int .i64 ((p.t s).take d).1.me, .int .i64 (i : Int)] : List Value).toArray t_3_int (0, 0)) → j3 (some ⟨g, 0, none⟩) u := by
      intro g u hfu hgl hg
      unfold j3
      rw [hi] at hg
      intro dn3
      have hfn3 := Fr.drewN u dn3
      generalize u.drewN dn3 = u1 at *
      have hf1 := hfu.trans hfn3
      have h5 := h4.fr hf1
      have hg1 := hfn3.heap hg
      have hz5 := hf1.size
      have gne : ∀ {k : Nat}, tag4 k ≠ .none → g ≠ k := fun {k} hk e => by
        have := h4.lt k hk
        omega
      refine nzS ?_
      rw [addOff]
      refine ldM0 h5.cells rfl (nzS (ldR0 hg1 rfl ?_))
      have hkey : (Value.agg ([.int .i64 ((p.t s).take d).1.you, .int .i64 ((p.t s).take d).1.me, .int .i64 (sideI s)] : List Value).toArray) = key3 (((p.t s).take d).1.you, ((p.t s).take d).1.me, sideI s) := rfl
      dsimp only
      rw [hkey]
      generalize hkk : ((((p.t s).take d).1.you, ((p.t s).take d).1.me, sideI s) : Key3) = key at *
      obtain ⟨x, hsx, x1, x2, x3, x4⟩ := h5.told.get key
      refine rnEntry keyM3 u_map_3_int_s_s_uint8 zI (kd := .L) h5.told.map key x (by exact x1) fun st u2 hE2 hg2 hs2 => ?_
      have x2u : OwS u2 0 t_s_uint8 x hsx := x2.mv (Mv.of_grown (F := fun k => k = y1.mt) hg2 rfl) fun ad ha e => by
        have := x4 _ ⟨ad, ha, rfl⟩
        rw [e, h5.tmt] at this; cases this
      have xl := x2.len
      have xl3 := x3.length
      have hTe : ((p.comes s d (fun _ => [])).1.told key) = p.told key ++ ((p.t s).take d).2.1 := by
        show updK p.told (((p.t s).take d).1.you, ((p.t s).take d).1.me, sideI s) _ key = _
        rw [hkk]
        unfold updK
        rw [if_pos rfl]
      have hTk := hT key fun _ => []
      rw [hTe, List.length_append] at hTk
      have hol := hcb.length
      have mE2 : Mv (fun k => tag4 k = .mtold ∨ tag4 k = .told key) u1 u2 := Mv.of_grown hg2 (.inl h5.tmt)
      have hrx : Rd u2 xr.a (slsV hs) := ((or1.fr hf1).mv mE2 fun ad ha e => by
        have := hrn _ ⟨ad, ha, rfl⟩
        rw [this] at e; rcases e with e | e <;> cases e).rd
      have x3l : hsx.length = (p.told key).length := x3.length
      have hsum : hsx.length + hs.length ≤ 1000000 := by rw [x3l, hol]; exact hTk
      refine app_S slS (by decide) (base := 0) (ms := hs) x2u hrx or1.len.symm (by omega) (Nat.zero_le _) fun r u3 h3r hg3 hat => ?_
      rw [ownB_slice, ownB_slice] at hat
      rw [ownB_slice] at hg3
      have hz3r := hg3.size
      have hrb : ∀ k, BK r k → BK x k ∨ k = u2.heap.size := by
        rintro k ⟨o, hro, rfl⟩
        rw [hro] at hat
        rcases hat with h1 | h1
        · cases hxa : x.a with
          | none => rw [hxa] at h1; cases h1
          | some o' => rw [hxa] at h1; exact .inl ⟨o', hxa, (Option.some.inj h1).symm⟩
        · exact .inr (Option.some.inj h1)
      have mE3 : Mv (fun k => BK x k) u2 u3 := ⟨hg3.os, hg3.tape, hg3.output, hg3.size, fun k hk hn => hg3.block k hk fun e => by
        cases hxa : x.a with
        | none => rw [hxa] at e; cases e
        | some o => rw [hxa] at e; exact hn ⟨o, hxa, (Option.some.inj e).symm⟩⟩
      have hmtl : y1.mt < u1.heap.size := h5.told.map.lt
      have hE3 : Ent key3 u3 y1.mt y1.fT key st := hE2.sub (mE3.block y1.mt (show y1.mt < u2.heap.size by have := hg2.size; omega) fun hk => by have := x4 _ hk; rw [h5.tmt] at this; cases this)
      refine ruEntry hE3 (slV r) fun u4 hM4 hg4 hs4 => ?_
      have mE4 : Mv (fun k => tag4 k = .mtold ∨ tag4 k = .told key) u1 u4 := ((mE2.trans mE3 fun k hk => .inl (.inr (x4 k hk))).trans (Mv.of_grown (F := fun k => k = y1.mt) hg4 rfl) fun k hk => .inl (.inl (by rw [hk]; exact h5.tmt)))
      have hrt : ∀ k, BK r k → tag4 k = .told key ∨ u1.heap.size ≤ k := fun k hk => (hrb k hk).imp (fun h1 => x4 k h1) fun h1 => by have := hg2.size; omega
      have hmtne : ∀ k, BK r k → k ≠ y1.mt := fun k hk e => by
        rcases hrb k hk with h1 | h1
        · have := x4 k h1; rw [e, h5.tmt] at this; cases this
        · have := hg2.size; omega
      have h4r : OwS u4 0 t_s_uint8 r (hsx ++ hs) := h3r.mv (Mv.of_grown (F := fun k => k = y1.mt) hg4 rfl) fun ad ha e => hmtne _ ⟨ad, ha, rfl⟩ e
      have hbl : ∀ k, BK r k → k < u4.heap.size ∧ ¬G k := fun k hk => by
        obtain ⟨ad, had, e⟩ := hk
        refine ⟨by rw [← e]; exact (h4r.own ad had).2, fun hG => ?_⟩
        rcases hrt k ⟨ad, had, e⟩ with h1 | h1
        · have := h5.gt k hG; rw [this] at h1; cases h1
        · have := h5.gl k hG; omega
      have hZ : ∀ k, ZT G (tagB tag4 (.told key) r) k → ZT G tag4 k ∨ u1.heap.size ≤ k := fun k hk => by
        rcases hk with hk | hk
        · exact .inl (.inl hk)
        · rcases tagB_ne hk with h1 | h1
          · rcases hrt k h1 with h2 | h2
            · left; right; rw [h2]; exact fun e => by cases e
            · exact .inr h2
          · exact .inl (.inr h1)
      have hEZ : ∀ k, (tag4 k = .mtold ∨ tag4 k = .told key) → ZT G tag4 k ∨ u1.heap.size ≤ k := fun k hk => by
        left; right
        rcases hk with e | e <;> rw [e] <;> exact fun e => by cases e
      have hcb1 : All2 (Cb u1 (ZT G tag4)) hs ((p.t s).take d).2.1 := hcb.mono fun a c _ _ hc => hc.mv (Mv.of_fr (F := fun _ => False) hf1) (fun _ h => h.elim) fun k hk => .inl hk
      have hc4 : All2 (Cb u4 (ZT G (tagB tag4 (.told key) r))) (hsx ++ hs) (p.told key ++ ((p.t s).take d).2.1) := (All2.append x3 hcb1).mono fun a c _ _ hc => hc.mv mE4 hEZ hZ
      obtain ⟨h6, m6, n6⟩ := h5.toldSet mE4 hrt hbl hM4 h4r hc4
      have hg4' := mE4.heap hg1 fun e => by
        have hn : tag4 g ≠ .none := by rcases e with e | e <;> rw [e] <;> exact fun e => by cases e
        exact gne hn rfl
      have to6 : PairTo w u4 G tag gp (p.comes s d bag').1 := by
        have e6 : (p.comes s d bag').1 = { t := setB p.t s ((p.t s).take d).1, bag := bag', sent := p.sent, told := updK p.told key (p.told key ++ ((p.t s).take d).2.1) } := by
          rw [← hkk]; rfl
        rw [e6]
        exact PairTo.step m2 n1 (PairTo.step (Mv.of_fr hf127) (fun k hk => .inl hk) (PairTo.step m4 n4 (PairTo.step (Mv.of_fr hf1) (fun k hk => .inl hk) ⟨_, _, h6, m6, n6⟩)))
      have hres : (p.comes s d bag').2 = (decide (((p.t s).take d).2.2 = 0) && (decide ((p.told key ++ ((p.t s).take d).2.1).length ≤ (p.sent key).length) && decide (p.told key ++ ((p.t s).take d).2.1 = (p.sent key).take (p.told key ++ ((p.t s).take d).2.1).length))) := by
        rw [← hkk]; rfl
      have hrl : r.n = (p.told key ++ ((p.t s).take d).2.1).length := by
        rw [h4r.len, List.length_append, List.length_append, x3l, hol]
      refine nzS ?_
      rw [addOff]
      refine ldM0 h6.cells rfl (nzS (ldR0 hg4' rfl ?_))
      dsimp only
      rw [hkey]
      refine qnM keyM3 u_map_3_int_s_s_uint8 zI (kd := .L) (ok := false) h6.told.map.mapF key r (by show slV r = (if key = key then some (slV r) else _ : Option Value).getD _; rw [if_pos rfl]; rfl) ?_
      intro d7 d8
      have hf8 : Fr u4 ((u4.drewN d7).drewN d8) := (Fr.drewN _ _).trans (Fr.drewN _ _)
      generalize (u4.drewN d7).drewN d8 = u8 at *
      have h8 := h6.fr hf8
      have hg8 := hf8.heap hg4'
      have to8 : PairTo w u8 G tag gp (p.comes s d bag').1 := by
        obtain ⟨tagz, yz, z1, z2, z3⟩ := to6
        exact ⟨tagz, yz, z1.fr hf8, z2.trans (Mv.of_fr (F := fun _ => False) hf8) fun _ h => h.elim, z3⟩
      obtain ⟨xs, hss, s1, s2, s3, s4⟩ := h8.sent.get key
      have s3l : hss.length = (p.sent key).length := s3.length
      have xsl := s2.len
      refine bE ?_ ?_ <;> intro he0
      rotate_left
      · refine hQ _ _ ⟨?_, to8⟩
        rw [hres, ← he, decide_eq_false he0]; rfl
      have he0' : ((p.t s).take d).2.2 = 0 := he.symm.trans he0
      rw [decide_eq_true he0', Bool.true_and] at hres
      have qS : ∀ {Q : Sl → Prop}, Q xs → qn Tryd.prog (Instr.lookup t_map_3_int_s_s_uint8 (.map (some y1.ms)) (key3 key) false) .L u8 Q := fun {Q} hq => qnM keyM3 u_map_3_int_s_s_uint8 zI (kd := .L) (ok := false) h8.sent.map.mapF key xs (by exact s1) hq
      have qT : ∀ {Q : Sl → Prop}, Q r → qn Tryd.prog (Instr.lookup t_map_3_int_s_s_uint8 (.map (some y1.mt)) (key3 key) false) .L u8 Q := fun {Q} hq => qnM keyM3 u_map_3_int_s_s_uint8 zI (kd := .L) (ok := false) h8.told.map.mapF key r (by show slV r = (if key = key then some (slV r) else _ : Option Value).getD _; rw [if_pos rfl]; rfl) hq
      have lS : ∀ {K : Option Nat → Prop}, K (some y1.ms) → ld .M u8 ((⟨gp, 0, none⟩ : Addr).add 4) K := fun {K} hk => by
        rw [addOff]; exact ldM0 h8.cells rfl hk
      have lT : ∀ {K : Option Nat → Prop}, K (some y1.mt) → ld .M u8 ((⟨gp, 0, none⟩ : Addr).add 5) K := fun {K} hk => by
        rw [addOff]; exact ldM0 h8.cells rfl hk
      refine nzS (lS (nzS (ldR0 hg8 rfl ?_)))
      dsimp only
      rw [hkey]
      refine qS ?_
      refine bD ?_ ?_ <;> intro hle
      rotate_left
      · refine hQ _ _ ⟨?_, to8⟩
        rw [hres, decide_eq_false (by omega)]; rfl
      rw [decide_eq_true (show (p.told key ++ ((p.t s).take d).2.1).length ≤ (p.sent key).length by omega), Bool.true_and] at hres
      refine nzS (lT (nzS (ldR0 hg8 rfl ?_)))
      dsimp only
      rw [hkey]
      refine qT (nzS (lS (nzS (ldR0 hg8 rfl ?_))))
      dsimp only
      rw [hkey]
      refine qS ?_
      have hsc := s2.cap
      refine ⟨Int.le_refl _, by omega, by omega, ?_⟩
      have hcut := (OwS.rwb s2 s3).cut (i := 0) (j := r.n) (Nat.zero_le _) (by omega)
      rw [Int.toNat_zero, Int.toNat_natCast]
      rw [List.drop_zero, List.drop_zero] at hcut
      have hr8 : Rd u8 r.a (slsV (hsx ++ hs)) := (h4r.fr hf8).rd
      have hc8 : All2 (Bs u8) (hsx ++ hs) (p.told key ++ ((p.t s).take d).2.1) := hc4.mono fun a c _ _ hc => hc.bs.fr hf8
      refine (rows_ok hr8 h4r.len hc8 hcut.rd hcut.len (hcut.all.mono fun a c _ _ hc => hc.bs) (by rw [List.length_append]; omega)).mono ?_
      rintro rb _ ⟨rfl, rfl⟩
      refine hQ _ _ ⟨?_, to8⟩
      rw [hres, ← hrl]
    clear_value j3
    intro dn4
    have hf130 := Fr.drewN w129 dn4
    generalize w129.drewN dn4 = w130 at *
    have h7 := h4.fr hf130
    have hme4 : 1 ≤ ((p.t s).take d).1.me := (hinv.take d).me.1
    have h7t : Tun w130 _ _ (y1.g s) (setB p.t s ((p.t s).take d).1 s) _ := h7.tun s
    rw [setB_same] at h7t
    have mkS : ∀ (g : Nat) (u : World), u.heap[g]? = some (.cells ((zrow 3 (.int .i64 0)).1).toArray t_3_int (0, 0)) → Fr w129 u → w129.heap.size ≤ g → stL ⟨g, 0, none⟩ u 0 [.int .i64 ((p.t s).take d).1.you, .int .i64 ((p.t s).take d).1.me, .int .i64 (i : Int)] fun u' => j3 (some ⟨g, 0, none⟩) u' := fun g u hg hf hgl => by
      refine stL_row hg (show 0 + 3 ≤ 3 from Nat.le_refl 3) (fun v hv => by simp only [List.mem_cons, List.not_mem_nil, or_false] at hv; rcases hv with rfl | rfl | rfl <;> rfl) fun u' hb' hg' hs' => ?_
      refine c3 g u' (hf.on (grown_below hg' hgl hf.size)) hgl ?_
      rw [hb']; rfl
    refine nzS (h7.ptr hi (nzS (h7.ptr hi ?_)))
    refine ⟨?_, ?_⟩
    · refine (tYou_ok h7t hme4).mono ?_
      rintro _ _ ⟨rfl, rfl⟩
      refine ⟨Fr.refl _, ?_, ?_⟩
      · refine (tMe_ok h7t hme4).mono ?_
        rintro _ _ ⟨rfl, rfl⟩
        refine ⟨Fr.refl _, ⟨[.int .i64 ((p.t s).take d).1.you, .int .i64 ((p.t s).take d).1.me, .int .i64 (i : Int)], rfl⟩, fun w' _ => build_three _ _ _ w', ?_⟩
        refine nwI fun g u hg hs hf hb _ => ⟨hf, ?_⟩
        exact mkS g u hb (hf130.trans hf) (by have := hf130.size; omega)
      · refine nwI fun g u hg hs hf hb _ => ⟨hf, ?_⟩
        refine (tMe_ok (h7t.fr hf) hme4).mono ?_
        rintro _ _ ⟨rfl, rfl⟩
        refine ⟨Fr.refl _, ⟨[.int .i64 ((p.t s).take d).1.you, .int .i64 ((p.t s).take d).1.me, .int .i64 (i : Int)], rfl⟩, fun w' _ => build_three _ _ _ w', ?_⟩
        exact mkS g u hb (hf130.trans hf) (by have := hf130.size; omega)
    · refine nwI fun g u hg hs hf hb _ => ⟨hf, ?_⟩
      refine (tYou_ok (h7t.fr hf) hme4).mono ?_
      rintro _ _ ⟨rfl, rfl⟩
      refine ⟨Fr.refl _, ?_⟩
      refine (tMe_ok (h7t.fr hf) hme4).mono ?_
      rintro _ _ ⟨rfl, rfl⟩
      refine ⟨Fr.refl _, ⟨[.int .i64 ((p.t s).take d).1.you, .int .i64 ((p.t s).take d).1.me, .int .i64 (i : Int)], rfl⟩, fun w' _ => build_three _ _ _ w', ?_⟩
      exact mkS g u hb (hf130.trans hf) (by have := hf130.size; omega)
  clear_value j2
  cases stay
  · refine bT rfl ?_
    intro dn
    have hfn := Fr.drewN w dn
    generalize w.drewN dn = w6 at *
    refine nzS ?_
    refine (h.fr hfn).drop1 hn hl hi fun w' hw' => ?_
    refine core w' (setB p.bag s ((p.bag s).eraseIdx n)) (PairTo.step (Mv.of_fr hfn) (fun k hk => .inl hk) hw') fun r v' hv => hv
  · exact bF rfl (core w p.bag (PairTo.refl h) fun r v' hv => hv)
end
end Go.Proofs.YtmhibpcbdbhfoaaDoor
namespace Go.Fl

theorem Good.len {S : Key3 → Rows8} {r : Bool} {d : List UInt8} (h : Good S r d) : d.length ≤ 2000 := by
  obtain ⟨f, h1, _⟩ := h
  obtain ⟨h2, h3⟩ := getF_back h1
  have := putF_len f
  rw [putF, if_pos h2] at this
  rw [← h3]; exact this
/-- What holds between two acts. -/
structure PS (p : Pr) (m : Int) (n : Nat) : Prop where
  pi : PI p m n
  out : ∀ s, (p.t s).out = []
  bag : ∀ s, (p.bag s).length ≤ 200
theorem ps0 : PS pr0 5000 0 := ⟨pi0, fun s => by cases s <;> rfl, fun _ => Nat.zero_le _⟩
theorem setB_len {α : Type} {f : Bool → List α} {n : Nat} (h : ∀ s, (f s).length ≤ n) {s : Bool} {l : List α} (hl : l.length ≤ n) : ∀ u, (setB f s l u).length ≤ n := fun u => by
  unfold setB; split
  · exact hl
  · exact h u
theorem setB_out {f : Bool → Tn} {n : Nat} (h : ∀ s, (f s).out.length ≤ n) {s : Bool} {t : Tn} (hl : t.out.length ≤ n) : ∀ u, (setB f s t u).out.length ≤ n := fun u => by
  unfold setB; split
  · exact hl
  · exact h u
theorem erase_len {α : Type} (l : List α) (i : Nat) : (l.eraseIdx i).length ≤ l.length := List.length_eraseIdx_le ..
theorem PS.act {p : Pr} {m : Int} {n : Nat} (h : PS p m n) (a : PAct) : (∀ s, ((p.act a).1.t s).out.length ≤ 65) ∧ ∀ s, ((p.act a).1.bag s).length ≤ 200 := by
  have ho : ∀ s, (p.t s).out.length ≤ 65 := fun s => by rw [h.out s]; exact Nat.zero_le _
  have hz : ∀ s, (p.t s).out.length = 0 := fun s => by rw [h.out s]; rfl
  have hi := fun s => (h.pi.ti s).inv
  have hb := h.bag
  have he : ∀ s i, ((p.bag s).eraseIdx i).length ≤ 200 := fun s i => Nat.le_trans (erase_len _ _) (hb s)
  unfold Pr.act
  split
  · have h1 := send_out (hi a.side) a.b
    have h2 := hz a.side
    unfold Pr.sends
    split
    · exact ⟨setB_out ho (by omega), hb⟩
    · exact ⟨setB_out ho (by omega), hb⟩
  split
  · have h1 := tick_out (hi a.side)
    have h2 := hz a.side
    exact ⟨setB_out ho (by omega), hb⟩
  split
  · exact ⟨setB_out ho (Nat.zero_le _), hb⟩
  split
  · have h1 := hint_out (p.t a.side) (p.t (!a.side)).me
    have h2 := hz a.side
    exact ⟨setB_out ho (by omega), hb⟩
  split
  · exact ⟨ho, hb⟩
  split
  · exact ⟨ho, setB_len hb (he _ _)⟩
  · have h1 := take_out (hi a.side) ((p.bag a.side).getD (a.u % (p.bag a.side).length) [])
    have h2 := hz a.side
    refine ⟨setB_out ho (by omega), ?_⟩
    show ∀ s, ((if a.stay then p.bag else _ : Bool → Rows8) s).length ≤ 200
    split
    · exact hb
    · exact setB_len hb (he _ _)
theorem pour_len {b l : Rows8} (h : b.length ≤ 200) : (pour b l).length ≤ 200 := by
  unfold pour
  rw [List.length_append, List.length_take]
  omega
theorem PS.does {p : Pr} {m : Int} {n : Nat} (h : PS p m n) (hm : m + 100 < 1099511627776) (hm0 : 0 ≤ m) (hn : n + 1 < 1099511627775) (a : PAct) : (p.does a).2 = true ∧ PS (p.does a).1 (m + 100) (n + 1) :=
  ⟨(h.pi.does hm hm0 hn a).1, (h.pi.does hm hm0 hn a).2, fun _ => rfl, fun s => pour_len ((h.act a).2 s)⟩
end Go.Fl
namespace Go.Proofs.YtmhibpcbdbhfoaaDoor
open Go.RowKit Go.Fl

/-- An act, as plain data. -/
def pact (e : ActE) : PAct := ⟨(IntKind.u64.wrap e.1.1 % 9).toNat, decide (e.1.2.1 % 2 = 1), (IntKind.u64.wrap e.1.2.2.1).toNat, e.2, e.1.2.2.2.2.1⟩
theorem u64_nonneg (n : Int) : 0 ≤ IntKind.u64.wrap n := by simp only [IntKind.wrap, IntKind.bits, IntKind.signed]; simp; omega
theorem mod9 (n : Int) : IntKind.i64.wrap (Int.tmod (IntKind.u64.wrap n) 9) = ((IntKind.u64.wrap n % 9).toNat : Int) ∧ (IntKind.u64.wrap n % 9).toNat < 9 := by
  have hu := u64_nonneg n
  generalize IntKind.u64.wrap n = u at *
  rw [Int.tmod_eq_emod_of_nonneg hu, i64w (by omega) (by omega)]
  omega
theorem modN (n : Int) {k : Nat} (hk : 0 < k) (hl : k ≤ 1000000) : IntKind.i64.wrap (Int.tmod (IntKind.u64.wrap n) (IntKind.u64.wrap (k : Int))) = (((IntKind.u64.wrap n).toNat % k : Nat) : Int) ∧ IntKind.u64.wrap (k : Int) ≠ 0 := by
  have hu := u64_nonneg n
  have e : IntKind.u64.wrap (k : Int) = k := by simp only [IntKind.wrap, IntKind.bits, IntKind.signed]; simp; omega
  rw [e]
  generalize IntKind.u64.wrap n = u at *
  obtain ⟨v, rfl⟩ := Int.eq_ofNat_of_zero_le hu
  have h2 : v % k < k := Nat.mod_lt _ hk
  rw [Int.tmod_eq_emod_of_nonneg hu]
  have e3 : (v : Int) % (k : Int) = ((v % k : Nat) : Int) := rfl
  rw [e3, i64w (by omega) (by omega)]
  exact ⟨rfl, by omega⟩
section
variable {w w' : World} {G : Nat → Prop} {tag : Nat → Tag} {gp : Nat} {p : Pr} {y : PShp} {s : Bool}
/-- A side has another tunnel now. -/
theorem PairW.newTun (h : PairW w G tag gp p y) {t' : Tn} {F' : Nat → Prop} {g' : Nat} {x' : Shp} (m1 : Mv (fun k => k = gp) w w') (t1 : Tun w' (fun k => G k ∨ (tag k ≠ .none ∧ tag k ≠ .tun s)) F' g' t' x') (f1 : ∀ k, F' k → w.heap.size ≤ k)
    (hc : w'.heap[gp]? = some (.cells (prC { y with g := setB y.g s g' }).toArray t_flumelaw12_pair (0, 0))) :
    PairTo w w' G tag gp { p with t := setB p.t s t' } := by
  have hF : ∀ k, F' k → tag k = .tun s ∨ tag k = .none := fun k hk => by
    right
    apply Classical.byContradiction
    intro hn
    have := h.lt k hn
    have := f1 k hk
    omega
  have hne : ∀ k, tagT tag s F' k ≠ .none → tag k ≠ .none ∨ w.heap.size ≤ k := fun k hk => by
    rcases tagT_ne hk with h1 | h1
    · exact .inr (f1 k h1)
    · exact .inl h1
  have hgn : ∀ k, k = gp → tag k ≠ .none := fun k hk => by rw [hk, h.tgp]; exact fun e => by cases e
  have hgt : ∀ {U : Tag} {k : Nat}, tag k = U → U ≠ .pair → ¬k = gp := fun {U k} e h1 e2 => by rw [e2, h.tgp] at e; exact h1 e.symm
  have hEZ : ∀ k, k = gp → ZT G tag k ∨ w.heap.size ≤ k := fun k hk => .inl (.inr (hgn k hk))
  have hZ : ∀ k, ZT G (tagT tag s F') k → ZT G tag k ∨ w.heap.size ≤ k := fun k hk => by
    rcases hk with hk | hk
    · exact .inl (.inl hk)
    · exact (hne k hk).imp .inr id
  have oth : ∀ {T : Tag}, T ≠ .tun s → T ≠ .none → ∀ k, (tagT tag s F' k = T ↔ tag k = T) := fun h1 h2 k => tagT_other hF h1 h2
  have hz := m1.size
  refine ⟨tagT tag s F', { y with g := setB y.g s g', x := setB y.x s x' }, ⟨hc, (oth (by exact fun e => by cases e) (by exact fun e => by cases e) gp).2 h.tgp, (oth (by exact fun e => by cases e) (by exact fun e => by cases e) _).2 h.tms, (oth (by exact fun e => by cases e) (by exact fun e => by cases e) _).2 h.tmt, fun k hk => ?_, fun k hk => by have := h.gl k hk; omega, fun k hk => ?_, fun u => ?_, fun u => ?_, ?_, ?_⟩, m1.mono fun k hk => .inl (hgn k hk), hne⟩
  · rcases tagT_ne hk with h1 | h1
    · exact t1.fl k h1
    · have := h.lt k h1; omega
  · apply Classical.byContradiction
    intro hn
    rcases tagT_ne hn with h1 | h1
    · exact t1.gf k (.inl hk) h1
    · exact h1 (h.gt k hk)
  · rcases bool_cases s u with hu | hu
    · subst hu
      show Tun w' _ _ (setB y.g u g' u) (setB p.t u t' u) (setB y.x u x' u)
      rw [setB_same, setB_same, setB_same]
      have eF : (fun k => tagT tag u F' k = .tun u) = F' := funext fun k => propext tagT_tun
      rw [eF]
      refine t1.anti fun k hk => ?_
      rcases hk with hk | ⟨h1, h2⟩
      · exact .inl hk
      · have h3 := (oth h2 h1 k).1 rfl
        rw [← h3] at h1 h2
        exact .inr ⟨h1, h2⟩
    · subst hu
      show Tun w' _ _ (setB y.g s g' (!s)) (setB p.t s t' (!s)) (setB y.x s x' (!s))
      rw [setB_other, setB_other, setB_other]
      have hsn : (Tag.tun (!s)) ≠ .tun s := fun e => by injection e with e; cases s <;> cases e
      have eF : (fun k => tagT tag s F' k = .tun (!s)) = fun k => tag k = .tun (!s) := funext fun k => propext (oth hsn (fun e => by cases e) k)
      rw [eF]
      refine (h.tun (!s)).other m1 (fun k hk => .inl ⟨.inr ⟨hgn k hk, fun e => hgt e (fun e => by cases e) hk⟩, fun e => hgt e (fun e => by cases e) hk⟩) (fun k hk => ?_) fun k hk => ?_
      · rcases hk with hk | ⟨h1, h2⟩
        · exact .inl (.inl hk)
        · rcases hne k h1 with h3 | h3
          · exact .inl (.inr ⟨h3, fun e => h2 ((oth hsn (fun e => by cases e) k).2 e)⟩)
          · exact .inr h3
      · rcases hk with hk | ⟨h1, h2⟩
        · have := h.gl k hk; omega
        · rcases tagT_ne h1 with h3 | h3
          · exact t1.fl k h3
          · have := h.lt k h3; omega
  · obtain ⟨b1, b2, b3⟩ := h.bag u
    exact ⟨b1.mv m1 fun ad ha => hgt (b3 _ ⟨ad, ha, rfl⟩) (fun e => (by cases e)), b2.mono fun a c _ _ hc => hc.mv m1 hEZ hZ, fun k hk => (oth (fun e => by cases e) (fun e => by cases e) k).2 (b3 k hk)⟩
  · exact h.sent.mv m1 (hgt h.tms fun e => by cases e) hEZ hZ (fun k j hj => hgt hj fun e => by cases e) fun k j _ hj => (oth (fun e => by cases e) (fun e => by cases e) j).2 hj
  · exact h.told.mv m1 (hgt h.tmt fun e => by cases e) hEZ hZ (fun k j hj => hgt hj fun e => by cases e) fun k j _ hj => (oth (fun e => by cases e) (fun e => by cases e) j).2 hj
/-- A tunnel's pointer is written. -/
theorem st_ptr {g' : Nat} {i : Nat} {u : Bool} (hi : (i : Int) = sideI u) (hc : w.heap[gp]? = some (.cells (prC y).toArray t_flumelaw12_pair (0, 0))) {J : World → Prop}
    (hJ : ∀ w', w'.heap[gp]? = some (.cells (prC { y with g := setB y.g u g' }).toArray t_flumelaw12_pair (0, 0)) → w.grownBy w' (some gp) → w'.heap.size = w.heap.size → J w') : ixa (some ⟨gp, 0, none⟩) 2 (i : Int) 1 fun a => st1 w a (.pointer (some ⟨g', 0, none⟩)) J := by
  cases u
  · obtain rfl : i = 0 := by unfold sideI at hi; simp at hi; omega
    exact ix1 (by omega) (st0 hc (by show 0 < 6; decide) fun w' h1 h2 h3 => hJ w' h1 h2 h3)
  · obtain rfl : i = 1 := by unfold sideI at hi; simp at hi; omega
    exact ix1 (by omega) (st0 hc (by show 1 < 6; decide) fun w' h1 h2 h3 => hJ w' h1 h2 h3)
end
end Go.Proofs.YtmhibpcbdbhfoaaDoor
namespace Go.Proofs.YtmhibpcbdbhfoaaDoor
open Go.RowKit Go.Fl

section
variable {w w' : World} {G : Nat → Prop} {tag : Nat → Tag} {gp : Nat} {p : Pr} {y : PShp}
set_option maxRecDepth 8000 in
/-- What was sent is noted. -/
theorem noted_ok (h : PairW w G tag gp p y) {key : Key3} {x23 : Sl} {b : List UInt8} (hB : Bs w x23 b) (hbl : b.length ≤ 1099511627776) (hlen : (p.sent key).length ≤ 1000000) {a16 : Nat} {tt : TypeId} (hk : w.heap[a16]? = some (.cells ([.int .i64 key.1, .int .i64 key.2.1, .int .i64 key.2.2] : List Value).toArray tt (0, 0))) {a1 : Nat} {cs : Array Value} {t2 : TypeId} (ha1 : w.heap[a1]? = some (.cells cs t2 (0, 0))) (hc3 : cs[3]? = some (.slice x23.a x23.n x23.c)) {J : World → Prop}
    (hJ : ∀ w', PairTo w w' G tag gp { p with sent := updK p.sent key (p.sent key ++ [b]) } → J w') :
    nz (some ⟨gp, 0, none⟩) fun a20 => ld .M w (a20.add 4) fun (x21 : Option Nat) => ld (.row 3) w ⟨a16, 0, none⟩ fun (x22 : {l : List Value // l.length = 3}) => ld .L w ((⟨a1, 0, none⟩ : Addr).add 3) fun (x23 : Sl) => cl Tryd.prog n_slices_Clone_byte_byte #[.slice x23.a x23.n x23.c] .L w fun (x24 : Sl) w25 => Fr w w25 ∧ nw w25 [.slice x24.a x24.n x24.c] t_s_uint8 fun a26 w27 => Fr w25 w27 ∧ rn Tryd.prog (Instr.mapEntry t_map_3_int_s_s_uint8 (.map x21) (.agg (x22.1).toArray)) (.tup (.pair .L (.pair (.I .i64) .nil))) w27 fun (x28 : (Sl × (Int × Unit))) w29 => app Tryd.prog t_s_s_uint8 t_s_s_uint8 x28.1 ⟨(some a26), 1, 1⟩ w29 fun r30 w31 => ru Tryd.prog (Instr.entryStore t_map_3_int_s_s_uint8 (.map x21) (.int .i64 x28.2.1) (.slice r30.a r30.n r30.c)) w31 J := by
  refine nzS ?_
  rw [addOff]
  refine ldM0 h.cells rfl (ldR0 hk rfl ?_)
  rw [addOff]
  refine ldL0 ha1 hc3 ?_
  refine (Clone_byte_ok hB (by omega)).mono ?_
  rintro x24 w25 ⟨o24, hf25⟩
  refine ⟨hf25, nwI fun a26 u1 ha26 hs26 hf26 hb26 hr26 => ⟨hf26, ?_⟩⟩
  have hf1 := hf25.trans hf26
  have h5 := h.fr hf1
  have hkey : (Value.agg ([.int .i64 key.1, .int .i64 key.2.1, .int .i64 key.2.2] : List Value).toArray) = key3 key := rfl
  dsimp only
  rw [hkey]
  obtain ⟨x, hsx, x1, x2, x3, x4⟩ := h5.sent.get key
  refine rnEntry keyM3 u_map_3_int_s_s_uint8 zI (kd := .L) h5.sent.map key x (by exact x1) fun st u2 hE2 hg2 hs2 => ?_
  have hmtl : y.ms < u1.heap.size := h5.sent.map.lt
  have hz1 := hf1.size
  have hz25 := hf25.size
  have hz26 := hf26.size
  have hz2 := hg2.size
  have x2u : OwS u2 0 t_s_uint8 x hsx := x2.mv (Mv.of_grown (F := fun k => k = y.ms) hg2 rfl) fun ad ha e => by
    have := x4 _ ⟨ad, ha, rfl⟩
    rw [e, h5.tms] at this; cases this
  have xl := x2.len
  have x3l : hsx.length = (p.sent key).length := x3.length
  have mE2 : Mv (fun k => tag k = .msent ∨ tag k = .sent key) u1 u2 := Mv.of_grown hg2 (.inl h5.tms)
  have hEn : ∀ k, (tag k = .msent ∨ tag k = .sent key) → tag k ≠ .none := fun k hk => by
    rcases hk with e | e <;> rw [e] <;> exact fun e => by cases e
  have hmsl : y.ms < w.heap.size := h.lt _ (by rw [h.tms]; exact fun e => by cases e)
  have hrx : Rd u2 (some ⟨a26, 0, none⟩) (slsV [x24]) := hr26.mv (Mv.of_grown (F := fun k => k = y.ms) hg2 rfl) fun _ ad ha e => by
    cases ha
    have e : a26 = y.ms := e
    omega
  refine app_S slS (by decide) (base := 0) (ms := [x24]) x2u hrx rfl (by simp; omega) (Nat.zero_le _) fun r u3 h3r hg3 hat => ?_
  rw [ownB_slice, ownB_slice] at hat
  rw [ownB_slice] at hg3
  have hz3r := hg3.size
  have hrb : ∀ k, BK r k → BK x k ∨ k = u2.heap.size := by
    rintro k ⟨o, hro, rfl⟩
    rw [hro] at hat
    rcases hat with h1 | h1
    · cases hxa : x.a with
      | none => rw [hxa] at h1; cases h1
      | some o' => rw [hxa] at h1; exact .inl ⟨o', hxa, (Option.some.inj h1).symm⟩
    · exact .inr (Option.some.inj h1)
  have mE3 : Mv (fun k => BK x k) u2 u3 := ⟨hg3.os, hg3.tape, hg3.output, hg3.size, fun k hk hn => hg3.block k hk fun e => by
    cases hxa : x.a with
    | none => rw [hxa] at e; cases e
    | some o => rw [hxa] at e; exact hn ⟨o, hxa, (Option.some.inj e).symm⟩⟩
  have hE3 : Ent key3 u3 y.ms y.fS key st := hE2.sub (mE3.block y.ms (show y.ms < u2.heap.size by omega) fun hk => by have := x4 _ hk; rw [h5.tms] at this; cases this)
  refine ruEntry hE3 (slV r) fun u4 hM4 hg4 hs4 => hJ u4 ?_
  have mE4 : Mv (fun k => tag k = .msent ∨ tag k = .sent key) u1 u4 := ((mE2.trans mE3 fun k hk => .inl (.inr (x4 k hk))).trans (Mv.of_grown (F := fun k => k = y.ms) hg4 rfl) fun k hk => .inl (.inl (by rw [hk]; exact h5.tms)))
  have hrt : ∀ k, BK r k → tag k = .sent key ∨ u1.heap.size ≤ k := fun k hk => (hrb k hk).imp (fun h1 => x4 k h1) fun h1 => by omega
  have hmtne : ∀ k, BK r k → k ≠ y.ms := fun k hk e => by
    rcases hrb k hk with h1 | h1
    · have := x4 k h1; rw [e, h5.tms] at this; cases this
    · omega
  have h4r : OwS u4 0 t_s_uint8 r (hsx ++ [x24]) := h3r.mv (Mv.of_grown (F := fun k => k = y.ms) hg4 rfl) fun ad ha e => hmtne _ ⟨ad, ha, rfl⟩ e
  have hbl : ∀ k, BK r k → k < u4.heap.size ∧ ¬G k := fun k hk => by
    obtain ⟨ad, had, e⟩ := hk
    refine ⟨by rw [← e]; exact (h4r.own ad had).2, fun hG => ?_⟩
    rcases hrt k ⟨ad, had, e⟩ with h1 | h1
    · have := h5.gt k hG; rw [this] at h1; cases h1
    · have := h5.gl k hG; omega
  have hZ : ∀ k, ZT G (tagB tag (.sent key) r) k → ZT G tag k ∨ u1.heap.size ≤ k := fun k hk => by
    rcases hk with hk | hk
    · exact .inl (.inl hk)
    · rcases tagB_ne hk with h1 | h1
      · rcases hrt k h1 with h2 | h2
        · left; right; rw [h2]; exact fun e => by cases e
        · exact .inr h2
      · exact .inl (.inr h1)
  have hEZ : ∀ k, (tag k = .msent ∨ tag k = .sent key) → ZT G tag k ∨ u1.heap.size ≤ k := fun k hk => .inl (.inr (hEn k hk))
  have hcb1 : Cb u1 (ZT G tag) x24 b := ⟨(o24.bs.fr hf26), fun _ ad had hz => by
    have h1 := (o24.own ad had).1
    rcases hz with hz | hz
    · have := h.gl _ hz; omega
    · have := h.lt _ hz; omega⟩
  have hc4 : All2 (Cb u4 (ZT G (tagB tag (.sent key) r))) (hsx ++ [x24]) (p.sent key ++ [b]) := (All2.append x3 (show All2 _ [x24] [b] from ⟨hcb1, trivial⟩)).mono fun a c _ _ hc => hc.mv mE4 hEZ hZ
  obtain ⟨h6, m6, n6⟩ := h5.sentSet mE4 hrt hbl hM4 h4r hc4
  exact PairTo.step (Mv.of_fr hf1) (fun k hk => .inl hk) ⟨_, _, h6, m6, n6⟩
end
end Go.Proofs.YtmhibpcbdbhfoaaDoor
namespace Go.Proofs.YtmhibpcbdbhfoaaDoor
open Go.RowKit Go.Fl

theorem act3 {p : Pr} {a : PAct} (h : a.op = 3) : p.act a = (p.sends a.side a.b, true) := by unfold Pr.act; rw [if_pos h]
theorem act45 {p : Pr} {a : PAct} (h : a.op = 4 ∨ a.op = 5) : p.act a = ({ p with t := setB p.t a.side (p.t a.side).tick }, true) := by
  unfold Pr.act; rw [if_neg (by omega), if_pos h]
theorem act7 {p : Pr} {a : PAct} (h : a.op = 7) : p.act a = ({ p with t := setB p.t a.side (tn0 (wr ((p.t a.side).me + 100))) }, true) := by
  unfold Pr.act; rw [if_neg (by omega), if_neg (by omega), if_pos h]
theorem act8 {p : Pr} {a : PAct} (h : a.op = 8) : p.act a = ({ p with t := setB p.t a.side ((p.t a.side).hint (p.t (!a.side)).me) }, true) := by
  unfold Pr.act; rw [if_neg (by omega), if_neg (by omega), if_neg (by omega), if_pos h]
theorem actN {p : Pr} {a : PAct} (h3 : a.op ≠ 3) (h4 : ¬(a.op = 4 ∨ a.op = 5)) (h7 : a.op ≠ 7) (h8 : a.op ≠ 8) (h : (p.bag a.side).length = 0) : p.act a = (p, true) := by
  unfold Pr.act; rw [if_neg h3, if_neg h4, if_neg h7, if_neg h8, if_pos h]
theorem act6 {p : Pr} {a : PAct} (h6 : a.op = 6) (h : (p.bag a.side).length ≠ 0) : p.act a = ({ p with bag := setB p.bag a.side ((p.bag a.side).eraseIdx (a.u % (p.bag a.side).length)) }, true) := by
  unfold Pr.act; rw [if_neg (by omega), if_neg (by omega), if_neg (by omega), if_neg (by omega), if_neg h, if_pos h6]
theorem actC0 {p : Pr} {a : PAct} (h3 : a.op ≠ 3) (h4 : ¬(a.op = 4 ∨ a.op = 5)) (h7 : a.op ≠ 7) (h8 : a.op ≠ 8) (h : (p.bag a.side).length ≠ 0) (h6 : a.op ≠ 6) :
    p.act a = p.comes a.side ((p.bag a.side).getD (a.u % (p.bag a.side).length) []) (if a.stay then p.bag else setB p.bag a.side ((p.bag a.side).eraseIdx (a.u % (p.bag a.side).length))) := by
  unfold Pr.act; rw [if_neg h3, if_neg h4, if_neg h7, if_neg h8, if_neg h, if_neg h6]
section
variable {w w' : World} {G : Nat → Prop} {tag : Nat → Tag} {gp : Nat} {p : Pr} {y : PShp}
set_option maxRecDepth 8000 in
theorem does_ok {m : Int} {n : Nat} (h : PairW w G tag gp p y) (hp : PS p m n) (hm : m + 100 < 1099511627776) (hm0 : 0 ≤ m) (hn : n ≤ 900000) {e : ActE} (hb : Cb w (ZT G tag) e.1.2.2.2.1 e.2) :
    cl Tryd.prog n_flumelaw12_pair_does #[.pointer (some ⟨gp, 0, none⟩), (Kd.av k_flumelaw12_Act e.1).val] .B w fun (r : Bool) w' => r = (p.does (pact e)).2 ∧ PairTo w w' G tag gp (p.does (pact e)).1 := by
  refine flumelaw12_pair_does.cl (p0 := some ⟨gp, 0, none⟩) (p1 := e.1) ?_
  unfold flumelaw12_pair_does
  refine nwI fun a1 w2 ha1 hs2 hf2 hb1 _ => ?_
  have h2 := h.fr hf2
  have hz2 := hf2.size
  have ti := hp.pi.ti
  have hme : ∀ s, 1 ≤ (p.t s).me := fun s => (ti s).inv.me.1
  have hl : ∀ s, (p.t s).out.length ≤ 1000000 := fun s => by rw [hp.out s]; exact Nat.zero_le _
  have hbl : ∀ s, (p.bag s).length ≤ 1000000 := fun s => Nat.le_trans (hp.bag s) (by decide)
  have hA := hp.act (pact e)
  have hPI := hp.pi.act hm hm0 (by omega) (pact e)
  have hb1 : w2.heap[a1]? = some (.cells (actC e).toArray t_flumelaw12_Act (0, 0)) := hb1
  rw [addOff]
  refine ldI0 hb1 (show (actC e).toArray[1]? = some (.int .i64 e.1.2.1) from rfl) (nzS ?_)
  have hside : bits .and .i64 e.1.2.1 1 = (((e.1.2.1 % 2).toNat : Nat) : Int) := by rw [i64_and1]; omega
  rw [hside]
  have hi : (((e.1.2.1 % 2).toNat : Nat) : Int) = sideI (pact e).side := by
    unfold sideI pact
    by_cases hs : e.1.2.1 % 2 = 1
    · simp [hs]
    · simp [hs]; omega
  generalize (e.1.2.1 % 2).toNat = i at hi ⊢
  have hi' : IntKind.i64.wrap (1 - (i : Int)) = sideI (!(pact e).side) := by
    rw [hi]
    cases (pact e).side <;> decide
  obtain ⟨i', hi2⟩ : ∃ i' : Nat, (i' : Int) = sideI (!(pact e).side) := by
    cases (pact e).side
    · exact ⟨1, rfl⟩
    · exact ⟨0, rfl⟩
  rw [hi', ← hi2]
  refine h2.ptr hi ?_
  intro j2
  have J2 : ∀ (r : Bool) (v : World), r = (p.act (pact e)).2 → PairTo w v G tag gp (p.act (pact e)).1 → j2 r v := by
    rintro r v rfl ⟨tag1, y1, h1, m1, n1⟩
    unfold j2
    refine (outs_ok h1 (fun s => ((hPI.2.ti s).inv.me.1)) (fun s => Nat.le_trans (hA.1 s) (by decide)) (fun s => Nat.le_trans (hA.2 s) (by decide))).mono ?_
    rintro ⟨⟩ v' hv'
    exact ⟨rfl, PairTo.step m1 n1 hv'⟩
  clear_value j2
  refine ldI0 hb1 (show (actC e).toArray[0]? = some (.int .i64 e.1.1) from rfl) ?_
  obtain ⟨ho1, ho2⟩ := mod9 e.1.1
  rw [ho1]
  have hop : (pact e).op = (IntKind.u64.wrap e.1.1 % 9).toNat := rfl
  generalize (IntKind.u64.wrap e.1.1 % 9).toNat = op at hop ho2 ⊢
  have hpb : (pact e).b = e.2 := rfl
  have hpu : (pact e).u = (IntKind.u64.wrap e.1.2.2.1).toNat := rfl
  have hps : (pact e).stay = e.1.2.2.2.2.1 := rfl
  generalize pact e = a at *
  have hb2 : Cb w2 (ZT G tag) e.1.2.2.2.1 e.2 := hb.mv (Mv.of_fr (F := fun _ => False) hf2) (fun _ h => h.elim) fun k hk => .inl hk
  have htn : ∀ s, tag a1 ≠ .tun s := fun s hk => by
    have := h.lt a1 (by rw [hk]; exact fun e => by cases e)
    omega
  have fwd : ∀ {v q}, PairTo w2 v G tag gp q → PairTo w v G tag gp q := fun hq => PairTo.step (Mv.of_fr hf2) (fun k hk => .inl hk) hq
  refine bE ?_ ?_ <;> intro h3
  · -- Send
    have ea := act3 (p := p) (a := a) (by omega)
    rw [hpb] at ea
    rw [addOff]
    refine ldL0 hb1 (show (actC e).toArray[3]? = some (.slice e.1.2.2.2.1.a e.1.2.2.2.1.n e.1.2.2.2.1.c) from rfl) ?_
    have hroom := (ti a.side).inv.room
    refine (send_ok (h2.tun a.side) (hme _) hb2.bs (by omega) (by have := hl a.side; omega)).mono ?_
    rintro x9 w10 ⟨rfl, F', x', t1, m1, f1⟩
    obtain ⟨h4, m4, n4⟩ := h2.act1 t1 m1 f1
    refine bE ?_ ?_ <;> intro h0
    rotate_left
    · refine J2 true w10 (by rw [ea]) ?_
      rw [ea]
      show PairTo w w10 G tag gp (p.sends a.side e.2)
      unfold Pr.sends
      rw [if_neg h0]
      exact fwd ⟨_, _, h4, m4, n4⟩
    have hbl2 : e.2.length ≤ 512 := by
      unfold Tn.send at h0
      split at h0
      · cases h0
      split at h0
      · cases h0
      · omega
    have hsi : ((p.t a.side).send e.2).1.inv := (ti a.side).inv.send e.2
    have h4t : Tun w10 _ _ (y.g a.side) (setB p.t a.side ((p.t a.side).send e.2).1 a.side) _ := h4.tun a.side
    rw [setB_same] at h4t
    refine (tMe_ok h4t hsi.me.1).mono ?_
    rintro _ _ ⟨rfl, rfl⟩
    refine (tYou_ok h4t hsi.me.1).mono ?_
    rintro _ _ ⟨rfl, rfl⟩
    refine ⟨⟨[.int .i64 ((p.t a.side).send e.2).1.me, .int .i64 ((p.t a.side).send e.2).1.you, .int .i64 (i' : Int)], rfl⟩, fun w' _ => build_three _ _ _ w', ?_⟩
    refine nwI fun a16 w17 ha16 hs17 hf17 hb17 _ => ?_
    refine stL_row hb17 (show 0 + 3 ≤ 3 from Nat.le_refl 3) (fun v hv => by simp only [List.mem_cons, List.not_mem_nil, or_false] at hv; rcases hv with rfl | rfl | rfl <;> rfl) fun w18 hb18 hg18 hs18 => ?_
    intro dn
    have hf18 : Fr w10 w18 := hf17.on (grown_below hg18 (by omega) hf17.size)
    have hfn := Fr.drewN w18 dn
    have hf19 := hf18.trans hfn
    have hb19 := hfn.heap hb18
    generalize w18.drewN dn = w19 at *
    have h5 := h4.fr hf19
    have hm19 : Mv (fun k => tag k ≠ .none) w2 w19 := m4.trans (Mv.of_fr (F := fun _ => False) hf19) fun _ h => h.elim
    have ha19 := hm19.heap hb1 fun hk => by
      have := h.lt a1 hk
      omega
    have hb19' : w19.heap[a16]? = some (.cells ([.int .i64 ((p.t a.side).send e.2).1.me, .int .i64 ((p.t a.side).send e.2).1.you, .int .i64 (sideI (!a.side))] : List Value).toArray t_3_int (0, 0)) := by
      rw [← hi2]; exact hb19
    refine noted_ok (key := (((p.t a.side).send e.2).1.me, ((p.t a.side).send e.2).1.you, sideI (!a.side))) h5 ((hb2.mv (Z' := ZT G tag) hm19 (fun k hk => .inl (.inr hk)) fun k hk => .inl hk).bs) (by omega) (by have := hp.pi.len (((p.t a.side).send e.2).1.me, ((p.t a.side).send e.2).1.you, sideI (!a.side)); show (p.sent _).length ≤ _; omega) hb19' ha19 rfl fun w' hw' => ?_
    refine J2 true w' (by rw [ea]) ?_
    rw [ea]
    show PairTo w w' G tag gp (p.sends a.side e.2)
    unfold Pr.sends
    rw [if_pos h0]
    exact fwd (PairTo.step m4 n4 (PairTo.step (Mv.of_fr hf19) (fun k hk => .inl hk) hw'))
  intro j1
  have J1 : ∀ b : Bool, (b = true ↔ a.op = 4 ∨ a.op = 5) → j1 b w2 := by
    intro b hb45
    unfold j1
    refine bB ?_ ?_ <;> intro hbb
    · have ea := act45 (p := p) (hb45.1 hbb)
      have hroom := (ti a.side).inv.room
      refine (tick_ok (h2.tun a.side) (hme _) (by omega) (by have := hl a.side; omega)).mono ?_
      rintro ⟨⟩ v hv
      refine J2 true v (by rw [ea]) ?_
      rw [ea]
      exact fwd (h2.act hv)
    have h45 : ¬(a.op = 4 ∨ a.op = 5) := fun hk => by rw [hb45.2 hk] at hbb; cases hbb
    refine bE ?_ ?_ <;> intro h7
    · -- anew
      have ea := act7 (p := p) (a := a) (by omega)
      refine (tMe_ok (h2.tun a.side) (hme _)).mono ?_
      rintro _ _ ⟨rfl, rfl⟩
      have hmm := hp.pi.me a.side
      have hm1 := hme a.side
      refine (tNew_ok (G := fun k => G k ∨ (tag k ≠ .none ∧ tag k ≠ .tun a.side)) (h2.tun a.side).crc (h2.tun a.side).gl fun hk => (h2.tun a.side).nt (.inl hk)).mono ?_
      rintro x73 w74 ⟨h73, hf74⟩
      have e100 : IntKind.i64.wrap ((p.t a.side).me + 100) = (p.t a.side).me + 100 := i64w (by omega) (by omega)
      rw [e100, if_pos (by omega)] at h73
      obtain ⟨g', x', rfl, hg', t1⟩ := h73
      have hgl : gp < w2.heap.size := h2.lt gp (by rw [h2.tgp]; exact fun e => by cases e)
      refine nzS (st_ptr hi (hf74.heap h2.cells) fun w77 hb77 hg77 hs77 => ?_)
      refine J2 _ w77 (by rw [ea]; rfl) ?_
      rw [ea]
      refine fwd ?_
      have m77 : Mv (fun k => k = gp) w74 w77 := Mv.of_grown hg77 rfl
      show PairTo w2 w77 G tag gp { p with t := setB p.t a.side (tn0 (IntKind.i64.wrap ((p.t a.side).me + 100))) }
      rw [e100]
      refine h2.newTun ((Mv.of_fr hf74).trans m77 fun k hk => .inl hk) (t1.other m77 (fun k hk => .inl ⟨.inr (by rw [hk, h2.tgp]; exact ⟨fun e => (by cases e), fun e => (by cases e)⟩), fun hk2 => by have hk2 : k = g' := hk2; omega⟩) (fun k hk => .inl hk) fun k hk => ?_) (fun k hk => by have hk : k = g' := hk; omega) hb77
      have := (h2.tun a.side).gl k hk
      have := hf74.size
      omega
    refine bE ?_ ?_ <;> intro h8
    · -- told of the other one
      have ea := act8 (p := p) (a := a) (by omega)
      refine nzS (h2.ptr hi2 ?_)
      refine (tMe_ok (h2.tun (!a.side)) (hme _)).mono ?_
      rintro _ _ ⟨rfl, rfl⟩
      refine (hint_ok (h2.tun a.side) (hme _) (by have := hl a.side; omega)).mono ?_
      rintro ⟨⟩ v hv
      refine J2 true v (by rw [ea]) ?_
      rw [ea]
      exact fwd (h2.act hv)
    obtain ⟨b1, b2, b3⟩ := h2.bag a.side
    have hbn : (y.bag a.side).n = (p.bag a.side).length := by rw [b1.len, b2.length]
    refine nzS (h2.bagp hi ?_)
    refine bD ?_ ?_ <;> intro hpos
    rotate_left
    · have ea := actN (p := p) (a := a) (by omega) h45 (by omega) (by omega) (by omega)
      refine J2 true w2 (by rw [ea]) ?_
      rw [ea]
      exact fwd (PairTo.refl h2)
    have hbs := hbl a.side
    obtain ⟨en, en0⟩ := modN e.1.2.2.1 (k := (y.bag a.side).n) (by omega) (by omega)
    rw [addOff]
    refine ldI0 hb1 (show (actC e).toArray[2]? = some (.int .i64 e.1.2.2.1) from rfl) ?_
    rw [en]
    refine bT (by rw [decide_eq_false en0]; rfl) ?_
    rw [← hpu, hbn]
    have hlt : a.u % (p.bag a.side).length < (p.bag a.side).length := Nat.mod_lt _ (by omega)
    refine bE ?_ ?_ <;> intro h6
    · have ea := act6 (p := p) (a := a) (by omega) (by omega)
      intro dn
      have hfn := Fr.drewN w2 dn
      generalize w2.drewN dn = w89 at *
      refine nzS ?_
      refine (h2.fr hfn).drop1 hlt hbs hi fun w' hw' => ?_
      refine J2 true w' (by rw [ea]) ?_
      rw [ea]
      exact fwd (PairTo.step (Mv.of_fr hfn) (fun k hk => .inl hk) hw')
    · have ea := actC0 (p := p) (a := a) (by omega) h45 (by omega) (by omega) (by omega) (by omega)
      rw [addOff]
      refine ldB0 hb1 (show (actC e).toArray[4]? = some (.bool e.1.2.2.2.2.1) from rfl) ?_
      rw [← hps]
      have hmem : (p.bag a.side).getD (a.u % (p.bag a.side).length) [] ∈ p.bag a.side := by
        rw [List.getD_eq_getElem?_getD, List.getElem?_eq_getElem hlt]; exact List.getElem_mem _
      refine (ptake_ok h2 hi hlt hbs (ti a.side).inv (by have := (hp.pi.wild a.side _ hmem).len; omega) (hl _) (fun k b => ?_) a.stay).mono ?_
      · have h1 := (hPI.2.pre k).length_le
        have h2 := hPI.2.len k
        rw [ea] at h1
        have h1 : ((p.comes a.side ((p.bag a.side).getD (a.u % (p.bag a.side).length) []) b).1.told k).length ≤ _ := h1
        rw [ea] at h2
        omega
      · rintro r v ⟨rfl, hv⟩
        refine J2 _ v (by rw [ea]) ?_
        rw [ea]
        exact fwd hv
  clear_value j1
  refine bE ?_ ?_ <;> intro h4
  · refine J1 _ ?_
    rw [beq_iff_eq]
    constructor
    · intro _; left; omega
    · intro _; exact h4
  · refine J1 _ ?_
    rw [beq_iff_eq]
    constructor
    · intro h5; right; omega
    · intro h5; omega
end
end Go.Proofs.YtmhibpcbdbhfoaaDoor
namespace Go.Proofs.YtmhibpcbdbhfoaaDoor
open Go.RowKit Go.Fl

section
variable {w w' : World} {G : Nat → Prop} {tag : Nat → Tag} {gp : Nat} {p : Pr} {y : PShp}
/-- A pair, all of it newer than a first world. -/
structure Own2 (w0 w : World) (gp : Nat) (p : Pr) (j : Nat) : Prop where
  ex : ∃ tag y, PairW w (fun _ => False) tag gp p y ∧ ∀ k, tag k ≠ .none → w0.heap.size ≤ k
  base : Fr w0 w
  ps : PS p (5000 + 100 * j) j
theorem cb_old {s : Sl} {b : List UInt8} {w0 : World} {Z : Nat → Prop} (h : Bs w0 s b) (hf : Fr w0 w) (hZ : ∀ k, Z k → w0.heap.size ≤ k) : Cb w Z s b :=
  ⟨h.fr hf, fun hl ad ha hz => by have := h.lt hl ad ha; have := hZ _ hz; omega⟩
theorem Own2.fr {w0 : World} {j : Nat} (h : Own2 w0 w gp p j) (hf : Fr w w') : Own2 w0 w' gp p j := by
  obtain ⟨tag, y, h1, h2⟩ := h.ex
  exact ⟨⟨tag, y, h1.fr hf, h2⟩, h.base.trans hf, h.ps⟩
theorem Own2.does {w0 : World} {j : Nat} (h : Own2 w0 w gp p j) (hj : j ≤ 400) {e : ActE} (hb : Bs w0 e.1.2.2.2.1 e.2) :
    cl Tryd.prog n_flumelaw12_pair_does #[.pointer (some ⟨gp, 0, none⟩), (Kd.av k_flumelaw12_Act e.1).val] .B w fun (r : Bool) w' => r = true ∧ Own2 w0 w' gp (p.does (pact e)).1 (j + 1) := by
  obtain ⟨tag, y, h1, h2⟩ := h.ex
  have hps := h.ps.does (by omega) (by omega) (by omega) (pact e)
  refine (does_ok h1 h.ps (by omega) (by omega) (by omega) (cb_old hb h.base fun k hk => ?_)).mono ?_
  · rcases hk with hk | hk
    · exact hk.elim
    · exact h2 k hk
  · rintro r w' ⟨rfl, tag', y', q1, q2, q3⟩
    refine ⟨hps.1, ⟨tag', y', q1, fun k hk => ?_⟩, Mv.on h.base q2 h2, ?_⟩
    · rcases q3 k hk with h3 | h3
      · exact h2 k h3
      · exact Nat.le_trans h.base.size h3
    · have := hps.2
      have e : 5000 + 100 * (j : Int) + 100 = 5000 + 100 * ((j + 1 : Nat) : Int) := by omega
      rwa [e] at this
theorem begun2 {w0 : World} (hd : Crc w0) (hf : Fr w0 w) : cl Tryd.prog n_flumelaw12_begun #[] .P w fun (r : Option Addr) w' => ∃ gp, r = some ⟨gp, 0, none⟩ ∧ Own2 w0 w' gp pr0 0 := by
  refine (begun_ok (G := fun _ => False) (hd.fr hf) (fun _ h => h.elim) fun h => h).mono ?_
  rintro r w' ⟨tag, gp, y, rfl, h1, h2, h3⟩
  exact ⟨gp, rfl, ⟨tag, y, h1, fun k hk => Nat.le_trans hf.size (h3 k hk)⟩, hf.trans h2, ps0⟩
end
set_option maxRecDepth 100000 in
theorem TunnelOnce_law {H : Type} {enc : TypeId × Value → H} {w : World} {b0 : Nat} {v0 : Value} {d0 : DataW H} {p0 : List MemPlace} (hd : Crc w)
    (o0 : Value.okWide Tryd.prog w .any b0 t_s_flumelaw12_Act v0) (h0 : DataW.Trod enc Tryd.prog w 0 (fun _ => true) true t_s_flumelaw12_Act v0 d0 p0) :
    Calls Tryd.prog n_flumelaw12_TunnelOnce #[v0] w fun e w' => e = .returned (.bool true) ∧ Below w.heap.size w w' := by
  refine lawE ?_
  obtain ⟨s, xs, rfl, hsl, hsr, hin⟩ := act_in o0 h0
  refine flumelaw12_TunnelOnce.cl (p0 := s) ?_
  unfold flumelaw12_TunnelOnce
  refine (few_ok hsl hsr).mono ?_
  rintro sh w2 ⟨hsh, hf2⟩
  cases sh with
  | false => exact bT rfl (awake_law hd hf2)
  | true =>
  refine bF rfl ?_
  have h400 := hsh rfl
  refine (begun2 hd hf2).mono ?_
  rintro r w6 ⟨gp, rfl, hp0⟩
  refine lpI (fun (s' : Int × Unit) v => ∃ (i : Nat) (p : Pr), i ≤ xs.length ∧ s'.1 = i ∧ Own2 w v gp p i) (fun s' _ => (s.n - s'.1).toNat) ⟨0, pr0, Nat.zero_le _, rfl, hp0⟩ ?_
  rintro D ⟨i', ⟨⟩⟩ v ⟨i, p, hi, rfl, hp⟩
  dsimp only
  refine bD ?_ ?_ <;> intro hlt
  · have hi1 : i < xs.length := by omega
    refine ixE (f := actC) (sz := 5) (fun _ => rfl) (hsr.below hp.base) hsl hi1 (by decide) fun ad hcell => ?_
    refine ldAt k_flumelaw12_Act xs[i].1 rfl hcell ?_
    refine nwI fun a13 w14 ha13 hs14 hf14 hb14 _ => ?_
    refine stW (Kd.av k_flumelaw12_Act xs[i].1) rfl hb14 rfl fun w15 hb15 hg15 hs15 => ?_
    have hf15 : Fr v w15 := hf14.on (grown_below hg15 (show v.heap.size ≤ a13 by omega) hf14.size)
    refine ldW (k := k_flumelaw12_Act) (x := xs[i].1) hb15 rfl ?_
    refine ((hp.fr hf15).does (by omega) (hin xs[i] (List.getElem_mem hi1)).b).mono ?_
    rintro x w18 ⟨rfl, hp1⟩
    refine bF rfl ?_
    rw [i64w (n := (i : Int) + 1) (by omega) (by omega)]
    exact ⟨⟨i + 1, _, by omega, rfl, hp1⟩, by omega⟩
  · exact awake_law hd hp.base
end Go.Proofs.YtmhibpcbdbhfoaaDoor
namespace Go.Proofs.YtmhibpcbdbhfoaaDoor
open Go.RowKit Go.Fl

theorem run_ix2 (a b : Option Addr) (w : World) : (Instr.index t_2_p_tunnel_Tunnel (.agg #[.pointer a, .pointer b]) (.int .i64 0)).run Tryd.prog w = .ok (.pointer a) w ∧ (Instr.index t_2_p_tunnel_Tunnel (.agg #[.pointer a, .pointer b]) (.int .i64 1)).run Tryd.prog w = .ok (.pointer b) w := by
  have h : (Tryd.prog.info? t_p_tunnel_Tunnel).isSome = true := by kernel_rfl
  obtain ⟨i, hi⟩ := Option.isSome_iff_exists.1 h
  have hc : Tryd.prog.cellsOf t_p_tunnel_Tunnel = 1 := by kernel_rfl
  have hs : i.size = 1 := by simpa [Program.cellsOf, hi] using hc
  constructor
  · simp [Instr.index, asIntOf, run_underlying u_2_p_tunnel_Tunnel, part, isAgg, run_underlying u_p_tunnel_Tunnel, sizeOf, typeInfo, hi, hs]
  · simp [Instr.index, asIntOf, run_underlying u_2_p_tunnel_Tunnel, part, isAgg, run_underlying u_p_tunnel_Tunnel, sizeOf, typeInfo, hi, hs]
section
variable {w w' : World} {G : Nat → Prop} {tag : Nat → Tag} {gp : Nat} {p : Pr} {y : PShp}
/-- Both tunnels' pointers, as a row. -/
theorem PairW.two (h : PairW w G tag gp p y) {K : {l : List Value // l.length = 2} → Prop} (hk : K ⟨[.pointer (some ⟨y.g false, 0, none⟩), .pointer (some ⟨y.g true, 0, none⟩)], rfl⟩) : ld (.row 2) w ⟨gp, 0, none⟩ K := by
  refine ⟨_, fun i hi => ?_, hk⟩
  have hi : i < 2 := hi
  rw [addOff, Nat.zero_add]
  refine (cell_of_row w gp i _ _ _ h.cells).trans ?_
  match i, hi with
  | 0, _ => rfl
  | 1, _ => rfl
theorem PairW.twoIx (_h : PairW w G tag gp p y) {i : Nat} {s : Bool} (hi : (i : Int) = sideI s) {v : World} {K : Option Addr → Prop} (hk : K (some ⟨y.g s, 0, none⟩)) : qn Tryd.prog (Instr.index t_2_p_tunnel_Tunnel (.agg ([.pointer (some ⟨y.g false, 0, none⟩), .pointer (some ⟨y.g true, 0, none⟩)] : List Value).toArray) (.int .i64 (i : Int))) .P v K := by
  cases s
  · obtain rfl : i = 0 := by unfold sideI at hi; simp at hi; omega
    exact ⟨some ⟨y.g false, 0, none⟩, fun w' _ => (run_ix2 _ _ w').1, hk⟩
  · obtain rfl : i = 1 := by unfold sideI at hi; simp at hi; omega
    exact ⟨some ⟨y.g true, 0, none⟩, fun w' _ => (run_ix2 _ _ w').2, hk⟩
theorem waiting_eq {t : Tn} (h : t.inv) : t.waiting = (t.queue.length : Int) + t.way.length := by
  have := h.room
  unfold Tn.waiting
  rw [wr, IntKind.wrap_i64]; omega
end
set_option maxRecDepth 100000 in
theorem TunnelBounds_law {H : Type} {enc : TypeId × Value → H} {w : World} {b0 : Nat} {v0 : Value} {d0 : DataW H} {p0 : List MemPlace} (hd : Crc w)
    (o0 : Value.okWide Tryd.prog w .any b0 t_s_flumelaw12_Act v0) (h0 : DataW.Trod enc Tryd.prog w 0 (fun _ => true) true t_s_flumelaw12_Act v0 d0 p0) :
    Calls Tryd.prog n_flumelaw12_TunnelBounds #[v0] w fun e w' => e = .returned (.bool true) ∧ Below w.heap.size w w' := by
  refine lawE ?_
  obtain ⟨s, xs, rfl, hsl, hsr, hin⟩ := act_in o0 h0
  refine flumelaw12_TunnelBounds.cl (p0 := s) ?_
  unfold flumelaw12_TunnelBounds
  refine (few_ok hsl hsr).mono ?_
  rintro sh w2 ⟨hsh, hf2⟩
  cases sh with
  | false => exact bT rfl (awake_law hd hf2)
  | true =>
  refine bF rfl ?_
  have h400 := hsh rfl
  refine (begun2 hd hf2).mono ?_
  rintro r w6 ⟨gp, rfl, hp0⟩
  refine lpI (fun (s' : Int × Unit) v => ∃ (i : Nat) (p : Pr), i ≤ xs.length ∧ s'.1 = i ∧ Own2 w v gp p i) (fun s' _ => (s.n - s'.1).toNat) ⟨0, pr0, Nat.zero_le _, rfl, hp0⟩ ?_
  rintro D ⟨i', ⟨⟩⟩ v ⟨i, p, hi, rfl, hp⟩
  dsimp only
  refine bD ?_ ?_ <;> intro hlt
  · have hi1 : i < xs.length := by omega
    refine ixE (f := actC) (sz := 5) (fun _ => rfl) (hsr.below hp.base) hsl hi1 (by decide) fun ad hcell => ?_
    refine ldAt k_flumelaw12_Act xs[i].1 rfl hcell ?_
    refine nwI fun a13 w14 ha13 hs14 hf14 hb14 _ => ?_
    refine stW (Kd.av k_flumelaw12_Act xs[i].1) rfl hb14 rfl fun w15 hb15 hg15 hs15 => ?_
    have hf15 : Fr v w15 := hf14.on (grown_below hg15 (show v.heap.size ≤ a13 by omega) hf14.size)
    refine ldW (k := k_flumelaw12_Act) (x := xs[i].1) hb15 rfl ?_
    refine ((hp.fr hf15).does (by omega) (hin xs[i] (List.getElem_mem hi1)).b).mono ?_
    rintro x w18 ⟨rfl, hp1⟩
    refine bF rfl (nzS ?_)
    generalize (p.does (pact xs[i])).1 = q at hp1
    obtain ⟨tag, y, h1, h2⟩ := hp1.ex
    refine h1.two ?_
    refine lpI (fun (s' : Int × Unit) u => ∃ (j : Nat), j ≤ 2 ∧ s'.1 = j ∧ Fr w18 u) (fun s' _ => (2 - s'.1).toNat) ⟨0, by omega, rfl, Fr.refl _⟩ ?_
    rintro D ⟨j', ⟨⟩⟩ u ⟨j, hj, rfl, hfu⟩
    dsimp only
    refine bD ?_ ?_ <;> intro hlt2
    · have next : ∀ {u'}, Fr w18 u' → (∃ (j2 : Nat), j2 ≤ 2 ∧ IntKind.i64.wrap ((j : Int) + 1) = j2 ∧ Fr w18 u') ∧ (2 - IntKind.i64.wrap ((j : Int) + 1)).toNat < (2 - (j : Int)).toNat := fun hf => by
        rw [i64w (by omega) (by omega)]
        exact ⟨⟨j + 1, by omega, by omega, hf⟩, by omega⟩
      obtain ⟨sd, hsd⟩ : ∃ sd, (j : Int) = sideI sd := by
        obtain rfl | rfl : j = 0 ∨ j = 1 := by omega
        · exact ⟨false, rfl⟩
        · exact ⟨true, rfl⟩
      refine h1.twoIx hsd ?_
      have ti := hp1.ps.pi.ti sd
      have hme := ti.inv.me.1
      have hw := waiting_eq ti.inv
      have hr := Tn.room_eq ti.inv
      have hro := ti.inv.room
      have ht := (h1.tun sd).fr hfu
      refine (tWaiting_ok ht hme).mono ?_
      rintro x26 u1 ⟨rfl, hf1⟩
      refine bF (decide_eq_false (by omega)) ?_
      have ht1 := ht.fr hf1
      refine (tUp_ok ht1 hme).mono ?_
      rintro _ _ ⟨rfl, rfl⟩
      refine bB ?_ ?_ <;> intro hup
      · refine (tRoom_ok ht1 hme).mono ?_
        rintro _ u2 ⟨rfl, hf2⟩
        refine (tWaiting_ok (ht1.fr hf2) hme).mono ?_
        rintro _ u3 ⟨rfl, hf3⟩
        rw [hr, hw, if_pos hup]
        refine bF (by rw [bne_eq_false_iff_eq, IntKind.wrap_i64]; omega) ?_
        refine (tUp_ok ((ht1.fr hf2).fr hf3) hme).mono ?_
        rintro _ _ ⟨rfl, rfl⟩
        refine bF (by rw [hup]; rfl) ?_
        exact next (((hfu.trans hf1).trans hf2).trans hf3)
      · refine (tUp_ok ht1 hme).mono ?_
        rintro _ _ ⟨rfl, rfl⟩
        refine bT (by rw [hup]; rfl) ?_
        refine (tRoom_ok ht1 hme).mono ?_
        rintro _ u2 ⟨rfl, hf2⟩
        refine (tWaiting_ok (ht1.fr hf2) hme).mono ?_
        rintro _ u3 ⟨rfl, hf3⟩
        obtain ⟨i1, i2⟩ := ti.idle hup
        refine bF ?_ (next (((hfu.trans hf1).trans hf2).trans hf3))
        rw [hr, hw, i1, i2, if_neg (by rw [hup]; decide)]
        decide
    · rw [i64w (n := (i : Int) + 1) (by omega) (by omega)]
      exact ⟨⟨i + 1, q, by omega, rfl, hp1.fr hfu⟩, by omega⟩
  · exact awake_law hd hp.base
end Go.Proofs.YtmhibpcbdbhfoaaDoor
namespace Go.Proofs.YtmhibpcbdbhfoaaDoor
open Go.RowKit Go.Fl

section
variable {w w' : World} {G : Nat → Prop} {tag : Nat → Tag} {gp : Nat} {p : Pr} {y : PShp}
/-- A pair, behind something that did not touch it. -/
theorem PairW.other (h : PairW w G tag gp p y) {E G' : Nat → Prop} (m : Mv E w w') (hE : ∀ k, E k → G k ∨ w.heap.size ≤ k) (hG : ∀ k, G' k → G k ∨ w.heap.size ≤ k) (hl : ∀ k, G' k → k < w'.heap.size) : PairW w' G' tag gp p y := by
  have hn : ∀ {k}, tag k ≠ .none → ¬E k := fun {k} hk he => by
    rcases hE k he with h1 | h1
    · exact hk (h.gt k h1)
    · have := h.lt k hk; omega
  have hnT : ∀ {k} {U : Tag}, tag k = U → U ≠ .none → ¬E k := fun {k U} e hu => hn (by rw [e]; exact hu)
  have hEZ : ∀ k, E k → ZT G tag k ∨ w.heap.size ≤ k := fun k hk => (hE k hk).imp .inl id
  have hZ : ∀ k, ZT G' tag k → ZT G tag k ∨ w.heap.size ≤ k := fun k hk => by
    rcases hk with hk | hk
    · exact (hG k hk).imp .inl id
    · exact .inl (.inr hk)
  have hz := m.size
  refine ⟨m.heap h.cells (hnT h.tgp fun e => (by cases e)), h.tgp, h.tms, h.tmt, fun k hk => by have := h.lt k hk; omega, hl, fun k hk => ?_, fun s => ?_, fun s => ?_, ?_, ?_⟩
  · rcases hG k hk with h1 | h1
    · exact h.gt k h1
    · apply Classical.byContradiction
      intro hc
      have := h.lt k hc
      omega
  · refine (h.tun s).other m (fun k hk => ?_) (fun k hk => ?_) fun k hk => ?_
    · rcases hE k hk with h1 | h1
      · exact .inl ⟨.inl h1, fun e => by rw [h.gt k h1] at e; cases e⟩
      · exact .inr h1
    · rcases hk with hk | hk
      · exact (hG k hk).imp .inl id
      · exact .inl (.inr hk)
    · rcases hk with hk | hk
      · exact hl k hk
      · have := h.lt k hk.1; omega
  · obtain ⟨b1, b2, b3⟩ := h.bag s
    exact ⟨b1.mv m fun ad ha => hnT (b3 _ ⟨ad, ha, rfl⟩) (fun e => (by cases e)), b2.mono fun a c _ _ hc => hc.mv m hEZ hZ, b3⟩
  · exact h.sent.mv m (hnT h.tms fun e => (by cases e)) hEZ hZ (fun k j hj => hnT hj fun e => (by cases e)) fun k j _ hj => hj
  · exact h.told.mv m (hnT h.tmt fun e => (by cases e)) hEZ hZ (fun k j hj => hnT hj fun e => (by cases e)) fun k j _ hj => hj
end
/-- A pair's place. -/
structure Pl where
  tag : Nat → Tag
  gp : Nat
  p : Pr
  y : PShp
  n : Nat
def Pl.own (a : Pl) (k : Nat) : Prop := a.tag k ≠ .none
/-- One of three pairs. -/
structure One (w0 w : World) (a b c : Pl) : Prop where
  pw : PairW w (fun k => b.own k ∨ c.own k) a.tag a.gp a.p a.y
  new : ∀ k, a.own k → w0.heap.size ≤ k
  ps : PS a.p (5000 + 100 * a.n) a.n
structure Tri (w0 w : World) (a b c : Pl) : Prop where
  oa : One w0 w a b c
  ob : One w0 w b c a
  oc : One w0 w c a b
  base : Fr w0 w
theorem Tri.rot {w0 w : World} {a b c : Pl} (h : Tri w0 w a b c) : Tri w0 w b c a := ⟨h.ob, h.oc, h.oa, h.base⟩
theorem One.other {w0 w w' : World} {a b c : Pl} (h : One w0 w a b c) {E : Nat → Prop} {b' c' : Pl} (m : Mv E w w') (hE : ∀ k, E k → (b.own k ∨ c.own k) ∨ w.heap.size ≤ k) (hb : ∀ k, b'.own k ∨ c'.own k → (b.own k ∨ c.own k) ∨ w.heap.size ≤ k) (hl : ∀ k, b'.own k ∨ c'.own k → k < w'.heap.size) : One w0 w' a b' c' :=
  ⟨h.pw.other m hE hb hl, h.new, h.ps⟩
theorem Tri.fr {w0 w w' : World} {a b c : Pl} (h : Tri w0 w a b c) (hf : Fr w w') : Tri w0 w' a b c :=
  ⟨⟨h.oa.pw.fr hf, h.oa.new, h.oa.ps⟩, ⟨h.ob.pw.fr hf, h.ob.new, h.ob.ps⟩, ⟨h.oc.pw.fr hf, h.oc.new, h.oc.ps⟩, h.base.trans hf⟩
theorem Tri.does {w0 w : World} {a b c : Pl} (h : Tri w0 w a b c) (hj : a.n ≤ 400) {e : ActE} (hb : Bs w0 e.1.2.2.2.1 e.2) :
    cl Tryd.prog n_flumelaw12_pair_does #[.pointer (some ⟨a.gp, 0, none⟩), (Kd.av k_flumelaw12_Act e.1).val] .B w fun (_r : Bool) w' => ∃ a', a'.gp = a.gp ∧ a'.p = (a.p.does (pact e)).1 ∧ a'.n = a.n + 1 ∧ Tri w0 w' a' b c ∧ Mv a.own w w' ∧ ∀ k, a'.own k → a.own k ∨ w.heap.size ≤ k := by
  have hps := h.oa.ps.does (by omega) (by omega) (by omega) (pact e)
  refine (does_ok h.oa.pw h.oa.ps (by omega) (by omega) (by omega) (cb_old hb h.base fun k hk => ?_)).mono ?_
  · rcases hk with (hk | hk) | hk
    · exact h.ob.new k hk
    · exact h.oc.new k hk
    · exact h.oa.new k hk
  · rintro r w' ⟨rfl, tag', y', q1, q2, q3⟩
    have hz := q2.size
    have hfr : Fr w0 w' := Mv.on h.base q2 h.oa.new
    refine ⟨⟨tag', a.gp, (a.p.does (pact e)).1, y', a.n + 1⟩, rfl, rfl, rfl, ⟨⟨q1, fun k hk => ?_, ?_⟩, ?_, ?_, hfr⟩, q2, q3⟩
    · rcases q3 k hk with h3 | h3
      · exact h.oa.new k h3
      · exact Nat.le_trans h.base.size h3
    · have := hps.2
      have e : 5000 + 100 * (a.n : Int) + 100 = 5000 + 100 * ((a.n + 1 : Nat) : Int) := by omega
      rwa [e] at this
    · refine h.ob.other q2 (fun k hk => .inl (.inr hk)) (fun k hk => ?_) fun k hk => ?_
      · rcases hk with hk | hk
        · exact .inl (.inl hk)
        · exact (q3 k hk).imp .inr id
      · rcases hk with hk | hk
        · have := h.oc.pw.lt k hk; omega
        · exact q1.lt k hk
    · refine h.oc.other q2 (fun k hk => .inl (.inl hk)) (fun k hk => ?_) fun k hk => ?_
      · rcases hk with hk | hk
        · exact (q3 k hk).imp .inl id
        · exact .inl (.inr hk)
      · rcases hk with hk | hk
        · exact q1.lt k hk
        · have := h.ob.pw.lt k hk; omega
theorem begun3 {w0 w : World} (hd : Crc w0) (hf : Fr w0 w) {K : Option Addr → Option Addr → Option Addr → World → Prop} (hK : ∀ (a b c : Pl) v, a.p = pr0 → b.p = pr0 → c.p = pr0 → a.n = 0 → b.n = 0 → c.n = 0 → Tri w0 v a b c → K (some ⟨a.gp, 0, none⟩) (some ⟨b.gp, 0, none⟩) (some ⟨c.gp, 0, none⟩) v) :
    cl Tryd.prog n_flumelaw12_begun #[] .P w fun (x9 : Option Addr) w10 => cl Tryd.prog n_flumelaw12_begun #[] .P w10 fun (x11 : Option Addr) w12 => cl Tryd.prog n_flumelaw12_begun #[] .P w12 fun (x13 : Option Addr) w14 => K x9 x11 x13 w14 := by
  refine (begun_ok (G := fun _ => False) (hd.fr hf) (fun _ h => h.elim) fun h => h).mono ?_
  rintro _ w1 ⟨t1, g1, y1, rfl, h1, f1, n1⟩
  refine (begun_ok (G := fun k => t1 k ≠ .none) ((hd.fr hf).fr f1) (fun k hk => h1.lt k hk) fun hk => ?_).mono ?_
  · have := n1 _ hk
    have := (hd.fr hf).lt
    omega
  rintro _ w2 ⟨t2, g2, y2, rfl, h2, f2, n2⟩
  refine (begun_ok (G := fun k => t1 k ≠ .none ∨ t2 k ≠ .none) (((hd.fr hf).fr f1).fr f2) (fun k hk => ?_) fun hk => ?_).mono ?_
  · rcases hk with hk | hk
    · have := h1.lt k hk; have := f2.size; omega
    · exact h2.lt k hk
  · have := (hd.fr hf).lt
    have := f1.size
    rcases hk with hk | hk
    · have := n1 _ hk; omega
    · have := n2 _ hk; omega
  rintro _ w3 ⟨t3, g3, y3, rfl, h3, f3, n3⟩
  have z1 := f1.size
  have z2 := f2.size
  have z3 := f3.size
  have z0 := hf.size
  refine hK ⟨t1, g1, pr0, y1, 0⟩ ⟨t2, g2, pr0, y2, 0⟩ ⟨t3, g3, pr0, y3, 0⟩ w3 rfl rfl rfl rfl rfl rfl ⟨⟨?_, fun k hk => Nat.le_trans z0 (n1 k hk), ps0⟩, ⟨?_, fun k hk => by have := n2 k hk; omega, ps0⟩, ⟨h3, fun k hk => by have := n3 k hk; omega, ps0⟩, ((hf.trans f1).trans f2).trans f3⟩
  · refine h1.other (E := fun _ => False) (Mv.of_fr (f2.trans f3)) (fun _ h => h.elim) (fun k hk => ?_) fun k hk => ?_
    · right
      rcases hk with hk | hk
      · have := n2 k hk; omega
      · have := n3 k hk; omega
    · rcases hk with hk | hk
      · have := h2.lt k hk; omega
      · exact h3.lt k hk
  · refine h2.other (E := fun _ => False) (Mv.of_fr f3) (fun _ h => h.elim) (fun k hk => ?_) fun k hk => ?_
    · rcases hk with hk | hk
      · right; have := n3 k hk; omega
      · exact .inl hk
    · rcases hk with hk | hk
      · exact h3.lt k hk
      · have := h1.lt k hk; omega
set_option maxRecDepth 100000 in
theorem TunnelSame_law {H : Type} {enc : TypeId × Value → H} {w : World} {b0 b1 : Nat} {v0 v1 : Value} {d0 d1 : DataW H} {p0 p1 : List MemPlace} (hd : Crc w)
    (o0 : Value.okWide Tryd.prog w .any b0 t_s_flumelaw12_Act v0) (h0 : DataW.Trod enc Tryd.prog w 0 (fun _ => true) true t_s_flumelaw12_Act v0 d0 p0)
    (o1 : Value.okWide Tryd.prog w .any b1 t_s_flumelaw12_Act v1) (h1 : DataW.Trod enc Tryd.prog w 0 (fun _ => true) true t_s_flumelaw12_Act v1 d1 p1) :
    Calls Tryd.prog n_flumelaw12_TunnelSame #[v0, v1] w fun e w' => e = .returned (.bool true) ∧ Below w.heap.size w w' := by
  refine lawE ?_
  obtain ⟨s, xs, rfl, hsl, hsr, hin⟩ := act_in o0 h0
  obtain ⟨s1, xs1, rfl, hsl1, hsr1, hin1⟩ := act_in o1 h1
  refine flumelaw12_TunnelSame.cl (p0 := s) (p1 := s1) ?_
  unfold flumelaw12_TunnelSame
  refine (few_ok hsl hsr).mono ?_
  rintro sh w2 ⟨hsh, hf2⟩
  cases sh with
  | false => exact bT rfl (awake_law hd hf2)
  | true =>
  refine bF rfl ?_
  have h400 := hsh rfl
  refine (few_ok hsl1 (hsr1.below hf2)).mono ?_
  rintro sh1 w4 ⟨hsh1, hf4⟩
  have hf4' := hf2.trans hf4
  cases sh1 with
  | false => exact bT rfl (awake_law hd hf4')
  | true =>
  refine bF rfl ?_
  have h401 := hsh1 rfl
  refine begun3 hd hf4' fun a b c w14 ha hb hc na nb nc hT => ?_
  obtain ⟨ga, hga⟩ : ∃ ga, ga = a.gp := ⟨_, rfl⟩
  obtain ⟨gb, hgb⟩ : ∃ gb, gb = b.gp := ⟨_, rfl⟩
  obtain ⟨gc, hgc⟩ : ∃ gc, gc = c.gp := ⟨_, rfl⟩
  rw [← hga, ← hgb, ← hgc]
  refine lpI (fun (s' : Int × Unit) v => ∃ (i : Nat) (a b c : Pl), i ≤ xs.length ∧ s'.1 = i ∧ ga = a.gp ∧ gb = b.gp ∧ gc = c.gp ∧ a.p = b.p ∧ a.n = i ∧ b.n = i ∧ c.n ≤ i ∧ Tri w v a b c) (fun s' _ => (s.n - s'.1).toNat) ⟨0, a, b, c, Nat.zero_le _, rfl, hga, hgb, hgc, by rw [ha, hb], na, nb, by omega, hT⟩ ?_
  clear hT ha hb hc na nb nc hga hgb hgc a b c
  rintro D ⟨i', ⟨⟩⟩ v ⟨i, a, b, c, hi, rfl, hga, hgb, hgc, hab, na, nb, nc, hT⟩
  dsimp -zeta only
  refine bD ?_ ?_ <;> intro hlt
  · have hi1 : i < xs.length := by omega
    refine ixE (f := actC) (sz := 5) (fun _ => rfl) (hsr.below hT.base) hsl hi1 (by decide) fun ad hcell => ?_
    refine ldAt k_flumelaw12_Act xs[i].1 rfl hcell ?_
    refine nwI fun a21 w22 ha21 hs22 hf22 hb22 _ => ?_
    refine stW (Kd.av k_flumelaw12_Act xs[i].1) rfl hb22 rfl fun w23 hb23 hg23 hs23 => ?_
    have hf23 : Fr v w23 := hf22.on (grown_below hg23 (show v.heap.size ≤ a21 by omega) hf22.size)
    have hT3 := hT.fr hf23
    have hB := (hin xs[i] (List.getElem_mem hi1)).b
    have oldA : ∀ k, a.own k → k < v.heap.size := fun k hk => hT.oa.pw.lt k hk
    have oldB : ∀ k, b.own k → k < v.heap.size := fun k hk => hT.ob.pw.lt k hk
    have oldC : ∀ k, c.own k → k < v.heap.size := fun k hk => hT.oc.pw.lt k hk
    intro j1
    have J1 : ∀ (u : World) (c' : Pl), Tri w u a b c' → c'.gp = gc → c'.n ≤ i + 1 → u.heap[a21]? = some (.cells (actC xs[i]).toArray t_flumelaw12_Act (0, 0)) → j1 u := by
      intro u c' hTu hgc' hnc' hu
      unfold j1
      refine ldW (k := k_flumelaw12_Act) (x := xs[i].1) hu rfl ?_
      rw [hga]
      refine (hTu.does (by omega) hB).mono ?_
      rintro r1 u1 ⟨a', ea1, ea2, ea3, hT1, m1, n1⟩
      have hu1 := m1.heap hu fun hk => by have := oldA _ hk; omega
      refine ldW (k := k_flumelaw12_Act) (x := xs[i].1) hu1 rfl ?_
      rw [hgb]
      refine (hT1.rot.does (by omega) hB).mono ?_
      rintro r2 u2 ⟨b', eb1, eb2, eb3, hT2, m2, n2⟩
      rw [i64w (n := (i : Int) + 1) (by omega) (by omega)]
      exact ⟨⟨i + 1, a', b', c', by omega, rfl, by rw [ea1], by rw [eb1], hgc'.symm, by rw [ea2, eb2, hab], by omega, by omega, hnc', hT2.rot.rot⟩, by omega⟩
    clear_value j1
    refine bD ?_ ?_ <;> intro hlt1
    · have hi2 : i < xs1.length := by omega
      refine ixE (f := actC) (sz := 5) (fun _ => rfl) (hsr1.below hT3.base) hsl1 hi2 (by decide) fun ad2 hcell2 => ?_
      refine ldAt k_flumelaw12_Act xs1[i].1 rfl hcell2 ?_
      rw [hgc]
      refine (hT3.rot.rot.does (by omega) (hin1 xs1[i] (List.getElem_mem hi2)).b).mono ?_
      rintro r3 u3 ⟨c', ec1, ec2, ec3, hT4, m3, n3⟩
      refine J1 u3 c' hT4.rot (by rw [ec1, hgc]) (by omega) (m3.heap hb23 fun hk => ?_)
      have := oldC _ hk
      omega
    · exact J1 w23 c hT3 hgc.symm (by omega) hb23
  · -- they are the same
    rw [hga, hgb]
    refine lpI (fun (s' : Int × Unit) u => ∃ (j : Nat), j ≤ 2 ∧ s'.1 = j ∧ Fr v u) (fun s' _ => (2 - s'.1).toNat) ⟨0, by omega, rfl, Fr.refl _⟩ ?_
    rintro D ⟨j', ⟨⟩⟩ u ⟨j, hj, rfl, hfu⟩
    dsimp only
    refine bD ?_ ?_ <;> intro hlt2
    · obtain ⟨sd, hsd⟩ : ∃ sd, (j : Int) = sideI sd := by
        obtain rfl | rfl : j = 0 ∨ j = 1 := by omega
        · exact ⟨false, rfl⟩
        · exact ⟨true, rfl⟩
      have hU := hT.fr hfu
      refine nzS (hU.oa.pw.ptr hsd (nzS (hU.ob.pw.ptr hsd ?_)))
      intro d1 d2
      have hf2 : Fr u ((u.drewN d1).drewN d2) := (Fr.drewN _ _).trans (Fr.drewN _ _)
      generalize (u.drewN d1).drewN d2 = u2 at *
      have hV := hU.fr hf2
      refine nzS (hV.oa.pw.bagp hsd (nzS (hV.ob.pw.bagp hsd ?_)))
      obtain ⟨a1, a2, a3⟩ := hV.oa.pw.bag sd
      obtain ⟨b1, b2, b3⟩ := hV.ob.pw.bag sd
      have hbl := hV.oa.ps.bag sd
      refine (rows_ok a1.rd a1.len (a2.mono fun _ _ _ _ hc => hc.bs) b1.rd b1.len (b2.mono fun _ _ _ _ hc => hc.bs) (by omega)).mono ?_
      rintro r _ ⟨rfl, rfl⟩
      refine bF (by rw [hab]; simp) ?_
      have hme := (hV.oa.ps.pi.ti sd).inv.me.1
      have ta := hV.oa.pw.tun sd
      have tb := hV.ob.pw.tun sd
      rw [← hab] at tb
      refine (tMe_ok ta hme).mono ?_
      rintro _ _ ⟨rfl, rfl⟩
      refine (tMe_ok tb hme).mono ?_
      rintro _ _ ⟨rfl, rfl⟩
      refine bF (by simp) ?_
      refine (tYou_ok ta hme).mono ?_
      rintro _ _ ⟨rfl, rfl⟩
      refine (tYou_ok tb hme).mono ?_
      rintro _ _ ⟨rfl, rfl⟩
      refine bF (by simp) ?_
      refine (tUp_ok ta hme).mono ?_
      rintro _ _ ⟨rfl, rfl⟩
      refine (tUp_ok tb hme).mono ?_
      rintro _ _ ⟨rfl, rfl⟩
      refine bF (by simp) ?_
      refine (tEpoch_ok ta hme).mono ?_
      rintro _ _ ⟨rfl, rfl⟩
      refine (tEpoch_ok tb hme).mono ?_
      rintro _ _ ⟨rfl, rfl⟩
      refine bF (by simp) ?_
      refine (tWaiting_ok ta hme).mono ?_
      rintro _ u3 ⟨rfl, hf3⟩
      refine (tWaiting_ok (tb.fr hf3) hme).mono ?_
      rintro _ u4 ⟨rfl, hf4⟩
      refine bF (by simp) ?_
      rw [i64w (n := (j : Int) + 1) (by omega) (by omega)]
      exact ⟨⟨j + 1, by omega, rfl, ((hfu.trans hf2).trans hf3).trans hf4⟩, by omega⟩
    · exact awake_law hd (hT.base.trans hfu)
end Go.Proofs.YtmhibpcbdbhfoaaDoor
namespace Go.Fl

/-- Has a message come? -/
def Rc (t : Tn) (q : Int) : Prop := q ≤ t.expect ∨ (t.early q).isSome = true
/-- Does an acknowledgement name a number? -/
def cov (f : Fm) (q : Int) : Bool := gone f (q, [], 0)
theorem gone_cov (f : Fm) (x : Int × List UInt8 × Int) : gone f x = cov f x.1 := rfl
theorem can_nil {t : Tn} (h : t.way = []) : t.can = true := by unfold Tn.can; rw [h]
theorem can_cons {t : Tn} {x : Int × List UInt8 × Int} {l : List (Int × List UInt8 × Int)} (h : t.way = x :: l) : t.can = decide (wr (wr (t.next + 1) - x.1) < 16) := by unfold Tn.can; rw [h]
/-- What a slide keeps. -/
theorem slideF_ind {P : Tn → Prop} (hs : ∀ t b q, P t → t.queue = b :: q → t.can = true → P (t.put1 b q)) : ∀ (k : Nat) {t : Tn}, P t → P (slideF k t)
  | 0, _, h => h
  | k + 1, t, h => by
    unfold slideF
    split
    · exact h
    · rename_i b q hq
      split
      · rename_i hc
        exact slideF_ind hs k (hs t b q h hq hc)
      · exact h
theorem slide_ind {P : Tn → Prop} {t : Tn} (h : P t) (hs : ∀ t b q, P t → t.queue = b :: q → t.can = true → P (t.put1 b q)) : P t.slide := slideF_ind hs _ h
theorem slideF_stuck : ∀ (k : Nat) {t : Tn}, t.queue.length ≤ k → (slideF k t).queue ≠ [] → (slideF k t).can = false
  | 0, t, h, hn => by
    have : t.queue = [] := List.eq_nil_of_length_eq_zero (by omega)
    exact absurd this hn
  | k + 1, t, h, hn => by
    unfold slideF at hn ⊢
    split
    · rename_i hq
      rw [hq] at hn
      exact absurd hq hn
    · rename_i b q hq
      rw [hq] at hn
      dsimp only at hn
      split
      · rename_i hc
        rw [if_pos hc] at hn
        refine slideF_stuck k ?_ hn
        show q.length ≤ k
        rw [hq] at h
        simpa using h
      · rename_i hc
        simpa using hc
theorem slide_stuck (t : Tn) : t.slide.queue ≠ [] → t.slide.can = false := slideF_stuck _ (Nat.le_refl _)
/-- What a datagram does. -/
theorem take_cases {t : Tn} {d : List UInt8} {f : Fm} (h : getF d = some f) :
    (f.yo ≠ t.me ∧ t.you ≤ f.fr ∧ (t.take d).1 = t.say (hel f.fr)) ∨
    (((f.yo ≠ t.me ∧ f.fr < t.you) ∨ (f.yo = t.me ∧ f.k = 1 ∧ f.fr < t.you) ∨ (f.yo = t.me ∧ f.k ≠ 1 ∧ (t.up = false ∨ f.fr ≠ t.you))) ∧ (t.take d).1 = t) ∨
    (f.yo = t.me ∧ f.k = 1 ∧ (f.fr > t.you ∨ (f.fr = t.you ∧ t.up = false)) ∧ (t.take d).1 = t.beg f.fr) ∨
    (f.yo = t.me ∧ f.k = 1 ∧ f.fr = t.you ∧ t.up = true ∧ (t.take d).1 = { t with sil := 0 }) ∨
    (f.yo = t.me ∧ f.k = 3 ∧ f.fr = t.you ∧ t.up = true ∧ (t.take d).1 = ({ t with sil := 0 } : Tn).ack f) ∨
    (f.yo = t.me ∧ f.k = 2 ∧ f.fr = t.you ∧ t.up = true ∧ (t.take d).1 = (({ t with sil := 0 } : Tn).data f).1) := by
  have hk := (okF_in (getF_back h).1).1
  unfold Tn.take
  rw [h]
  dsimp only
  split
  · rename_i h1
    unfold Tn.hello
    split
    · rename_i h2
      split
      · rename_i h3; exact .inl ⟨h2, by omega, rfl⟩
      · rename_i h3; exact .inr (.inl ⟨.inl ⟨h2, by omega⟩, rfl⟩)
    · rename_i h2
      have h2 : f.yo = t.me := Classical.byContradiction h2
      split
      · rename_i h3; exact .inr (.inr (.inl ⟨h2, h1, h3, rfl⟩))
      · rename_i h3
        split
        · rename_i h4
          refine .inr (.inr (.inr (.inl ⟨h2, h1, h4, ?_, rfl⟩)))
          cases hu : t.up with
          | true => rfl
          | false => exact absurd (.inr ⟨h4, hu⟩) h3
        · rename_i h4; exact .inr (.inl ⟨.inr (.inl ⟨h2, h1, by omega⟩), rfl⟩)
  · rename_i h1
    split
    · rename_i hcond
      split
      · rename_i h3; exact .inl ⟨h3.1, by omega, rfl⟩
      · rename_i h3
        refine .inr (.inl ⟨?_, rfl⟩)
        by_cases hy : f.yo = t.me
        · refine .inr (.inr ⟨hy, h1, ?_⟩)
          rcases hcond with hc | hc | hc
          · exact .inl hc
          · exact .inr hc
          · exact absurd hy hc
        · refine .inl ⟨hy, ?_⟩
          apply Classical.byContradiction
          intro hf
          exact h3 ⟨hy, by omega⟩
    · rename_i hcond
      have hu : t.up = true := by
        cases hu : t.up with
        | true => rfl
        | false => exact absurd (.inl hu) hcond
      have hfr : f.fr = t.you := Classical.byContradiction fun e => hcond (.inr (.inl e))
      have hyo : f.yo = t.me := Classical.byContradiction fun e => hcond (.inr (.inr e))
      split
      · rename_i h3; exact .inr (.inr (.inr (.inr (.inl ⟨hyo, h3, hfr, hu, rfl⟩))))
      · rename_i h3; exact .inr (.inr (.inr (.inr (.inr ⟨hyo, by omega, hfr, hu, rfl⟩))))
/-- What holds of each tunnel; N bounds what it counts. -/
structure TL (t : Tn) (N : Int) : Prop where
  nx : 0 ≤ t.next ∧ t.next + t.queue.length ≤ N
  sort : t.way.Pairwise fun x y => x.1 < y.1
  win : ∀ x ∈ t.way, 1 ≤ x.1 ∧ x.1 ≤ t.next ∧ t.next < x.1 + 16
  age : ∀ x ∈ t.way, 0 ≤ x.2.2 ∧ x.2.2 ≤ t.ticks
  ticks : 0 ≤ t.ticks ∧ t.ticks ≤ N
  idle : t.up = false → t.queue = [] ∧ t.way = []
  upy : t.up = true → 1 ≤ t.you
structure Rest (t : Tn) : Prop where
  early : t.early (t.expect + 1) = none
  stuck : t.queue ≠ [] → t.can = false
section
variable {t : Tn} {N : Int}
theorem TL.say (h : TL t N) (f : Fm) : TL (t.say f) N := ⟨h.nx, h.sort, h.win, h.age, h.ticks, h.idle, h.upy⟩
theorem TL.clear (h : TL t N) : TL t.clear N := ⟨h.nx, h.sort, h.win, h.age, h.ticks, h.idle, h.upy⟩
theorem TL.calm (h : TL t N) : TL { t with sil := 0 } N := ⟨h.nx, h.sort, h.win, h.age, h.ticks, h.idle, h.upy⟩
theorem TL.mono {M : Int} (h : TL t N) (hM : N ≤ M) : TL t M := ⟨⟨h.nx.1, by have := h.nx.2; omega⟩, h.sort, h.win, h.age, ⟨h.ticks.1, by have := h.ticks.2; omega⟩, h.idle, h.upy⟩
theorem TL.zero (h0 : 0 ≤ N) (me : Int) : TL (tn0 me) N := ⟨⟨Int.le_refl _, h0⟩, .nil, fun _ hx => (by cases hx), fun _ hx => (by cases hx), ⟨Int.le_refl _, h0⟩, fun _ => ⟨rfl, rfl⟩, fun hu => (by cases hu)⟩
theorem TL.beg (h : TL t N) {you : Int} (hy : 1 ≤ you) : TL (t.beg you) N :=
  ⟨⟨Int.le_refl _, by have := h.ticks; show (0 : Int) + 0 ≤ N; omega⟩, .nil, fun _ hx => (by cases hx), fun _ hx => (by cases hx), h.ticks, fun hu => (by cases hu), fun _ => hy⟩
theorem TL.fin (h : TL t N) : TL t.fin N :=
  ⟨⟨Int.le_refl _, by have := h.ticks; show (0 : Int) + 0 ≤ N; omega⟩, .nil, fun _ hx => (by cases hx), fun _ hx => (by cases hx), h.ticks, fun _ => ⟨rfl, rfl⟩, fun hu => (by cases hu)⟩
theorem TL.put1 (h : TL t N) (hN : N < 1099511627776) (hu : t.up = true) {b : List UInt8} {q : Rows8} (hq : t.queue = b :: q) (hc : t.can = true) : TL (t.put1 b q) N := by
  have hn := h.nx
  rw [hq] at hn
  simp only [List.length_cons] at hn
  have e : wr (t.next + 1) = t.next + 1 := by rw [wr, IntKind.wrap_i64]; omega
  have hhead : ∀ x ∈ t.way, t.next + 1 < x.1 + 16 := by
    intro x hx
    cases hw : t.way with
    | nil => rw [hw] at hx; cases hx
    | cons y l =>
      rw [can_cons hw, decide_eq_true_eq, e] at hc
      have hy := h.win y (by rw [hw]; exact List.mem_cons_self ..)
      have hc' : t.next + 1 - y.1 < 16 := by
        rw [wr, IntKind.wrap_i64] at hc; omega
      have hs := h.sort
      rw [hw] at hs hx
      rcases List.mem_cons.1 hx with rfl | hx
      · omega
      · have := (List.pairwise_cons.1 hs).1 x hx
        omega
  refine ⟨?_, ?_, fun x hx => ?_, fun x hx => ?_, h.ticks, fun hu' => ?_, h.upy⟩
  · show 0 ≤ wr (t.next + 1) ∧ wr (t.next + 1) + (q.length : Int) ≤ N
    rw [e]; omega
  · show (t.way ++ [(wr (t.next + 1), b, (0 : Int))]).Pairwise _
    rw [e]
    refine List.pairwise_append.2 ⟨h.sort, by simp, fun x hx y hy => ?_⟩
    rw [List.mem_singleton] at hy
    have := h.win x hx
    rw [hy]
    show x.1 < t.next + 1
    omega
  · have hx : x ∈ t.way ++ [(wr (t.next + 1), b, 0)] := hx
    show 1 ≤ x.1 ∧ x.1 ≤ wr (t.next + 1) ∧ wr (t.next + 1) < x.1 + 16
    rw [e] at hx ⊢
    rcases List.mem_append.1 hx with hx | hx
    · have h1 := h.win x hx
      have h2 := hhead x hx
      omega
    · rw [List.mem_singleton] at hx
      rw [hx]
      show 1 ≤ t.next + 1 ∧ t.next + 1 ≤ t.next + 1 ∧ t.next + 1 < t.next + 1 + 16
      omega
  · have hx : x ∈ t.way ++ [(wr (t.next + 1), b, 0)] := hx
    rcases List.mem_append.1 hx with hx | hx
    · exact h.age x hx
    · rw [List.mem_singleton] at hx
      rw [hx]
      exact ⟨Int.le_refl _, h.ticks.1⟩
  · have hu' : t.up = false := hu'
    rw [hu] at hu'; cases hu'
theorem TL.slide (h : TL t N) (hN : N < 1099511627776) (hu : t.up = true) : TL t.slide N :=
  (slide_ind (P := fun t => TL t N ∧ t.up = true) ⟨h, hu⟩ fun _ _ _ h hq hc => ⟨h.1.put1 hN h.2 hq hc, h.2⟩).1
theorem TL.drop (h : TL t N) (p : Int × List UInt8 × Int → Bool) : TL { t with way := t.way.filter p } N :=
  ⟨h.nx, h.sort.filter p, fun x hx => h.win x (List.mem_filter.1 hx).1, fun x hx => h.age x (List.mem_filter.1 hx).1, h.ticks, fun hu => ⟨(h.idle hu).1, by show t.way.filter p = []; rw [(h.idle hu).2]; rfl⟩, h.upy⟩
theorem TL.ack (h : TL t N) (hN : N < 1099511627776) (hu : t.up = true) (f : Fm) : TL (t.ack f) N := (h.drop _).slide hN hu
theorem TL.keep (h : TL t N) (f : Fm) : TL (t.keep f) N := by
  unfold Tn.keep
  split
  · exact ⟨h.nx, h.sort, h.win, h.age, h.ticks, h.idle, h.upy⟩
  · exact h
theorem TL.tell : ∀ (n : Nat) {t : Tn} {l : Rows8}, TL t N → TL (tellF n t l).1 N
  | 0, _, _, h => h
  | n + 1, t, l, h => by
    unfold tellF
    split
    · exact h
    · exact TL.tell n ⟨h.nx, h.sort, h.win, h.age, h.ticks, h.idle, h.upy⟩
theorem TL.data (h : TL t N) (f : Fm) : TL (t.data f).1 N := (TL.tell 17 (h.keep f)).say _
theorem TL.take (h : TL t N) (hN : N < 1099511627776) {d : List UInt8} {f : Fm} (hf : getF d = some f) : TL (t.take d).1 N := by
  have hok := (getF_back hf).1.1
  rcases take_cases (t := t) hf with ⟨_, _, e⟩ | ⟨_, e⟩ | ⟨_, _, _, e⟩ | ⟨_, _, _, _, e⟩ | ⟨_, _, _, hu, e⟩ | ⟨_, _, _, _, e⟩ <;> rw [e]
  · exact h.say _
  · exact h
  · exact h.beg hok.1
  · exact h.calm
  · exact h.calm.ack hN hu f
  · exact h.calm.data f
theorem TL.push (h : TL t N) (hu : t.up = true) (b : List UInt8) : TL { t with queue := t.queue ++ [b] } (N + 1) :=
  ⟨⟨h.nx.1, by have := h.nx.2; show t.next + ((t.queue ++ [b]).length : Int) ≤ N + 1; simp; omega⟩, h.sort, h.win, h.age, ⟨h.ticks.1, by have := h.ticks.2; show t.ticks ≤ N + 1; omega⟩, fun hu' => (by have hu' : t.up = false := hu'; rw [hu] at hu'; cases hu'), h.upy⟩
theorem TL.send (h : TL t N) (hN : N + 1 < 1099511627776) (b : List UInt8) : TL (t.send b).1 (N + 1) := by
  unfold Tn.send
  split
  · exact h.mono (by omega)
  · rename_i hu
    have hu : t.up = true := by simpa using hu
    split
    · exact h.mono (by omega)
    · split
      · exact h.mono (by omega)
      · exact (h.push hu b).slide hN hu
theorem TL.hint (h : TL t N) (n : Int) : TL (t.hint n) N := by
  unfold Tn.hint; split
  · exact h.say _
  · exact h
theorem ageF_eq (l : List (Int × List UInt8 × Int)) (t : Tn) : ∃ o, ageF t l = { t with out := t.out ++ o } := (ageF_out l t).imp fun _ h => h.1
theorem TL.tick (h : TL t N) (hN : N + 1 < 1099511627776) : TL t.tick (N + 1) := by
  have ht := h.ticks
  have e : wr (t.ticks + 1) = t.ticks + 1 := by rw [wr, IntKind.wrap_i64]; omega
  have h1 : ∀ s, TL { t with ticks := wr (t.ticks + 1), sil := s } (N + 1) := fun s =>
    ⟨⟨h.nx.1, by have := h.nx.2; show t.next + (t.queue.length : Int) ≤ N + 1; omega⟩, h.sort, h.win, fun x hx => ⟨(h.age x hx).1, by have := (h.age x hx).2; show x.2.2 ≤ wr (t.ticks + 1); omega⟩, by show 0 ≤ wr (t.ticks + 1) ∧ wr (t.ticks + 1) ≤ N + 1; omega, h.idle, h.upy⟩
  unfold Tn.tick
  dsimp only
  split
  · split
    · exact (h1 t.sil).say _
    · exact h1 t.sil
  · rename_i hu0
    have hu : t.up = true := by simpa using hu0
    split
    · exact (h1 _).fin
    · unfold Tn.tickUp
      dsimp only
      have h3 : TL (if Int.tmod (wr (t.ticks + 1)) 8 = 0 then ({ t with ticks := wr (t.ticks + 1), sil := wr (t.sil + 1) } : Tn).say (hel t.you) else { t with ticks := wr (t.ticks + 1), sil := wr (t.sil + 1) }) (N + 1) := by
        split
        · exact (h1 _).say _
        · exact h1 _
      have hw : (if Int.tmod (wr (t.ticks + 1)) 8 = 0 then ({ t with ticks := wr (t.ticks + 1), sil := wr (t.sil + 1) } : Tn).say (hel t.you) else { t with ticks := wr (t.ticks + 1), sil := wr (t.sil + 1) }).ticks = t.ticks + 1 ∧ (if Int.tmod (wr (t.ticks + 1)) 8 = 0 then ({ t with ticks := wr (t.ticks + 1), sil := wr (t.sil + 1) } : Tn).say (hel t.you) else { t with ticks := wr (t.ticks + 1), sil := wr (t.sil + 1) }).way = t.way ∧
          (if Int.tmod (wr (t.ticks + 1)) 8 = 0 then ({ t with ticks := wr (t.ticks + 1), sil := wr (t.sil + 1) } : Tn).say (hel t.you) else { t with ticks := wr (t.ticks + 1), sil := wr (t.sil + 1) }).up = true := by
        split <;> exact ⟨e, rfl, hu⟩
      generalize (if Int.tmod (wr (t.ticks + 1)) 8 = 0 then ({ t with ticks := wr (t.ticks + 1), sil := wr (t.sil + 1) } : Tn).say (hel t.you) else { t with ticks := wr (t.ticks + 1), sil := wr (t.sil + 1) }) = t3 at *
      obtain ⟨o, ho⟩ := ageF_eq t.way t3
      rw [ho]
      refine ⟨h3.nx, ?_, fun x hx => ?_, fun x hx => ?_, h3.ticks, fun hu' => ?_, h3.upy⟩
      · show (older t.way).Pairwise _
        unfold older
        rw [List.pairwise_map]
        exact h.sort
      · have hx : x ∈ older t.way := hx
        obtain ⟨y, hy, rfl⟩ := List.mem_map.1 hx
        exact h3.win y (by rw [hw.2.1]; exact hy)
      · have hx : x ∈ older t.way := hx
        obtain ⟨y, hy, rfl⟩ := List.mem_map.1 hx
        have ha := h.age y hy
        have e2 : wr (y.2.2 + 1) = y.2.2 + 1 := by rw [wr, IntKind.wrap_i64]; omega
        show 0 ≤ wr (y.2.2 + 1) ∧ wr (y.2.2 + 1) ≤ t3.ticks
        rw [e2, hw.1]
        omega
      · have hu' : t3.up = false := hu'
        rw [hw.2.2] at hu'; cases hu'
end
end Go.Fl
namespace Go.Fl

theorem bitsN_bit (e : Int → Option (List UInt8)) (x : Int) : ∀ (n i : Nat), i < n → (bitsN e x n / 2 ^ i % 2 = 1 ↔ (e (x + 1 + i)).isSome = true)
  | 0, _, h => by omega
  | n + 1, i, h => by
    unfold bitsN
    by_cases hi : i = n
    · subst hi
      have hlt := bitsN_lt e x i
      split
      · rename_i hs
        rw [Nat.add_div_right _ (Nat.two_pow_pos i), Nat.div_eq_of_lt hlt]
        simp [hs]
      · rename_i hs
        rw [Nat.add_zero, Nat.div_eq_of_lt hlt]
        simp [hs]
    · have ih := bitsN_bit e x n i (by omega)
      rw [← ih]
      split
      · have e1 : 2 ^ n = 2 ^ i * (2 * 2 ^ (n - i - 1)) := by
          rw [← Nat.pow_succ', ← Nat.pow_add]; congr 1; omega
        rw [e1, Nat.add_mul_div_left _ _ (Nat.two_pow_pos i), Nat.add_mul_mod_self_left]
      · rw [Nat.add_zero]
/-- The acknowledgement that a tunnel says. -/
def ackF (t : Tn) : Fm := ⟨3, t.me, t.you, 0, t.expect, (bitsN t.early t.expect 16 : Nat), []⟩
theorem cov_rc {t : Tn} (hx : 0 ≤ t.expect ∧ t.expect ≤ 1099511627776) {q : Int} (h1 : 1 ≤ q) (h2 : q ≤ 2199023255552) : cov (ackF t) q = true ↔ (q ≤ t.expect ∨ (q ≤ t.expect + 16 ∧ (t.early q).isSome = true)) := by
  have e1 : wr (wr (q - t.expect) - 1) = q - t.expect - 1 := by rw [wr, wr, IntKind.wrap_i64, IntKind.wrap_i64]; omega
  unfold cov gone ackF
  dsimp only
  rw [e1, Bool.or_eq_true, Bool.and_eq_true, decide_eq_true_eq, decide_eq_true_eq, decide_eq_true_eq]
  by_cases hq : q ≤ t.expect
  · exact ⟨fun _ => .inl hq, fun _ => .inl (by omega)⟩
  · obtain ⟨i, hi⟩ : ∃ i : Nat, q = t.expect + 1 + i := ⟨(q - t.expect - 1).toNat, by omega⟩
    have e2 : (q - t.expect - 1).toNat = i := by omega
    rw [e2]
    have e3 : (((bitsN t.early t.expect 16 : Nat) : Int) / 2 ^ i) % 2 = ((bitsN t.early t.expect 16 / 2 ^ i % 2 : Nat) : Int) := by
      rw [Int.natCast_emod, Int.natCast_ediv]; simp
    rw [e3]
    constructor
    · rintro (h | ⟨h, hb⟩)
      · omega
      · right
        refine ⟨by omega, ?_⟩
        rw [hi]
        exact (bitsN_bit t.early t.expect 16 i (by omega)).1 (by omega)
    · rintro (h | ⟨h, hb⟩)
      · omega
      · right
        refine ⟨by omega, ?_⟩
        rw [hi] at hb
        have := (bitsN_bit t.early t.expect 16 i (by omega)).2 hb
        omega
section
variable {t : Tn}
theorem Rc.keep {q : Int} (h : Rc t q) (f : Fm) : Rc (t.keep f) q := by
  unfold Tn.keep
  split
  · rcases h with h | h
    · exact .inl h
    · right
      show (setE t.early f.sq (some f.bd) q).isSome = true
      unfold setE
      split
      · rfl
      · exact h
  · exact h
theorem Rc.tell : ∀ (n : Nat) {t : Tn} {l : Rows8} {q : Int}, Rc t q → Rc (tellF n t l).1 q
  | 0, _, _, _, h => h
  | n + 1, t, l, q, h => by
    unfold tellF
    split
    · exact h
    · refine Rc.tell n ?_
      rcases h with h | h
      · left; show q ≤ t.expect + 1; omega
      · by_cases hq : q = t.expect + 1
        · left; show q ≤ t.expect + 1; omega
        · right
          show (setE t.early (t.expect + 1) none q).isSome = true
          unfold setE
          rw [if_neg hq]; exact h
theorem Rc.keep_new (f : Fm) (h : f.sq ≤ t.expect + 16) : Rc (t.keep f) f.sq := by
  unfold Tn.keep
  split
  · right
    show (setE t.early f.sq (some f.bd) f.sq).isSome = true
    unfold setE
    rw [if_pos rfl]; rfl
  · left; omega
theorem tellF_none : ∀ (n : Nat) {t : Tn} {l : Rows8}, (∀ k b, t.early k = some b → t.expect < k ∧ k < t.expect + n) → (tellF n t l).1.early ((tellF n t l).1.expect + 1) = none
  | 0, t, _, h => by
    show t.early (t.expect + 1) = none
    cases he : t.early (t.expect + 1) with
    | none => rfl
    | some b => have := h _ _ he; omega
  | n + 1, t, l, h => by
    unfold tellF
    split
    · rename_i he; exact he
    · refine tellF_none n fun k b hk => ?_
      have hk : setE t.early (t.expect + 1) none k = some b := hk
      unfold setE at hk
      split at hk
      · cases hk
      · rename_i hne
        have := h k b hk
        show t.expect + 1 < k ∧ k < t.expect + 1 + n
        omega
theorem Rest.say (h : Rest t) (f : Fm) : Rest (t.say f) := ⟨h.early, h.stuck⟩
theorem Rest.clear (h : Rest t) : Rest t.clear := ⟨h.early, h.stuck⟩
theorem Rest.calm (h : Rest t) : Rest { t with sil := 0 } := ⟨h.early, h.stuck⟩
theorem Rest.zero (me : Int) : Rest (tn0 me) := ⟨rfl, fun h => absurd rfl h⟩
theorem Rest.beg (t : Tn) (you : Int) : Rest (t.beg you) := ⟨rfl, fun h => absurd rfl h⟩
theorem Rest.fin (t : Tn) : Rest t.fin := ⟨rfl, fun h => absurd rfl h⟩
theorem Rest.slide (h : t.early (t.expect + 1) = none) : Rest t.slide :=
  ⟨slide_ind (P := fun t => t.early (t.expect + 1) = none) h fun _ _ _ h _ _ => h, slide_stuck t⟩
theorem keep_eq (t : Tn) (f : Fm) : ∃ e, t.keep f = { t with early := e } := by
  unfold Tn.keep; split
  · exact ⟨_, rfl⟩
  · exact ⟨t.early, rfl⟩
theorem tell_eq : ∀ (n : Nat) (t : Tn) (l : Rows8), ∃ e x, (tellF n t l).1 = { t with early := e, expect := x }
  | 0, t, _ => ⟨t.early, t.expect, rfl⟩
  | n + 1, t, l => by
    unfold tellF
    split
    · exact ⟨t.early, t.expect, rfl⟩
    · obtain ⟨e, x, h⟩ := tell_eq n { t with early := setE t.early (t.expect + 1) none, expect := t.expect + 1 } (l ++ [_])
      exact ⟨e, x, h⟩
theorem data_eq (t : Tn) (f : Fm) : ∃ e x, (tellF 17 (t.keep f) []).1 = { t with early := e, expect := x } := by
  obtain ⟨e1, h1⟩ := keep_eq t f
  obtain ⟨e, x, h⟩ := tell_eq 17 (t.keep f) []
  rw [h1] at h ⊢
  exact ⟨e, x, h⟩
theorem Rest.data (h : Rest t) (hi : t.inv) {f : Fm} (hf : f.ok) : Rest (t.data f).1 := by
  have hk := (hi.keep hf).early
  have h1 : (tellF 17 (t.keep f) []).1.early ((tellF 17 (t.keep f) []).1.expect + 1) = none := tellF_none 17 fun k b hb => by
    have := hk k b hb; omega
  refine ⟨h1, fun hq => ?_⟩
  obtain ⟨e, x, h2⟩ := data_eq t f
  have h3 : (t.data f).1 = (tellF 17 (t.keep f) []).1.acks := rfl
  rw [h3, h2] at hq ⊢
  exact h.stuck hq
theorem Rest.take (h : Rest t) (hi : t.inv) {d : List UInt8} {f : Fm} (hf : getF d = some f) : Rest (t.take d).1 := by
  have hok := (getF_back hf).1
  rcases take_cases (t := t) hf with ⟨_, _, e⟩ | ⟨_, e⟩ | ⟨_, _, _, e⟩ | ⟨_, _, _, _, e⟩ | ⟨_, _, _, hu, e⟩ | ⟨_, _, _, _, e⟩ <;> rw [e]
  · exact h.say _
  · exact h
  · exact Rest.beg _ _
  · exact h.calm
  · exact Rest.slide h.early
  · exact h.calm.data hi.calm hok
theorem Rest.send (h : Rest t) (b : List UInt8) : Rest (t.send b).1 := by
  unfold Tn.send
  split
  · exact h
  · split
    · exact h
    · split
      · exact h
      · exact Rest.slide h.early
theorem Rest.hint (h : Rest t) (n : Int) : Rest (t.hint n) := by
  unfold Tn.hint; split
  · exact h.say _
  · exact h
theorem older_can {t : Tn} (l : List (Int × List UInt8 × Int)) (h : t.way = l) : ({ t with way := older l } : Tn).can = t.can := by
  unfold Tn.can
  rw [h]
  cases l <;> rfl
theorem Rest.tick (h : Rest t) : Rest t.tick := by
  have h1 : ∀ s k, Rest { t with ticks := k, sil := s } := fun s k => ⟨h.early, h.stuck⟩
  unfold Tn.tick
  dsimp only
  split
  · split
    · exact (h1 t.sil _).say _
    · exact h1 t.sil _
  · split
    · exact Rest.fin _
    · unfold Tn.tickUp
      dsimp only
      have h3 : Rest (if Int.tmod (wr (t.ticks + 1)) 8 = 0 then ({ t with ticks := wr (t.ticks + 1), sil := wr (t.sil + 1) } : Tn).say (hel t.you) else { t with ticks := wr (t.ticks + 1), sil := wr (t.sil + 1) }) := by
        split
        · exact (h1 _ _).say _
        · exact h1 _ _
      have hw : (if Int.tmod (wr (t.ticks + 1)) 8 = 0 then ({ t with ticks := wr (t.ticks + 1), sil := wr (t.sil + 1) } : Tn).say (hel t.you) else { t with ticks := wr (t.ticks + 1), sil := wr (t.sil + 1) }).way = t.way := by
        split <;> rfl
      generalize (if Int.tmod (wr (t.ticks + 1)) 8 = 0 then ({ t with ticks := wr (t.ticks + 1), sil := wr (t.sil + 1) } : Tn).say (hel t.you) else { t with ticks := wr (t.ticks + 1), sil := wr (t.sil + 1) }) = t3 at *
      obtain ⟨o, ho⟩ := ageF_eq t.way t3
      rw [ho]
      refine ⟨h3.early, fun hq => ?_⟩
      have := older_can (t := { t3 with out := t3.out ++ o }) t.way hw
      refine Eq.trans this ?_
      exact h3.stuck hq
end
/-- A step of one tunnel, as the other one, o, sees it. -/
structure Upd (t t' o : Tn) : Prop where
  me : t'.me = t.me
  you : t.you ≤ o.me → t'.you ≤ o.me
  out : ∀ d ∈ t'.out, d ∈ t.out ∨ ∃ f, getF d = some f ∧ f.fr = t.me ∧ f.yo ≤ o.me ∧ (f.k = 3 → f.yo = o.me → t'.up = true ∧ t'.you = o.me ∧ ∀ q, 1 ≤ q → q ≤ 2199023255552 → cov f q = true → Rc t' q)
  keep : t.up = true → t.you = o.me → t'.up = true ∧ t'.you = t.you ∧ ∀ q, Rc t q → Rc t' q
  way : t'.up = true → t'.you = o.me → ∀ q, 1 ≤ q → q ≤ t'.next → (∀ x ∈ t'.way, x.1 ≠ q) → (t.up = true ∧ t.you = o.me ∧ q ≤ t.next ∧ ∀ x ∈ t.way, x.1 ≠ q) ∨ (o.up = true ∧ o.you = t.me ∧ Rc o q)
section
variable {t t' t2 o : Tn}
theorem Upd.refl (t o : Tn) : Upd t t o := ⟨rfl, fun h => h, fun _d hd => .inl hd, fun h _ => ⟨h, rfl, fun _ h => h⟩, fun h1 h2 _q _ h3 h4 => .inl ⟨h1, h2, h3, h4⟩⟩
theorem Upd.trans (h : Upd t t' o) (k : Upd t' t2 o) : Upd t t2 o := by
  refine ⟨k.me.trans h.me, fun hy => k.you (h.you hy), fun d hd => ?_, fun hu hy => ?_, fun hu hy q h1 h2 h3 => ?_⟩
  · rcases k.out d hd with h1 | ⟨f, f1, f2, f3, f4⟩
    · rcases h.out d h1 with h2 | ⟨f, f1, f2, f3, f4⟩
      · exact .inl h2
      · refine .inr ⟨f, f1, f2, f3, fun hk hy => ?_⟩
        obtain ⟨g1, g2, g3⟩ := f4 hk hy
        obtain ⟨k1, k2, k3⟩ := k.keep g1 g2
        exact ⟨k1, k2.trans g2, fun q h1 h2 hc => k3 q (g3 q h1 h2 hc)⟩
    · exact .inr ⟨f, f1, f2.trans h.me, f3, f4⟩
  · obtain ⟨g1, g2, g3⟩ := h.keep hu hy
    obtain ⟨k1, k2, k3⟩ := k.keep g1 (g2.trans hy)
    exact ⟨k1, k2.trans g2, fun q hq => k3 q (g3 q hq)⟩
  · rcases k.way hu hy q h1 h2 h3 with ⟨g1, g2, g3, g4⟩ | ⟨g1, g2, g3⟩
    · exact h.way g1 g2 q h1 g3 g4
    · exact .inr ⟨g1, g2.trans h.me, g3⟩
theorem getF_putF {f : Fm} (h : f.ok) : getF (putF f).1 = some f := by rw [putF, if_pos h]; exact getF_put h
theorem Upd.say {f : Fm} (hok : ({ f with fr := t.me } : Fm).ok) (hy : f.yo ≤ o.me) (hk : f.k ≠ 3) : Upd t (t.say f) o := by
  refine ⟨rfl, fun h => h, fun d hd => ?_, fun h _ => ⟨h, rfl, fun _ h => h⟩, fun h1 h2 q _ h3 h4 => .inl ⟨h1, h2, h3, h4⟩⟩
  have hd : d ∈ t.out ++ [(putF { f with fr := t.me }).1] := hd
  rcases List.mem_append.1 hd with hd | hd
  · exact .inl hd
  · rw [List.mem_singleton] at hd
    exact .inr ⟨{ f with fr := t.me }, by rw [hd]; exact getF_putF hok, rfl, hy, fun h => absurd h hk⟩
theorem Upd.sayHel {you : Int} (hi : t.inv) (hy : 0 ≤ you ∧ you ≤ 1099511627776) (ho : you ≤ o.me) : Upd t (t.say (hel you)) o := Upd.say (hel_ok hi.me hy) ho (by show (1 : Int) ≠ 3; decide)
theorem ack_ok (hi : t.inv) : (ackF t).ok := by
  have hb := bitsN_lt t.early t.expect 16
  exact ⟨hi.me, hi.you, .inr (.inr ⟨rfl, rfl, hi.ex, ⟨by show (0 : Int) ≤ ((_ : Nat) : Int); omega, by show ((bitsN t.early t.expect 16 : Nat) : Int) ≤ 65535; omega⟩, rfl⟩)⟩
theorem Upd.acks (hi : t.inv) (hu : t.up = true) (hy : t.you ≤ o.me) : Upd t t.acks o := by
  refine ⟨rfl, fun h => h, fun d hd => ?_, fun h _ => ⟨h, rfl, fun _ h => h⟩, fun h1 h2 q _ h3 h4 => .inl ⟨h1, h2, h3, h4⟩⟩
  have hd : d ∈ t.out ++ [(putF (ackF t)).1] := hd
  rcases List.mem_append.1 hd with hd | hd
  · exact .inl hd
  · rw [List.mem_singleton] at hd
    refine .inr ⟨ackF t, by rw [hd]; exact getF_putF (ack_ok hi), rfl, hy, fun _ he => ⟨hu, he, fun q h1 h2 hc => ?_⟩⟩
    rcases (cov_rc hi.ex h1 h2).1 hc with h | h
    · exact .inl h
    · exact .inr h.2
/-- Nothing that the other one sees turns. -/
theorem Upd.same (h1 : t'.me = t.me) (h2 : t'.you = t.you) (h3 : t'.up = t.up) (h4 : t'.next = t.next) (h5 : t'.expect = t.expect) (h6 : t'.early = t.early) (h7 : t'.out = t.out) (h8 : ∀ x ∈ t.way, ∃ z ∈ t'.way, z.1 = x.1) : Upd t t' o := by
  refine ⟨h1, fun h => by rw [h2]; exact h, fun d hd => .inl (by rw [← h7]; exact hd), fun hu hy => ⟨h3.trans hu, h2, fun q hq => ?_⟩, fun hu hy q a1 a2 a3 => .inl ⟨h3.symm.trans hu, h2.symm.trans hy, by rw [← h4]; exact a2, fun x hx e => ?_⟩⟩
  · unfold Rc at hq ⊢
    rw [h5, h6]; exact hq
  · obtain ⟨z, hz, e2⟩ := h8 x hx
    exact a3 z hz (e2.trans e)
theorem Upd.beg {you : Int} (hi : t.inv) (hy : 0 ≤ you ∧ you ≤ 1099511627776) (ho : you ≤ o.me) (hb : you > t.you ∨ (you = t.you ∧ t.up = false)) : Upd t (t.beg you) o := by
  have h1 : Upd t (t.fresh you) o := by
    refine ⟨rfl, fun _ => ho, fun d hd => .inl hd, fun hu he => ?_, fun _ _ q a1 a2 _ => ?_⟩
    · rcases hb with hb | ⟨_, hb⟩
      · omega
      · rw [hu] at hb; cases hb
    · have : q ≤ 0 := a2
      omega
  exact h1.trans (Upd.sayHel (hi.fresh hy) hy ho)
theorem Upd.drop {f : Fm} (hc : t.you = o.me → ∀ q, 1 ≤ q → q ≤ 2199023255552 → cov f q = true → o.up = true ∧ o.you = t.me ∧ Rc o q) {N : Int} (ht : TL t N) (hN : N < 1099511627776) : Upd t { t with way := t.way.filter fun x => !gone f x } o := by
  refine ⟨rfl, fun h => h, fun d hd => .inl hd, fun h _ => ⟨h, rfl, fun _ h => h⟩, fun hu hy q a1 a2 a3 => ?_⟩
  have hy : t.you = o.me := hy
  have a2 : q ≤ t.next := a2
  by_cases hex : ∃ x ∈ t.way, x.1 = q
  · obtain ⟨x, hx, e⟩ := hex
    cases hg : gone f x with
    | false => exact absurd e (a3 x (List.mem_filter.2 ⟨hx, by rw [hg]; rfl⟩))
    | true =>
      rw [gone_cov, e] at hg
      have := ht.nx
      exact .inr (hc hy q a1 (by omega) hg)
  · exact .inl ⟨hu, hy, a2, fun x hx e => hex ⟨x, hx, e⟩⟩
theorem Upd.put1 {N : Int} (ht : TL t N) (hN : N < 1099511627776) (hi : t.inv) (ho : t.you ≤ o.me) {b : List UInt8} {q : Rows8} (hq : t.queue = b :: q) : Upd t (t.put1 b q) o := by
  have hn := ht.nx
  rw [hq] at hn
  simp only [List.length_cons] at hn
  have e : wr (t.next + 1) = t.next + 1 := by rw [wr, IntKind.wrap_i64]; omega
  refine ⟨rfl, fun h => h, fun d hd => ?_, fun h _ => ⟨h, rfl, fun _ h => h⟩, fun h1 h2 k _ h3 h4 => .inl ⟨h1, h2, ?_, fun x hx => h4 x (List.mem_append_left _ hx)⟩⟩
  · have hd : d ∈ t.out ++ [(putF (⟨2, t.me, t.you, wr (t.next + 1), 0, 0, b⟩ : Fm)).1] := hd
    rcases List.mem_append.1 hd with hd | hd
    · exact .inl hd
    · rw [List.mem_singleton] at hd
      have hok : (⟨2, t.me, t.you, wr (t.next + 1), 0, 0, b⟩ : Fm).ok := ⟨hi.me, hi.you, .inr (.inl ⟨rfl, by show 1 ≤ wr (t.next + 1) ∧ wr (t.next + 1) ≤ _; omega, rfl, rfl, hi.queue b (by rw [hq]; exact List.mem_cons_self ..)⟩)⟩
      exact .inr ⟨_, by rw [hd]; exact getF_putF hok, rfl, ho, fun hk => by cases hk⟩
  · have h3 : k ≤ wr (t.next + 1) := h3
    have := h4 (wr (t.next + 1), b, 0) (List.mem_append_right _ (List.mem_singleton.2 rfl))
    have this : wr (t.next + 1) ≠ k := this
    omega
theorem put1_inv (hi : t.inv) {b : List UInt8} {q : Rows8} (hq : t.queue = b :: q) : (t.put1 b q).inv := by
  have h1 : ({ t with queue := b :: q } : Tn) = t := by rw [← hq]
  refine ⟨hi.me, hi.you, hi.ex, hi.early, fun x hx => ?_, fun c hc => hi.queue c (by rw [hq]; exact List.mem_cons_of_mem _ hc), ?_, hi.sil⟩
  · have hx : x ∈ t.way ++ [(wr (t.next + 1), b, 0)] := hx
    rcases List.mem_append.1 hx with hx | hx
    · exact hi.way x hx
    · rw [List.mem_singleton] at hx
      rw [hx]
      exact hi.queue b (by rw [hq]; exact List.mem_cons_self ..)
  · have := hi.room
    rw [hq] at this
    show q.length + (t.way ++ [(wr (t.next + 1), b, 0)]).length ≤ 64
    simp at this ⊢; omega
theorem Upd.slide {N : Int} (ht : TL t N) (hN : N < 1099511627776) (hi : t.inv) (hu : t.up = true) (ho : t.you ≤ o.me) : Upd t t.slide o :=
  (slide_ind (P := fun s => Upd t s o ∧ TL s N ∧ s.inv ∧ s.up = true ∧ s.you ≤ o.me) ⟨Upd.refl t o, ht, hi, hu, ho⟩ fun _s _b _q ⟨a1, a2, a3, a4, a5⟩ hq hc =>
    ⟨a1.trans (Upd.put1 a2 hN a3 a5 hq), a2.put1 hN a4 hq hc, put1_inv a3 hq, a4, a5⟩).1
theorem Upd.keepTell (f : Fm) : Upd t (tellF 17 (t.keep f) []).1 o := by
  obtain ⟨e, x, h⟩ := data_eq t f
  have hr : ∀ q, Rc t q → Rc (tellF 17 (t.keep f) []).1 q := fun q hq => Rc.tell 17 (hq.keep f)
  rw [h] at hr ⊢
  exact ⟨rfl, fun h => h, fun d hd => .inl hd, fun h _ => ⟨h, rfl, hr⟩, fun h1 h2 q _ h3 h4 => .inl ⟨h1, h2, h3, h4⟩⟩
/-- A datagram comes. -/
theorem Upd.take {N : Int} (ht : TL t N) (hN : N < 1099511627776) (hi : t.inv) (ho : t.you ≤ o.me) (_hom : o.me ≤ 1099511627776) {d : List UInt8} {f : Fm} (hf : getF d = some f) (hfr : f.fr ≤ o.me)
    (hc : f.k = 3 → f.yo = t.me → f.fr = o.me → ∀ q, 1 ≤ q → q ≤ 2199023255552 → cov f q = true → o.up = true ∧ o.you = t.me ∧ Rc o q) : Upd t (t.take d).1 o := by
  have hok := (getF_back hf).1
  have hfr1 := hok.1
  rcases take_cases (t := t) hf with ⟨_, _, e⟩ | ⟨_, e⟩ | ⟨_, _, hb, e⟩ | ⟨_, _, _, _, e⟩ | ⟨h1, h2, h3, hu, e⟩ | ⟨_, _, _, hu, e⟩ <;> rw [e]
  · exact Upd.sayHel hi (by omega) hfr
  · exact Upd.refl _ _
  · exact Upd.beg hi (by omega) hfr hb
  · exact Upd.same rfl rfl rfl rfl rfl rfl rfl fun x hx => ⟨x, hx, rfl⟩
  · have s1 : Upd t { t with sil := 0 } o := Upd.same rfl rfl rfl rfl rfl rfl rfl fun x hx => ⟨x, hx, rfl⟩
    refine s1.trans ((Upd.drop (f := f) (fun hy q a1 a2 a3 => ?_) ht.calm hN).trans (Upd.slide (ht.calm.drop _) hN ?_ hu ho))
    · have hy : t.you = o.me := hy
      exact hc h2 h1 (h3.trans hy) q a1 a2 a3
    · have hr := hi.room
      have hfl := List.length_filter_le (fun x => !gone f x) t.way
      exact ⟨hi.me, hi.you, hi.ex, hi.early, fun x hx => hi.way x (List.mem_filter.1 hx).1, hi.queue, by show t.queue.length + (t.way.filter fun x => !gone f x).length ≤ 64; omega, ⟨Int.le_refl _, by show (0 : Int) < 64; decide⟩⟩
  · have s1 : Upd t { t with sil := 0 } o := Upd.same rfl rfl rfl rfl rfl rfl rfl fun x hx => ⟨x, hx, rfl⟩
    refine s1.trans ((Upd.keepTell f).trans (Upd.acks (tellF_inv 17 (hi.calm.keep hok)) ?_ ?_))
    · obtain ⟨e, x, h⟩ := data_eq ({ t with sil := 0 } : Tn) f
      rw [h]; exact hu
    · obtain ⟨e, x, h⟩ := data_eq ({ t with sil := 0 } : Tn) f
      rw [h]; exact ho
theorem Upd.send {N : Int} (ht : TL t N) (hN : N + 1 < 1099511627776) (hi : t.inv) (ho : t.you ≤ o.me) (b : List UInt8) : Upd t (t.send b).1 o := by
  have hroom := Tn.room_eq hi
  unfold Tn.send
  split
  · exact Upd.refl _ _
  · rename_i hu
    have hu : t.up = true := by simpa using hu
    split
    · exact Upd.refl _ _
    · split
      · exact Upd.refl _ _
      · rename_i h1 h2
        rw [hroom, if_pos hu] at h2
        have s1 : Upd t { t with queue := t.queue ++ [b] } o := Upd.same rfl rfl rfl rfl rfl rfl rfl fun x hx => ⟨x, hx, rfl⟩
        refine s1.trans (Upd.slide (ht.push hu b) hN ⟨hi.me, hi.you, hi.ex, hi.early, hi.way, fun c hc => ?_, ?_, hi.sil⟩ hu ho)
        · have hc : c ∈ t.queue ++ [b] := hc
          rcases List.mem_append.1 hc with hc | hc
          · exact hi.queue c hc
          · rw [List.mem_singleton] at hc; rw [hc]; omega
        · show (t.queue ++ [b]).length + t.way.length ≤ 64
          simp; omega
theorem Upd.hint (hi : t.inv) {n : Int} (hn : n ≤ o.me) : Upd t (t.hint n) o := by
  unfold Tn.hint
  split
  · exact Upd.sayHel hi (by omega) hn
  · exact Upd.refl _ _
theorem Upd.age {N : Int} (hN : N < 1099511627776) : ∀ (l : List (Int × List UInt8 × Int)) {t : Tn}, t.inv → t.you ≤ o.me → (∀ x ∈ l, 1 ≤ x.1 ∧ x.1 ≤ N ∧ x.2.1.length ≤ 512) → Upd t (ageF t l) o
  | [], t, _, _, _ => Upd.refl _ _
  | y :: l, t, hi, ho, hl => by
    obtain ⟨h1, h2, h3⟩ := hl y (List.mem_cons_self ..)
    unfold ageF
    split
    · exact (Upd.say (f := ⟨2, 0, t.you, y.1, 0, 0, y.2.1⟩) ⟨hi.me, hi.you, .inr (.inl ⟨rfl, by show 1 ≤ y.1 ∧ y.1 ≤ _; omega, rfl, rfl, h3⟩)⟩ ho (by show (2 : Int) ≠ 3; decide)).trans (Upd.age hN l (hi.say _) ho fun x hx => hl x (List.mem_cons_of_mem _ hx))
    · exact Upd.age hN l hi ho fun x hx => hl x (List.mem_cons_of_mem _ hx)
end
end Go.Fl
namespace Go.Fl

/-- What holds of a and the other one, o, and of all that is on its way to a. -/
structure Sd (a o : Tn) (A : Rows8) : Prop where
  you : a.you ≤ o.me
  fr : ∀ d ∈ A, ∀ f, getF d = some f → f.fr ≤ o.me ∧ f.yo ≤ a.me
  ack : ∀ d ∈ A, ∀ f, getF d = some f → f.k = 3 → f.yo = a.me → f.fr = o.me → o.up = true ∧ o.you = a.me ∧ ∀ q, 1 ≤ q → q ≤ 2199023255552 → cov f q = true → Rc o q
  way : a.up = true → a.you = o.me → ∀ q, 1 ≤ q → q ≤ a.next → (∀ x ∈ a.way, x.1 ≠ q) → o.up = true ∧ o.you = a.me ∧ Rc o q
section
variable {a a' o : Tn} {A A' B B' : Rows8}
theorem Sd.updA (h : Sd a o A) (hu : Upd a a' o) (hA : ∀ d ∈ A', d ∈ A) : Sd a' o A' := by
  refine ⟨hu.you h.you, fun d hd f hf => by rw [hu.me]; exact h.fr d (hA d hd) f hf, fun d hd f hf hk h1 h2 => ?_, fun h1 h2 q h3 h4 h5 => ?_⟩
  · rw [hu.me] at h1 ⊢
    exact h.ack d (hA d hd) f hf hk h1 h2
  · rw [hu.me]
    rcases hu.way h1 h2 q h3 h4 h5 with ⟨g1, g2, g3, g4⟩ | g
    · exact h.way g1 g2 q h3 g3 g4
    · exact g
theorem Sd.updO (k : Sd o a B) (hu : Upd a a' o) (hB : ∀ d ∈ B', d ∈ B ∨ d ∈ a'.out) (hBa : ∀ d ∈ a.out, d ∈ B) : Sd o a' B' := by
  have hcase : ∀ d ∈ B', d ∈ B ∨ ∃ f, getF d = some f ∧ f.fr = a.me ∧ f.yo ≤ o.me ∧ (f.k = 3 → f.yo = o.me → a'.up = true ∧ a'.you = o.me ∧ ∀ q, 1 ≤ q → q ≤ 2199023255552 → cov f q = true → Rc a' q) := fun d hd => by
    rcases hB d hd with h1 | h1
    · exact .inl h1
    · rcases hu.out d h1 with h2 | h2
      · exact .inl (hBa d h2)
      · exact .inr h2
  refine ⟨by rw [hu.me]; exact k.you, fun d hd f hf => ?_, fun d hd f hf hk h1 h2 => ?_, fun h1 h2 q h3 h4 h5 => ?_⟩
  · rw [hu.me]
    rcases hcase d hd with h1 | ⟨g, g1, g2, g3, _⟩
    · exact k.fr d h1 f hf
    · rw [g1] at hf; cases hf
      exact ⟨by omega, g3⟩
  · rw [hu.me] at h2
    rcases hcase d hd with h3 | ⟨g, g1, g2, g3, g4⟩
    · obtain ⟨c1, c2, c3⟩ := k.ack d h3 f hf hk h1 h2
      obtain ⟨e1, e2, e3⟩ := hu.keep c1 c2
      exact ⟨e1, e2.trans c2, fun q q1 q2 q3 => e3 q (c3 q q1 q2 q3)⟩
    · rw [g1] at hf; cases hf
      exact g4 hk h1
  · rw [hu.me] at h2
    obtain ⟨c1, c2, c3⟩ := k.way h1 h2 q h3 h4 h5
    obtain ⟨e1, e2, e3⟩ := hu.keep c1 c2
    exact ⟨e1, e2.trans c2, e3 q c3⟩
/-- a's number is greater now, and it has no session. -/
theorem Sd.overA (h : Sd a o A) (hm : a.me < a'.me) (hu : a'.up = false) (hy : a'.you ≤ o.me) (hA : ∀ d ∈ A', d ∈ A) : Sd a' o A' := by
  refine ⟨hy, fun d hd f hf => ?_, fun d hd f hf _ h1 _ => ?_, fun h1 => (by rw [hu] at h1; cases h1)⟩
  · have := h.fr d (hA d hd) f hf; omega
  · have := h.fr d (hA d hd) f hf; omega
theorem Sd.overO (k : Sd o a B) (hm : a.me < a'.me) (hB : ∀ d ∈ B', d ∈ B) : Sd o a' B' := by
  refine ⟨by have := k.you; omega, fun d hd f hf => ?_, fun d hd f hf _ _ h2 => ?_, fun _ h2 => ?_⟩
  · have := k.fr d (hB d hd) f hf; omega
  · have := k.fr d (hB d hd) f hf; omega
  · have := k.you; omega
theorem Sd.sub (h : Sd a o A) (hA : ∀ d ∈ A', d ∈ A) : Sd a o A' := ⟨h.you, fun d hd => h.fr d (hA d hd), fun d hd => h.ack d (hA d hd), h.way⟩
end
/-- All that is on its way to r. -/
def fl (p : Pr) (r : Bool) : Rows8 := p.bag r ++ (p.t (!r)).out
structure LI (p : Pr) (N : Int) : Prop where
  tl : ∀ r, TL (p.t r) N
  rest : ∀ r, Rest (p.t r)
  sd : ∀ r, Sd (p.t r) (p.t (!r)) (fl p r)
section
variable {p : Pr} {N : Int} {r : Bool} {t' : Tn} {b' : Bool → Rows8}
theorem setB_tl {M : Int} (h : ∀ s, TL (p.t s) M) (ht : TL t' M) : ∀ s, TL (setB p.t r t' s) M := fun s => by
  unfold setB; split
  · exact ht
  · exact h s
theorem setB_rest (h : ∀ s, Rest (p.t s)) (ht : Rest t') : ∀ s, Rest (setB p.t r t' s) := fun s => by
  unfold setB; split
  · exact ht
  · exact h s
theorem setB_other' {α : Type} (f : Bool → α) (s : Bool) (v : α) : setB f (!s) v s = f s := if_neg (by cases s <;> decide)
theorem LI.upd {M : Int} (h : LI p N) (hu : Upd (p.t r) t' (p.t (!r))) (hNM : N ≤ M) (ht : TL t' M) (hr : Rest t') (hb : ∀ s, ∀ d ∈ b' s, d ∈ p.bag s) : LI { p with t := setB p.t r t', bag := b' } M := by
  refine ⟨setB_tl (fun s => (h.tl s).mono hNM) ht, setB_rest h.rest hr, fun s => ?_⟩
  rcases bool_cases r s with rfl | rfl
  · show Sd (setB p.t s t' s) (setB p.t s t' (!s)) (b' s ++ (setB p.t s t' (!s)).out)
    rw [setB_same, setB_other]
    refine (h.sd s).updA hu fun d hd => ?_
    rcases List.mem_append.1 hd with hd | hd
    · exact List.mem_append_left _ (hb s d hd)
    · exact List.mem_append_right _ hd
  · show Sd (setB p.t r t' (!r)) (setB p.t r t' (!(!r))) (b' (!r) ++ (setB p.t r t' (!(!r))).out)
    have hs := h.sd (!r)
    unfold fl at hs
    rw [Bool.not_not] at hs ⊢
    rw [setB_same, setB_other]
    refine hs.updO hu (fun d hd => ?_) fun d hd => List.mem_append_right _ hd
    rcases List.mem_append.1 hd with hd | hd
    · exact .inl (List.mem_append_left _ (hb _ d hd))
    · exact .inr hd
theorem LI.over {M : Int} (h : LI p N) (hm : (p.t r).me < t'.me) (hu : t'.up = false) (hy : t'.you ≤ (p.t (!r)).me) (ho : ∀ d ∈ t'.out, d ∈ (p.t r).out) (hNM : N ≤ M) (ht : TL t' M) (hr : Rest t') (hb : ∀ s, ∀ d ∈ b' s, d ∈ p.bag s) : LI { p with t := setB p.t r t', bag := b' } M := by
  refine ⟨setB_tl (fun s => (h.tl s).mono hNM) ht, setB_rest h.rest hr, fun s => ?_⟩
  rcases bool_cases r s with rfl | rfl
  · show Sd (setB p.t s t' s) (setB p.t s t' (!s)) (b' s ++ (setB p.t s t' (!s)).out)
    rw [setB_same, setB_other]
    refine (h.sd s).overA hm hu hy fun d hd => ?_
    rcases List.mem_append.1 hd with hd | hd
    · exact List.mem_append_left _ (hb s d hd)
    · exact List.mem_append_right _ hd
  · show Sd (setB p.t r t' (!r)) (setB p.t r t' (!(!r))) (b' (!r) ++ (setB p.t r t' (!(!r))).out)
    have hs := h.sd (!r)
    unfold fl at hs
    rw [Bool.not_not] at hs ⊢
    rw [setB_same, setB_other]
    refine hs.overO hm fun d hd => ?_
    rcases List.mem_append.1 hd with hd | hd
    · exact List.mem_append_left _ (hb _ d hd)
    · exact List.mem_append_right _ (ho d hd)
theorem LI.mono {M : Int} (h : LI p N) (hM : N ≤ M) : LI p M := ⟨fun s => (h.tl s).mono hM, h.rest, h.sd⟩
theorem LI.outs (h : LI p N) : LI p.outs N := by
  refine ⟨fun s => (h.tl s).clear, fun s => (h.rest s).clear, fun s => ?_⟩
  have hs := h.sd s
  refine (Sd.mk hs.you hs.fr hs.ack hs.way : Sd (p.t s).clear (p.t (!s)).clear (fl p s)).sub fun d hd => ?_
  have hd : d ∈ pour (p.bag s) (p.t (!s)).out ++ [] := hd
  rw [List.append_nil] at hd
  exact List.mem_append.2 (mem_pour hd)
theorem li0 : LI pr0 0 := by
  refine ⟨fun s => ?_, fun s => ?_, fun s => ?_⟩
  · cases s <;> exact TL.zero (Int.le_refl _) _
  · cases s <;> exact Rest.zero _
  · have key : ∀ m k : Int, 0 ≤ k → Sd (tn0 m) (tn0 k) [] := fun m k hk => ⟨hk, fun d hd => (by cases hd), fun d hd => (by cases hd), fun h => (by cases h)⟩
    cases s
    · exact key 1000 5000 (by decide)
    · exact key 5000 1000 (by decide)
/-- A tick, as the other one sees it; or the session ends. -/
theorem tick_upd (hl : TL (p.t r) N) (hN : N + 1 < 1099511627776) (hi : (p.t r).inv) {o : Tn} (ho : (p.t r).you ≤ o.me) (_hm : (p.t r).me < 1099511627776) :
    Upd (p.t r) (p.t r).tick o ∨ ((p.t r).up = true ∧ 64 ≤ wr ((p.t r).sil + 1) ∧ (p.t r).tick = ({ p.t r with ticks := wr ((p.t r).ticks + 1), sil := wr ((p.t r).sil + 1) } : Tn).fin) := by
  generalize p.t r = t at *
  have s1 : ∀ s, Upd t { t with ticks := wr (t.ticks + 1), sil := s } o := fun s => Upd.same rfl rfl rfl rfl rfl rfl rfl fun x hx => ⟨x, hx, rfl⟩
  have hs := hi.sil
  have e : wr (t.sil + 1) = t.sil + 1 := by rw [wr, IntKind.wrap_i64]; omega
  unfold Tn.tick
  dsimp only
  split
  · left
    split
    · exact (s1 t.sil).trans (Upd.sayHel (t := { t with ticks := wr (t.ticks + 1) }) ⟨hi.me, hi.you, hi.ex, hi.early, hi.way, hi.queue, hi.room, hi.sil⟩ hi.you ho)
    · exact s1 t.sil
  · rename_i hu0
    have hu : t.up = true := by simpa using hu0
    split
    · rename_i h64; exact .inr ⟨hu, h64, rfl⟩
    · rename_i h64
      left
      have hi2 : ({ t with ticks := wr (t.ticks + 1), sil := wr (t.sil + 1) } : Tn).inv := ⟨hi.me, hi.you, hi.ex, hi.early, hi.way, hi.queue, hi.room, by show 0 ≤ wr (t.sil + 1) ∧ wr (t.sil + 1) < 64; omega⟩
      unfold Tn.tickUp
      dsimp only
      have h3 : Upd t (if Int.tmod (wr (t.ticks + 1)) 8 = 0 then ({ t with ticks := wr (t.ticks + 1), sil := wr (t.sil + 1) } : Tn).say (hel t.you) else { t with ticks := wr (t.ticks + 1), sil := wr (t.sil + 1) }) o ∧ (if Int.tmod (wr (t.ticks + 1)) 8 = 0 then ({ t with ticks := wr (t.ticks + 1), sil := wr (t.sil + 1) } : Tn).say (hel t.you) else { t with ticks := wr (t.ticks + 1), sil := wr (t.sil + 1) }).inv ∧
          (if Int.tmod (wr (t.ticks + 1)) 8 = 0 then ({ t with ticks := wr (t.ticks + 1), sil := wr (t.sil + 1) } : Tn).say (hel t.you) else { t with ticks := wr (t.ticks + 1), sil := wr (t.sil + 1) }).you ≤ o.me ∧ (if Int.tmod (wr (t.ticks + 1)) 8 = 0 then ({ t with ticks := wr (t.ticks + 1), sil := wr (t.sil + 1) } : Tn).say (hel t.you) else { t with ticks := wr (t.ticks + 1), sil := wr (t.sil + 1) }).way = t.way := by
        split
        · exact ⟨(s1 _).trans (Upd.sayHel hi2 hi.you ho), hi2.say _, ho, rfl⟩
        · exact ⟨s1 _, hi2, ho, rfl⟩
      generalize (if Int.tmod (wr (t.ticks + 1)) 8 = 0 then ({ t with ticks := wr (t.ticks + 1), sil := wr (t.sil + 1) } : Tn).say (hel t.you) else { t with ticks := wr (t.ticks + 1), sil := wr (t.sil + 1) }) = t3 at *
      obtain ⟨g1, g2, g3, g4⟩ := h3
      have hn := hl.nx
      have g5 : Upd t3 (ageF t3 t.way) o := Upd.age (N := N) (by omega) t.way g2 g3 fun x hx => by
        have h1 := hl.win x hx
        exact ⟨h1.1, by omega, hi.way x hx⟩
      refine g1.trans (g5.trans ?_)
      obtain ⟨q, hq⟩ := ageF_eq t.way t3
      rw [hq]
      refine Upd.same rfl rfl rfl rfl rfl rfl rfl fun x hx => ?_
      have hx : x ∈ t3.way := hx
      rw [g4] at hx
      exact ⟨_, List.mem_map_of_mem hx, rfl⟩
/-- An act. -/
theorem LI.act {m : Int} {n : Nat} (h : LI p N) (hp : PS p m n) (hN : N + 1 < 1099511627776) (hm : m + 100 < 1099511627776) (hm0 : 0 ≤ m) (a : PAct) : LI (p.act a).1 (N + 1) := by
  have hi := fun s => (hp.pi.ti s).inv
  have hme := hp.pi.me
  have hbag : ∀ s, ∀ d ∈ p.bag s, d ∈ p.bag s := fun _ _ h => h
  have her : ∀ s, ∀ d ∈ setB p.bag a.side ((p.bag a.side).eraseIdx (a.u % (p.bag a.side).length)) s, d ∈ p.bag s := fun s d hd => by
    unfold setB at hd
    split at hd
    · rename_i e; rw [e]; exact List.mem_of_mem_eraseIdx hd
    · exact hd
  have hyou := fun s => (h.sd s).you
  unfold Pr.act
  split
  · have hu := Upd.send (h.tl a.side) hN (hi a.side) (hyou a.side) a.b
    unfold Pr.sends
    split
    · have := h.upd (b' := p.bag) hu (by omega) ((h.tl a.side).send hN a.b) ((h.rest a.side).send a.b) hbag
      exact ⟨this.tl, this.rest, this.sd⟩
    · exact h.upd hu (by omega) ((h.tl a.side).send hN a.b) ((h.rest a.side).send a.b) hbag
  split
  · rcases tick_upd (h.tl a.side) hN (hi a.side) (hyou a.side) (by have := hme a.side; omega) with hu | ⟨hu, h64, e⟩
    · exact h.upd hu (by omega) ((h.tl a.side).tick hN) (h.rest a.side).tick hbag
    · refine h.over ?_ (by rw [e]; rfl) (by rw [e]; exact hyou a.side) (fun d hd => by rw [e] at hd; exact hd) (by omega) ((h.tl a.side).tick hN) (h.rest a.side).tick hbag
      rw [e]
      show (p.t a.side).me < min (wr ((p.t a.side).me + 1)) 1099511627776
      have h1 := (hi a.side).me
      have h2 := hme a.side
      have e : wr ((p.t a.side).me + 1) = (p.t a.side).me + 1 := by rw [wr, IntKind.wrap_i64]; omega
      rw [e]; omega
  split
  · have h1 := (hi a.side).me
    have h2 := hme a.side
    have h3 := (hi (!a.side)).me
    have e : wr ((p.t a.side).me + 100) = (p.t a.side).me + 100 := by rw [wr, IntKind.wrap_i64]; omega
    have h0 := (h.tl a.side).ticks
    refine h.over ?_ rfl ?_ (fun d hd => by cases hd) (by omega) (TL.zero (by omega) _) (Rest.zero _) hbag
    · show (p.t a.side).me < wr ((p.t a.side).me + 100)
      omega
    · show (0 : Int) ≤ _
      omega
  split
  · exact h.upd (Upd.hint (hi a.side) (Int.le_refl _)) (by omega) (((h.tl a.side).hint _).mono (by omega)) ((h.rest a.side).hint _) hbag
  split
  · exact h.mono (by omega)
  split
  · have := h.mono (M := N + 1) (by omega)
    refine ⟨this.tl, this.rest, fun s => (this.sd s).sub fun d hd => ?_⟩
    rcases List.mem_append.1 hd with hd | hd
    · exact List.mem_append_left _ (her s d hd)
    · exact List.mem_append_right _ hd
  · rename_i hne _
    have hlt : a.u % (p.bag a.side).length < (p.bag a.side).length := Nat.mod_lt _ (by omega)
    have hmem : (p.bag a.side).getD (a.u % (p.bag a.side).length) [] ∈ p.bag a.side := by
      rw [List.getD_eq_getElem?_getD, List.getElem?_eq_getElem hlt]; exact List.getElem_mem _
    obtain ⟨f, hf, _⟩ := hp.pi.wild a.side _ hmem
    have hs := h.sd a.side
    have hfl := List.mem_append_left (p.t (!a.side)).out hmem
    have hu := Upd.take (h.tl a.side) (by omega) (hi a.side) (hyou a.side) (hi (!a.side)).me.2 hf (hs.fr _ hfl f hf).1 fun hk h1 h2 q q1 q2 hc => (by obtain ⟨g1, g2, g3⟩ := hs.ack _ hfl f hf hk h1 h2; exact ⟨g1, g2, g3 q q1 q2 hc⟩)
    have := h.upd (M := N + 1) (b' := if a.stay then p.bag else setB p.bag a.side ((p.bag a.side).eraseIdx (a.u % (p.bag a.side).length))) hu (by omega) (((h.tl a.side).take (by omega) hf).mono (by omega)) ((h.rest a.side).take (hi a.side) hf) fun s d hd => by
      split at hd
      · exact hd
      · exact her s d hd
    exact ⟨this.tl, this.rest, this.sd⟩
end
end Go.Fl
namespace Go.Fl

/-- How much may come of a datagram to one of number mr, from one of number mo. -/
def wtf (mr mo : Int) (f : Fm) : Nat :=
  if f.yo ≠ mr then (if f.fr = mo then 2 else 3) else if f.k = 1 then (if f.fr = mo then 1 else 3) else if f.k = 2 then 3 else 1
def wt (mr mo : Int) (d : List UInt8) : Nat := match getF d with
  | some f => wtf mr mo f
  | none => 3
def sumW (mr mo : Int) : Rows8 → Nat
  | [] => 0
  | d :: l => wt mr mo d + sumW mr mo l
def uns (t o : Tn) : Nat := if t.up = true ∧ t.you = o.me then 0 else 1
theorem wtf_le (mr mo : Int) (f : Fm) : 1 ≤ wtf mr mo f ∧ wtf mr mo f ≤ 3 := by
  unfold wtf; repeat' split
  all_goals omega
theorem wt_le (mr mo : Int) (d : List UInt8) : 1 ≤ wt mr mo d ∧ wt mr mo d ≤ 3 := by
  unfold wt; split
  · exact wtf_le _ _ _
  · omega
theorem wt_some {mr mo : Int} {d : List UInt8} {f : Fm} (h : getF d = some f) : wt mr mo d = wtf mr mo f := by unfold wt; rw [h]
theorem sumW_append (mr mo : Int) : ∀ (a b : Rows8), sumW mr mo (a ++ b) = sumW mr mo a + sumW mr mo b
  | [], b => by simp [sumW]
  | d :: a, b => by
    rw [List.cons_append, sumW, sumW, sumW_append mr mo a b]; omega
theorem sumW_take (mr mo : Int) : ∀ (n : Nat) (a : Rows8), sumW mr mo (a.take n) ≤ sumW mr mo a
  | 0, _ => by simp [sumW]
  | n + 1, [] => by simp [sumW]
  | n + 1, d :: a => by
    rw [List.take_succ_cons, sumW, sumW]
    have := sumW_take mr mo n a
    omega
theorem sumW_le (mr mo : Int) : ∀ (a : Rows8), sumW mr mo a ≤ 3 * a.length
  | [] => by simp [sumW]
  | d :: a => by
    have := sumW_le mr mo a
    have := (wt_le mr mo d).2
    rw [sumW, List.length_cons]; omega
theorem sumW_pour (mr mo : Int) (b l : Rows8) : sumW mr mo (pour b l) ≤ sumW mr mo b + sumW mr mo l := by
  unfold pour
  rw [sumW_append]
  have := sumW_take mr mo (200 - b.length) l
  omega
theorem uns_le (t o : Tn) : uns t o ≤ 1 := by unfold uns; split <;> omega
section
variable {t o : Tn}
theorem wt_hel {f : Fm} (hi : t.inv) (hf : 0 ≤ f.fr ∧ f.fr ≤ 1099511627776) : wt o.me t.me (putF { hel f.fr with fr := t.me }).1 = if f.fr ≠ o.me then 2 else 1 := by
  rw [wt_some (getF_putF (hel_ok hi.me hf))]
  show (if f.fr ≠ o.me then (if t.me = t.me then 2 else 3) else if (1 : Int) = 1 then (if t.me = t.me then 1 else 3) else _) = _
  rw [if_pos rfl, if_pos rfl, if_pos rfl]
theorem slide_phi (mr mo : Int) : sumW mr mo t.slide.out + 3 * t.slide.queue.length ≤ sumW mr mo t.out + 3 * t.queue.length := by
  refine slide_ind (P := fun s => sumW mr mo s.out + 3 * s.queue.length ≤ sumW mr mo t.out + 3 * t.queue.length) (Nat.le_refl _) fun s b q h hq _ => ?_
  rw [hq, List.length_cons] at h
  show sumW mr mo (s.out ++ [_]) + 3 * q.length ≤ _
  rw [sumW_append, sumW, sumW]
  refine Nat.le_trans (Nat.add_le_add_right (Nat.add_le_add_left (Nat.add_le_add_right (wt_le mr mo _).2 _) _) _) ?_
  omega
theorem slide_cnt : t.slide.out.length + t.slide.queue.length ≤ t.out.length + t.queue.length := by
  refine slide_ind (P := fun s => s.out.length + s.queue.length ≤ t.out.length + t.queue.length) (Nat.le_refl _) fun s b q h hq _ => ?_
  rw [hq, List.length_cons] at h
  show (s.out ++ [_]).length + q.length ≤ _
  simp; omega
theorem take_phi (hi : t.inv) (ho : t.out = []) (_hs : t.you ≤ o.me) {d : List UInt8} {f : Fm} (hf : getF d = some f) (hfr : f.fr ≤ o.me) :
    (t.take d).1.me = t.me ∧ sumW o.me t.me (t.take d).1.out + 3 * (t.take d).1.queue.length + uns (t.take d).1 o + 1 ≤ wt t.me o.me d + 3 * t.queue.length + uns t o ∧ (t.take d).1.out.length + (t.take d).1.queue.length ≤ 1 + t.queue.length := by
  have hok := (getF_back hf).1
  have hfr1 := hok.1
  have hw := wtf_le t.me o.me f
  rw [wt_some hf]
  have h0 : sumW o.me t.me t.out = 0 := by rw [ho]; rfl
  have h0l : t.out.length = 0 := by rw [ho]; rfl
  rcases take_cases (t := t) hf with ⟨h1, _, e⟩ | ⟨_, e⟩ | ⟨h1, h2, hb, e⟩ | ⟨_, _, _, _, e⟩ | ⟨h1, h2, h3, hu, e⟩ | ⟨h1, h2, h3, hu, e⟩ <;> rw [e]
  · refine ⟨rfl, ?_, ?_⟩
    · show sumW o.me t.me (t.out ++ [(putF { hel f.fr with fr := t.me }).1]) + 3 * t.queue.length + uns t o + 1 ≤ _
      rw [sumW_append, h0, sumW, sumW, wt_hel hi (by omega)]
      unfold wtf
      rw [if_pos h1]
      by_cases hq : f.fr = o.me
      · have e1 : (if f.fr ≠ o.me then 2 else 1 : Nat) = 1 := if_neg (fun h => h hq)
        have e2 : (if f.fr = o.me then 2 else 3 : Nat) = 2 := if_pos hq
        rw [e1, e2]; omega
      · have e1 : (if f.fr ≠ o.me then 2 else 1 : Nat) = 2 := if_pos hq
        have e2 : (if f.fr = o.me then 2 else 3 : Nat) = 3 := if_neg hq
        rw [e1, e2]; omega
    · show (t.out ++ [_]).length + t.queue.length ≤ _
      simp; omega
  · exact ⟨rfl, by omega, by omega⟩
  · refine ⟨rfl, ?_, ?_⟩
    · show sumW o.me t.me (t.out ++ [(putF { hel f.fr with fr := t.me }).1]) + 3 * 0 + uns (t.beg f.fr) o + 1 ≤ _
      rw [sumW_append, h0, sumW, sumW, wt_hel hi (by omega)]
      have hut : uns t o = 1 := by
        unfold uns
        rw [if_neg]
        rintro ⟨g1, g2⟩
        rcases hb with hb | ⟨_, hb⟩
        · omega
        · rw [g1] at hb; cases hb
      rw [hut]
      have ew : wtf t.me o.me f = if f.fr = o.me then 1 else 3 := by
        unfold wtf
        rw [if_neg (fun h => h h1), if_pos h2]
      rw [ew]
      by_cases hq : f.fr = o.me
      · have : uns (t.beg f.fr) o = 0 := if_pos ⟨rfl, hq⟩
        have e1 : (if f.fr ≠ o.me then 2 else 1 : Nat) = 1 := if_neg (fun h => h hq)
        have e2 : (if f.fr = o.me then 1 else 3 : Nat) = 1 := if_pos hq
        rw [e1, e2, this]; omega
      · have := uns_le (t.beg f.fr) o
        have e1 : (if f.fr ≠ o.me then 2 else 1 : Nat) = 2 := if_pos hq
        have e2 : (if f.fr = o.me then 1 else 3 : Nat) = 3 := if_neg hq
        rw [e1, e2]; omega
    · show (t.out ++ [_]).length + 0 ≤ _
      simp; omega
  · exact ⟨rfl, by show sumW o.me t.me t.out + 3 * t.queue.length + uns t o + 1 ≤ _; omega, by show t.out.length + t.queue.length ≤ _; omega⟩
  · have hp := slide_phi (t := { t with sil := 0, way := t.way.filter fun x => !gone f x }) o.me t.me
    have hc := slide_cnt (t := { t with sil := 0, way := t.way.filter fun x => !gone f x })
    have hwho := slideF_who t.queue.length { t with sil := 0, way := t.way.filter fun x => !gone f x }
    refine ⟨hwho.1, ?_, ?_⟩
    · have hue : uns (({ t with sil := 0 } : Tn).ack f) o = uns t o := by
        unfold uns
        rw [show (({ t with sil := 0 } : Tn).ack f).up = t.up from hwho.2.2, show (({ t with sil := 0 } : Tn).ack f).you = t.you from hwho.2.1]
      have hp : sumW o.me t.me (({ t with sil := 0 } : Tn).ack f).out + 3 * (({ t with sil := 0 } : Tn).ack f).queue.length ≤ sumW o.me t.me t.out + 3 * t.queue.length := hp
      rw [hue]; omega
    · have hc : (({ t with sil := 0 } : Tn).ack f).out.length + (({ t with sil := 0 } : Tn).ack f).queue.length ≤ t.out.length + t.queue.length := hc
      omega
  · obtain ⟨ee, xx, h4⟩ := data_eq ({ t with sil := 0 } : Tn) f
    have h5 : (({ t with sil := 0 } : Tn).data f).1 = (tellF 17 (({ t with sil := 0 } : Tn).keep f) []).1.acks := rfl
    have hai := tellF_inv 17 (l := []) (hi.calm.keep hok)
    rw [h4] at h5 hai
    rw [h5]
    refine ⟨rfl, ?_, ?_⟩
    · show sumW o.me t.me (t.out ++ [(putF (ackF { t with sil := 0, early := ee, expect := xx })).1]) + 3 * t.queue.length + uns t o + 1 ≤ _
      rw [sumW_append, h0, sumW, sumW, wt_some (getF_putF (ack_ok hai))]
      have : wtf o.me t.me (ackF { t with sil := 0, early := ee, expect := xx }) ≤ 2 := by
        show (if t.you ≠ o.me then (if t.me = t.me then 2 else 3) else if (3 : Int) = 1 then (if t.me = o.me then 1 else 3) else if (3 : Int) = 2 then 3 else 1 : Nat) ≤ 2
        rw [if_pos rfl, if_neg (show ¬(3 : Int) = 1 by decide), if_neg (show ¬(3 : Int) = 2 by decide)]
        split <;> omega
      have ew : wtf t.me o.me f = 3 := by
        unfold wtf
        rw [if_neg (fun h => h h1), if_neg (by omega), if_pos h2]
      have eu : uns ({ t with sil := 0, early := ee, expect := xx } : Tn).acks o = uns t o := rfl
      rw [ew]
      refine Nat.le_trans (Nat.add_le_add_right (Nat.add_le_add_right (Nat.add_le_add_right (Nat.add_le_add_left (Nat.add_le_add_right this _) _) _) _) _) ?_
      have eu2 : uns t.acks o = uns t o := rfl
      show 0 + (2 + 0) + 3 * t.queue.length + uns t o + 1 ≤ _
      omega
    · show (t.out ++ [_]).length + t.queue.length ≤ _
      simp; omega
end
/-- The first datagram to r is delivered. -/
def dl (p : Pr) (r : Bool) : Pr := (p.does ⟨0, r, 0, [], false⟩).1
def phi (p : Pr) (r : Bool) : Nat := sumW (p.t r).me (p.t (!r)).me (p.bag r) + 3 * (p.t r).queue.length + uns (p.t r) (p.t (!r))
def phi2 (p : Pr) : Nat := phi p false + phi p true
def cnt (p : Pr) : Nat := (p.bag false).length + (p.bag true).length + (p.t false).queue.length + (p.t true).queue.length
/-- All that is known of two tunnels, after k acts. -/
structure GI (p : Pr) (k : Nat) : Prop where
  ps : PS p (5000 + 100 * k) k
  li : LI p k
theorem gi0 : GI pr0 0 := ⟨ps0, li0⟩
theorem GI.does {p : Pr} {k : Nat} (h : GI p k) (hk : k ≤ 1000000000) (a : PAct) : (p.does a).2 = true ∧ GI (p.does a).1 (k + 1) := by
  obtain ⟨h1, h2⟩ := h.ps.does (by omega) (by omega) (by omega) a
  have h3 := (h.li.act h.ps (by omega) (by omega) (by omega) a).outs
  refine ⟨h1, ?_, ?_⟩
  · have e : 5000 + 100 * (k : Int) + 100 = 5000 + 100 * ((k + 1 : Nat) : Int) := by omega
    rwa [e] at h2
  · have e : (k : Int) + 1 = ((k + 1 : Nat) : Int) := by omega
    rw [e] at h3
    exact h3
theorem clear_eq {t : Tn} (h : t.out = []) : t.clear = t := by
  obtain ⟨a1, a2, a3, a4, a5, a6, a7, a8, a9, a10, a11, a12⟩ := t
  dsimp only at h
  subst h; rfl
section
variable {p : Pr} {k : Nat} {r : Bool} {d : List UInt8} {l : Rows8}
theorem dl_eq (hb : p.bag r = d :: l) : dl p r = Pr.outs { t := setB p.t r ((p.t r).take d).1, bag := setB p.bag r l, sent := p.sent, told := updK p.told (((p.t r).take d).1.you, ((p.t r).take d).1.me, sideI r) (p.told (((p.t r).take d).1.you, ((p.t r).take d).1.me, sideI r) ++ ((p.t r).take d).2.1) } := by
  unfold dl Pr.does Pr.act
  dsimp only
  rw [if_neg (by decide), if_neg (by decide), if_neg (by decide), if_neg (by decide), if_neg (by rw [hb]; simp), if_neg (by decide)]
  rw [hb]
  have e : 0 % (d :: l).length = 0 := Nat.zero_mod _
  rw [e]
  rfl
theorem GI.frame (h : GI p k) (hb : p.bag r = d :: l) : ∃ f, getF d = some f ∧ f.fr ≤ (p.t (!r)).me ∧ f.yo ≤ (p.t r).me ∧ f.ok := by
  obtain ⟨f, hf, _⟩ := h.ps.pi.wild r d (by rw [hb]; exact List.mem_cons_self ..)
  have := (h.li.sd r).fr d (List.mem_append_left _ (by rw [hb]; exact List.mem_cons_self ..)) f hf
  exact ⟨f, hf, this.1, this.2, (getF_back hf).1⟩
theorem dl_r (h : GI p k) (hb : p.bag r = d :: l) : (dl p r).t r = ((p.t r).take d).1.clear ∧ (dl p r).t (!r) = p.t (!r) ∧ (dl p r).bag r = l ∧ (dl p r).bag (!r) = pour (p.bag (!r)) ((p.t r).take d).1.out := by
  rw [dl_eq hb]
  refine ⟨?_, ?_, ?_, ?_⟩
  · show (setB p.t r _ r).clear = _
    rw [setB_same]
  · show (setB p.t r _ (!r)).clear = _
    rw [setB_other, clear_eq (h.ps.out _)]
  · show pour (setB p.bag r l r) (setB p.t r _ (!r)).out = _
    rw [setB_same, setB_other, h.ps.out, pour_nil']
  · show pour (setB p.bag r l (!r)) (setB p.t r _ (!(!r))).out = _
    rw [setB_other, Bool.not_not, setB_same]
where
  pour_nil' {bag : Rows8} : pour bag [] = bag := by simp [pour]
theorem dl_phi (h : GI p k) (hb : p.bag r = d :: l) : phi2 (dl p r) + 1 ≤ phi2 p := by
  obtain ⟨f, hf, hfr, _, _⟩ := h.frame hb
  obtain ⟨e1, e2, e3, e4⟩ := dl_r h hb
  obtain ⟨g1, g2, _⟩ := take_phi (h.ps.pi.ti r).inv (h.ps.out r) (h.li.sd r).you hf hfr
  have key : ∀ q : Pr, phi2 q = phi q r + phi q (!r) := fun q => by
    unfold phi2; cases r
    · rfl
    · show _ = phi q true + phi q false
      omega
  rw [key, key]
  unfold phi
  rw [Bool.not_not, e1, e2, e3, e4, hb]
  have hpo := sumW_pour (p.t (!r)).me ((p.t r).take d).1.me (p.bag (!r)) ((p.t r).take d).1.out
  show sumW ((p.t r).take d).1.me (p.t (!r)).me l + 3 * ((p.t r).take d).1.queue.length + uns ((p.t r).take d).1.clear (p.t (!r)) + (sumW (p.t (!r)).me ((p.t r).take d).1.me (pour (p.bag (!r)) ((p.t r).take d).1.out) + 3 * (p.t (!r)).queue.length + uns (p.t (!r)) ((p.t r).take d).1.clear) + 1 ≤ _
  have eu : uns (p.t (!r)) ((p.t r).take d).1.clear = uns (p.t (!r)) (p.t r) := by
    unfold uns
    rw [show ((p.t r).take d).1.clear.me = (p.t r).me from g1]
  have eu2 : uns ((p.t r).take d).1.clear (p.t (!r)) = uns ((p.t r).take d).1 (p.t (!r)) := rfl
  rw [eu, eu2]
  rw [g1] at hpo ⊢
  rw [sumW]
  omega
theorem dl_cnt (h : GI p k) (hb : p.bag r = d :: l) : cnt (dl p r) ≤ cnt p ∧ (p.bag (!r)).length + ((p.t r).take d).1.out.length ≤ cnt p := by
  obtain ⟨f, hf, hfr, _, _⟩ := h.frame hb
  obtain ⟨e1, e2, e3, e4⟩ := dl_r h hb
  obtain ⟨_, _, g3⟩ := take_phi (h.ps.pi.ti r).inv (h.ps.out r) (h.li.sd r).you hf hfr
  have key : ∀ q : Pr, cnt q = (q.bag r).length + (q.bag (!r)).length + (q.t r).queue.length + (q.t (!r)).queue.length := fun q => by
    unfold cnt; cases r
    · rfl
    · show _ = (q.bag true).length + (q.bag false).length + (q.t true).queue.length + (q.t false).queue.length
      omega
  have hpl : (pour (p.bag (!r)) ((p.t r).take d).1.out).length ≤ (p.bag (!r)).length + ((p.t r).take d).1.out.length := by
    unfold pour
    rw [List.length_append, List.length_take]; omega
  rw [key, key, e1, e2, e3, e4, hb, List.length_cons]
  show l.length + (pour (p.bag (!r)) ((p.t r).take d).1.out).length + ((p.t r).take d).1.queue.length + (p.t (!r)).queue.length ≤ _ ∧ _
  exact ⟨by omega, by omega⟩
theorem pour_all {b l : Rows8} (h : b.length + l.length ≤ 200) : pour b l = b ++ l := by
  unfold pour
  rw [List.take_of_length_le (by omega)]
end
theorem phi_le {p : Pr} {k : Nat} (h : GI p k) : phi2 p ≤ 1586 := by
  have key : ∀ r, phi p r ≤ 793 := fun r => by
    have h1 := sumW_le (p.t r).me (p.t (!r)).me (p.bag r)
    have h2 := h.ps.bag r
    have h3 := (h.ps.pi.ti r).inv.room
    have h4 := uns_le (p.t r) (p.t (!r))
    unfold phi
    omega
  have h1 := key false
  have h2 := key true
  unfold phi2
  omega
end Go.Fl
namespace Go.Fl

/-- r is in a session with the other one's number. -/
def stl (p : Pr) (r : Bool) : Prop := (p.t r).up = true ∧ (p.t r).you = (p.t (!r)).me
/-- A greeting to r that bears both numbers. -/
def hasT (p : Pr) (r : Bool) : Prop := ∃ d ∈ p.bag r, ∃ f, getF d = some f ∧ f.k = 1 ∧ f.fr = (p.t (!r)).me ∧ f.yo = (p.t r).me
/-- Something of r's number, to another number than the other one's. -/
def hasX (p : Pr) (r : Bool) : Prop := ∃ d ∈ p.bag (!r), ∃ f, getF d = some f ∧ f.fr = (p.t r).me ∧ f.yo ≠ (p.t (!r)).me
def Gz (z : Bool) (p : Pr) (r : Bool) : Prop := stl p r ∧ (z = true → (p.t r).sil = 0)
def Ob (z : Bool) (p : Pr) (r : Bool) : Prop := Gz z p r ∨ hasT p r ∨ hasX p r ∨ (hasT p (!r) ∧ ¬stl p (!r)) ∨ (hasX p (!r) ∧ ¬stl p (!r))
section
variable {p : Pr} {k : Nat} {s : Bool} {d : List UInt8} {l : Rows8}
/-- A delivery without a loss. -/
structure Dl (p q : Pr) (s : Bool) (d : List UInt8) (l : Rows8) (f : Fm) : Prop where
  ts : q.t s = ((p.t s).take d).1.clear
  tO : q.t (!s) = p.t (!s)
  bs : q.bag s = l
  bo : q.bag (!s) = p.bag (!s) ++ ((p.t s).take d).1.out
  pb : p.bag s = d :: l
  hf : getF d = some f
  ok : f.ok
  fr : f.fr ≤ (p.t (!s)).me ∧ f.yo ≤ (p.t s).me
  me : ((p.t s).take d).1.me = (p.t s).me
  you : (p.t s).you ≤ (p.t (!s)).me
  inv : (p.t s).inv
  out : (p.t s).out = []
theorem dl_of (h : GI p k) (hc : cnt p ≤ 200) (hb : p.bag s = d :: l) : ∃ f, Dl p (dl p s) s d l f := by
  obtain ⟨f, hf, h1, h2, h3⟩ := h.frame hb
  obtain ⟨e1, e2, e3, e4⟩ := dl_r h hb
  have hcn := (dl_cnt h hb).2
  rw [pour_all (by omega)] at e4
  have hi := (h.ps.pi.ti s).inv
  exact ⟨f, e1, e2, e3, e4, hb, hf, h3, ⟨h1, h2⟩, (take_phi hi (h.ps.out s) (h.li.sd s).you hf h1).1, (h.li.sd s).you, hi, h.ps.out s⟩
section
variable {q : Pr} {f : Fm}
theorem Dl.meS (h : Dl p q s d l f) : (q.t s).me = (p.t s).me := by rw [h.ts]; exact h.me
theorem Dl.meO (h : Dl p q s d l f) : (q.t (!s)).me = (p.t (!s)).me := by rw [h.tO]
theorem Dl.mes (h : Dl p q s d l f) (r : Bool) : (q.t r).me = (p.t r).me := by
  rcases bool_cases s r with rfl | rfl
  · exact h.meS
  · exact h.meO
/-- What is on its way stays there, but for what was delivered. -/
theorem Dl.mem (h : Dl p q s d l f) {r : Bool} {e : List UInt8} (he : e ∈ p.bag r) : (r = s ∧ e = d) ∨ e ∈ q.bag r := by
  rcases bool_cases s r with rfl | rfl
  · rw [h.pb] at he
    rcases List.mem_cons.1 he with rfl | he
    · exact .inl ⟨rfl, rfl⟩
    · right; rw [h.bs]; exact he
  · right; rw [h.bo]; exact List.mem_append_left _ he
/-- A greeting is said. -/
theorem Dl.says (h : Dl p q s d l f) (hx : f.fr = (p.t (!s)).me) (ho : (putF { hel f.fr with fr := (p.t s).me }).1 ∈ ((p.t s).take d).1.out) : hasT q (!s) := by
  refine ⟨(putF { hel f.fr with fr := (p.t s).me }).1, by rw [h.bo]; exact List.mem_append_right _ ho, _, getF_putF (hel_ok h.inv.me (by have := h.ok.1; omega)), rfl, ?_, ?_⟩
  · rw [Bool.not_not, h.meS]
  · rw [h.meO]; exact hx
theorem ack_who (t : Tn) (f : Fm) : (({ t with sil := 0 } : Tn).ack f).up = t.up ∧ (({ t with sil := 0 } : Tn).ack f).you = t.you ∧ (({ t with sil := 0 } : Tn).ack f).sil = 0 := by
  have hw := slideF_who t.queue.length { t with sil := 0, way := t.way.filter fun x => !gone f x }
  refine ⟨hw.2.2, hw.2.1, ?_⟩
  exact slide_ind (P := fun s => s.sil = 0) (t := { t with sil := 0, way := t.way.filter fun x => !gone f x }) rfl fun _ _ _ h _ _ => h
theorem data_who (t : Tn) (f : Fm) : (({ t with sil := 0 } : Tn).data f).1.up = t.up ∧ (({ t with sil := 0 } : Tn).data f).1.you = t.you ∧ (({ t with sil := 0 } : Tn).data f).1.sil = 0 := by
  obtain ⟨e, x, h⟩ := data_eq ({ t with sil := 0 } : Tn) f
  have h1 : (({ t with sil := 0 } : Tn).data f).1 = (tellF 17 (({ t with sil := 0 } : Tn).keep f) []).1.acks := rfl
  rw [h1, h]
  exact ⟨rfl, rfl, rfl⟩
/-- What a delivery does to the one to whom it comes. -/
theorem Dl.who (h : Dl p q s d l f) :
    (stl p s → stl q s) ∧ ((q.t s).sil = (p.t s).sil ∨ (q.t s).sil = 0) ∧ ((p.t s).up = true → (q.t s).up = true) ∧ ((q.t s).up = true → (p.t s).up = true ∨ (q.t s).sil = 0) ∧ ((q.t s).you = (p.t s).you ∨ (q.t s).up = true) ∧
    (f.k = 1 → f.fr = (p.t (!s)).me → f.yo = (p.t s).me → stl q s ∧ (q.t s).sil = 0) ∧
    (f.fr = (p.t (!s)).me → f.yo ≠ (p.t s).me → hasT q (!s)) ∧ (¬stl p s → stl q s → hasT q (!s)) := by
  have hup : ∀ {u y : Bool} , True → True := fun _ => trivial
  have hst : ∀ {t' : Tn}, q.t s = t'.clear → (stl q s ↔ t'.up = true ∧ t'.you = (p.t (!s)).me) := fun {t'} e => by
    unfold stl; rw [e, h.tO]; exact Iff.rfl
  have hfr1 := h.ok.1
  have hy := h.you
  have ho := h.out
  have hts := h.ts
  rcases take_cases (t := p.t s) h.hf with ⟨h1, h2, e⟩ | ⟨h1, e⟩ | ⟨h1, h2, hb, e⟩ | ⟨h1, h2, h3, hu, e⟩ | ⟨h1, h2, h3, hu, e⟩ | ⟨h1, h2, h3, hu, e⟩
  · have hsay := h.says
    rw [e] at hts hsay
    rw [hst hts, hts]
    refine ⟨fun h => h, .inl rfl, fun h => h, fun h => .inl h, .inl rfl, fun _ _ h3 => absurd h3 h1, fun hx _ => hsay hx (List.mem_append_right _ (List.mem_singleton.2 rfl)), fun h3 h4 => absurd h4 h3⟩
  · rw [e] at hts
    rw [hst hts, hts]
    refine ⟨fun h => h, .inl rfl, fun h => h, fun h => .inl h, .inl rfl, fun hk hx hyy => ?_, fun hx hyy => ?_, fun h3 h4 => absurd h4 h3⟩
    · rcases h1 with ⟨g, _⟩ | ⟨_, _, g⟩ | ⟨_, g, _⟩
      · exact absurd hyy g
      · omega
      · exact absurd hk g
    · rcases h1 with ⟨_, g⟩ | ⟨g, _⟩ | ⟨g, _⟩
      · omega
      · exact absurd g hyy
      · exact absurd g hyy
  · have hsay := h.says
    rw [e] at hts hsay
    rw [hst hts, hts]
    refine ⟨fun hs => ?_, .inr rfl, fun _ => rfl, fun _ => .inr rfl, .inr rfl, fun _ hx _ => ⟨⟨rfl, hx⟩, rfl⟩, fun _ hyy => absurd h1 hyy, fun _ h4 => ?_⟩
    · rcases hb with hb | ⟨_, hb⟩
      · have := hs.2
        have := h.fr.1
        omega
      · have := hs.1
        rw [hb] at this; cases this
    · have hx : f.fr = (p.t (!s)).me := h4.2
      exact hsay hx (List.mem_append_right _ (List.mem_singleton.2 rfl))
  · rw [e] at hts
    rw [hst hts, hts]
    exact ⟨fun h => h, .inr rfl, fun h => h, fun h => .inl h, .inl rfl, fun _ hx _ => ⟨⟨hu, h3.symm.trans hx⟩, rfl⟩, fun _ hyy => absurd h1 hyy, fun h3 h4 => absurd h4 h3⟩
  · obtain ⟨a1, a2, a3⟩ := ack_who (p.t s) f
    rw [e] at hts
    rw [hst hts, hts, a1, a2]
    refine ⟨fun h => h, .inr a3, fun h => a1.trans h, fun h => .inr a3, .inl a2, fun hk => by omega, fun _ hyy => absurd h1 hyy, fun h3 h4 => absurd h4 h3⟩
  · obtain ⟨a1, a2, a3⟩ := data_who (p.t s) f
    rw [e] at hts
    rw [hst hts, hts, a1, a2]
    refine ⟨fun h => h, .inr a3, fun h => a1.trans h, fun h => .inr a3, .inl a2, fun hk => by omega, fun _ hyy => absurd h1 hyy, fun h3 h4 => absurd h4 h3⟩
theorem Dl.stlO (h : Dl p q s d l f) : stl q (!s) ↔ stl p (!s) := by
  unfold stl
  rw [h.tO, Bool.not_not, h.meS]
theorem Dl.settled (h : Dl p q s d l f) {r : Bool} (hr : stl p r) : stl q r := by
  rcases bool_cases s r with rfl | rfl
  · exact h.who.1 hr
  · exact h.stlO.2 hr
theorem Dl.keepT (h : Dl p q s d l f) {r : Bool} (hr : hasT p r) : (r = s ∧ f.k = 1 ∧ f.fr = (p.t (!s)).me ∧ f.yo = (p.t s).me) ∨ hasT q r := by
  obtain ⟨e, he, g, g1, g2, g3, g4⟩ := hr
  rcases h.mem he with ⟨rfl, rfl⟩ | h1
  · rw [h.hf] at g1; cases g1
    exact .inl ⟨rfl, g2, g3, g4⟩
  · right
    exact ⟨e, h1, g, g1, g2, by rw [h.mes]; exact g3, by rw [h.mes]; exact g4⟩
theorem Dl.keepX (h : Dl p q s d l f) {r : Bool} (hr : hasX p r) : (r = !s ∧ f.fr = (p.t (!s)).me ∧ f.yo ≠ (p.t s).me) ∨ hasX q r := by
  obtain ⟨e, he, g, g1, g2, g3⟩ := hr
  rcases h.mem he with ⟨h1, rfl⟩ | h1
  · left
    rw [h.hf] at g1; cases g1
    have : r = !s := by rw [← h1, Bool.not_not]
    subst this
    rw [Bool.not_not] at g3
    exact ⟨rfl, g2, g3⟩
  · right
    exact ⟨e, h1, g, g1, by rw [h.mes]; exact g2, by rw [h.mes]; exact g3⟩
theorem Dl.ob (h : Dl p q s d l f) {z : Bool} {r : Bool} (ho : Ob z p r) : Ob z q r := by
  obtain ⟨w1, w2, w3, w3', w3'', w4, w5, w6⟩ := h.who
  rcases bool_cases s r with rfl | rfl
  · -- it comes to r
    rcases ho with ⟨g1, g2⟩ | g | g | ⟨g1, g2⟩ | ⟨g1, g2⟩
    · refine .inl ⟨w1 g1, fun hz => ?_⟩
      rcases w2 with w2 | w2
      · rw [w2]; exact g2 hz
      · exact w2
    · rcases h.keepT g with ⟨_, a1, a2, a3⟩ | g
      · obtain ⟨b1, b2⟩ := w4 a1 a2 a3
        exact .inl ⟨b1, fun _ => b2⟩
      · exact .inr (.inl g)
    · rcases h.keepX g with ⟨a, _⟩ | g
      · cases r <;> cases a
      · exact .inr (.inr (.inl g))
    · rcases h.keepT g1 with ⟨a, _⟩ | g1
      · cases r <;> cases a
      · exact .inr (.inr (.inr (.inl ⟨g1, fun hs => g2 (h.stlO.1 hs)⟩)))
    · rcases h.keepX g1 with ⟨_, a1, a2⟩ | g1
      · exact .inr (.inr (.inr (.inl ⟨w5 a1 a2, fun hs => g2 (h.stlO.1 hs)⟩)))
      · exact .inr (.inr (.inr (.inr ⟨g1, fun hs => g2 (h.stlO.1 hs)⟩)))
  · -- it comes to the other one
    have gz : Gz z p (!s) → Gz z q (!s) := fun ⟨g1, g2⟩ => ⟨h.stlO.2 g1, fun hz => by rw [h.tO]; exact g2 hz⟩
    unfold Ob at ho ⊢
    rw [Bool.not_not] at ho ⊢
    rcases ho with g | g | g | ⟨g1, g2⟩ | ⟨g1, g2⟩
    · exact .inl (gz g)
    · rcases h.keepT g with ⟨a, _⟩ | g
      · cases s <;> cases a
      · exact .inr (.inl g)
    · rcases h.keepX g with ⟨_, a1, a2⟩ | g
      · exact .inr (.inl (w5 a1 a2))
      · exact .inr (.inr (.inl g))
    · rcases h.keepT g1 with ⟨_, a1, a2, a3⟩ | g1
      · exact .inr (.inl (w6 g2 (w4 a1 a2 a3).1))
      · by_cases hs : stl q s
        · exact .inr (.inl (w6 g2 hs))
        · exact .inr (.inr (.inr (.inl ⟨g1, hs⟩)))
    · rcases h.keepX g1 with ⟨a, _⟩ | g1
      · cases s <;> cases a
      · by_cases hs : stl q s
        · exact .inr (.inl (w6 g2 hs))
        · exact .inr (.inr (.inr (.inr ⟨g1, hs⟩)))
/-- r has a session, and silence is at most c. -/
def Us (p : Pr) (r : Bool) (c : Int) : Prop := (p.t r).up = true ∧ (p.t r).sil ≤ c
theorem Dl.us (h : Dl p q s d l f) {r : Bool} {c : Int} (hc : 0 ≤ c) (hu : Us p r c) : Us q r c := by
  obtain ⟨w1, w2, w3, _⟩ := h.who
  rcases bool_cases s r with rfl | rfl
  · refine ⟨w3 hu.1, ?_⟩
    have := hu.2
    rcases w2 with w2 | w2 <;> omega
  · unfold Us
    rw [h.tO]; exact hu
end
end
theorem ob_end {z : Bool} {p : Pr} {r : Bool} (h : Ob z p r) (hb : ∀ s, p.bag s = []) : Gz z p r := by
  have hT : ∀ s, ¬hasT p s := fun s ⟨d, hd, _⟩ => by rw [hb] at hd; cases hd
  have hX : ∀ s, ¬hasX p s := fun s ⟨d, hd, _⟩ => by rw [hb] at hd; cases hd
  rcases h with h | h | h | ⟨h, _⟩ | ⟨h, _⟩
  · exact h
  · exact absurd h (hT _)
  · exact absurd h (hX _)
  · exact absurd h (hT _)
  · exact absurd h (hX _)
end Go.Fl
namespace Go.Fl

/-- A frame with the message of number n, from s. -/
def hasD (p : Pr) (s : Bool) (n : Int) : Prop := ∃ d ∈ p.bag (!s), ∃ f, getF d = some f ∧ f.k = 2 ∧ f.fr = (p.t s).me ∧ f.yo = (p.t (!s)).me ∧ f.sq = n
/-- An acknowledgement of n, to s. -/
def hasA (p : Pr) (s : Bool) (n : Int) : Prop := ∃ d ∈ p.bag s, ∃ f, getF d = some f ∧ f.k = 3 ∧ f.fr = (p.t (!s)).me ∧ f.yo = (p.t s).me ∧ cov f n = true
def Fl4 (p : Pr) (s : Bool) (j : Int) : Prop := ∀ x ∈ (p.t s).way, j ≤ x.2.2 % 4 ∨ hasD p s x.1 ∨ (Rc (p.t (!s)) x.1 ∧ hasA p s x.1)
section
variable {p q : Pr} {k : Nat} {s : Bool} {d : List UInt8} {l : Rows8} {f : Fm}
theorem Dl.upd (h : Dl p q s d l f) (hg : GI p k) (hk : k ≤ 1000000000) : Upd (p.t s) ((p.t s).take d).1 (p.t (!s)) := by
  have hs := hg.li.sd s
  have hfl := List.mem_append_left (p.t (!s)).out (show d ∈ p.bag s by rw [h.pb]; exact List.mem_cons_self ..)
  exact Upd.take (hg.li.tl s) (by omega) h.inv h.you (hg.ps.pi.ti (!s)).inv.me.2 h.hf h.fr.1 fun h3 h1 h2 n q1 q2 hc => by
    obtain ⟨g1, g2, g3⟩ := hs.ack _ hfl f h.hf h3 h1 h2
    exact ⟨g1, g2, g3 n q1 q2 hc⟩
/-- What is on the way is not too far ahead. -/
theorem near16 (hg : GI p k) (_hk : k ≤ 1000000000) (hs : stl p s) : ∀ y ∈ (p.t s).way, y.1 ≤ (p.t (!s)).expect + 16 := by
  intro y hy
  apply Classical.byContradiction
  intro hn
  have hx := (hg.ps.pi.ti (!s)).inv.ex
  have hwy := (hg.li.tl s).win y hy
  obtain ⟨_, _, h3⟩ := (hg.li.sd s).way hs.1 hs.2 ((p.t (!s)).expect + 1) (by omega) (by omega) fun x hx => by
    have := (hg.li.tl s).win x hx
    omega
  rcases h3 with h3 | h3
  · omega
  · rw [(hg.li.rest (!s)).early] at h3; cases h3
/-- All that is not on the way has come. -/
theorem all_came (hg : GI p k) (hs : stl p s) (hw : (p.t s).way = []) : (p.t s).next ≤ (p.t (!s)).expect ∧ (p.t s).queue = [] := by
  constructor
  · apply Classical.byContradiction
    intro hn
    have hx := (hg.ps.pi.ti (!s)).inv.ex
    obtain ⟨_, _, h3⟩ := (hg.li.sd s).way hs.1 hs.2 ((p.t (!s)).expect + 1) (by omega) (by omega) fun x hx => by rw [hw] at hx; cases hx
    rcases h3 with h3 | h3
    · omega
    · rw [(hg.li.rest (!s)).early] at h3; cases h3
  · apply Classical.byContradiction
    intro hn
    have := (hg.li.rest s).stuck hn
    rw [can_nil hw] at this; cases this
theorem Dl.wayS (h : Dl p q s d l f) (hg : GI p k) (hk : k ≤ 1000000000) (hs : stl p s) :
    ∀ x ∈ ((p.t s).take d).1.way, (x ∈ (p.t s).way ∧ ¬(f.k = 3 ∧ f.fr = (p.t (!s)).me ∧ f.yo = (p.t s).me ∧ cov f x.1 = true)) ∨ ∃ e ∈ ((p.t s).take d).1.out, ∃ g, getF e = some g ∧ g.k = 2 ∧ g.fr = (p.t s).me ∧ g.yo = (p.t (!s)).me ∧ g.sq = x.1 := by
  intro x hx
  have hsu := hs.1
  have hsy := hs.2
  have hfr := h.fr.1
  rcases take_cases (t := p.t s) h.hf with ⟨h1, h2, e⟩ | ⟨h1, e⟩ | ⟨h1, h2, hb, e⟩ | ⟨h1, h2, h3, hu, e⟩ | ⟨h1, h2, h3, hu, e⟩ | ⟨h1, h2, h3, hu, e⟩ <;> rw [e] at hx ⊢
  · exact .inl ⟨hx, fun g => h1 g.2.2.1⟩
  · refine .inl ⟨hx, fun ⟨g1, g2, g3, _⟩ => ?_⟩
    rcases h1 with ⟨a, _⟩ | ⟨_, a, _⟩ | ⟨_, _, a | a⟩
    · exact a g3
    · omega
    · rw [hsu] at a; cases a
    · exact a (g2.trans hsy.symm)
  · rcases hb with hb | ⟨_, hb⟩
    · omega
    · rw [hsu] at hb; cases hb
  · exact .inl ⟨hx, fun g => by have := g.1; omega⟩
  · have hi := h.inv
    have hfl := List.length_filter_le (fun x => !gone f x) (p.t s).way
    have hr := hi.room
    have hN : (k : Int) < 1099511627776 := by omega
    have hi0 : ({ p.t s with sil := 0, way := (p.t s).way.filter fun x => !gone f x } : Tn).inv := ⟨hi.me, hi.you, hi.ex, hi.early, fun x hx => hi.way x (List.mem_filter.1 hx).1, hi.queue, by show (p.t s).queue.length + ((p.t s).way.filter fun x => !gone f x).length ≤ 64; omega, ⟨Int.le_refl _, by show (0 : Int) < 64; decide⟩⟩
    have key := slide_ind (P := fun t => t.me = (p.t s).me ∧ t.you = (p.t s).you ∧ t.inv ∧ TL t k ∧ t.up = true ∧ ∀ x ∈ t.way, (x ∈ (p.t s).way ∧ gone f x = false) ∨ ∃ e ∈ t.out, ∃ g, getF e = some g ∧ g.k = 2 ∧ g.fr = (p.t s).me ∧ g.yo = (p.t (!s)).me ∧ g.sq = x.1)
      (t := { p.t s with sil := 0, way := (p.t s).way.filter fun x => !gone f x }) ⟨rfl, rfl, hi0, ((hg.li.tl s).calm.drop _), hsu, fun x hx => .inl ⟨(List.mem_filter.1 hx).1, by have := (List.mem_filter.1 hx).2; simpa using this⟩⟩ fun t b qq ⟨b1, b2, b3, b4, b5, b6⟩ hq hc => by
        refine ⟨b1, b2, put1_inv b3 hq, b4.put1 hN b5 hq hc, b5, fun x hx => ?_⟩
        have hx : x ∈ t.way ++ [(wr (t.next + 1), b, 0)] := hx
        rcases List.mem_append.1 hx with hx | hx
        · rcases b6 x hx with b7 | ⟨ee, he, hg⟩
          · exact .inl b7
          · exact .inr ⟨ee, List.mem_append_left _ he, hg⟩
        · rw [List.mem_singleton] at hx
          have hn := b4.nx
          rw [hq, List.length_cons] at hn
          have ew : wr (t.next + 1) = t.next + 1 := by rw [wr, IntKind.wrap_i64]; omega
          have hok : (⟨2, t.me, t.you, wr (t.next + 1), 0, 0, b⟩ : Fm).ok := ⟨b3.me, b3.you, .inr (.inl ⟨rfl, by show 1 ≤ wr (t.next + 1) ∧ wr (t.next + 1) ≤ _; omega, rfl, rfl, b3.queue b (by rw [hq]; exact List.mem_cons_self ..)⟩)⟩
          refine .inr ⟨_, List.mem_append_right _ (List.mem_singleton.2 rfl), _, getF_putF hok, rfl, b1, b2.trans hsy, ?_⟩
          rw [hx]
    rcases key.2.2.2.2.2 x hx with ⟨g1, g2⟩ | g
    · refine .inl ⟨g1, fun ⟨_, _, _, g3⟩ => ?_⟩
      rw [gone_cov, g3] at g2; cases g2
    · exact .inr g
  · obtain ⟨e1, e2, h4⟩ := data_eq ({ p.t s with sil := 0 } : Tn) f
    have h5 : (({ p.t s with sil := 0 } : Tn).data f).1 = (tellF 17 (({ p.t s with sil := 0 } : Tn).keep f) []).1.acks := rfl
    rw [h5, h4] at hx
    exact .inl ⟨hx, fun g => by have := g.1; omega⟩
theorem Dl.dataO (h : Dl p q s d l f) (hg : GI p k) (hk : k ≤ 1000000000) (hso : stl p (!s)) (hs : stl p s) (h2 : f.k = 2) (h3 : f.fr = (p.t (!s)).me) (h4 : f.yo = (p.t s).me) {n : Int} (hn : n ∈ (p.t (!s)).way.map (·.1)) (hq : f.sq = n) :
    Rc ((p.t s).take d).1 n ∧ ∃ e ∈ ((p.t s).take d).1.out, ∃ g, getF e = some g ∧ g.k = 3 ∧ g.fr = (p.t s).me ∧ g.yo = (p.t (!s)).me ∧ cov g n = true := by
  have hsu := hs.1
  have hsy := hs.2
  obtain ⟨y, hy, rfl⟩ := List.mem_map.1 hn
  have h16 := near16 hg hk hso y hy
  rw [Bool.not_not] at h16
  have hw := (hg.li.tl (!s)).win y hy
  have hnx := (hg.li.tl (!s)).nx
  rcases take_cases (t := p.t s) h.hf with ⟨a, _⟩ | ⟨a, _⟩ | ⟨_, a, _⟩ | ⟨_, a, _⟩ | ⟨_, a, _⟩ | ⟨_, _, _, _, e⟩
  · exact absurd h4 a
  · rcases a with ⟨a, _⟩ | ⟨_, a, _⟩ | ⟨_, _, a | a⟩
    · exact absurd h4 a
    · omega
    · rw [hsu] at a; cases a
    · exact absurd (h3.trans hsy.symm) a
  · omega
  · omega
  · omega
  · have hok := h.ok
    have hai := tellF_inv 17 (l := []) (h.inv.calm.keep hok)
    have hrc : Rc (tellF 17 (({ p.t s with sil := 0 } : Tn).keep f) []).1 y.1 := Rc.tell 17 (by rw [← hq]; exact Rc.keep_new f (by show f.sq ≤ (p.t s).expect + 16; omega))
    have h5 : (({ p.t s with sil := 0 } : Tn).data f).1 = (tellF 17 (({ p.t s with sil := 0 } : Tn).keep f) []).1.acks := rfl
    obtain ⟨e1, e2, h6⟩ := data_eq ({ p.t s with sil := 0 } : Tn) f
    rw [e, h5]
    have hwho : (tellF 17 (({ p.t s with sil := 0 } : Tn).keep f) []).1.me = (p.t s).me ∧ (tellF 17 (({ p.t s with sil := 0 } : Tn).keep f) []).1.you = (p.t s).you := by rw [h6]; exact ⟨rfl, rfl⟩
    generalize (tellF 17 (({ p.t s with sil := 0 } : Tn).keep f) []).1 = T at *
    refine ⟨hrc, (putF (ackF T)).1, List.mem_append_right _ (List.mem_singleton.2 rfl), ackF T, getF_putF (ack_ok hai), rfl, hwho.1, hwho.2.trans hsy, ?_⟩
    refine (cov_rc hai.ex (by omega) (by omega)).2 ?_
    rcases hrc with h7 | h7
    · exact .inl h7
    · right
      refine ⟨?_, h7⟩
      obtain ⟨bb, hbb⟩ := Option.isSome_iff_exists.1 h7
      exact (hai.early _ _ hbb).2.1
theorem Dl.fl4 {a : Bool} (h : Dl p q a d l f) (hg : GI p k) (hk : k ≤ 1000000000) {j : Int} (hs : stl p s) (ho : stl p (!s)) (hf : Fl4 p s j) : Fl4 q s j := by
  rcases bool_cases a s with rfl | rfl
  · -- it comes to the sender
    intro x hx
    rw [h.ts] at hx
    have hrc : ∀ n, Rc (q.t (!s)) n ↔ Rc (p.t (!s)) n := fun n => by rw [h.tO]
    rcases h.wayS hg hk hs x hx with ⟨h1, h2⟩ | ⟨e, he, g, g1, g2, g3, g4, g5⟩
    · rcases hf x h1 with h3 | ⟨e, he, g, g1, g2, g3, g4, g5⟩ | ⟨h3, e, he, g, g1, g2, g3, g4, g5⟩
      · exact .inl h3
      · rcases h.mem he with ⟨c, _⟩ | he
        · cases s <;> cases c
        · exact .inr (.inl ⟨e, he, g, g1, g2, by rw [h.mes]; exact g3, by rw [h.mes]; exact g4, g5⟩)
      · rcases h.mem he with ⟨_, rfl⟩ | he
        · rw [h.hf] at g1; cases g1
          exact absurd ⟨g2, g3, g4, g5⟩ h2
        · exact .inr (.inr ⟨(hrc _).2 h3, e, he, g, g1, g2, by rw [h.mes]; exact g3, by rw [h.mes]; exact g4, g5⟩)
    · exact .inr (.inl ⟨e, by rw [h.bo]; exact List.mem_append_right _ he, g, g1, g2, by rw [h.mes]; exact g3, by rw [h.mes]; exact g4, g5⟩)
  · -- it comes to the other one
    rw [Bool.not_not] at ho
    intro x hx
    rw [h.tO] at hx
    have hu := h.upd hg hk
    obtain ⟨u1, u2, u3⟩ := hu.keep ho.1 ho.2
    have hrc : ∀ n, Rc (p.t a) n → Rc (q.t a) n := fun n hn => by
      have := u3 n hn
      rw [h.ts]; exact this
    have hf := hf x hx
    unfold hasD hasA at hf
    rw [Bool.not_not] at hf
    have goal : (j ≤ x.2.2 % 4 ∨ (∃ e ∈ q.bag a, ∃ g, getF e = some g ∧ g.k = 2 ∧ g.fr = (q.t (!a)).me ∧ g.yo = (q.t a).me ∧ g.sq = x.1) ∨ (Rc (q.t a) x.1 ∧ ∃ e ∈ q.bag (!a), ∃ g, getF e = some g ∧ g.k = 3 ∧ g.fr = (q.t a).me ∧ g.yo = (q.t (!a)).me ∧ cov g x.1 = true)) := by
      rcases hf with h3 | ⟨e, he, g, g1, g2, g3, g4, g5⟩ | ⟨h3, e, he, g, g1, g2, g3, g4, g5⟩
      · exact .inl h3
      · rcases h.mem he with ⟨_, rfl⟩ | he
        · rw [h.hf] at g1; cases g1
          obtain ⟨r1, e2, he2, g2', a1, a2, a3, a4, a5⟩ := h.dataO hg hk hs ho g2 g3 g4 (List.mem_map_of_mem hx) g5
          refine .inr (.inr ⟨by rw [h.ts]; exact r1, e2, by rw [h.bo]; exact List.mem_append_right _ he2, g2', a1, a2, by rw [h.mes]; exact a3, by rw [h.mes]; exact a4, a5⟩)
        · exact .inr (.inl ⟨e, he, g, g1, g2, by rw [h.mes]; exact g3, by rw [h.mes]; exact g4, g5⟩)
      · rcases h.mem he with ⟨c, _⟩ | he
        · cases a <;> cases c
        · exact .inr (.inr ⟨hrc _ h3, e, he, g, g1, g2, by rw [h.mes]; exact g3, by rw [h.mes]; exact g4, g5⟩)
    unfold hasD hasA
    rw [Bool.not_not]
    exact goal
end
theorem fl4_end {p : Pr} {s : Bool} {j : Int} (h : Fl4 p s j) (hb : ∀ r, p.bag r = []) : ∀ x ∈ (p.t s).way, j ≤ x.2.2 % 4 := by
  intro x hx
  rcases h x hx with h1 | ⟨d, hd, _⟩ | ⟨_, d, hd, _⟩
  · exact h1
  · rw [hb] at hd; cases hd
  · rw [hb] at hd; cases hd
end Go.Fl
namespace Go.Fl

/-- Datagrams are delivered, one by one. -/
inductive Dr (p : Pr) : Nat → Pr → Prop
  | refl : Dr p 0 p
  | step {i : Nat} {q : Pr} (s : Bool) : Dr p i q → q.bag s ≠ [] → Dr p (i + 1) (dl q s)
section
variable {p q : Pr} {i k : Nat}
theorem Dr.gi (h : Dr p i q) (hg : GI p k) (hk : k ≤ 100000000) : GI q (k + i) ∧ phi2 q + i ≤ phi2 p := by
  induction h with
  | refl => exact ⟨hg, Nat.le_refl _⟩
  | step s h hb ih =>
    rename_i j q
    obtain ⟨g1, g2⟩ := ih
    have h0 := phi_le hg
    obtain ⟨d, l, hd⟩ := List.exists_cons_of_ne_nil hb
    have h1 := dl_phi g1 hd
    exact ⟨(g1.does (by omega) ⟨0, s, 0, [], false⟩).2, by omega⟩
theorem Dr.few (h : Dr p i q) (hg : GI p k) (hk : k ≤ 100000000) : i ≤ 1586 := by
  have h1 := (h.gi hg hk).2
  have h2 := phi_le hg
  omega
theorem Dr.carry (h : Dr p i q) (hg : GI p k) (hk : k ≤ 100000000) (hc : cnt p ≤ 200) {J : Pr → Prop} (hJ : ∀ {a b : Pr} {m : Nat} {s d l f}, GI a m → m ≤ 1000000000 → Dl a b s d l f → J a → J b) (hp : J p) : J q ∧ cnt q ≤ 200 := by
  induction h with
  | refl => exact ⟨hp, hc⟩
  | step s h hb ih =>
    rename_i j q
    obtain ⟨g1, g2⟩ := ih
    have h3 := h.gi hg hk
    have h4 := h.few hg hk
    obtain ⟨d, l, hd⟩ := List.exists_cons_of_ne_nil hb
    obtain ⟨f, hf⟩ := dl_of h3.1 g2 hd
    exact ⟨hJ h3.1 (by omega) hf g1, Nat.le_trans (dl_cnt h3.1 hd).1 g2⟩
end
/-- One tunnel did something. -/
theorem does_one {p : Pr} {a : PAct} {s : Bool} {t' : Tn} (ho : ∀ r, (p.t r).out = []) (ha : (p.act a).1 = { p with t := setB p.t s t' }) : (p.does a).1.t s = t'.clear ∧ (p.does a).1.t (!s) = p.t (!s) ∧ (p.does a).1.bag s = p.bag s ∧ (p.does a).1.bag (!s) = pour (p.bag (!s)) t'.out := by
  unfold Pr.does
  rw [ha]
  refine ⟨?_, ?_, ?_, ?_⟩
  · show (setB p.t s t' s).clear = _
    rw [setB_same]
  · show (setB p.t s t' (!s)).clear = _
    rw [setB_other, clear_eq (ho _)]
  · show pour (p.bag s) (setB p.t s t' (!s)).out = _
    rw [setB_other, ho]
    simp [pour]
  · show pour (p.bag (!s)) (setB p.t s t' (!(!s))).out = _
    rw [Bool.not_not, setB_same]
def tickA (s : Bool) : PAct := ⟨4, s, 0, [], false⟩
def hintA : PAct := ⟨8, false, 0, [], false⟩
def hel1 (you me : Int) : List UInt8 := (putF { hel you with fr := me }).1
/-- A round's beginning. -/
def start (h : Bool) (p : Pr) : Pr := ((((if h then (p.does hintA).1 else p).does (tickA false)).1).does (tickA true)).1
section
variable {t : Tn} {N : Int}
theorem tick_cnt : t.tick.out.length + t.tick.queue.length ≤ t.out.length + 1 + t.way.length + t.queue.length := by
  unfold Tn.tick
  dsimp only
  split
  · split
    · show (t.out ++ [_]).length + t.queue.length ≤ _
      simp
    · show t.out.length + t.queue.length ≤ _
      omega
  · split
    · show t.out.length + 0 ≤ _
      omega
    · unfold Tn.tickUp
      dsimp only
      have h3 : (if Int.tmod (wr (t.ticks + 1)) 8 = 0 then ({ t with ticks := wr (t.ticks + 1), sil := wr (t.sil + 1) } : Tn).say (hel t.you) else { t with ticks := wr (t.ticks + 1), sil := wr (t.sil + 1) }).out.length ≤ t.out.length + 1 ∧
          (if Int.tmod (wr (t.ticks + 1)) 8 = 0 then ({ t with ticks := wr (t.ticks + 1), sil := wr (t.sil + 1) } : Tn).say (hel t.you) else { t with ticks := wr (t.ticks + 1), sil := wr (t.sil + 1) }).queue = t.queue := by
        split
        · exact ⟨by show (t.out ++ [_]).length ≤ _; simp, rfl⟩
        · exact ⟨by show t.out.length ≤ _; omega, rfl⟩
      generalize (if Int.tmod (wr (t.ticks + 1)) 8 = 0 then ({ t with ticks := wr (t.ticks + 1), sil := wr (t.sil + 1) } : Tn).say (hel t.you) else { t with ticks := wr (t.ticks + 1), sil := wr (t.sil + 1) }) = t3 at *
      obtain ⟨o, ho, hol⟩ := ageF_out t.way t3
      rw [ho]
      show (t3.out ++ o).length + t3.queue.length ≤ _
      rw [h3.2, List.length_append]
      omega
/-- What is on the way and four ticks old is said again. -/
theorem age_says : ∀ (l : List (Int × List UInt8 × Int)) (t : Tn) (x : Int × List UInt8 × Int), x ∈ l → Int.tmod (wr (x.2.2 + 1)) 4 = 0 → (putF ⟨2, t.me, t.you, x.1, 0, 0, x.2.1⟩).1 ∈ (ageF t l).out
  | y :: l, t, x, hx, h4 => by
    have hmono : ∀ (l : List (Int × List UInt8 × Int)) (t : Tn) d, d ∈ t.out → d ∈ (ageF t l).out := fun l t d hd => by
      obtain ⟨o, ho⟩ := ageF_eq l t
      rw [ho]; exact List.mem_append_left _ hd
    rcases List.mem_cons.1 hx with rfl | hx
    · unfold ageF
      rw [if_pos h4]
      exact hmono _ _ _ (List.mem_append_right _ (List.mem_singleton.2 rfl))
    · unfold ageF
      split
      · exact age_says l (t.say ⟨2, 0, t.you, y.1, 0, 0, y.2.1⟩) x hx h4
      · exact age_says l t x hx h4
/-- A tick. -/
theorem tick_cases (hl : TL t N) (hN : N + 1 < 1099511627776) (hi : t.inv) (hm : t.me < 1099511627776) :
    t.tick.ticks = t.ticks + 1 ∧ ((t.up = false ∧ t.tick.me = t.me ∧ t.tick.you = t.you ∧ t.tick.up = false ∧ (0 < t.you → (t.ticks + 1) % 4 = 0 → hel1 t.you t.me ∈ t.tick.out)) ∨
    (t.up = true ∧ 64 ≤ t.sil + 1 ∧ t.tick.me = t.me + 1 ∧ t.tick.you = t.you ∧ t.tick.up = false) ∨
    (t.up = true ∧ t.sil + 1 < 64 ∧ t.tick.me = t.me ∧ t.tick.you = t.you ∧ t.tick.up = true ∧ t.tick.sil = t.sil + 1 ∧ ((t.ticks + 1) % 8 = 0 → hel1 t.you t.me ∈ t.tick.out) ∧ t.tick.way = older t.way ∧ ∀ x ∈ t.way, (x.2.2 + 1) % 4 = 0 → (putF ⟨2, t.me, t.you, x.1, 0, 0, x.2.1⟩).1 ∈ t.tick.out)) := by
  have ht := hl.ticks
  have hs := hi.sil
  have e : wr (t.ticks + 1) = t.ticks + 1 := by rw [wr, IntKind.wrap_i64]; omega
  have es : wr (t.sil + 1) = t.sil + 1 := by rw [wr, IntKind.wrap_i64]; omega
  have em : ∀ n : Int, Int.tmod (t.ticks + 1) n = (t.ticks + 1) % n := fun n => Int.tmod_eq_emod_of_nonneg (by omega)
  have hme := hi.me
  unfold Tn.tick
  dsimp only
  rw [e, es, em]
  split
  · rename_i hu
    split
    · rename_i hc
      exact ⟨rfl, .inl ⟨hu, rfl, rfl, hu, fun _ _ => List.mem_append_right _ (List.mem_singleton.2 rfl)⟩⟩
    · rename_i hc
      exact ⟨rfl, .inl ⟨hu, rfl, rfl, hu, fun h1 h2 => absurd ⟨h1, h2⟩ hc⟩⟩
  · rename_i hu0
    have hu : t.up = true := by simpa using hu0
    split
    · rename_i h64
      have h64 : 64 ≤ t.sil + 1 := h64
      refine ⟨rfl, .inr (.inl ⟨hu, h64, ?_, rfl, rfl⟩)⟩
      show min (wr (t.me + 1)) 1099511627776 = t.me + 1
      have e : wr (t.me + 1) = t.me + 1 := by rw [wr, IntKind.wrap_i64]; omega
      rw [e]; omega
    · rename_i h64
      have h64 : ¬64 ≤ t.sil + 1 := h64
      unfold Tn.tickUp
      dsimp only
      rw [em]
      have h3 : (if (t.ticks + 1) % 8 = 0 then ({ t with ticks := t.ticks + 1, sil := t.sil + 1 } : Tn).say (hel t.you) else { t with ticks := t.ticks + 1, sil := t.sil + 1 }).me = t.me ∧ (if (t.ticks + 1) % 8 = 0 then ({ t with ticks := t.ticks + 1, sil := t.sil + 1 } : Tn).say (hel t.you) else { t with ticks := t.ticks + 1, sil := t.sil + 1 }).you = t.you ∧
          (if (t.ticks + 1) % 8 = 0 then ({ t with ticks := t.ticks + 1, sil := t.sil + 1 } : Tn).say (hel t.you) else { t with ticks := t.ticks + 1, sil := t.sil + 1 }).up = true ∧ (if (t.ticks + 1) % 8 = 0 then ({ t with ticks := t.ticks + 1, sil := t.sil + 1 } : Tn).say (hel t.you) else { t with ticks := t.ticks + 1, sil := t.sil + 1 }).sil = t.sil + 1 ∧
          (if (t.ticks + 1) % 8 = 0 then ({ t with ticks := t.ticks + 1, sil := t.sil + 1 } : Tn).say (hel t.you) else { t with ticks := t.ticks + 1, sil := t.sil + 1 }).ticks = t.ticks + 1 ∧ ((t.ticks + 1) % 8 = 0 → hel1 t.you t.me ∈ (if (t.ticks + 1) % 8 = 0 then ({ t with ticks := t.ticks + 1, sil := t.sil + 1 } : Tn).say (hel t.you) else { t with ticks := t.ticks + 1, sil := t.sil + 1 }).out) := by
        split
        · exact ⟨rfl, rfl, hu, rfl, rfl, fun _ => List.mem_append_right _ (List.mem_singleton.2 rfl)⟩
        · rename_i h8
          exact ⟨rfl, rfl, hu, rfl, rfl, fun h => absurd h h8⟩
      generalize (if (t.ticks + 1) % 8 = 0 then ({ t with ticks := t.ticks + 1, sil := t.sil + 1 } : Tn).say (hel t.you) else { t with ticks := t.ticks + 1, sil := t.sil + 1 }) = t3 at *
      obtain ⟨g1, g2, g3, g4, g5, g6⟩ := h3
      have hsay := age_says t.way t3
      obtain ⟨o, ho⟩ := ageF_eq t.way t3
      rw [ho] at hsay ⊢
      refine ⟨g5, .inr (.inr ⟨hu, by omega, g1, g2, g3, g4, fun h8 => List.mem_append_left _ (g6 h8), rfl, fun x hx h4 => ?_⟩)⟩
      have ha := hl.age x hx
      have e2 : wr (x.2.2 + 1) = x.2.2 + 1 := by rw [wr, IntKind.wrap_i64]; omega
      have := hsay x hx (by rw [e2, Int.tmod_eq_emod_of_nonneg (by omega)]; exact h4)
      rw [g1, g2] at this
      exact this
end
/-- What a round begins with. -/
structure Stt (h : Bool) (p q : Pr) : Prop where
  t : ∀ r, q.t r = (p.t r).tick.clear
  mem : ∀ r, ∀ d ∈ (p.t (!r)).tick.out, d ∈ q.bag r
  hint : h = true → hel1 (p.t true).me (p.t false).me ∈ q.bag true
  cnt : cnt q ≤ 200
theorem start_gi {p : Pr} {k : Nat} (h : Bool) (hg : GI p k) (hk : k ≤ 100000000) : ∃ j, j ≤ 3 ∧ GI (start h p) (k + j) := by
  unfold start
  cases h
  · exact ⟨2, by omega, (((hg.does (by omega) (tickA false)).2).does (by omega) (tickA true)).2⟩
  · exact ⟨3, by omega, ((((hg.does (by omega) hintA).2).does (by omega) (tickA false)).2.does (by omega) (tickA true)).2⟩
theorem start_ok {p : Pr} {k : Nat} (h : Bool) (hg : GI p k) (hq : ∀ r, p.bag r = []) : Stt h p (start h p) := by
  have ho := hg.ps.out
  -- behind the hint
  have h1 : ∃ p1, (if h then (p.does hintA).1 else p) = p1 ∧ (∀ r, p1.t r = p.t r) ∧ p1.bag false = [] ∧ (p1.bag true).length ≤ 1 ∧ (h = true → hel1 (p.t true).me (p.t false).me ∈ p1.bag true) := by
    cases h
    · exact ⟨p, rfl, fun _ => rfl, hq _, by rw [hq]; exact Nat.zero_le _, fun e => (by cases e)⟩
    · have hm := (hg.ps.pi.ti true).inv.me
      have ha : (p.act hintA).1 = { p with t := setB p.t false ((p.t false).hint (p.t true).me) } := rfl
      obtain ⟨a1, a2, a3, a4⟩ := does_one ho ha
      have eh : (p.t false).hint (p.t true).me = (p.t false).say (hel (p.t true).me) := if_pos hm
      rw [eh] at a1 a4
      refine ⟨_, rfl, fun r => ?_, by rw [if_pos rfl, a3, hq], ?_, fun _ => ?_⟩
      · rw [if_pos rfl]
        cases r
        · rw [a1]
          show ((p.t false).say (hel (p.t true).me)).clear = p.t false
          rw [← clear_eq (ho false)]; rfl
        · exact a2
      · rw [if_pos rfl]
        show ((p.does hintA).1.bag (!false)).length ≤ 1
        rw [a4, hq]
        show (pour [] ((p.t false).out ++ [_])).length ≤ 1
        rw [ho]; simp [pour]
      · rw [if_pos rfl]
        show _ ∈ (p.does hintA).1.bag (!false)
        rw [a4, hq]
        show _ ∈ pour [] ((p.t false).out ++ [_])
        rw [ho]
        exact List.mem_singleton.2 rfl
  obtain ⟨p1, e1, b1, b2, b3, b4⟩ := h1
  unfold start
  rw [e1]
  have ho1 : ∀ r, (p1.t r).out = [] := fun r => by rw [b1]; exact ho r
  obtain ⟨c1, c2, c3, c4⟩ := does_one (a := tickA false) (s := false) (t' := (p1.t false).tick) ho1 rfl
  have ho2 : ∀ r, ((p1.does (tickA false)).1.t r).out = [] := fun _ => rfl
  obtain ⟨d1, d2, d3, d4⟩ := does_one (a := tickA true) (s := true) (t' := ((p1.does (tickA false)).1.t true).tick) ho2 rfl
  have e2 : (p1.does (tickA false)).1.t true = p.t true := by
    have := c2
    rw [b1] at this
    exact this
  rw [e2] at d1 d4
  rw [b1] at c1 c4
  have r0 := (hg.ps.pi.ti false).inv.room
  have r1 := (hg.ps.pi.ti true).inv.room
  have n0 := tick_cnt (t := p.t false)
  have n1 := tick_cnt (t := p.t true)
  rw [ho] at n0 n1
  simp only [List.length_nil, Nat.zero_add] at n0 n1
  have c3 : (p1.does (tickA false)).1.bag false = [] := by rw [c3, b2]
  have c4 : (p1.does (tickA false)).1.bag true = p1.bag true ++ (p.t false).tick.out := by
    rw [← pour_all (by omega)]; exact c4
  have d3 : ((p1.does (tickA false)).1.does (tickA true)).1.bag true = p1.bag true ++ (p.t false).tick.out := by rw [d3, c4]
  have d4 : ((p1.does (tickA false)).1.does (tickA true)).1.bag false = (p.t true).tick.out := by
    have h5 : ((p1.does (tickA false)).1.does (tickA true)).1.bag false = pour ((p1.does (tickA false)).1.bag false) (p.t true).tick.out := d4
    rw [h5, c3, pour_all (by simp; omega)]; rfl
  have d2 : ((p1.does (tickA false)).1.does (tickA true)).1.t false = (p.t false).tick.clear := by
    have h5 : ((p1.does (tickA false)).1.does (tickA true)).1.t false = (p1.does (tickA false)).1.t false := d2
    rw [h5, c1]
  refine ⟨fun r => ?_, fun r d hd => ?_, fun hh => ?_, ?_⟩
  · cases r
    · exact d2
    · exact d1
  · cases r
    · rw [d4]; exact hd
    · rw [d3]; exact List.mem_append_right _ hd
  · rw [d3]; exact List.mem_append_left _ (b4 hh)
  · unfold cnt
    rw [d1, d2, d3, d4, List.length_append]
    show (p.t true).tick.out.length + ((p1.bag true).length + (p.t false).tick.out.length) + (p.t false).tick.queue.length + (p.t true).tick.queue.length ≤ 200
    omega
end Go.Fl
