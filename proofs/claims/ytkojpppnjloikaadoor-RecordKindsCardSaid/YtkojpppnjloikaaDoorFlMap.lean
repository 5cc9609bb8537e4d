/- Maps: a map's block as a function from keys to values; keys are rows of bytes, or integers. No program is named here. -/
import Derived.Test.YtkojpppnjloikaaDoorFlMem
import Derived.Stop.BytesEq
import Derived.MapKept
namespace Go.Fl
open Go.RowKit

/-- What is asked of a type of keys. -/
structure KeyM (P : Program) (kt : TypeId) {κ : Type} (key : κ → Value) : Prop where
  inj : ∀ a b, key a = key b → a = b
  check : ∀ em w k, (Instr.checkKey em 10000 kt (key k)).run P w = .ok () w
  find : ∀ w k (es : List MapEntry), (∀ e ∈ es, ∃ k', e.key = key k') →
    ((Instr.findKey kt (key k) es).run P w = .ok none w ∧ ∀ e ∈ es, e.key ≠ key k) ∨ ∃ j e, (Instr.findKey kt (key k) es).run P w = .ok (some (j, e.val)) w ∧ es[j]? = some e ∧ e.key = key k
  same : ∀ k, Instr.sameBits 10000 (key k) (key k) = true

theorem findAsking_of {P : Program} {kt : TypeId} {κ : Type} {key : κ → Value} (w : World) (heq : ∀ a b, ∃ r : Bool, (Op.equal kt (key a) (key b)).run P w = .ok r w ∧ (r = true ↔ a = b)) (k : κ) :
    ∀ (es : List MapEntry) (i : Nat), (∀ e ∈ es, ∃ k', e.key = key k') →
      ((Instr.findAsking kt (key k) es i).run P w = .ok none w ∧ ∀ e ∈ es, ∀ k', e.key = key k' → k ≠ k') ∨
      ∃ j e, (Instr.findAsking kt (key k) es i).run P w = .ok (some (i + j, e.val)) w ∧ es[j]? = some e ∧ e.key = key k
  | [], i, _ => Or.inl ⟨by simp [Instr.findAsking], by simp⟩
  | e :: es, i, hall => by
    obtain ⟨k', hk'⟩ := hall e (by simp)
    obtain ⟨r, hr, hiff⟩ := heq k k'
    rw [← hk'] at hr
    cases r
    · rcases findAsking_of w heq k es (i + 1) (fun y hy => hall y (by simp [hy])) with ⟨h1, h2⟩ | ⟨j, e', h1, h2, h3⟩
      · left
        refine ⟨by simp [Instr.findAsking, hr, h1], fun y hy k2 hk2 he => ?_⟩
        rcases List.mem_cons.1 hy with rfl | hy
        · obtain ⟨r2, hr2, hiff2⟩ := heq k k2
          rw [hk2, hr2] at hr
          cases hr
          exact absurd (hiff2.2 he) (by decide)
        · exact h2 y hy k2 hk2 he
      · right
        exact ⟨j + 1, e', by simp [Instr.findAsking, hr, h1, Nat.add_assoc, Nat.add_comm 1 j], by simpa using h2, h3⟩
    · right
      exact ⟨0, e, by simp [Instr.findAsking, hr], rfl, by rw [hk', hiff.1 rfl]⟩

/-- Rows of bytes as keys. -/
def keyB {n : Nat} (l : {l : List UInt8 // l.length = n}) : Value := .agg (u8s l.1).toArray
theorem u8s_inj : ∀ {a b : List UInt8}, u8s a = u8s b → a = b
  | [], [], _ => rfl
  | [], _ :: _, h => by simp [u8s] at h
  | _ :: _, [], h => by simp [u8s] at h
  | x :: a, y :: b, h => by
    simp only [u8s, List.map_cons, List.cons.injEq, Value.int.injEq, true_and] at h
    have := u8s_inj (a := a) (b := b) h.2
    have e : x = y := UInt8.toNat_inj.1 (by omega)
    rw [this, e]
theorem sameBits_u8s (n : Nat) : ∀ l : List UInt8, ((u8s l).zip (u8s l)).all (fun (x, y) => Instr.sameBits n x y) = true
  | [] => rfl
  | x :: l => by
    have := sameBits_u8s n l
    simp only [u8s, List.map_cons, List.zip_cons_cons, List.all_cons, Bool.and_eq_true] at this ⊢
    exact ⟨by cases n <;> simp [Instr.sameBits], this⟩
theorem run_checkKey_bytes {P : Program} (em : Bool) (d : Nat) (t e : TypeId) (n : Nat) (ht : P.underlying t = some (.array n e)) (he : P.underlying e = some (.int .u8)) (hsz : ∀ w, (sizeOf e).run P w = .ok 1 w) (xs : List UInt8) (hx : xs.length = n) (w : World) :
    (Instr.checkKey em (d + 2) t (.agg (u8s xs).toArray)).run P w = .ok () w := by
  rw [Instr.checkKey]
  simp only [Sem.run_bind, run_underlying ht, Result.andThen_ok, Std.Legacy.Range.forIn_eq_forIn_range', Std.Legacy.Range.size, Nat.sub_zero, Nat.add_sub_cancel, Nat.div_one]
  have hl : ∀ i ∈ List.range' 0 n 1, i < n := fun i hi => by simpa using (List.mem_range'_1.1 hi).2
  generalize List.range' 0 n 1 = l at hl ⊢
  induction l with
  | nil => simp
  | cons i l ih =>
    have hi : i < n := hl i (by simp)
    have px : (part e (u8s xs).toArray (i * 1)).run P w = .ok (.int .u8 (xs.getD i 0).toNat) w := by
      simp [part, isAgg, run_underlying he, u8s, List.getD, List.getElem?_eq_getElem (show i < xs.length by omega)]
    have pc : (Instr.checkKey em (d + 1) e (.int .u8 (xs.getD i 0).toNat)).run P w = .ok () w := by
      rw [Instr.checkKey]
      simp [run_underlying he]
    simp only [List.forIn_cons, Sem.run_bind, hsz, px, pc, Result.andThen_ok, Sem.run_pure] at ih ⊢
    exact ih fun j hj => hl j (by simp [hj])
theorem keyM_bytes {P : Program} {t e : TypeId} {n : Nat} (ht : P.underlying t = some (.array n e)) (he : P.underlying e = some (.int .u8)) (hsz : ∀ w, (sizeOf e).run P w = .ok 1 w) : KeyM P t (keyB (n := n)) where
  inj a b h := by
    unfold keyB at h
    rw [Value.agg.injEq] at h
    exact Subtype.ext (u8s_inj (by simpa using h))
  check em w k := run_checkKey_bytes em 9998 t e n ht he hsz k.1 k.2 w
  find w k es hes := by
    have heq : ∀ a b : {l : List UInt8 // l.length = n}, ∃ r : Bool, (Op.equal t (keyB a) (keyB b)).run P w = .ok r w ∧ (r = true ↔ a = b) := fun a b =>
      ⟨a.1 == b.1, run_equalIn_bytes w 9998 t e n ht he hsz a.1 b.1 a.2 b.2, by rw [beq_iff_eq]; exact Subtype.ext_iff.symm⟩
    have hfind : (Instr.findKey t (keyB k) es).run P w = (Instr.findAsking t (keyB k) es 0).run P w := by
      cases es with
      | nil => simp [Instr.findKey, run_underlying ht, Instr.findNow, Instr.findAsking]
      | cons x es => simp [Instr.findKey, run_underlying ht, Instr.findNow, Instr.sameNow]
    rw [hfind]
    rcases findAsking_of w heq k es 0 hes with ⟨h1, h2⟩ | ⟨j, x, h1, h2, h3⟩
    · exact .inl ⟨h1, fun x hx h => h2 x hx k h rfl⟩
    · exact .inr ⟨j, x, by simpa using h1, h2, h3⟩
  same k := by
    unfold keyB
    simp only [Instr.sameBits, BEq.rfl, Bool.true_and]
    exact sameBits_u8s _ _
/-- Integers as keys. -/
theorem keyM_int {P : Program} {t : TypeId} {q : IntKind} (ht : P.underlying t = some (.int q)) : KeyM P t (Value.int q) where
  inj a b h := by injection h
  check em w k := by rw [Instr.checkKey]; simp [run_underlying ht]
  find w k es hes := by
    have key : ∀ (es : List MapEntry) (i : Nat), (∀ e ∈ es, ∃ k', e.key = Value.int q k') →
        (Instr.findNow (.int q) (.int q k) es i = some none ∧ ∀ e ∈ es, e.key ≠ .int q k) ∨ ∃ j e, Instr.findNow (.int q) (.int q k) es i = some (some (i + j, e.val)) ∧ es[j]? = some e ∧ e.key = .int q k := by
      intro es
      induction es with
      | nil => exact fun i _ => .inl ⟨rfl, by simp⟩
      | cons e es ih =>
        intro i hall
        obtain ⟨k', hk'⟩ := hall e (by simp)
        by_cases h : k = k'
        · exact .inr ⟨0, e, by simp [Instr.findNow, Instr.sameNow, hk', h], rfl, by rw [hk', h]⟩
        · have hb : (k == k') = false := by simpa using h
          rcases ih (i + 1) (fun y hy => hall y (by simp [hy])) with ⟨h1, h2⟩ | ⟨j, e', h1, h2, h3⟩
          · refine .inl ⟨by simp only [Instr.findNow, Instr.sameNow, hk', if_true, hb]; exact h1, fun y hy => ?_⟩
            rcases List.mem_cons.1 hy with rfl | hy
            · rw [hk']; intro e; injection e with _ e; exact h e.symm
            · exact h2 y hy
          · exact .inr ⟨j + 1, e', by simp only [Instr.findNow, Instr.sameNow, hk', if_true, hb]; rw [h1]; simp [Nat.add_assoc, Nat.add_comm 1 j], by simpa using h2, h3⟩
    rcases key es 0 hes with ⟨h1, h2⟩ | ⟨j, x, h1, h2, h3⟩
    · exact .inl ⟨by simp [Instr.findKey, run_underlying ht, h1], h2⟩
    · exact .inr ⟨j, x, by simp [Instr.findKey, run_underlying ht, h1], h2, h3⟩
  same k := by simp [Instr.sameBits]

/-- A map's block, as a function. -/
structure MapF {κ : Type} (key : κ → Value) (w : World) (r : Nat) (f : κ → Option Value) : Prop where
  mk ::
  ex : ∃ es clock, w.heap[r]? = some (.map es clock) ∧ (∀ e ∈ es.toList, ∃ k, e.key = key k ∧ f k = some e.val) ∧ (es.toList.map (·.key)).Nodup ∧ ∀ k v, f k = some v → ∃ e ∈ es.toList, e.key = key k ∧ e.val = v
section
variable {κ : Type} {key : κ → Value} {w : World} {r : Nat} {f : κ → Option Value} {P : Program} {t kt et : TypeId}
theorem MapF.sub {w' : World} (h : MapF key w r f) (hb : w'.heap[r]? = w.heap[r]?) : MapF key w' r f := by
  obtain ⟨es, clock, h1, h2⟩ := h.ex
  exact ⟨es, clock, hb.trans h1, h2⟩
theorem MapF.lt (h : MapF key w r f) : r < w.heap.size := by
  obtain ⟨es, clock, h1, _⟩ := h.ex
  exact (Array.getElem?_eq_some_iff.1 h1).1
theorem MapF.new (w : World) (key : κ → Value) : MapF key (w.alloc (.map #[] 0)) w.heap.size (fun _ => none) :=
  ⟨#[], 0, heap_alloc_new w _, by simp, by simp, by simp⟩
theorem run_lookM (K : KeyM P kt key) (ht : P.underlying t = some (.map kt et)) {z : Value} (hz : ∀ w, (zeroValue et).run P w = .ok z w) (h : MapF key w r f) (k : κ) (ok : Bool) :
    (Instr.lookup t (.map (some r)) (key k) ok).run P w = .ok (if ok then .tuple #[(f k).getD z, .bool (f k).isSome] else (f k).getD z) w := by
  obtain ⟨es, clock, h1, h2, h3, h4⟩ := h.ex
  rcases K.find w k es.toList (fun e he => (h2 e he).imp fun k h => h.1) with ⟨hf, hn⟩ | ⟨j, e, hf, hj, hk⟩
  · have hfk : f k = none := by
      cases hfk : f k with
      | none => rfl
      | some v =>
        obtain ⟨e, he, hek, _⟩ := h4 k v hfk
        exact absurd hek (hn e he)
    cases ok <;> simp [Instr.lookup, run_underlying ht, Go.MapKept.run_getObj_map h1, K.check, hf, hz, hfk]
  · have hfk : f k = some e.val := by
      obtain ⟨k', hk', hv⟩ := h2 e (List.mem_of_getElem? hj)
      rw [hk] at hk'
      rw [K.inj _ _ hk']; exact hv
    cases ok <;> simp [Instr.lookup, run_underlying ht, Go.MapKept.run_getObj_map h1, K.check, hf, hfk]
/-- A key is looked up. -/
theorem qnM (K : KeyM P kt key) (ht : P.underlying t = some (.map kt et)) {z : Value} (hz : ∀ w, (zeroValue et).run P w = .ok z w) (h : MapF key w r f) (k : κ) {ok : Bool} {kd : Kd} {Q : kd.T → Prop} (x : kd.T)
    (hx : (kd.av x).val = if ok then .tuple #[(f k).getD z, .bool (f k).isSome] else (f k).getD z) (hQ : Q x) : qn P (Instr.lookup t (.map (some r)) (key k) ok) kd w Q :=
  ⟨x, fun w' hw' => by rw [hx]; exact run_lookM K ht hz (h.sub (hw' r h.lt)) k ok, hQ⟩
/-- A key is put. -/
theorem ruM [DecidableEq κ] (K : KeyM P kt key) (ht : P.underlying t = some (.map kt et)) (h : MapF key w r f) (k : κ) (v : Value) {Q : World → Prop}
    (hQ : ∀ w', MapF key w' r (fun k' => if k' = k then some v else f k') → w.grownBy w' (some r) → w'.heap.size = w.heap.size → Q w') : ru P (Instr.mapUpdate t (.map (some r)) (key k) v) w Q := by
  obtain ⟨es, clock, h1, h2, h3, h4⟩ := h.ex
  have hr := h.lt
  have hgrow : ∀ o : Obj, w.grownBy { w with heap := w.heap.setIfInBounds r o } (some r) := fun o =>
    ⟨rfl, rfl, rfl, by simp, fun k _ hk => by
      have : r ≠ k := fun e => hk (by rw [e])
      simp [this]⟩
  rcases K.find w k es.toList (fun e he => (h2 e he).imp fun k h => h.1) with ⟨hf, hn⟩ | ⟨j, e, hf, hj, hk⟩
  · refine ⟨{ w with heap := w.heap.setIfInBounds r (.map (es.push { key := key k, val := v, born := clock }) (clock + 1)) }, ?_, hQ _ ⟨es.push { key := key k, val := v, born := clock }, clock + 1, ?_, ?_, ?_, ?_⟩ (hgrow _) (by simp)⟩
    · simp [Instr.mapUpdate, run_underlying ht, Go.MapKept.run_getObj_map h1, K.check, hf, Go.MapKept.run_setObj_map _ h1]
    · simp [hr]
    · intro x hx
      rw [Array.toList_push, List.mem_append, List.mem_singleton] at hx
      rcases hx with hx | rfl
      · obtain ⟨k', hk', hv⟩ := h2 x hx
        refine ⟨k', hk', ?_⟩
        rw [if_neg fun e => hn x hx (by rw [hk', e])]; exact hv
      · exact ⟨k, rfl, if_pos rfl⟩
    · rw [Array.toList_push, List.map_append, List.nodup_append]
      refine ⟨h3, by simp, ?_⟩
      intro a ha b hb
      simp only [List.map_cons, List.map_nil, List.mem_singleton] at hb
      obtain ⟨x, hx, rfl⟩ := List.mem_map.1 ha
      rw [hb]; exact hn x hx
    · intro k' v' hv'
      rw [Array.toList_push]
      by_cases e : k' = k
      · rw [if_pos e] at hv'
        exact ⟨_, List.mem_append_right _ (List.mem_singleton.2 rfl), by rw [e], Option.some.inj hv'⟩
      · rw [if_neg e] at hv'
        obtain ⟨x, hx, h5⟩ := h4 k' v' hv'
        exact ⟨x, List.mem_append_left _ hx, h5⟩
  · have hjl : j < es.toList.length := (List.getElem?_eq_some_iff.1 hj).1
    have hjs : j < es.size := by simpa using hjl
    have hj' : es[j]? = some e := by simpa using hj
    refine ⟨{ w with heap := w.heap.setIfInBounds r (.map (es.modify j fun x => { x with key := key k, val := v }) clock) }, ?_, hQ _ ⟨es.modify j fun x => { x with key := key k, val := v }, clock, ?_, ?_, ?_, ?_⟩ (hgrow _) (by simp)⟩
    · have hs : (Instr.keyThatStays e.key (key k)).run P w = .ok (key k) w := by
        rw [hk]; simp [Instr.keyThatStays, K.same]
      simp [Instr.mapUpdate, run_underlying ht, Go.MapKept.run_getObj_map h1, K.check, hf, hj', hs, Go.MapKept.run_setObj_map _ h1]
    · simp [hr]
    all_goals rw [show (es.modify j fun x => { x with key := key k, val := v }).toList = es.toList.set j { e with key := key k, val := v } from by
      apply List.ext_getElem?
      intro i
      rw [Array.toList_modify, List.getElem?_modify, List.getElem?_set]
      by_cases h : j = i
      · subst h
        rw [hj]
        simp only [if_true]
        rw [if_pos hjl]
        rfl
      · simp [h]]
    · intro x hx
      obtain ⟨i, hi⟩ := List.mem_iff_getElem?.1 hx
      rw [List.getElem?_set] at hi
      by_cases h : j = i
      · subst h
        rw [if_pos rfl, if_pos hjl, Option.some.injEq] at hi
        subst hi
        exact ⟨k, rfl, if_pos rfl⟩
      · rw [if_neg h] at hi
        obtain ⟨k', hk', hv⟩ := h2 x (List.mem_of_getElem? hi)
        refine ⟨k', hk', ?_⟩
        rw [if_neg]
        · exact hv
        · rintro rfl
          have e1 : (es.toList.map (·.key))[i]? = some (key k') := by rw [List.getElem?_map, hi]; simp [hk']
          have e2 : (es.toList.map (·.key))[j]? = some (key k') := by rw [List.getElem?_map, hj]; simp [hk]
          have hil : i < (es.toList.map (·.key)).length := (List.getElem?_eq_some_iff.1 e1).1
          exact h (((List.getElem?_inj hil h3).1 (e1.trans e2.symm)).symm)
    · rw [List.map_set]
      have : (es.toList.map (·.key)).set j (key k) = es.toList.map (·.key) := by
        apply List.ext_getElem?
        intro i
        rw [List.getElem?_set]
        split
        · rename_i h
          subst h
          rw [List.getElem?_map, hj]
          simp [hk, hjs]
        · rfl
      rw [this]; exact h3
    · intro k' v' hv'
      by_cases hkk : k' = k
      · rw [if_pos hkk] at hv'
        exact ⟨_, List.mem_iff_getElem?.2 ⟨j, by rw [List.getElem?_set, if_pos rfl, if_pos hjl]⟩, by rw [hkk], Option.some.inj hv'⟩
      · rw [if_neg hkk] at hv'
        obtain ⟨x, hx, h5, h6⟩ := h4 k' v' hv'
        obtain ⟨i, hi⟩ := List.mem_iff_getElem?.1 hx
        refine ⟨x, List.mem_iff_getElem?.2 ⟨i, ?_⟩, h5, h6⟩
        rw [List.getElem?_set, if_neg]
        · exact hi
        · rintro rfl
          rw [hj] at hi
          cases hi
          exact hkk (K.inj _ _ (h5.symm.trans hk))
end
end Go.Fl
