/- Layer 10: a record and a note in memory. No program is named here. -/
import Derived.Test.YtkojpppnjloikaaDoorFlSha
namespace Go.Fl

abbrev RecT := Int × Int × {l : List Value // l.length = 32} × Sl × Unit
abbrev slV (s : Sl) : Value := .slice s.a s.n s.c
/-- A record's cells, ahead of others. -/
def rcL (p : RecT) (post : List Value) : List Value := .int .i64 p.1 :: .int .i64 p.2.1 :: (p.2.2.1.1 ++ (slV p.2.2.2.1 :: post))
theorem rcL_nil (p : RecT) : (([.int .i64 p.1, .int .i64 p.2.1] : List Value) ++ (p.2.2.1.1 ++ ([.slice p.2.2.2.1.a p.2.2.2.1.n p.2.2.2.1.c] : List Value))) = rcL p [] := rfl
theorem rcL_length (p : RecT) (post : List Value) : (rcL p post).length = 35 + post.length := by
  simp only [rcL, List.length_cons, List.length_append, p.2.2.1.2]; omega
/-- A row is stored, from a place on. -/
theorem stL_at {g o : Nat} {t : TypeId} : ∀ {vs : List Value} {cs : List Value} {i : Nat} {w : World} {K : World → Prop}, w.heap[g]? = some (.cells cs.toArray t (0, 0)) → o + i + vs.length ≤ cs.length → (∀ v ∈ vs, v.oneCell' = true) →
    (∀ w', w'.heap[g]? = some (.cells (cs.take (o + i) ++ vs ++ cs.drop (o + i + vs.length)).toArray t (0, 0)) → w.grownBy w' (some g) → w'.heap.size = w.heap.size → K w') → stL ⟨g, o, none⟩ w i vs K
  | [], cs, i, w, K, h, _, _, hk => by
    refine hk w ?_ (World.grownBy.refl _ _) rfl
    simpa using h
  | v :: vs, cs, i, w, K, h, hi, h1, hk => by
    simp only [List.length_cons] at hi
    refine ⟨h1 v (by simp), ?_⟩
    rw [addOff]
    refine st0 h (by simp; omega) fun w' hb hg hs => ?_
    refine stL_at (cs := cs.set (o + i) v) (i := i + 1) (by simpa using hb) (by simp; omega) (fun u hu => h1 u (by simp [hu])) fun w2 hb2 hg2 hs2 => hk w2 ?_ (hg.trans hg2) (hs2.trans hs)
    have e : (cs.set (o + i) v).take (o + (i + 1)) ++ vs ++ (cs.set (o + i) v).drop (o + (i + 1) + vs.length) = cs.take (o + i) ++ (v :: vs) ++ cs.drop (o + i + (v :: vs).length) := by
      rw [← Nat.add_assoc o i 1, List.take_set, List.drop_set_of_lt (by omega), List.take_succ_eq_append_getElem (by omega), List.set_append_right _ _ (by simp; omega), List.length_take, List.length_cons, Nat.min_eq_left (by omega), Nat.sub_self]
      simp [Nat.add_assoc, Nat.add_comm 1]
    rw [hb2, e]
theorem set_mid (pre rest : List Value) (x v : Value) : (pre ++ x :: rest).set pre.length v = pre ++ v :: rest := by
  rw [List.set_append_right _ _ (Nat.le_refl _), Nat.sub_self, List.set_cons_zero]
theorem mid3 (A R R' X : List Value) {o m : Nat} (ho : A.length = o) (hm : R.length = m) (hR : R'.length = m) : (A ++ (R' ++ X)).take o ++ R ++ (A ++ (R' ++ X)).drop (o + m) = A ++ R ++ X := by
  subst ho hm
  rw [List.take_left' rfl, ← hR, List.drop_append, List.drop_eq_nil_of_le (by omega), Nat.add_sub_cancel_left, List.drop_left' rfl]
  simp
/-- A record is stored into a block. -/
theorem stRec {w : World} {g : Nat} {pre post : List Value} {q : RecT} {t : TypeId} (hg : w.heap[g]? = some (.cells (pre ++ rcL q post).toArray t (0, 0))) (p : RecT) (hone : ∀ v ∈ p.2.2.1.1, v.oneCell' = true) {K : World → Prop}
    (hk : ∀ w', w'.heap[g]? = some (.cells (pre ++ rcL p post).toArray t (0, 0)) → w.grownBy w' (some g) → w'.heap.size = w.heap.size → K w') :
    st1 w ⟨g, pre.length, none⟩ (.int .i64 p.1) fun w1 => st1 w1 ((⟨g, pre.length, none⟩ : Addr).add 1) (.int .i64 p.2.1) fun w2 => stL (((⟨g, pre.length, none⟩ : Addr).add 1).add 1) w2 0 p.2.2.1.1 fun w3 => st1 w3 ((((⟨g, pre.length, none⟩ : Addr).add 1).add 1).add 32) (.slice p.2.2.2.1.a p.2.2.2.1.n p.2.2.2.1.c) K := by
  have hp := p.2.2.1.2
  have hq := q.2.2.1.2
  refine st0 hg (by simp [rcL]) fun w1 h1 g1 s1 => ?_
  rw [List.setIfInBounds_toArray, rcL, set_mid] at h1
  rw [addOff]
  refine st0 h1 (by simp) fun w2 h2 g2 s2 => ?_
  have e2 : (pre ++ .int .i64 p.1 :: .int .i64 q.2.1 :: (q.2.2.1.1 ++ (slV q.2.2.2.1 :: post))) = (pre ++ [.int .i64 p.1]) ++ .int .i64 q.2.1 :: (q.2.2.1.1 ++ (slV q.2.2.2.1 :: post)) := by simp
  rw [List.setIfInBounds_toArray, e2, show pre.length + 1 = (pre ++ [Value.int .i64 p.1]).length from by simp, set_mid] at h2
  rw [addOff, show pre.length + 1 + 1 = pre.length + 2 from rfl]
  refine stL_at h2 (by simp [hp, hq]; omega) hone fun w3 h3 g3 s3 => ?_
  have e3 : ((pre ++ [Value.int .i64 p.1]) ++ .int .i64 p.2.1 :: (q.2.2.1.1 ++ (slV q.2.2.2.1 :: post))).take (pre.length + 2 + 0) ++ p.2.2.1.1 ++ ((pre ++ [Value.int .i64 p.1]) ++ .int .i64 p.2.1 :: (q.2.2.1.1 ++ (slV q.2.2.2.1 :: post))).drop (pre.length + 2 + 0 + p.2.2.1.1.length) =
      (pre ++ [Value.int .i64 p.1, .int .i64 p.2.1] ++ p.2.2.1.1) ++ slV q.2.2.2.1 :: post := by
    have e : ((pre ++ [Value.int .i64 p.1]) ++ .int .i64 p.2.1 :: (q.2.2.1.1 ++ (slV q.2.2.2.1 :: post))) = (pre ++ [Value.int .i64 p.1, .int .i64 p.2.1]) ++ (q.2.2.1.1 ++ (slV q.2.2.2.1 :: post)) := by simp
    rw [e, Nat.add_zero]
    exact (mid3 _ _ _ _ (by simp) rfl (hq.trans hp.symm)).trans (by simp)
  rw [e3] at h3
  rw [addOff]
  refine st0 h3 (by simp [hp]; omega) fun w4 h4 g4 s4 => hk w4 ?_ (((g1.trans g2).trans g3).trans g4) (by omega)
  rw [List.setIfInBounds_toArray, show pre.length + 2 + 32 = (pre ++ [Value.int .i64 p.1, .int .i64 p.2.1] ++ p.2.2.1.1).length from by simp [hp], set_mid] at h4
  rw [h4]
  simp [rcL]
/-- A record's kind and data are written. -/
theorem stKD {w : World} {g : Nat} {p : RecT} {t : TypeId} {k : Int} {s : Sl} {K : World → Prop} (hg : w.heap[g]? = some (.cells (rcL p []).toArray t (0, 0)))
    (hk : ∀ w', w'.heap[g]? = some (.cells (rcL (k, p.2.1, p.2.2.1, s, ()) []).toArray t (0, 0)) → w.grownBy w' (some g) → w'.heap.size = w.heap.size → K w') :
    st1 w ⟨g, 0, none⟩ (.int .i64 k) fun w1 => st1 w1 ((⟨g, 0, none⟩ : Addr).add 34) (.slice s.a s.n s.c) K := by
  have hp := p.2.2.1.2
  refine st0 hg (by simp [rcL]) fun w1 h1 g1 s1 => ?_
  rw [addOff]
  have e1 : (rcL p []).toArray.setIfInBounds 0 (.int .i64 k) = ((Value.int .i64 k :: .int .i64 p.2.1 :: p.2.2.1.1) ++ (slV p.2.2.2.1 :: [])).toArray := by
    rw [List.setIfInBounds_toArray]; simp [rcL]
  rw [e1] at h1
  refine st0 h1 (by simp [hp]) fun w2 h2 g2 s2 => hk w2 ?_ (g1.trans g2) (by omega)
  rw [List.setIfInBounds_toArray, show 0 + 34 = (Value.int .i64 k :: .int .i64 p.2.1 :: p.2.2.1.1).length from by simp [hp], set_mid] at h2
  rw [h2]
  simp [rcL]
/-- A record is read. -/
theorem ldRec {w : World} {g : Nat} {pre post : List Value} {p : RecT} {t : TypeId} {f : Nat × Nat} (hg : w.heap[g]? = some (.cells (pre ++ rcL p post).toArray t f)) {K : RecT → Prop} (hk : K p) :
    ld (.pair (.I .i64) (.pair (.I .i64) (.pair (.row 32) (.pair .L .nil)))) w ⟨g, pre.length, none⟩ K := by
  obtain ⟨k, s, r, sl, ⟨⟩⟩ := p
  have hr := r.2
  refine ⟨k, ?_, s, ?_, ?_⟩
  · rw [cell_of_row w g _ _ t f hg]; simp [rcL]
  · show w.cell? ((⟨g, pre.length, none⟩ : Addr).add 1) = _
    rw [addOff, cell_of_row w g _ _ t f hg]; simp [rcL]
  · show ld (.row 32) w (((⟨g, pre.length, none⟩ : Addr).add 1).add 1) _
    rw [addOff, addOff]
    refine ldRow (vs := r.1) hg ?_ hr ?_
    · have e : pre ++ rcL (k, s, r, sl, ()) post = (pre ++ [.int .i64 k, .int .i64 s]) ++ (r.1 ++ (slV sl :: post)) := by simp [rcL]
      rw [e, List.drop_left' (by simp), List.take_left' hr]
    · refine ⟨sl, ?_, hk⟩
      show w.cell? (Addr.add ⟨g, pre.length + 1 + 1, none⟩ 32) = _
      rw [addOff, cell_of_row w g _ _ t f hg]
      have e : pre ++ rcL (k, s, r, sl, ()) post = (pre ++ [.int .i64 k, .int .i64 s] ++ r.1) ++ (slV sl :: post) := by simp [rcL]
      have hl : (pre ++ [Value.int .i64 k, .int .i64 s] ++ r.1).length = pre.length + 1 + 1 + 32 := by simp [hr]
      rw [show (pre ++ rcL (k, s, r, sl, PUnit.unit) post) = (pre ++ [.int .i64 k, .int .i64 s] ++ r.1) ++ (slV sl :: post) from e, List.getElem?_toArray, List.getElem?_append_right (by omega), hl, Nat.sub_self]
      rfl
end Go.Fl
