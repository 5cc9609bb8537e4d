/- Contracts: slices.Grow of nothing, slices.Concat of two, bytes.HasPrefix. -/
import Derived.Test.YtaljjbanhmfilaaC1
import Derived.Test.YtaljjbanhmfilaaUn
import Derived.Test.YtaljjbanhmfilaaFlMem
import Derived.Lib.AppendZerosOnto
namespace Go.Proofs.Ytaljjbanhmfilaa
open Go.RowKit Go.Fl Go.Lib

theorem growNil {P : Program} {t tn ty e : TypeId} {kn : IntKind} (hT : SlT P t e 1 1) (htn : P.underlying tn = some (.int kn)) {w : World} {k : Nat} (h0 : 0 < k) (hk : k ≤ 140737488355328) {K : Sl → World → Prop}
    (h : ∀ (r : Sl) w', OwB w' w.heap.size e ⟨r.a, 0, r.c⟩ [] → r.a = some ⟨w.heap.size, 0, none⟩ → 0 < r.c → Fr w w' → K r w') : rn P (Builtin.append_ #[t, tn] ty #[.slice none 0 0, .int .i64 (k : Int)]) .L w K := by
  obtain ⟨i, z, hi, hz, hsize, hby, hzs⟩ := hT.info
  have hge := grownCap_ge w (0 + k) 0 e
  have hrun := run_append_grow_zeros (P := P) w t tn ty e i z .i64 kn hT.under htn hi hz none 0 0 [] (run_firstCells_none w.drew i.size 0 0 0) k h0 (by omega) (by omega) (by omega) (by rw [hby]; omega) (by
    have := nextslicecap_le (need := 0 + k) (old := 0) (by omega)
    rw [hby, Nat.mul_one]
    omega)
  refine ⟨⟨some ⟨w.heap.size, 0, none⟩, 0 + k, grownCap w (0 + k) 0 e⟩, _, hrun, h _ _ ?_ rfl (by dsimp only; omega) ?_⟩
  · have := World.ownsRow_made (e := e) (size := 1) (base := w.heap.size) w.drew ((#[] : Array Value) ++ Builtin.zeroCells z.cells k ++ Builtin.zeroCells z.cells (grownCap w (0 + k) 0 e - (0 + k))) (grownCap w (0 + k) 0 e) (Nat.le_refl _) (grownCap_le_maxLen w _ 0 e (by simp only [maxLen]; omega)) (by
      simp only [Array.size_append, size_zeroCells, hzs, Nat.mul_one, List.size_toArray, List.length_nil]
      omega)
    exact this
  · exact (show Fr w w.drew from ⟨rfl, rfl, rfl, Nat.le_refl _, fun _ _ => rfl⟩).trans (Fr.alloc _ _)
theorem elemB : Try.prog.underlying t_s_uint8 = some (.slice (Try.prog.elem t_s_uint8)) := by kernel_rfl
theorem Grow_nil_ok {k : Nat} (hk : k ≤ 140737488355328) {w : World} : cl Try.prog n_slices_Grow_byte_byte #[.slice none 0 0, .int .i64 (k : Int)] .L w fun (r : Sl) w' => OwB w' w.heap.size t_uint8 r [] ∧ Fr w w' := by
  refine slices_Grow_byte_byte.cl (p0 := ⟨none, 0, 0⟩) ?_
  unfold slices_Grow_byte_byte
  refine bN (by omega) ?_
  refine ⟨0, w, run_cap_slice w t_s_uint8 _ none 0 0 elemB, ?_⟩
  have e1 : IntKind.i64.wrap ((k : Int) - IntKind.i64.wrap ((0 : Int) - ((0 : Nat) : Int))) = (k : Int) := by
    rw [i64w (n := (0 : Int) - ((0 : Nat) : Int)) (by omega) (by omega), i64w (by omega) (by omega)]; omega
  dsimp only
  rw [e1]
  refine bD ?_ ?_ <;> intro h0
  · refine ⟨0, w, run_cap_slice w t_s_uint8 _ none 0 0 elemB, ?_⟩
    refine ⟨by decide, by decide, by decide, ?_⟩
    show rn Try.prog (Builtin.append_ #[t_s_uint8, t_int] t_s_uint8 #[.slice none 0 0, .int .i64 (k : Int)]) .L w _
    refine growNil slB u_int (by omega) hk fun r w' ho ha hc hf => ?_
    refine ⟨by decide, by decide, by omega, ?_⟩
    have e : cut r (0 : Int).toNat ((0 : Nat) : Int).toNat 1 = ⟨r.a, 0, r.c⟩ := by
      unfold cut
      rw [if_neg (by simp; omega), ha]
      show Sl.mk (some (atOff ⟨w.heap.size, 0, none⟩ _ 1)) _ _ = _
      rw [atH]
      rfl
    rw [e]
    exact ⟨ho, hf⟩
  · exact ⟨OwB.nil _ _ _, Fr.refl w⟩
/-- slices.Concat of two slices. -/
theorem Concat2_ok {x y : Sl} {l m : List UInt8} {a : Nat} {w : World} (ha : w.heap[a]? = some (.cells #[.slice x.a x.n x.c, .slice y.a y.n y.c] t_s_uint8 (0, 0))) (hx : Bs w x l) (hy : Bs w y m) (hl : l.length + m.length ≤ 1099511627776) :
    cl Try.prog n_slices_Concat_byte_byte #[.slice (some ⟨a, 0, none⟩) 2 2] .L w fun (r : Sl) w' => OwB w' w.heap.size t_uint8 r (l ++ m) ∧ Fr w w' := by
  refine slices_Concat_byte_byte.cl (p0 := ⟨some ⟨a, 0, none⟩, 2, 2⟩) ?_
  unfold slices_Concat_byte_byte
  have hxn := hx.len
  have hyn := hy.len
  have item : ∀ (w' : World) (i : Int) (K : Sl → Prop), Fr w w' → (i = 0 ∧ K x ∨ i = 1 ∧ K y) → ixa (some ⟨a, 0, none⟩) 2 i 1 fun a5 => ld .L w' a5 K := by
    intro w' i K hf h
    rcases h with ⟨rfl, h⟩ | ⟨rfl, h⟩
    · refine ⟨by decide, by decide, ?_⟩
      show ld .L w' (atOff ⟨a, 0, none⟩ 0 1) K
      rw [atH]
      exact ldL0 (hf.heap ha) rfl h
    · refine ⟨by decide, by decide, ?_⟩
      show ld .L w' (atOff ⟨a, 0, none⟩ 1 1) K
      rw [atH]
      exact ldL0 (hf.heap ha) rfl h
  refine lpI (fun s' w' => w = w' ∧ ∃ i : Nat, i ≤ 2 ∧ s'.2.1 = i ∧ s'.1 = ((if i = 0 then 0 else if i = 1 then l.length else l.length + m.length : Nat) : Int)) (fun s' _ => (2 - s'.2.1).toNat) ⟨rfl, 0, by decide, rfl, rfl⟩ ?_
  rintro _ ⟨sz, i', ⟨⟩⟩ w2 ⟨rfl, i, hi, rfl, rfl⟩
  dsimp only
  refine bD ?_ ?_ <;> intro hlt
  · refine item w _ _ (Fr.refl w) ?_
    by_cases hi0 : i = 0
    · subst hi0
      refine .inl ⟨rfl, ?_⟩
      simp only [if_true]
      rw [i64w (n := ((0 : Nat) : Int) + (x.n : Int)) (by omega) (by omega)]
      refine bN (by omega) ⟨⟨trivial, 1, by decide, rfl, ?_⟩, by decide⟩
      simp
      omega
    · obtain rfl : i = 1 := by omega
      refine .inr ⟨rfl, ?_⟩
      simp only [Nat.one_ne_zero, if_false, if_true]
      rw [i64w (n := (l.length : Int) + (y.n : Int)) (by omega) (by omega)]
      refine bN (by omega) ⟨⟨trivial, 2, by decide, rfl, ?_⟩, by decide⟩
      simp
      omega
  · obtain rfl : i = 2 := by omega
    simp only [show ¬(2 : Nat) = 0 from by decide, show ¬(2 : Nat) = 1 from by decide, if_false]
    refine (Grow_nil_ok (k := l.length + m.length) (by omega)).mono ?_
    rintro x7 w8 ⟨h7, hf8⟩
    refine lpI (fun s' w' => Fr w w' ∧ ∃ i : Nat, i ≤ 2 ∧ s'.2.1 = i ∧ OwB w' w.heap.size t_uint8 s'.1 (if i = 0 then [] else if i = 1 then l else l ++ m)) (fun s' _ => (2 - s'.2.1).toNat) ⟨hf8, 0, by decide, rfl, h7⟩ ?_
    rintro _ ⟨o, j', ⟨⟩⟩ w10 ⟨hf10, j, hj, rfl, ho⟩
    dsimp only at ho ⊢
    refine bD ?_ ?_ <;> intro hlt2
    · refine item w10 _ _ hf10 ?_
      by_cases hj0 : j = 0
      · subst hj0
        refine .inl ⟨rfl, ?_⟩
        simp only [if_true] at ho
        refine app_B slB (base := w.heap.size) ho (hx.fr hf10).rd hx.len.symm (by simp; omega) hf10.size fun r15 w16 h15 hb16 _ _ => ?_
        exact ⟨⟨hf10.on hb16, 1, by decide, rfl, by simpa using h15⟩, by decide⟩
      · obtain rfl : j = 1 := by omega
        refine .inr ⟨rfl, ?_⟩
        simp only [Nat.one_ne_zero, if_false, if_true] at ho
        refine app_B slB (base := w.heap.size) ho (hy.fr hf10).rd hy.len.symm (by omega) hf10.size fun r15 w16 h15 hb16 _ _ => ?_
        exact ⟨⟨hf10.on hb16, 2, by decide, rfl, by simpa using h15⟩, by decide⟩
    · obtain rfl : j = 2 := by omega
      exact ⟨by simpa using ho, hf10⟩
theorem HasPrefix_ok {x y : Sl} {l m : List UInt8} {w : World} (hx : Bs w x l) (hy : Bs w y m) :
    cl Try.prog n_bytes_HasPrefix #[.slice x.a x.n x.c, .slice y.a y.n y.c] .B w fun (r : Bool) w' => r = decide (m.length ≤ l.length ∧ l.take m.length = m) ∧ w = w' := by
  refine bytes_HasPrefix.cl ?_
  unfold bytes_HasPrefix
  have hxn := hx.len
  have hyn := hy.len
  refine bD ?_ ?_ <;> intro h
  · refine slsB hx (by decide) (by omega) (by omega) fun r1 h1 _ _ => ?_
    rw [Int.toNat_zero, List.drop_zero, Int.toNat_natCast, hyn] at h1
    refine (Equal_ok h1 hy).mono ?_
    rintro _ _ ⟨rfl, rfl⟩
    refine ⟨?_, rfl⟩
    have : m.length ≤ l.length := by omega
    simp [this]
  · refine ⟨?_, rfl⟩
    rw [decide_eq_false]
    omega
end Go.Proofs.Ytaljjbanhmfilaa
