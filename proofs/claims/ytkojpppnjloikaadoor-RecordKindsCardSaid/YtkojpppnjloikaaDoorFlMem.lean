/- More steps: bytes by their values, full slices, conversions, 3-index slices. No program is named here. -/
import Derived.Test.YtkojpppnjloikaaDoorFlBlk
import Derived.Laws.OwnMore
namespace Go.Fl
open Go.RowKit

/-- A byte of a slice is read, by its value. -/
theorem ixBc {w w' : World} {s : Sl} {l : List UInt8} {i : Int} {c : UInt8} {K : Int → Prop} (hs : Rd w s.a (u8s l)) (hl : s.n = l.length) (h0 : 0 ≤ i) (hc : l[i.toNat]? = some c) (hw : Fr w w')
    (h : K (c.toNat)) : ixa s.a s.n i 1 fun a => ld (.I .u8) w' a K := by
  obtain ⟨hi, rfl⟩ := List.getElem?_eq_some_iff.1 hc
  exact ixB hs hl h0 hi hw h
/-- make([]T, n): a row of n zeros, T of one cell. -/
theorem mksN {P : Program} {t e : TypeId} {bytes : Nat} {z : Value} (hu : P.underlying t = some (.slice e)) (hinfo : (P.info? e).map (fun i => (i.zero, i.size, i.bytes)) = some (some z, 1, bytes)) (hz1 : z.cells = #[z]) (base : Nat) {C : Int} {w : World} {K : Sl → World → Prop} (n : Nat) (hC : C = (n : Int)) (hb : bytes * n ≤ 140737488355328) (h63 : n ≤ 140737488355328) (hbase : base ≤ w.heap.size)
    (h : ∀ w', w'.ownsRow base e 1 (.slice (some ⟨w.heap.size, 0, none⟩) n n) n (List.replicate n z) → w'.heap[w.heap.size]? = some (.cells (List.replicate n z).toArray e (0, 0)) → w'.heap.size = w.heap.size + 1 → Fr w w' → K ⟨some ⟨w.heap.size, 0, none⟩, n, n⟩ w') : mks P t C C w K := by
  subst hC
  have hrun := run_make_row' (P := P) t e z bytes hu hinfo hz1 .i64 .i64 n (by omega) (by omega) w
  have hm : madeCells #[z] n = (List.replicate n z).toArray := by
    apply Array.toList_inj.1
    rw [toList_madeCells_one]
  rw [hm] at hrun
  refine ⟨⟨some ⟨w.heap.size, 0, none⟩, n, n⟩, _, hrun, h _ ?_ (heap_alloc_new w _) (by simp) (Fr.alloc _ _)⟩
  exact World.ownsRow_lit w (List.replicate n z).toArray n hbase (by simp only [maxLen]; omega) (by simp)
/-- A slice of a slice with a bound of its room. -/
theorem run_sls3 {P : Program} {t e : TypeId} (hT : SlT P t e 1 1) (w : World) (s : Sl) {lo : Option Value} {l h : Int} (hlo : (lo = none ∧ l = 0) ∨ lo = some (.int .i64 l)) (h0 : 0 ≤ l) (h1 : l ≤ h) (h2 : h ≤ s.c) :
    (Instr.sliceAt t (.slice s.a s.n s.c) lo (some (.int .i64 h)) (some (.int .i64 h))).run P w = .ok (.slice (if h.toNat = l.toNat then s.a else s.a.map (·.add l.toNat)) (h.toNat - l.toNat) (h.toNat - l.toNat)) w := by
  obtain ⟨i, z, hi, hz, hsize, hby, hzs⟩ := hT.info
  have em : (h.toNat : Int) = h := Int.toNat_of_nonneg (by omega)
  have h03 : (0 : Int) ≤ h := by omega
  rcases hlo with ⟨rfl, rfl⟩ | rfl <;>
    simp [Instr.sliceAt, Instr.slice, Instr.sliceBounds, Instr.sliceBound, run_underlying hT.under, sizeOf, typeInfo, hi, asIntOf, h0, h1, h2, em, h03, hsize]
theorem sls3B {P : Program} {t e : TypeId} (hT : SlT P t e 1 1) {w : World} {s : Sl} {l : List UInt8} {lo : Option Value} {i j : Int} {K : Sl → Prop} (h : Bs w s l) (hlo : (lo = none ∧ i = 0) ∨ lo = some (.int .i64 i)) (h0 : 0 ≤ i) (hij : i ≤ j) (hj : j ≤ l.length)
    (hk : ∀ r : Sl, Bs w r ((l.take j.toNat).drop i.toNat) → (∀ ad, r.a = some ad → ∃ ad', s.a = some ad' ∧ ad.block = ad'.block) → (i = 0 → 0 < j → r = ⟨s.a, j.toNat, j.toNat⟩) → K r) :
    qn P (Instr.sliceAt t (.slice s.a s.n s.c) lo (some (.int .i64 j)) (some (.int .i64 j))) .L w K := by
  have hl := h.len
  have hc := h.cap
  refine ⟨⟨if j.toNat = i.toNat then s.a else s.a.map (·.add i.toNat), j.toNat - i.toNat, j.toNat - i.toNat⟩, fun w' _ => run_sls3 hT w' s hlo h0 hij (by omega), hk _ ?_ ?_ ?_⟩
  · have hcut := h.cut (i := i.toNat) (j := j.toNat) (by omega) (by omega)
    by_cases he : j.toNat = i.toNat
    · have : (l.take j.toNat).drop i.toNat = [] := by rw [List.drop_eq_nil_iff, List.length_take]; omega
      rw [this]
      exact ⟨Rd.nil _ _, by simp; omega, Nat.le_refl _⟩
    · rw [if_neg he]
      obtain ⟨hr, hcl, _⟩ := hcut
      refine ⟨?_, hcl, Nat.le_refl _⟩
      unfold Fl.cut at hr
      rw [if_neg (by omega)] at hr
      exact hr
  · intro ad ha
    dsimp only at ha
    split at ha
    · exact ⟨ad, ha, rfl⟩
    · cases hs : s.a with
      | none => rw [hs] at ha; cases ha
      | some ad' =>
        rw [hs] at ha
        simp only [Option.map_some, Option.some.injEq] at ha
        exact ⟨ad', rfl, by rw [← ha, add_block]⟩
  · rintro rfl hj0
    rw [if_neg (by omega)]
    cases s.a <;> simp [Addr.add]
theorem Addr.add0 (a : Addr) : a.add 0 = a := by simp [Addr.add]
/-- []byte of a new row of bytes: the row is marked, and reads as it did. -/
theorem nwConv {P : Program} {t e : TypeId} {cs : List Value} {n : Nat} {l : List UInt8} {w : World} {K : Sl → World → Prop} (ht : P.underlying t = some (.slice e)) (he : P.underlying e = some (.int .u8)) (hcs : cs = u8s l) (hn : n = l.length)
    (h : ∀ r w', Bs w' r l → Fr w w' → K r w') : nw w cs e fun a w2 => rn P (convert t t (.slice (some a) n n)) .L w2 K := by
  subst hcs hn
  refine nwI fun b w2 hb hsz hf hblk hrd => ?_
  have hrun : (convert t t (.slice (some ⟨b, 0, none⟩) l.length l.length)).run P w2 = .ok (.slice (some ⟨b, 0, none⟩) l.length l.length) (w2.freeze ⟨b, (u8s l).toArray.size, none⟩ 1) := by
    simp [convert, run_underlying ht, run_underlying he, markStringish, World.shape?, hblk]
  refine ⟨⟨some ⟨b, 0, none⟩, l.length, l.length⟩, _, hrun, h _ _ ?_ ?_⟩
  · refine ⟨fun j u hu => ?_, rfl, Nat.le_refl _⟩
    obtain ⟨ad, ha, hc⟩ := hrd j u hu
    refine ⟨ad, ha, ?_⟩
    rw [← hc]
    cases ha
    have e1 : ((⟨b, 0, none⟩ : Addr).add j).block = b := add_block _ _
    unfold World.cell? World.freeze
    simp only [Nat.one_ne_zero, if_false, Array.getElem?_modify, e1, hblk, if_true, Option.map_some]
  · have hs := hf.size
    refine ⟨hf.os, hf.tape, hf.output, by simpa [World.freeze] using hs, fun k hk => ?_⟩
    rw [← hf.block k hk]
    simp only [World.freeze, Nat.one_ne_zero, if_false, Array.getElem?_modify]
    rw [if_neg (by omega)]
theorem addOff (g i j : Nat) : (⟨g, i, none⟩ : Addr).add j = ⟨g, i + j, none⟩ := by unfold Addr.add; split <;> simp_all
/-- A row is stored. -/
theorem stL_row {g : Nat} {t : TypeId} : ∀ {vs : List Value} {cs : List Value} {i : Nat} {w : World} {K : World → Prop}, w.heap[g]? = some (.cells cs.toArray t (0, 0)) → i + vs.length ≤ cs.length → (∀ v ∈ vs, v.oneCell' = true) →
    (∀ w', w'.heap[g]? = some (.cells (cs.take i ++ vs ++ cs.drop (i + vs.length)).toArray t (0, 0)) → w.grownBy w' (some g) → w'.heap.size = w.heap.size → K w') → stL ⟨g, 0, none⟩ w i vs K
  | [], cs, i, w, K, h, _, _, hk => by
    refine hk w ?_ (World.grownBy.refl _ _) rfl
    simpa using h
  | v :: vs, cs, i, w, K, h, hi, h1, hk => by
    simp only [List.length_cons] at hi
    refine ⟨h1 v (by simp), ?_⟩
    rw [addOff, Nat.zero_add]
    refine st0 h (by simp; omega) fun w' hb hg hs => ?_
    refine stL_row (cs := cs.set i v) (i := i + 1) (by simpa using hb) (by simp; omega) (fun u hu => h1 u (by simp [hu])) fun w2 hb2 hg2 hs2 => hk w2 ?_ (hg.trans hg2) (hs2.trans hs)
    have e : (cs.set i v).take (i + 1) ++ vs ++ (cs.set i v).drop (i + 1 + vs.length) = cs.take i ++ (v :: vs) ++ cs.drop (i + (v :: vs).length) := by
      rw [List.take_set, List.drop_set_of_lt (by omega), List.take_succ_eq_append_getElem (by omega), List.set_append_right _ _ (by simp; omega), List.length_take, List.length_cons, Nat.min_eq_left (by omega), Nat.sub_self]
      simp [Nat.add_assoc, Nat.add_comm 1]
    rw [hb2, e]
theorem ldR0 {w : World} {g n : Nat} {vs : List Value} {t : TypeId} {f : Nat × Nat} {K : {l : List Value // l.length = n} → Prop} (h : w.heap[g]? = some (.cells vs.toArray t f)) (hn : vs.length = n) (k : K ⟨vs, hn⟩) : ld (.row n) w ⟨g, 0, none⟩ K := by
  refine ⟨⟨vs, hn⟩, fun i hi => ?_, k⟩
  rw [addOff, Nat.zero_add]
  exact (cell_of_row w g i vs.toArray t f h).trans (by simp [List.getElem?_eq_getElem hi])
theorem ldRd {w : World} {A : Option Addr} {n : Nat} {vs : List Value} {K : {l : List Value // l.length = n} → Prop} (h : Rd w A vs) (hn : vs.length = n) (hp : 0 < n) (k : K ⟨vs, hn⟩) : nz A fun a => ld (.row n) w a K := by
  obtain ⟨ad, ha, _⟩ := h.at 0 (by omega)
  rw [ha]
  refine ⟨⟨vs, hn⟩, fun i hi => ?_, k⟩
  obtain ⟨ad', ha', hc⟩ := h.at i hi
  rw [ha] at ha'
  cases ha'
  exact hc
theorem ldM0 {w : World} {g i : Nat} {cs : Array Value} {t : TypeId} {f : Nat × Nat} {r : Option Nat} {K : Option Nat → Prop} (h : w.heap[g]? = some (.cells cs t f)) (hi : cs[i]? = some (.map r)) (k : K r) : ld .M w ⟨g, i, none⟩ K :=
  ⟨r, (cell_of_row w g i cs t f h).trans hi, k⟩
/-- A slice as an array. -/
theorem qnArr {P : Program} {t e : TypeId} {n : Nat} (ht : P.underlying t = some (.array n e)) {w : World} {s : Sl} (hn : n ≤ s.n) {K : Option Addr → Prop} (k : K s.a) : qn P (Instr.arrayAt t (.slice s.a s.n s.c)) .P w K :=
  ⟨s.a, fun w' _ => by
    have : ¬s.n < n := by omega
    simp [Instr.arrayAt, run_underlying ht, this]
    rfl, k⟩
theorem atH (g : Nat) (i : Int) : atOff ⟨g, 0, none⟩ i 1 = ⟨g, i.toNat, none⟩ := by
  show Addr.add _ _ = _
  rw [addOff, Nat.zero_add]
/-- A number of a known block is read; one is written. -/
theorem ixH {w : World} {g n : Nat} {cs : List Value} {t : TypeId} {f : Nat × Nat} {i : Int} {kd : IntKind} {v : Int} {K : Int → Prop} (h : w.heap[g]? = some (.cells cs.toArray t f)) (h0 : 0 ≤ i) (hn : i < n) (hi : cs[i.toNat]? = some (.int kd v)) (k : K v) :
    ixa (some ⟨g, 0, none⟩) n i 1 fun a => ld (.I kd) w a K := by
  refine ⟨h0, hn, ?_⟩
  show ld (.I kd) w (atOff ⟨g, 0, none⟩ i 1) K
  rw [atH]
  exact ldI0 h (by simpa using hi) k
theorem ixSt {w : World} {g n : Nat} {cs : List Value} {t : TypeId} {i : Int} {v : Value} {K : World → Prop} (h : w.heap[g]? = some (.cells cs.toArray t (0, 0))) (h0 : 0 ≤ i) (hn : i < n) (hi : i.toNat < cs.length)
    (hk : ∀ w', w'.heap[g]? = some (.cells (cs.set i.toNat v).toArray t (0, 0)) → w.grownBy w' (some g) → w'.heap.size = w.heap.size → K w') : ixa (some ⟨g, 0, none⟩) n i 1 fun a => st1 w a v K := by
  refine ⟨h0, hn, ?_⟩
  show st1 w (atOff ⟨g, 0, none⟩ i 1) v K
  rw [atH]
  exact st0 h (by simpa using hi) fun w' hb hg hs => hk w' (by simpa using hb) hg hs
theorem run_zeroV {P : Program} {e : TypeId} {z : Value} (h : (P.info? e).map (·.zero) = some (some z)) (w : World) : (zeroValue e).run P w = .ok z w := by
  obtain ⟨i, hi, hz⟩ := Option.map_eq_some_iff.1 h
  simp [zeroValue, typeInfo, hi, hz]
end Go.Fl
