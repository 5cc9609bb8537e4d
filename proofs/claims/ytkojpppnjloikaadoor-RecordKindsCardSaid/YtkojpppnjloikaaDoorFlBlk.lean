/- Steps at a block whose cells are known. No program is named here. -/
import Derived.Test.YtkojpppnjloikaaDoorFlUse
import Derived.ArgAppend
namespace Go.Fl
open Go.RowKit

theorem ldB0 {w : World} {g i : Nat} {cs : Array Value} {t : TypeId} {f : Nat × Nat} {b : Bool} {K : Bool → Prop} (h : w.heap[g]? = some (.cells cs t f)) (hi : cs[i]? = some (.bool b)) (k : K b) : ld .B w ⟨g, i, none⟩ K :=
  ⟨b, (cell_of_row w g i cs t f h).trans hi, k⟩
theorem ldL0 {w : World} {g i : Nat} {cs : Array Value} {t : TypeId} {f : Nat × Nat} {s : Sl} {K : Sl → Prop} (h : w.heap[g]? = some (.cells cs t f)) (hi : cs[i]? = some (.slice s.a s.n s.c)) (k : K s) : ld .L w ⟨g, i, none⟩ K :=
  ⟨s, (cell_of_row w g i cs t f h).trans hi, k⟩
theorem ldI0 {w : World} {g i : Nat} {cs : Array Value} {t : TypeId} {f : Nat × Nat} {kd : IntKind} {n : Int} {K : Int → Prop} (h : w.heap[g]? = some (.cells cs t f)) (hi : cs[i]? = some (.int kd n)) (k : K n) : ld (.I kd) w ⟨g, i, none⟩ K :=
  ⟨n, (cell_of_row w g i cs t f h).trans hi, k⟩
theorem ldP0 {w : World} {g i : Nat} {cs : Array Value} {t : TypeId} {f : Nat × Nat} {p : Option Addr} {K : Option Addr → Prop} (h : w.heap[g]? = some (.cells cs t f)) (hi : cs[i]? = some (.pointer p)) (k : K p) : ld .P w ⟨g, i, none⟩ K :=
  ⟨p, (cell_of_row w g i cs t f h).trans hi, k⟩

theorem st0 {w : World} {g i : Nat} {cs : Array Value} {t : TypeId} {v : Value} {K : World → Prop} (h : w.heap[g]? = some (.cells cs t (0, 0))) (hi : i < cs.size)
    (hk : ∀ w', w'.heap[g]? = some (.cells (cs.setIfInBounds i v) t (0, 0)) → w.grownBy w' (some g) → w'.heap.size = w.heap.size → K w') : st1 w ⟨g, i, none⟩ v K := by
  refine ⟨⟨cs[i], by rw [cell_of_row w g i cs t _ h]; exact Array.getElem?_eq_getElem hi⟩, by simp [World.frozen?, h], hk _ ?_ ⟨rfl, rfl, rfl, by simp [World.setCell], fun k _ hk => Below.heap_setCell _ _ _ _ (fun e => hk (by rw [e]))⟩ (by simp [World.setCell])⟩
  simp [World.setCell, Array.getElem?_modify, h]

theorem Fr.heap {w w' : World} (h : Fr w w') {g : Nat} {o : Obj} (hg : w.heap[g]? = some o) : w'.heap[g]? = some o :=
  (h.block g (Array.getElem?_eq_some_iff.1 hg).1).trans hg

/-- A part of memory stays. -/
def Kp (S : Nat → Prop) (w w' : World) : Prop := ∀ k, k < w.heap.size → S k → w'.heap[k]? = w.heap[k]?
theorem Kp.rd {S : Nat → Prop} {w w' : World} {A : Option Addr} {xs : List Value} (h : Rd w A xs) (hk : Kp S w w') (hS : ∀ ad, A = some ad → S ad.block) : Rd w' A xs :=
  h.keep fun ad e j hlt => World.cell?_of_block (w := w) (by rw [add_block]; exact hk _ hlt (hS ad e))
theorem Bs.kp {S : Nat → Prop} {w w' : World} {s : Sl} {l : List UInt8} (h : Bs w s l) (hk : Kp S w w') (hS : ∀ ad, s.a = some ad → S ad.block) : Bs w' s l := ⟨Kp.rd h.rd hk hS, h.len, h.cap⟩
theorem Bs.kpn {S : Nat → Prop} {w w' : World} {s : Sl} {l : List UInt8} (h : Bs w s l) (hk : Kp S w w') (hS : l ≠ [] → ∀ ad, s.a = some ad → S ad.block) : Bs w' s l := by
  cases l with
  | nil => exact ⟨Rd.nil _ _, h.len, h.cap⟩
  | cons b t => exact h.kp hk (hS (by simp))
theorem Bs.lt {w : World} {s : Sl} {l : List UInt8} (h : Bs w s l) (hl : l ≠ []) : ∀ ad, s.a = some ad → ad.block < w.heap.size := fun ad ha => by
  cases l with
  | nil => exact absurd rfl hl
  | cons b t =>
    obtain ⟨ad', ha', hc⟩ := h.rd.u8 (l := b :: t) (i := 0) (by simp)
    rw [ha] at ha'
    cases ha'
    have := World.block_lt_of_cell? w _ hc
    rwa [add_block] at this
theorem kp_grown {w w' : World} {g : Nat} (h : w.grownBy w' (some g)) : Kp (· ≠ g) w w' := fun k hk hne => h.block k hk (fun e => hne (Option.some.inj e))
theorem OwB.own {w : World} {base : Nat} {e : TypeId} {s : Sl} {l : List UInt8} (h : OwB w base e s l) : ∀ ad, s.a = some ad → base ≤ ad.block ∧ ad.block < w.heap.size := fun ad ha => h.block ad.block (by rw [ha]; rfl)
theorem OwB.kp {S : Nat → Prop} {w w' : World} {base : Nat} {e : TypeId} {s : Sl} {l : List UInt8} (h : OwB w base e s l) (hk : Kp S w w') (hS : ∀ ad, s.a = some ad → S ad.block) : OwB w' base e s l := by
  refine ⟨h.1, ?_⟩
  rcases h.2 with hn | ⟨g, cap, cur, hv, hb, hgg, rest⟩
  · exact .inl hn
  · have ha : s.a = some ⟨g, 0, none⟩ := by injection hv
    exact .inr ⟨g, cap, cur, hv, hb, (hk g (Array.getElem?_eq_some_iff.1 hgg).1 (hS _ ha)).trans hgg, rest⟩
theorem grown_below {w w' : World} {g base : Nat} (h : w.grownBy w' (some g)) (hb : base ≤ g) (hs : base ≤ w.heap.size) : Below base w w' :=
  (Below.refl base w).grown h hs fun k hk => by cases hk; exact hb
theorem fr_grown {w w' : World} {g : Nat} (h : Fr w w') : w.grownBy w' (some g) := ⟨h.os, h.tape, h.output, h.size, fun k hk _ => h.block k hk⟩
/-- A byte of an own slice is written. -/
theorem stB {w : World} {base : Nat} {e : TypeId} {s : Sl} {l : List UInt8} {i : Int} {v : Value} {K : World → Prop} (h : OwB w base e s l) (h0 : 0 ≤ i) (hi : i.toNat < l.length) (b : UInt8) (hv : v = .int .u8 b.toNat)
    (hk : ∀ w', OwB w' base e s (l.set i.toNat b) → Below base w w' → (∀ k, some k ≠ (Value.slice s.a s.n s.c).ownBlock → w'.heap[k]? = w.heap[k]?) → w'.heap.size = w.heap.size → K w') : ixa s.a s.n i 1 fun a => st1 w a v K := by
  have hl := h.len
  obtain ⟨h1, h2⟩ := h
  rcases h2 with ⟨_, hn⟩ | ⟨g, cap, cur, hs, hb, hg, hnc, hcm, hsz, ht⟩
  · omega
  · have ha : s.a = some ⟨g, 0, none⟩ := by injection hs
    refine ⟨h0, by omega, ?_⟩
    rw [ha]
    have he : atOff ⟨g, 0, none⟩ i 1 = ⟨g, i.toNat, none⟩ := by
      show Addr.add _ _ = _
      unfold Addr.add
      split <;> simp_all
    show st1 w (atOff ⟨g, 0, none⟩ i 1) v K
    rw [he]
    refine st0 hg (by omega) fun w' hb' hgr hsz' => hk w' ⟨?_, .inr ⟨g, cap, _, hs, hb, hb', hnc, hcm, by simpa using hsz, ?_⟩⟩ ⟨hgr.os, hgr.tape, hgr.output, hgr.size, fun k hk => ?_⟩ (fun k hk => ?_) hsz'
    · simpa [u8s] using h1
    · rw [Array.toList_setIfInBounds, List.take_set, ht, hv]
      simp [u8s, List.map_set]
    · by_cases hkl : k < w.heap.size
      · exact hgr.block k hkl (fun e => by cases e; omega)
      · rw [Array.getElem?_eq_none (by omega), Array.getElem?_eq_none (by omega)]
    · rw [ha] at hk
      by_cases hkl : k < w.heap.size
      · exact hgr.block k hkl hk
      · rw [Array.getElem?_eq_none (by omega), Array.getElem?_eq_none (by omega)]
theorem run_append_none {P : Program} (w : World) {t ty e : TypeId} {i : TypeInfo} (ht : P.underlying t = some (.slice e)) (hi : P.info? e = some i) (A B : Option Addr) {n c d : Nat} (hle : n ≤ c) :
    (Builtin.append_ #[t, t] ty #[.slice A n c, .slice B 0 d]).run P w = .ok (.slice A n c) w := by
  cases A <;> cases B <;> simp [Builtin.append_, run_underlying ht, sizeOf, typeInfo, hi, Builtin.lenOf, Builtin.firstCells, loadCells, loadCellsFrom, hle, storeCells]
/-- append to a new empty slice: no block that was there turns. -/
theorem app0B {P : Program} {t ty e : TypeId} (hT : SlT P t e 1 1) {base b : Nat} {x : Sl} {w : World} {K : Sl → World → Prop} {m : List UInt8} (hb : w.heap[b]? = some (.cells #[] e (0, 0))) (hbb : base ≤ b) (hx : Bs w x m) (hl : m.length ≤ 140737488355328) (hbase : base ≤ w.heap.size)
    (h : ∀ (r : Sl) w', OwB w' base e r m → Fr w w' → K r w') : app P t ty ⟨some ⟨b, 0, none⟩, 0, 0⟩ x w K := by
  obtain ⟨i, z, hi, hz, hsize, hby, hzs⟩ := hT.info
  have hn := hx.len
  cases m with
  | nil =>
    obtain ⟨A, n, c⟩ := x
    obtain rfl : n = 0 := hn
    exact ⟨_, w, run_append_none w hT.under hi _ _ (Nat.le_refl _), h _ _ (OwB.new hb hbb) (Fr.refl w)⟩
  | cons u m =>
    obtain ⟨ad, ha, _⟩ := hx.rd.u8 (l := u :: m) (i := 0) (by simp)
    obtain ⟨v', w', hrun, ho, hg⟩ := run_append_arg_grows (P := P) w t ty e i z 1 1 hT.under hi hz hsize hby hzs (by decide) ⟨b, 0, none⟩ 0 0 [] rfl (fun j u hu => by simp at hu) ad x.n x.c (u8s (u :: m)) (by rw [u8s_length, hn]; simp)
      (fun j u' hu => by obtain ⟨ad', ha', hc⟩ := hx.rd j u' hu; rw [ha] at ha'; cases ha'; exact hc) (by rw [hn]; simp) (by simp only [maxLen]; rw [hn]; simp at hl ⊢; omega) (by rw [hn]; simp at hl ⊢; omega)
    rw [Nat.zero_add, List.nil_append] at ho
    obtain ⟨r, rfl, hrn⟩ := sl_of_own ho
    refine ⟨r, w', by rw [ha]; exact hrun, h r w' ?_ ⟨hg.os, hg.tape, hg.output, hg.size, fun k hk => hg.block k hk (by simp)⟩⟩
    have : OwB w' w.heap.size e r (u :: m) := by unfold OwB; rw [← hrn] at ho; exact ho
    exact this.mono hbase
end Go.Fl
