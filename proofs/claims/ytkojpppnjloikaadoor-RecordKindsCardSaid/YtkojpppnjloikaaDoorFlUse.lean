/- Steps for proofs over the typed forms. No program is named here. -/
import Derived.Test.YtkojpppnjloikaaDoorFlVe
namespace Go.Fl
open Go.RowKit

theorem bP {p : Prop} [Decidable p] {X Y : Prop} (h : p) (k : X) : bif decide p then X else Y := by rw [decide_eq_true h]; exact k
theorem bN {p : Prop} [Decidable p] {X Y : Prop} (h : ¬p) (k : Y) : bif decide p then X else Y := by rw [decide_eq_false h]; exact k
theorem bD {p : Prop} [Decidable p] {X Y : Prop} (ht : p → X) (hf : ¬p → Y) : bif decide p then X else Y := by
  by_cases h : p
  · exact bP h (ht h)
  · exact bN h (hf h)
theorem bT {b : Bool} {X Y : Prop} (h : b = true) (k : X) : bif b then X else Y := by rw [h]; exact k
theorem bF {b : Bool} {X Y : Prop} (h : b = false) (k : Y) : bif b then X else Y := by rw [h]; exact k
theorem bB {b : Bool} {X Y : Prop} (ht : b = true → X) (hf : b = false → Y) : bif b then X else Y := by cases b; exact hf rfl; exact ht rfl
theorem bE {a b : Int} {X Y : Prop} (ht : a = b → X) (hf : a ≠ b → Y) : bif a == b then X else Y := by
  by_cases h : a = b
  · exact bT (by simpa using h) (ht h)
  · exact bF (by simpa using h) (hf h)
theorem bNe {a b : Int} {X Y : Prop} (ht : a ≠ b → X) (hf : a = b → Y) : bif a != b then X else Y := by
  by_cases h : a = b
  · exact bF (by simpa using h) (hf h)
  · exact bT (by simpa using h) (ht h)

theorem i64w {n : Int} (h : -9223372036854775808 ≤ n) (h' : n ≤ 9223372036854775807) : IntKind.i64.wrap n = n := by rw [IntKind.wrap_i64]; omega
theorem u64w {n : Int} (h : 0 ≤ n) (h' : n ≤ 18446744073709551615) : IntKind.u64.wrap n = n := by simp only [IntKind.wrap, IntKind.bits, IntKind.signed]; simp; omega
theorem u8w (n : Int) : IntKind.u8.wrap n = n % 256 := IntKind.wrap_u8 n
theorem u32w (n : Int) : IntKind.u32.wrap n = n % 4294967296 := IntKind.wrap_u32 n

/-- A loop: an invariant, and what every round lowers. -/
theorem lpI {α : Type} {init : (α → Prop) → Prop} {w : World} {body : (Nat → AV) → (α → World → Prop) → α → World → Prop} (J : α → World → Prop) (μ : α → World → Nat)
    (h0 : init fun s => J s w) (h : ∀ D s w', J s w' → body D (fun s' w'' => J s' w'' ∧ μ s' w'' < μ s w') s w') : lp init w body := ⟨J, μ, h0, h⟩

theorem Fr.on {a b c : World} (h : Fr a b) (k : Below a.heap.size b c) : Fr a c := Below.trans h k
theorem Fr.alloc (w : World) (o : Obj) : Fr w (w.alloc o) := (Below.refl _ w).alloc (Nat.le_refl _) o
theorem Fr.drewN (w : World) (n : Nat) : Fr w (w.drewN n) := ⟨rfl, rfl, rfl, Nat.le_refl _, fun _ _ => rfl⟩

theorem own_kept {w w' : World} {base : Nat} {e : TypeId} {size : Nat} {v : Value} {n : Nat} {xs : List Value} (h : w.ownsRow base e size v n xs) (hf : Fr w w') : w'.ownsRow base e size v n xs := by
  refine ⟨h.1, ?_⟩
  rcases h.2 with hn | ⟨g, cap, cur, rfl, hb, hgg, rest⟩
  · exact .inl hn
  · exact .inr ⟨g, cap, cur, rfl, hb, (hf.block g (Array.getElem?_eq_some_iff.1 hgg).1).trans hgg, rest⟩

/-- A slice of the call's own that holds bytes. -/
def OwB (w : World) (base : Nat) (e : TypeId) (s : Sl) (l : List UInt8) : Prop := w.ownsRow base e 1 (.slice s.a s.n s.c) s.n (u8s l)
theorem OwB.len {w : World} {base : Nat} {e : TypeId} {s : Sl} {l : List UInt8} (h : OwB w base e s l) : s.n = l.length := by
  have := h.1; rw [u8s_length] at this; omega
theorem OwB.rd {w : World} {base : Nat} {e : TypeId} {s : Sl} {l : List UInt8} (h : OwB w base e s l) : Rd w s.a (u8s l) := Rd.of_own h
theorem OwB.fr {w w' : World} {base : Nat} {e : TypeId} {s : Sl} {l : List UInt8} (h : OwB w base e s l) (hf : Fr w w') : OwB w' base e s l := own_kept h hf
theorem OwB.nil (w : World) (base : Nat) (e : TypeId) : OwB w base e ⟨none, 0, 0⟩ [] := World.ownsRow_nil w base e 1
theorem OwB.cap {w : World} {base : Nat} {e : TypeId} {s : Sl} {l : List UInt8} (h : OwB w base e s l) : s.n ≤ s.c := by
  rcases h.2 with ⟨hv, hn⟩ | ⟨g, cap, cur, hv, _, _, hc, _⟩
  · injection hv with _ h1 h2; omega
  · injection hv with _ h1 h2; omega
theorem OwB.block {w : World} {base : Nat} {e : TypeId} {s : Sl} {l : List UInt8} (h : OwB w base e s l) : ∀ k, (Value.slice s.a s.n s.c).ownBlock = some k → base ≤ k ∧ k < w.heap.size := h.lt

/-- A slice that reads as bytes. -/
structure Bs (w : World) (s : Sl) (l : List UInt8) : Prop where
  rd : Rd w s.a (u8s l)
  len : s.n = l.length
  cap : s.n ≤ s.c
theorem Bs.fr {w w' : World} {s : Sl} {l : List UInt8} (h : Bs w s l) (hf : Fr w w') : Bs w' s l := ⟨h.rd.below hf, h.len, h.cap⟩
theorem OwB.bs {w : World} {base : Nat} {e : TypeId} {s : Sl} {l : List UInt8} (h : OwB w base e s l) : Bs w s l := ⟨h.rd, h.len, h.cap⟩

theorem sl_of_own {w : World} {base : Nat} {e : TypeId} {size : Nat} {v : Value} {n : Nat} {xs : List Value} (h : w.ownsRow base e size v n xs) : ∃ s : Sl, v = .slice s.a s.n s.c ∧ s.n = n := by
  rcases h.2 with ⟨rfl, rfl⟩ | ⟨g, cap, cur, rfl, _⟩
  · exact ⟨⟨none, 0, 0⟩, rfl, rfl⟩
  · exact ⟨⟨some ⟨g, 0, none⟩, n, cap⟩, rfl, rfl⟩

/-- append onto a row of the call's own. -/
theorem app_own {P : Program} {t ty e : TypeId} {size bytes : Nat} (hT : SlT P t e size bytes) {base : Nat} {s x : Sl} {w : World} {K : Sl → World → Prop} {xs news : List Value}
    (hown : w.ownsRow base e size (.slice s.a s.n s.c) s.n xs) (hr : Rd w x.a news) (hl : news.length = x.n * size) (h1 : ∀ u ∈ news, u.oneCell' = true)
    (hb : (s.n + x.n) * bytes ≤ 140737488355328) (h63 : s.n + x.n ≤ 140737488355328) (hbase : base ≤ w.heap.size)
    (h : ∀ (r : Sl) w', r.n = s.n + x.n → w'.ownsRow base e size (.slice r.a r.n r.c) r.n (xs ++ news) → w.grownBy w' (Value.slice s.a s.n s.c).ownBlock →
      ((Value.slice r.a r.n r.c).ownBlock = (Value.slice s.a s.n s.c).ownBlock ∨ (Value.slice r.a r.n r.c).ownBlock = some w.heap.size) → K r w') : app P t ty s x w K := by
  obtain ⟨v', w', hrun, h2, h3, h4⟩ := run_append_rd (P := P) (ty := ty) hT base hown (c := x.c) hr hl h1 hb h63 hbase
  obtain ⟨r, rfl, hn⟩ := sl_of_own h2
  exact ⟨r, w', hrun, h r w' hn (hn ▸ h2) h3 h4⟩

/-- append of bytes. -/
theorem app_B {P : Program} {t ty e : TypeId} (hT : SlT P t e 1 1) {base : Nat} {s x : Sl} {w : World} {K : Sl → World → Prop} {l m : List UInt8}
    (hs : OwB w base e s l) (hx : Rd w x.a (u8s m)) (hm : m.length = x.n) (hl : l.length + m.length ≤ 140737488355328) (hbase : base ≤ w.heap.size)
    (h : ∀ (r : Sl) w', OwB w' base e r (l ++ m) → Below base w w' → (∀ k, k < w.heap.size → (Value.slice s.a s.n s.c).ownBlock ≠ some k → w'.heap[k]? = w.heap[k]?) → 
      ((Value.slice r.a r.n r.c).ownBlock = (Value.slice s.a s.n s.c).ownBlock ∨ (Value.slice r.a r.n r.c).ownBlock = some w.heap.size) → K r w') : app P t ty s x w K := by
  have hn := hs.len
  refine app_own hT hs hx (by simp [u8s_length, hm]) (u8s_one m) (by omega) (by omega) hbase fun r w' hr ho hg hat => h r w' ?_ ?_ ?_ hat
  · unfold OwB; rw [u8s_append]; exact ho
  · exact (Below.refl base w).grown hg hbase fun k hk => (hs.block k hk).1
  · exact fun k hk hne => hg.block k hk fun e => hne e.symm

/-- make([]T, 0, n). -/
theorem mks0 {P : Program} {t e : TypeId} {size bytes : Nat} (hT : SlT P t e size bytes) (base : Nat) {C : Int} {w : World} {K : Sl → World → Prop} (n : Nat) (hC : C = (n : Int)) (hb : bytes * n ≤ 140737488355328) (h63 : n ≤ 140737488355328) (hbase : base ≤ w.heap.size)
    (h : ∀ w', w'.ownsRow base e size (.slice (some ⟨w.heap.size, 0, none⟩) 0 n) 0 [] → Fr w w' → K ⟨some ⟨w.heap.size, 0, none⟩, 0, n⟩ w') : mks P t 0 C w K := by
  obtain ⟨i, z, hi, hz, hsize, hby, hzs⟩ := hT.info
  subst hC
  obtain ⟨w', hrun, r1, r2⟩ := run_make_own (P := P) w base t e i z size hT.under hi hz hsize .i64 .i64 n (by rw [hby]; omega) (by simp only [maxLen]; omega) hbase
  exact ⟨⟨some ⟨w.heap.size, 0, none⟩, 0, n⟩, w', hrun, h w' r1 ((Below.refl _ w).grown r2 (Nat.le_refl _) (by simp))⟩

/-- A new block. -/
theorem nwI {w : World} {cs : List Value} {t : TypeId} {K : Addr → World → Prop}
    (h : ∀ b w', b = w.heap.size → w'.heap.size = w.heap.size + 1 → Fr w w' → w'.heap[b]? = some (.cells cs.toArray t (0, 0)) → Rd w' (some ⟨b, 0, none⟩) cs → K ⟨b, 0, none⟩ w') : nw w cs t K := by
  refine h w.heap.size _ rfl (by simp) (Fr.alloc _ _) (heap_alloc_new w _) ?_
  intro j u hu
  refine ⟨_, rfl, ?_⟩
  have hadd : (⟨w.heap.size, 0, none⟩ : Addr).add j = ⟨w.heap.size, j, none⟩ := by unfold Addr.add; split <;> simp_all
  rw [hadd, cell_of_row (w.alloc (.cells cs.toArray t)) w.heap.size j cs.toArray t (0, 0) (heap_alloc_new w _)]
  simpa using hu

theorem Rd.u8 {w : World} {A : Option Addr} {l : List UInt8} (h : Rd w A (u8s l)) {i : Nat} (hi : i < l.length) : ∃ ad, A = some ad ∧ w.cell? (ad.add i) = some (.int .u8 (l[i].toNat)) := by
  have := h.at i (by rw [u8s_length]; exact hi)
  simpa [u8s] using this
/-- A byte of a slice is read. -/
theorem ixB {w w' : World} {s : Sl} {l : List UInt8} {i : Int} {K : Int → Prop} (hs : Rd w s.a (u8s l)) (hl : s.n = l.length) (h0 : 0 ≤ i) (hi : i.toNat < l.length) (hw : Fr w w')
    (h : K (l[i.toNat].toNat)) : ixa s.a s.n i 1 fun a => ld (.I .u8) w' a K := by
  obtain ⟨ad, ha, hc⟩ := (hs.below hw).u8 hi
  refine ⟨h0, by omega, ?_⟩
  rw [ha]
  exact ⟨_, hc, h⟩
theorem ixB0 {w w' : World} {s : Sl} {b : UInt8} {t : List UInt8} {K : Int → Prop} (hs : Rd w s.a (u8s (b :: t))) (hl : s.n = (b :: t).length) (hw : Fr w w')
    (h : K (b.toNat)) : ixa s.a s.n 0 1 fun a => ld (.I .u8) w' a K := ixB hs hl (by decide) (by simp) hw h
theorem bstrI {w w' : World} {x : Sl} {l : List UInt8} {K : List UInt8 → Prop} (h : Rd w x.a (u8s l)) (hl : l.length = x.n) (hw : Fr w w') (hk : K l) : bstr w' x K := ⟨l, hl, h.below hw, hk⟩
theorem beqB_eq (a b : List UInt8) : beqB ⟨a.toArray⟩ ⟨b.toArray⟩ = decide (a = b) := by
  unfold beqB
  rw [ByteArray.toList_eq, ByteArray.toList_eq]
  simp [Bool.beq_eq_decide_eq]
/-- A law's call, as its row wants it. -/
theorem lawE {P : Program} {f : FuncId} {args : Array Value} {w : World} (h : cl P f args .B w fun r w' => r = true ∧ Fr w w') : Calls P f args w fun e w' => e = .returned (.bool true) ∧ Below w.heap.size w w' := by
  refine Calls.mono h ?_
  rintro e w' ⟨x, rfl, rfl, hf⟩
  exact ⟨rfl, hf⟩

/-- A part of a slice. -/
theorem Bs.cut {w : World} {s : Sl} {l : List UInt8} (h : Bs w s l) {i j : Nat} (hij : i ≤ j) (hj : j ≤ l.length) : Bs w (cut s i j 1) ((l.take j).drop i) := by
  have hl := h.len
  have hc := h.cap
  refine ⟨?_, by simp [Fl.cut, List.length_take]; omega, by simp [Fl.cut]; omega⟩
  have hr : Rd w s.a (u8s (l.take j)) := by
    have := h.rd.take j
    rwa [show (u8s l).take j = u8s (l.take j) from by simp [u8s, List.map_take]] at this
  have hd := hr.drop i
  rw [show (u8s (l.take j)).drop i = u8s ((l.take j).drop i) from by simp [u8s, List.map_drop]] at hd
  unfold Fl.cut
  by_cases hci : s.c = i
  · simp only [hci, if_true]
    have : (l.take j).drop i = [] := by rw [List.drop_eq_nil_iff, List.length_take]; omega
    rw [this]; exact Rd.nil _ _
  · rw [if_neg hci]
    rw [show (fun x => atOff x (i : Int) 1) = fun x : Addr => x.add i from rfl]
    exact hd
theorem slsB {w : World} {s : Sl} {l : List UInt8} {i j : Int} {K : Sl → Prop} (h : Bs w s l) (h0 : 0 ≤ i) (hij : i ≤ j) (hj : j ≤ l.length)
    (hk : ∀ r : Sl, Bs w r ((l.take j.toNat).drop i.toNat) → (∀ ad, r.a = some ad → ∃ ad', s.a = some ad' ∧ ad.block = ad'.block) → r.c ≤ s.c → K r) : sls s i j 1 K := by
  have hl := h.len
  have hc := h.cap
  refine ⟨h0, hij, by omega, hk _ (h.cut (by omega) (by omega)) (fun ad ha => ?_) (by simp [Fl.cut])⟩
  unfold Fl.cut at ha
  split at ha
  · exact ⟨ad, ha, rfl⟩
  · cases hs : s.a with
    | none => rw [hs] at ha; cases ha
    | some ad' =>
      rw [hs] at ha
      simp only [Option.map_some, Option.some.injEq] at ha
      refine ⟨ad', rfl, ?_⟩
      rw [← ha, atOff_eq, add_block]
theorem Bs.nil (w : World) (c : Nat) : Bs w ⟨none, 0, c⟩ [] := ⟨Rd.nil _ _, rfl, Nat.zero_le _⟩
theorem OwB.new {w : World} {base : Nat} {e : TypeId} {b : Nat} (h : w.heap[b]? = some (.cells #[] e (0, 0))) (hb : base ≤ b) : OwB w base e ⟨some ⟨b, 0, none⟩, 0, 0⟩ [] :=
  ⟨rfl, .inr ⟨b, 0, #[], rfl, hb, h, Nat.le_refl _, Nat.zero_le _, rfl, rfl⟩⟩
theorem OwB.mono {w : World} {base base' : Nat} {e : TypeId} {s : Sl} {l : List UInt8} (h : OwB w base e s l) (hb : base' ≤ base) : OwB w base' e s l := by
  refine ⟨h.1, ?_⟩
  rcases h.2 with hn | ⟨g, cap, cur, hv, hg, rest⟩
  · exact .inl hn
  · exact .inr ⟨g, cap, cur, hv, Nat.le_trans hb hg, rest⟩
/-- append to a new empty slice. -/
theorem copyB {P : Program} {t ty e : TypeId} (hT : SlT P t e 1 1) {x : Sl} {l : List UInt8} {w : World} {K : Sl → World → Prop} (hx : Bs w x l) (hl : l.length ≤ 140737488355328)
    (h : ∀ (r : Sl) w', OwB w' w.heap.size e r l → Fr w w' → K r w') : nw w [] e fun a w2 => app P t ty ⟨some a, 0, 0⟩ x w2 K := by
  refine nwI fun b w2 hb hsz hf hblk _ => ?_
  refine app_B hT (base := w.heap.size) (l := []) (OwB.new hblk (by omega)) (hx.fr hf).rd hx.len.symm (by simpa using hl) hf.size fun r w3 ho hb3 _ _ => h r w3 ?_ (hf.on hb3)
  simpa using ho

/-- A slice that reads as numbers. -/
structure Is (w : World) (s : Sl) (l : List Int) : Prop where
  rd : Rd w s.a (l.map (Value.int .i64))
  len : s.n = l.length
  cap : s.n ≤ s.c
theorem Is.fr {w w' : World} {s : Sl} {l : List Int} (h : Is w s l) (hf : Fr w w') : Is w' s l := ⟨h.rd.below hf, h.len, h.cap⟩
theorem ixI {w w' : World} {s : Sl} {l : List Int} {i : Int} {K : Int → Prop} (hs : Is w s l) (h0 : 0 ≤ i) (hi : i.toNat < l.length) (hw : Fr w w')
    (h : K l[i.toNat]) : ixa s.a s.n i 1 fun a => ld (.I .i64) w' a K := by
  have := (hs.rd.below hw).at i.toNat (by simpa using hi)
  obtain ⟨ad, ha, hc⟩ := this
  rw [List.getElem_map] at hc
  refine ⟨h0, by have := hs.len; omega, ?_⟩
  rw [ha]
  exact ⟨_, hc, h⟩
theorem wfI64 {n : Int} (h : (Lit.int .i64 n).wf = true) : -9223372036854775808 ≤ n ∧ n ≤ 9223372036854775807 := by
  simp only [Lit.wf, IntKind.min, IntKind.max, IntKind.signed, IntKind.bits, Bool.and_eq_true, decide_eq_true_eq, if_true] at h
  omega
/-- A slice of numbers that came in. -/
abbrev RowK (k : IntKind) (w : World) (a : Option Addr) (len cap : Nat) (zs : List Int) : Prop :=
  (a = none ∧ len = 0 ∧ cap = 0 ∧ zs = []) ∨
  ∃ x, a = some x ∧ len ≤ cap ∧ cap ≤ maxLen ∧ zs.length = cap ∧ (∀ i, i < zs.length → w.cell? (x.add i) = some (.int k (zs.getD i 0))) ∧ ∀ n ∈ zs, (Lit.int k n).wf = true
theorem rowRd {k : IntKind} {w : World} {a : Option Addr} {len cap : Nat} {zs : List Int} (h : RowK k w a len cap zs) :
    Rd w a ((zs.take len).map (Value.int k)) ∧ len = (zs.take len).length ∧ len ≤ cap ∧ ∀ n ∈ zs.take len, (Lit.int k n).wf = true := by
  rcases h with ⟨rfl, rfl, rfl, rfl⟩ | ⟨x, rfl, hc, hm, hl, hcell, hw⟩
  · exact ⟨Rd.nil _ _, rfl, Nat.le_refl _, by simp⟩
  · refine ⟨fun j u hu => ⟨x, rfl, ?_⟩, by simp [List.length_take]; omega, hc, fun n hn => hw n (List.mem_of_mem_take hn)⟩
    rw [List.getElem?_map, List.getElem?_take] at hu
    split at hu
    case isTrue hj =>
      rw [hcell j (by omega)]
      rw [List.getD_eq_getElem?_getD]
      cases hz : zs[j]? with
      | none => simp [hz] at hu
      | some z => simpa [hz] using hu
    case isFalse => simp at hu
theorem rowB {w : World} {a : Option Addr} {len cap : Nat} {zs : List Int} (h : RowK .u8 w a len cap zs) : ∃ l : List UInt8, Bs w ⟨a, len, cap⟩ l := by
  obtain ⟨h1, h2, h3, h4⟩ := rowRd h
  refine ⟨(zs.take len).map fun n => UInt8.ofNat n.toNat, ?_, by simpa using h2, h3⟩
  unfold u8s
  rw [List.map_map]
  rwa [List.map_congr_left (g := Value.int .u8)]
  intro n hn
  have := h4 n hn
  simp only [Lit.wf, IntKind.min, IntKind.max, IntKind.signed, IntKind.bits, Bool.and_eq_true] at this
  simp only [Function.comp, UInt8.toNat_ofNat']
  congr 1
  simp at this
  omega
theorem rowI {w : World} {a : Option Addr} {len cap : Nat} {zs : List Int} (h : RowK .i64 w a len cap zs) : ∃ l : List Int, Is w ⟨a, len, cap⟩ l ∧ ∀ n ∈ l, -9223372036854775808 ≤ n ∧ n ≤ 9223372036854775807 := by
  obtain ⟨h1, h2, h3, h4⟩ := rowRd h
  exact ⟨_, ⟨h1, h2, h3⟩, fun n hn => wfI64 (h4 n hn)⟩
end Go.Fl
