/- Contracts and plain laws that the claims of this seat lean on, put together. -/
import Derived.Test.YtkaombhkepopgaaDoorM1
import Derived.RangeFuncNested
import Derived.RangeFuncBound
import Derived.RangeFuncCalls
import Derived.RangeFuncLeaves
import Derived.RangeFuncFrom
import Derived.Shelf.Abstract
import Derived.ControlIn
import Derived.TacticsIn
import Derived.OrdersIn
namespace Go.Fl

/-- A chunk that is kept. -/
structure Ch where
  sum : List UInt8
  data : List UInt8
  pins : Nat
/-- A store: what rested longest stands first. -/
structure Sto where
  most : Nat
  room : Nat
  l : List Ch
def bytesL : List Ch → Nat
  | [] => 0
  | c :: l => c.data.length + bytesL l
def heldN : List Ch → Nat
  | [] => 0
  | c :: l => (if 0 < c.pins then 1 else 0) + heldN l
def heldB : List Ch → Nat
  | [] => 0
  | c :: l => (if 0 < c.pins then c.data.length else 0) + heldB l
def looseI : List Ch → Nat
  | [] => 0
  | c :: l => if 0 < c.pins then looseI l + 1 else 0
def findI (d : List UInt8) : List Ch → Option Nat
  | [] => none
  | c :: l => if c.sum = d then some 0 else (findI d l).map (· + 1)
def fitsL (most room n : Nat) (l : List Ch) : Prop := l.length < most ∧ n + bytesL l ≤ room
instance {most room n : Nat} {l : List Ch} : Decidable (fitsL most room n l) := inferInstanceAs (Decidable (_ ∧ _))
def shrinkL (most room n : Nat) : Nat → List Ch → List Ch
  | 0, l => l
  | k + 1, l => if fitsL most room n l then l else shrinkL most room n k (l.eraseIdx (looseI l))
/-- To the young end. -/
def useL (l : List Ch) (k : Nat) : List Ch := l.eraseIdx k ++ (l[k]?).toList
def Sto.has (s : Sto) (d : List UInt8) : Bool := (findI d s.l).isSome
def Sto.put (s : Sto) (d b : List UInt8) : Sto × Int := match findI d s.l with
  | some k => ({ s with l := useL s.l k }, 0)
  | none => if s.most ≤ heldN s.l ∨ s.room < b.length + heldB s.l then (s, 7)
    else ({ s with l := shrinkL s.most s.room b.length s.l.length s.l ++ [⟨d, b, 0⟩] }, 0)
def Sto.get (s : Sto) (d : List UInt8) : Sto × List UInt8 × Int := match findI d s.l with
  | some k => ({ s with l := useL s.l k }, ((s.l[k]?).map (·.data)).getD [], 0)
  | none => (s, [], 90)
def Sto.pin (s : Sto) (d : List UInt8) : Sto × Int := match findI d s.l with
  | some k => ({ s with l := s.l.modify k fun c => { c with pins := c.pins + 1 } }, 0)
  | none => (s, 90)
def Sto.unpin (s : Sto) (d : List UInt8) : Sto × Int := match findI d s.l with
  | some k => if ((s.l[k]?).map (·.pins)).getD 0 = 0 then (s, 91) else ({ s with l := s.l.modify k fun c => { c with pins := c.pins - 1 } }, 0)
  | none => (s, 90)
theorem findI_some {d : List UInt8} : ∀ {l : List Ch} {k : Nat}, findI d l = some k → ∃ c, l[k]? = some c ∧ c.sum = d ∧ k < l.length
  | c :: l, k, h => by
    unfold findI at h
    split at h
    · cases h; exact ⟨c, rfl, by assumption, by simp⟩
    · obtain ⟨j, hj, rfl⟩ := Option.map_eq_some_iff.1 h
      obtain ⟨c', h1, h2, h3⟩ := findI_some hj
      exact ⟨c', by simpa using h1, h2, by simpa using h3⟩
theorem findI_none {d : List UInt8} : ∀ {l : List Ch}, findI d l = none → ∀ c ∈ l, c.sum ≠ d
  | [], _, _, h => by cases h
  | c :: l, h, c', hc => by
    unfold findI at h
    split at h
    · cases h
    · rename_i hne
      rcases List.mem_cons.1 hc with rfl | hc
      · exact hne
      · exact findI_none (Option.map_eq_none_iff.1 h) c' hc
theorem heldN_le : ∀ l : List Ch, heldN l ≤ l.length
  | [] => Nat.le_refl _
  | c :: l => by have := heldN_le l; simp only [heldN]; rw [List.length_cons]; split <;> omega
theorem heldB_le : ∀ l : List Ch, heldB l ≤ bytesL l
  | [] => Nat.le_refl _
  | c :: l => by have := heldB_le l; simp only [heldB, bytesL]; split <;> omega
theorem looseI_le : ∀ l : List Ch, looseI l ≤ l.length
  | [] => Nat.le_refl _
  | c :: l => by have := looseI_le l; simp only [looseI]; rw [List.length_cons]; split <;> omega
/-- All are held. -/
theorem looseI_all : ∀ {l : List Ch}, looseI l = l.length → heldN l = l.length ∧ heldB l = bytesL l
  | [], _ => ⟨rfl, rfl⟩
  | c :: l, h => by
    unfold looseI at h
    split at h
    · rename_i hc
      obtain ⟨h1, h2⟩ := looseI_all (l := l) (by simpa using h)
      simp only [heldN, heldB, bytesL]
      rw [if_pos hc, if_pos hc, h1, h2, List.length_cons]
      exact ⟨by omega, rfl⟩
    · simp at h
/-- What goes is not held. -/
theorem loose_erase : ∀ {l : List Ch}, looseI l < l.length → heldN (l.eraseIdx (looseI l)) = heldN l ∧ heldB (l.eraseIdx (looseI l)) = heldB l
  | c :: l, h => by
    unfold looseI at h ⊢
    split at h
    · rename_i hc
      rw [if_pos hc]
      obtain ⟨h1, h2⟩ := loose_erase (l := l) (by simpa using h)
      rw [List.eraseIdx_cons_succ]
      simp only [heldN, heldB]
      rw [h1, h2]
      exact ⟨rfl, rfl⟩
    · rename_i hc
      rw [if_neg hc, List.eraseIdx_cons_zero]
      simp only [heldN, heldB]
      rw [if_neg hc, if_neg hc]
      exact ⟨by omega, by omega⟩
theorem bytesL_append : ∀ l m : List Ch, bytesL (l ++ m) = bytesL l + bytesL m
  | [], m => by simp [bytesL]
  | c :: l, m => by have := bytesL_append l m; simp only [List.cons_append, bytesL, this]; omega
theorem bytesL_erase : ∀ {l : List Ch} {k : Nat} {c : Ch}, l[k]? = some c → bytesL l = c.data.length + bytesL (l.eraseIdx k)
  | c :: l, 0, c', h => by cases h; rfl
  | c :: l, k + 1, c', h => by
    have := bytesL_erase (l := l) (k := k) (c := c') (by simpa using h)
    rw [List.eraseIdx_cons_succ]
    simp only [bytesL, this]; omega
/-- It does not fit, and may: something is loose. -/
theorem loose_there {most room n : Nat} {l : List Ch} (h1 : heldN l < most) (h2 : n + heldB l ≤ room) (h : ¬fitsL most room n l) : looseI l < l.length := by
  rcases Nat.lt_or_ge (looseI l) l.length with h3 | h3
  · exact h3
  · have := looseI_le l
    obtain ⟨h4, h5⟩ := looseI_all (l := l) (by omega)
    exact absurd ⟨by omega, by omega⟩ h
theorem shrink_fits {most room n : Nat} : ∀ {k : Nat} {l : List Ch}, l.length ≤ k → heldN l < most → n + heldB l ≤ room → fitsL most room n (shrinkL most room n k l)
  | 0, l, hk, h1, h2 => by
    have : l = [] := List.eq_nil_of_length_eq_zero (by omega)
    subst this
    exact ⟨by show 0 < most; omega, by show n + 0 ≤ room; omega⟩
  | k + 1, l, hk, h1, h2 => by
    unfold shrinkL
    split
    · assumption
    · rename_i hf
      have hl := loose_there h1 h2 hf
      obtain ⟨e1, e2⟩ := loose_erase hl
      refine shrink_fits ?_ (by omega) (by omega)
      rw [List.length_eraseIdx, if_pos hl]; omega
theorem shrink_any {most room n : Nat} : ∀ {k : Nat} {l : List Ch}, l.length ≤ k → heldN l < most → n + heldB l ≤ room → shrinkL most room n k l = shrinkL most room n l.length l
  | k, [], _, h1, h2 => by
    cases k with
    | zero => rfl
    | succ k => 
      unfold shrinkL
      rw [if_pos ⟨by show 0 < most; omega, by show n + 0 ≤ room; omega⟩]; rfl
  | k + 1, c :: l, hk, h1, h2 => by
    rw [List.length_cons]
    unfold shrinkL
    split
    · rfl
    · rename_i hf
      have hl := loose_there h1 h2 hf
      obtain ⟨e1, e2⟩ := loose_erase hl
      have hlen : ((c :: l).eraseIdx (looseI (c :: l))).length = l.length := by rw [List.length_eraseIdx, if_pos hl]; rfl
      rw [shrink_any (by rw [hlen]; simpa using hk) (by omega) (by omega), hlen]
  | 0, _ :: _, hk, _, _ => by simp at hk
/-- One step. -/
theorem shrink_step {most room n : Nat} {l : List Ch} (h1 : heldN l < most) (h2 : n + heldB l ≤ room) (h : ¬fitsL most room n l) : shrinkL most room n l.length l = shrinkL most room n (l.eraseIdx (looseI l)).length (l.eraseIdx (looseI l)) := by
  have hl := loose_there h1 h2 h
  have hlen : (l.eraseIdx (looseI l)).length = l.length - 1 := by rw [List.length_eraseIdx, if_pos hl]
  obtain ⟨q, hq⟩ : ∃ q, l.length = q + 1 := ⟨l.length - 1, by omega⟩
  rw [hlen, hq]
  conv => lhs; unfold shrinkL
  rw [if_neg h]
  rfl
theorem shrink_done {most room n : Nat} {l : List Ch} (h : fitsL most room n l) : shrinkL most room n l.length l = l := by
  cases hq : l.length with
  | zero => rfl
  | succ q => unfold shrinkL; rw [if_pos h]
/-- Is a map there? -/
theorem qnMapNe {P : Program} {t kt et : TypeId} (ht : P.underlying t = some (.map kt et)) {r : Nat} {w : World} {K : Bool → Prop} (k : K true) : qn P (do eqGuard .neq t (.const .nilIface) (.const .nilIface) (.map (some r)) (.map none); binOp .neq t (.map (some r)) (.map none)) .B w K := by
  refine ⟨true, fun w' _ => ?_, k⟩
  rw [Sem.run_bind]
  have h1 : (eqGuard .neq t (.const .nilIface) (.const .nilIface) (.map (some r)) (.map none)).run P w' = .ok () w' := by simp [eqGuard]
  rw [h1, Result.andThen_ok]
  have h2 : (Op.equalIn 10000 t (.map (some r)) (.map none)).run P w' = .ok (false) w' := by
    rw [Op.equalIn]
    simp [run_underlying ht]
  simp only [binOp]
  simp only [Op.equal, Op.maxDepth, Sem.run_bind, h2, Result.andThen_ok, Sem.run_pure]
  rfl
theorem qnMapNo {P : Program} {t kt et : TypeId} (ht : P.underlying t = some (.map kt et)) {w : World} {K : Bool → Prop} (k : K false) : qn P (do eqGuard .neq t (.const .nilIface) (.const .nilIface) (.map none) (.map none); binOp .neq t (.map none) (.map none)) .B w K := by
  refine ⟨false, fun w' _ => ?_, k⟩
  rw [Sem.run_bind]
  have h1 : (eqGuard .neq t (.const .nilIface) (.const .nilIface) (.map none) (.map none)).run P w' = .ok () w' := by simp [eqGuard]
  rw [h1, Result.andThen_ok]
  have h2 : (Op.equalIn 10000 t (.map none) (.map none)).run P w' = .ok (true) w' := by
    rw [Op.equalIn]
    simp [run_underlying ht]
  simp only [binOp]
  simp only [Op.equal, Op.maxDepth, Sem.run_bind, h2, Result.andThen_ok, Sem.run_pure]
  rfl
/-- Without a copy, and all among others: no more than these. -/
theorem nodup_len {α : Type} : ∀ {l m : List α}, l.Nodup → (∀ a ∈ l, a ∈ m) → l.length ≤ m.length
  | [], _, _, _ => Nat.zero_le _
  | a :: l, m, h, hs => by
    obtain ⟨m1, m2, rfl⟩ := List.append_of_mem (hs a (by simp))
    have h' := List.nodup_cons.1 h
    have := nodup_len (l := l) (m := m1 ++ m2) h'.2 fun b hb => by
      have hne : b ≠ a := fun e => h'.1 (e ▸ hb)
      have := hs b (by simp [hb])
      simp only [List.mem_append, List.mem_cons] at this ⊢
      rcases this with h1 | h1 | h1
      · exact .inl h1
      · exact absurd h1 hne
      · exact .inr h1
    simp only [List.length_append, List.length_cons] at this ⊢
    omega
/-- How many entries a map has. -/
theorem qnLenM {P : Program} {t kt et ty : TypeId} {κ : Type} {key : κ → Value} {w : World} {r : Nat} {f : κ → Option Value} {ks : List Value} (ht : P.underlying t = some (.map kt et)) (h : MapF key w r f)
    (hnd : ks.Nodup) (hk : ∀ v, v ∈ ks ↔ ∃ k u, v = key k ∧ f k = some u) {K : Int → Prop} (k : K ks.length) : qn P (Builtin.len_ #[t] ty #[.map (some r)]) (.I .i64) w K := by
  obtain ⟨es, clock, h1, h2, h3, h4⟩ := h.ex
  have hlen : es.size = ks.length := by
    have e : es.size = (es.toList.map (·.key)).length := by simp
    rw [e]
    refine Nat.le_antisymm (nodup_len h3 fun a ha => ?_) (nodup_len hnd fun a ha => ?_)
    · obtain ⟨x, hx, rfl⟩ := List.mem_map.1 ha
      obtain ⟨k', hk', hv⟩ := h2 x hx
      exact (hk _).2 ⟨k', _, hk', hv⟩
    · obtain ⟨k', u, rfl, hu⟩ := (hk _).1 ha
      obtain ⟨x, hx, h5, _⟩ := h4 k' u hu
      exact List.mem_map.2 ⟨x, hx, h5⟩
  refine ⟨(ks.length : Int), fun w' hw' => ?_, k⟩
  have h1' : w'.heap[r]? = some (.map es clock) := (hw' r h.lt).trans h1
  simp [Builtin.len_, run_underlying ht, Go.MapKept.run_getObj_map h1', goInt, hlen]
  rfl
/-- Rows of numbers. -/
abbrev natsV (l : List Nat) : List Value := l.map fun (i : Nat) => Value.int .i64 (i : Int)
theorem natsV_one (l : List Nat) : ∀ v ∈ natsV l, v.oneCell' = true := fun v hv => by
  obtain ⟨s, _, rfl⟩ := List.mem_map.1 hv
  rfl
end Go.Fl
namespace Go.Proofs.YtkaombhkepopgaaDoor
open Go.RowKit Go.Fl

abbrev K32 := {l : List UInt8 // l.length = 32}
abbrev Zg (G F : Nat → Prop) : Nat → Prop := fun k => G k ∨ F k
structure Sx where
  m9 : M9
  ids : List Nat
  fr : List Nat
  mp : K32 → Option Nat
  mr : Nat
abbrev mapV (mp : K32 → Option Nat) : K32 → Option Value := fun k => (mp k).map fun (i : Nat) => Value.int .i64 (i : Int)
/-- A slot has this chunk. -/
def Slt (w : World) (Z : Nat → Prop) (f : Slots) (i : Nat) (c : Ch) : Prop := (f i).sum = c.sum ∧ Cb w Z (f i).data c.data ∧ (f i).pins = (c.pins : Int)
/-- A store in memory. G: what others may turn; F: what this one may. -/
structure Stor (w : World) (G F : Nat → Prop) (g : Nat) (s : Sto) (x : Sx) : Prop where
  mem : Mem9 w g x.m9
  en : x.m9.n = s.most
  em : x.m9.m = some x.mr
  emost : x.m9.most = (s.most : Int)
  eroom : x.m9.room = (s.room : Int)
  ebytes : x.m9.bytes = (bytesL s.l : Int)
  free : w.ownsRow 0 t_int 1 (.slice x.m9.free.a x.m9.free.n x.m9.free.c) x.m9.free.n (natsV x.fr)
  map : MapF (keyB (n := 32)) w x.mr (mapV x.mp)
  mp : ∀ k i, x.mp k = some i ↔ i ∈ x.ids ∧ (x.m9.f i).sum = k.1
  ch : Chain x.m9.f x.ids x.m9.old x.m9.young
  nd : (x.fr ++ x.ids).Nodup
  rg : ∀ i ∈ x.fr ++ x.ids, i < s.most
  ln : x.fr.length + x.ids.length = s.most
  all : All2 (Slt w (Zg G F) x.m9.f) x.ids s.l
  fg : F g
  fs : F x.m9.sb
  ff : ∀ ad, x.m9.free.a = some ad → F ad.block
  fm : F x.mr
  fl : ∀ k, F k → k < w.heap.size
  gl : ∀ k, G k → k < w.heap.size
  gf : ∀ k, G k → ¬F k
  sz : s.most ≤ 64 ∧ s.room ≤ 8192
  fit : bytesL s.l ≤ s.room
def StorTo (w w' : World) (G F : Nat → Prop) (g : Nat) (s' : Sto) : Prop := ∃ F' x', Stor w' G F' g s' x' ∧ Mv F w w' ∧ ∀ k, F' k → F k ∨ w.heap.size ≤ k
theorem StorTo.step {w w1 w2 : World} {G F F1 : Nat → Prop} {g : Nat} {t2 : Sto} (hm : Mv F w w1) (hF : ∀ k, F1 k → F k ∨ w.heap.size ≤ k) (h : StorTo w1 w2 G F1 g t2) : StorTo w w2 G F g t2 := by
  obtain ⟨F2, x2, h1, h2, h3⟩ := h
  refine ⟨F2, x2, h1, hm.trans h2 hF, fun k hk => ?_⟩
  rcases h3 k hk with h4 | h4
  · exact hF k h4
  · have := hm.size; right; omega
theorem kmS : KeyM Tryd.prog t_api_Sum (keyB (n := 32)) := keyM_bytes u_api_Sum u_uint8 (fun w => by
  obtain ⟨i, z, hi, hz, hsize, hby, hzs⟩ := slB.info
  simp [sizeOf, typeInfo, hi, hsize])
theorem zInt (w : World) : (zeroValue t_int).run Tryd.prog w = .ok (.int .i64 0) w := run_zeroV (by kernel_rfl) w
section
variable {w : World} {G F : Nat → Prop} {g : Nat} {s : Sto} {x : Sx}
theorem Stor.len (h : Stor w G F g s x) : x.ids.length = s.l.length := h.all.length
theorem Stor.lm (h : Stor w G F g s x) : s.l.length ≤ s.most := by have := h.len; have := h.ln; omega
theorem Stor.slt (h : Stor w G F g s x) {k i : Nat} {c : Ch} (hi : x.ids[k]? = some i) (hc : s.l[k]? = some c) : Slt w (Zg G F) x.m9.f i c := by
  obtain ⟨h1, rfl⟩ := List.getElem?_eq_some_iff.1 hi
  obtain ⟨h2, rfl⟩ := List.getElem?_eq_some_iff.1 hc
  exact h.all.get h1 h2
theorem Stor.rgi (h : Stor w G F g s x) {k i : Nat} (hi : x.ids[k]? = some i) : i < x.m9.n := by
  rw [h.en]; exact h.rg i (List.mem_append_right _ (List.mem_of_getElem? hi))
/-- Where a digest is found. -/
theorem Stor.find (h : Stor w G F g s x) {d : List UInt8} (hd : d.length = 32) : (∃ k i c, findI d s.l = some k ∧ x.ids[k]? = some i ∧ s.l[k]? = some c ∧ c.sum = d ∧ x.mp ⟨d, hd⟩ = some i) ∨ (findI d s.l = none ∧ x.mp ⟨d, hd⟩ = none) := by
  cases hf : findI d s.l with
  | some k =>
    obtain ⟨c, h1, h2, h3⟩ := findI_some hf
    have hk : k < x.ids.length := by rw [h.len]; exact h3
    have hi : x.ids[k]? = some x.ids[k] := List.getElem?_eq_getElem hk
    refine .inl ⟨k, x.ids[k], c, rfl, hi, h1, h2, (h.mp _ _).2 ⟨List.getElem_mem hk, ?_⟩⟩
    rw [(h.slt hi h1).1, h2]
  | none =>
    refine .inr ⟨rfl, ?_⟩
    cases hm : x.mp ⟨d, hd⟩ with
    | none => rfl
    | some i =>
      obtain ⟨h1, h2⟩ := (h.mp _ _).1 hm
      obtain ⟨k, hk, rfl⟩ := List.mem_iff_getElem.1 h1
      have hk' : k < s.l.length := by rw [← h.len]; exact hk
      have := (h.slt (List.getElem?_eq_getElem hk) (List.getElem?_eq_getElem hk')).1
      exact absurd (this.symm.trans h2) (findI_none hf _ (List.getElem_mem hk'))
/-- Sums are unlike. -/
theorem Stor.inj (h : Stor w G F g s x) {j k a b : Nat} (ha : x.ids[j]? = some a) (hb : x.ids[k]? = some b) (e : (x.m9.f a).sum = (x.m9.f b).sum) : a = b := by
  have h1 := (h.mp ⟨_, h.mem.f32 a⟩ a).2 ⟨List.mem_of_getElem? ha, rfl⟩
  have h2 := (h.mp ⟨_, h.mem.f32 a⟩ b).2 ⟨List.mem_of_getElem? hb, e.symm⟩
  rw [h1] at h2
  exact Option.some.inj h2
theorem Slt.mv {Z Z' E : Nat → Prop} {w' : World} {f f' : Slots} {i : Nat} {c : Ch} (h : Slt w Z f i c) (hm : Mv E w w') (hE : ∀ k, E k → Z k ∨ w.heap.size ≤ k) (hZ : ∀ k, Z' k → Z k ∨ w.heap.size ≤ k)
    (h1 : (f' i).sum = (f i).sum) (h2 : (f' i).data = (f i).data) (h3 : (f' i).pins = (f i).pins) : Slt w' Z' f' i c :=
  ⟨h1.trans h.1, by rw [h2]; exact h.2.1.mv hm hE hZ, h3.trans h.2.2⟩
/-- A store, behind something that did not touch it. -/
theorem Stor.other {w' : World} {G' E : Nat → Prop} (h : Stor w G F g s x) (hm : Mv E w w') (hE : ∀ k, E k → (G k ∧ ¬F k) ∨ w.heap.size ≤ k) (hG : ∀ k, G' k → G k ∨ w.heap.size ≤ k) (hl : ∀ k, G' k → k < w'.heap.size) : Stor w' G' F g s x := by
  have hEZ : ∀ k, E k → Zg G F k ∨ w.heap.size ≤ k := fun k hk => (hE k hk).imp (fun h => .inl h.1) id
  have hZ : ∀ k, Zg G' F k → Zg G F k ∨ w.heap.size ≤ k := fun k hk => by
    rcases hk with hk | hk
    · exact (hG k hk).imp .inl id
    · exact .inl (.inr hk)
  have hEF : ∀ k, F k → ¬E k := fun k hf he => by
    rcases hE k he with h1 | h1
    · exact h1.2 hf
    · have := h.fl k hf; omega
  refine { h with mem := h.mem.mv hm (hEF _ h.fg) (hEF _ h.fs), free := own_kp h.free hm.kp fun ad ha => hEF _ (h.ff ad ha), map := h.map.sub (hm.block _ h.map.lt (hEF _ h.fm)), all := h.all.mono fun i c _ _ hr => hr.mv hm hEZ hZ rfl rfl rfl, fl := fun k hk => Nat.lt_of_lt_of_le (h.fl k hk) hm.size, gl := hl, gf := fun k hk hf => ?_ }
  rcases hG k hk with h1 | h1
  · exact h.gf k h1 hf
  · have := h.fl k hf; omega
theorem Stor.fr {w' : World} (h : Stor w G F g s x) (hf : Fr w w') : Stor w' G F g s x :=
  h.other (E := fun _ => False) (Mv.of_fr hf) (fun _ h => h.elim) (fun _ h => .inl h) fun k hk => Nat.lt_of_lt_of_le (h.gl k hk) hf.size
theorem Stor.refl (h : Stor w G F g s x) : StorTo w w G F g s := ⟨F, x, h, Mv.refl _ _, fun _ h => .inl h⟩
theorem Stor.at_fr {w' : World} (h : Stor w G F g s x) (hf : Fr w w') : StorTo w w' G F g s := ⟨F, x, h.fr hf, Mv.of_fr hf, fun _ h => .inl h⟩
theorem smade_ok (h : Stor w G F g s x) : cl Tryd.prog n_store_Store_made #[.pointer (some ⟨g, 0, none⟩)] .B w fun (r : Bool) w' => r = true ∧ w = w' := by
  refine store_Store_made.cl ?_
  unfold store_Store_made
  refine bT rfl ?_
  dsimp -zeta only [nz]
  rw [addOff]
  refine ldM0 (r := some x.mr) h.mem.st (by rw [← h.em]; rfl) ?_
  refine qnMapNe u_map_api_Sum_int ?_
  exact ⟨rfl, rfl⟩
theorem sMade_ok (h : Stor w G F g s x) : cl Tryd.prog n_store_Store_Made #[.pointer (some ⟨g, 0, none⟩)] .B w fun (r : Bool) w' => r = true ∧ w = w' := by
  refine store_Store_Made.cl ?_
  unfold store_Store_Made
  exact (smade_ok h).mono fun _ _ h => h
/-- What find answers. -/
def FindP (x : Sx) (s : Sto) (d : List UInt8) (r : Int × Int × Unit) : Prop := (∃ k i c, findI d s.l = some k ∧ x.ids[k]? = some i ∧ s.l[k]? = some c ∧ c.sum = d ∧ r = ((i : Int), 0, ())) ∨ (findI d s.l = none ∧ r = (0, 90, ()))
theorem find_ok {d : List UInt8} (h : Stor w G F g s x) (hd : d.length = 32) : cl Tryd.prog n_store_Store_find #[.pointer (some ⟨g, 0, none⟩), .agg (u8s d).toArray] (.tup (.pair (.I .i64) (.pair (.I .i64) .nil))) w fun (r : Int × Int × Unit) w' => FindP x s d r ∧ Fr w w' := by
  refine store_Store_find.cl (p1 := ⟨u8s d, by rw [u8s_length, hd]⟩) ?_
  unfold store_Store_find
  refine nwI fun a1 w2 ha1 hs2 hf2 hb1 _ => ?_
  have h2 := h.fr hf2
  refine (smade_ok h2).mono ?_
  rintro _ _ ⟨rfl, rfl⟩
  refine bF rfl ?_
  dsimp -zeta only [nz]
  rw [addOff]
  refine ldM0 (r := some x.mr) h2.mem.st (by rw [← h.em]; rfl) ?_
  refine ldR0 hb1 (by rw [u8s_length, hd]) ?_
  have hF := h.find hd
  rcases hF with ⟨k, i, c, hf, hi, hc, hcd, hm⟩ | ⟨hf, hm⟩
  · refine qnM kmS u_map_api_Sum_int zInt h2.map ⟨d, hd⟩ ((i : Int), true, ()) (by simp [mapV, hm, Kd.av, AV.val, AV.elems]) ?_
    intro n9
    refine bT rfl ?_
    exact ⟨.inl ⟨k, i, c, hf, hi, hc, hcd, rfl⟩, hf2.trans (Fr.drewN _ _)⟩
  · refine qnM kmS u_map_api_Sum_int zInt h2.map ⟨d, hd⟩ (0, false, ()) (by simp [mapV, hm, Kd.av, AV.val, AV.elems]) ?_
    intro n9
    refine bF rfl ?_
    exact ⟨.inr ⟨hf, rfl⟩, hf2.trans (Fr.drewN _ _)⟩
theorem Has_ok {d : List UInt8} (h : Stor w G F g s x) (hd : d.length = 32) : cl Tryd.prog n_store_Store_Has #[.pointer (some ⟨g, 0, none⟩), .agg (u8s d).toArray] .B w fun (r : Bool) w' => r = s.has d ∧ Fr w w' := by
  refine store_Store_Has.cl (p1 := ⟨u8s d, by rw [u8s_length, hd]⟩) ?_
  unfold store_Store_Has
  refine nwI fun a1 w2 ha1 hs2 hf2 hb1 _ => ?_
  refine ldR0 hb1 (by rw [u8s_length, hd]) ?_
  refine (find_ok (h.fr hf2) hd).mono ?_
  rintro r w5 ⟨hr, hf5⟩
  refine ⟨?_, hf2.trans hf5⟩
  unfold Sto.has
  rcases hr with ⟨k, i, c, hf, _, _, _, rfl⟩ | ⟨hf, rfl⟩
  · rw [hf]; rfl
  · rw [hf]; rfl
end
end Go.Proofs.YtkaombhkepopgaaDoor
namespace Go.Proofs.YtkaombhkepopgaaDoor
open Go.RowKit Go.Fl

theorem All2.erase {α β : Type} {R : α → β → Prop} : ∀ {l : List α} {m : List β}, All2 R l m → ∀ (k : Nat), All2 R (l.eraseIdx k) (m.eraseIdx k)
  | [], [], _, k => by rw [List.eraseIdx_nil, List.eraseIdx_nil]; exact trivial
  | _ :: _, _ :: _, h, 0 => h.2
  | _ :: _, _ :: _, h, k + 1 => ⟨h.1, All2.erase h.2 k⟩
  | [], _ :: _, h, _ => h.elim
  | _ :: _, [], h, _ => h.elim
/-- A store's parts. -/
structure Prt (w : World) (g : Nat) (x : M9) (fr : List Nat) (mr : Nat) (f : K32 → Option Value) : Prop where
  mem : Mem9 w g x
  free : w.ownsRow 0 t_int 1 (.slice x.free.a x.free.n x.free.c) x.free.n (natsV fr)
  map : MapF (keyB (n := 32)) w mr f
section
variable {w : World} {G F : Nat → Prop} {g : Nat} {s : Sto} {x : Sx}
theorem Stor.prt (h : Stor w G F g s x) : Prt w g x.m9 x.fr x.mr (mapV x.mp) := ⟨h.mem, h.free, h.map⟩
theorem ownT {w : World} {base : Nat} {e : TypeId} {sz : Nat} {s : Sl} {n : Nat} {xs : List Value} (h : w.ownsRow base e sz (.slice s.a s.n s.c) n xs) {ad : Addr} (ha : s.a = some ad) : ∃ cur, w.heap[ad.block]? = some (.cells cur e (0, 0)) := by
  rcases h.2 with ⟨hv, _⟩ | ⟨g, cap, cur, hv, _, hc, _⟩
  · injection hv with h1; rw [ha] at h1; cases h1
  · injection hv with h1; rw [ha] at h1; cases h1; exact ⟨cur, hc⟩
theorem Prt.nem {x : M9} {fr : List Nat} {mr : Nat} {f : K32 → Option Value} (h : Prt w g x fr mr f) : mr ≠ g ∧ mr ≠ x.sb := by
  obtain ⟨es, clock, h1, _⟩ := h.map.ex
  refine ⟨fun e => ?_, fun e => ?_⟩
  · have := h.mem.st; rw [← e, h1] at this; cases this
  · have := h.mem.row; unfold SlR at this; rw [← e, h1] at this; cases this
theorem Prt.nef {x : M9} {fr : List Nat} {mr : Nat} {f : K32 → Option Value} (h : Prt w g x fr mr f) {ad : Addr} (ha : x.free.a = some ad) : ad.block ≠ g ∧ ad.block ≠ x.sb ∧ ad.block ≠ mr := by
  obtain ⟨cur, hc⟩ := ownT h.free ha
  obtain ⟨es, clock, h1, _⟩ := h.map.ex
  refine ⟨fun e => ?_, fun e => ?_, fun e => ?_⟩
  · have h2 := h.mem.st
    rw [← e, hc] at h2
    simp only [Option.some.injEq, Obj.cells.injEq] at h2
    exact absurd h2.2.1 (by decide)
  · have h2 := h.mem.row
    unfold SlR at h2
    rw [← e, hc] at h2
    simp only [Option.some.injEq, Obj.cells.injEq] at h2
    exact absurd h2.2.1 (by decide)
  · rw [← e, hc] at h1; cases h1
theorem Prt.fr' {x : M9} {fr : List Nat} {mr : Nat} {f : K32 → Option Value} (h : Prt w g x fr mr f) {w' : World} (hf : Fr w w') : Prt w' g x fr mr f :=
  ⟨h.mem.fr hf, own_kept h.free hf, h.map.sub (hf.block mr h.map.lt)⟩
theorem Prt.stepMem {x x' : M9} {fr : List Nat} {mr : Nat} {f : K32 → Option Value} (h : Prt w g x fr mr f) {w' : World} (hm : Mem9 w' g x') (hx : x'.free = x.free) (hv : Mv (own9 g x) w w') : Prt w' g x' fr mr f := by
  have hn := h.nem
  refine ⟨hm, ?_, h.map.sub (hv.block mr h.map.lt fun e => e.elim hn.1 hn.2)⟩
  rw [hx]
  exact own_kp h.free hv.kp fun ad ha => fun e => e.elim (h.nef ha).1 (h.nef ha).2.1
theorem Prt.stepMap {x : M9} {fr : List Nat} {mr : Nat} {f f' : K32 → Option Value} (h : Prt w g x fr mr f) {w' : World} (hm : MapF (keyB (n := 32)) w' mr f') (hg : w.grownBy w' (some mr)) : Prt w' g x fr mr f' := by
  have hn := h.nem
  have hv : Mv (fun k => k = mr) w w' := Mv.of_grown hg rfl
  exact ⟨h.mem.mv hv (fun e => hn.1 e.symm) (fun e => hn.2 e.symm), own_kp h.free hv.kp fun ad ha => (h.nef ha).2.2, hm⟩
/-- Into a store again: the same blocks. -/
theorem Stor.upd {w' : World} {s' : Sto} {m' : M9} {ids' fr' : List Nat} {mp' : K32 → Option Nat} {F' : Nat → Prop} (h : Stor w G F g s x) (hp : Prt w' g m' fr' x.mr (mapV mp')) (hsb : m'.sb = x.m9.sb)
    (hF : ∀ k, F' k → F k ∨ w.heap.size ≤ k) (hFo : ∀ k, F k → F' k) (hFl : ∀ k, F' k → k < w'.heap.size) (hff : ∀ ad, m'.free.a = some ad → F' ad.block)
    (e1 : m'.n = x.m9.n) (e2 : m'.m = x.m9.m) (e3 : m'.most = x.m9.most) (e4 : m'.room = x.m9.room) (e5 : s'.most = s.most) (e6 : s'.room = s.room) (hmp : ∀ k i, mp' k = some i ↔ i ∈ ids' ∧ (m'.f i).sum = k.1)
    (hch : Chain m'.f ids' m'.old m'.young) (hnd : (fr' ++ ids').Nodup) (hrg : ∀ i ∈ fr' ++ ids', i < s.most) (hln : fr'.length + ids'.length = s.most) (hall : All2 (Slt w' (Zg G F') m'.f) ids' s'.l) (hb : m'.bytes = (bytesL s'.l : Int)) (hfit : bytesL s'.l ≤ s.room)
    (hsz : w.heap.size ≤ w'.heap.size) : Stor w' G F' g s' ⟨m', ids', fr', mp', x.mr⟩ where
  mem := hp.mem
  en := by rw [e5]; exact e1.trans h.en
  em := e2.trans h.em
  emost := by rw [e5]; exact e3.trans h.emost
  eroom := by rw [e6]; exact e4.trans h.eroom
  ebytes := hb
  free := hp.free
  map := hp.map
  mp := hmp
  ch := hch
  nd := hnd
  rg := by rw [e5]; exact hrg
  ln := by rw [e5]; exact hln
  all := hall
  fg := hFo _ h.fg
  fs := by show F' m'.sb; rw [hsb]; exact hFo _ h.fs
  ff := hff
  fm := hFo _ h.fm
  fl := hFl
  gl := fun k hk => Nat.lt_of_lt_of_le (h.gl k hk) hsz
  gf := fun k hk hf => by
    rcases hF k hf with h1 | h1
    · exact h.gf k hk h1
    · have := h.gl k hk; omega
  sz := by rw [e5, e6]; exact h.sz
  fit := by rw [e6]; exact hfit
/-- The young end is a slot, or none. -/
theorem Chain.endY {f : Slots} {ids : List Nat} {old young : Int} (h : Chain f ids old young) {n : Nat} (hr : ∀ i ∈ ids, i < n) : young = -1 ∨ (0 ≤ young ∧ young.toNat < n) := by
  have hy := h.young
  cases hl : ids.length with
  | zero => rw [hl] at hy; exact .inl hy
  | succ q =>
    have hq : q < ids.length := by omega
    have := pv_some (List.getElem?_eq_getElem hq)
    rw [hl, this] at hy
    right
    rw [hy]
    have := hr _ (List.getElem_mem hq)
    omega
theorem Chain.nb {f : Slots} {ids : List Nat} {old young : Int} (h : Chain f ids old young) {n : Nat} (hr : ∀ i ∈ ids, i < n) {k i : Nat} (hi : ids[k]? = some i) : ((f i).prev = -1 ∨ (0 ≤ (f i).prev ∧ (f i).prev.toNat < n)) ∧ ((f i).next = -1 ∨ (0 ≤ (f i).next ∧ (f i).next.toNat < n)) := by
  rw [h.prev k i hi, h.next k i hi]
  constructor
  · cases k with
    | zero => exact .inl rfl
    | succ k =>
      have hk : k < ids.length := by have := (List.getElem?_eq_some_iff.1 hi).1; omega
      rw [pv_some (List.getElem?_eq_getElem hk)]
      have := hr _ (List.getElem_mem hk)
      right; omega
  · by_cases hk : k + 1 < ids.length
    · rw [nx_some (List.getElem?_eq_getElem hk)]
      have := hr _ (List.getElem_mem hk)
      right; omega
    · rw [nx_none (by omega)]; exact .inl rfl
theorem not_erased {l : List Nat} (h : l.Nodup) {k i : Nat} (hi : l[k]? = some i) : i ∉ l.eraseIdx k := by
  intro hm
  obtain ⟨j, hjk, hj⟩ := List.mem_eraseIdx_iff_getElem?.1 hm
  exact hjk (nd_get h hj hi)
theorem mem_erase_or {l : List Nat} {k i j : Nat} (hi : l[k]? = some i) (hj : j ∈ l) : j = i ∨ j ∈ l.eraseIdx k := by
  obtain ⟨m, hm⟩ := List.mem_iff_getElem?.1 hj
  by_cases e : m = k
  · subst e; rw [hm] at hi; exact .inl (Option.some.inj hi)
  · exact .inr (List.mem_eraseIdx_iff_getElem?.2 ⟨m, e, hm⟩)
/-- A chunk is used: out, and in at the young end. -/
theorem use_cl {k i : Nat} {c : Ch} (h : Stor w G F g s x) (hi : x.ids[k]? = some i) (hc : s.l[k]? = some c) {Q : World → Prop}
    (hQ : ∀ w2 x2, Stor w2 G F g { s with l := useL s.l k } x2 → Mv F w w2 → Slt w2 (Zg G F) x2.m9.f i c → i < x2.m9.n → Q w2) :
    cl Tryd.prog n_store_row_unlink #[.pointer (some ⟨g, 0, none⟩), .int .i64 i] (.tup .nil) w fun (_ : Unit) w1 => cl Tryd.prog n_store_row_link #[.pointer (some ⟨g, 0, none⟩), .int .i64 i] (.tup .nil) w1 fun (_ : Unit) w2 => Q w2 := by
  have hin := h.rgi hi
  have hr : ∀ j ∈ x.ids, j < x.m9.n := fun j hj => by rw [h.en]; exact h.rg j (List.mem_append_right _ hj)
  have hnb := Chain.nb h.ch hr hi
  refine (unlink_ok h.mem hin hnb.1 hnb.2).mono ?_
  rintro _ w1 ⟨m1, v1⟩
  obtain ⟨hc1, _⟩ := h.ch.unlink hi
  have hk1 := unlink_keep x.m9.f x.m9.old x.m9.young i
  generalize hu : unlinkF x.m9.f x.m9.old x.m9.young i = u at *
  have hr1 : ∀ j ∈ x.ids.eraseIdx k, j < x.m9.n := fun j hj => hr j (List.mem_of_mem_eraseIdx hj)
  have hey := Chain.endY hc1 hr1
  refine (link_ok m1 hin hey).mono ?_
  rintro _ w2 ⟨m2, v2⟩
  have hni := not_erased h.ch.nd hi
  have hc2 := hc1.link hni
  have hk2 := link_keep u.1 u.2.1 u.2.2 i
  generalize hl : linkF u.1 u.2.1 u.2.2 i = l at *
  have p2 := (h.prt.stepMem m1 rfl v1).stepMem m2 rfl v2
  have hv : Mv (own9 g x.m9) w w2 := on9 v1 v2
  have hvF : Mv F w w2 := hv.mono fun k hk => .inl (by rcases hk with rfl | rfl; exact h.fg; exact h.fs)
  have hS : ∀ j c', Slt w (Zg G F) x.m9.f j c' → Slt w2 (Zg G F) l.1 j c' := fun j c' hs => by
    have hE : ∀ k, own9 g x.m9 k → Zg G F k ∨ w.heap.size ≤ k := fun k hk => .inl (.inr (by rcases hk with rfl | rfl; exact h.fg; exact h.fs))
    exact hs.mv hv hE (fun _ h => .inl h) ((hk2.sum j).trans (hk1.sum j)) ((hk2.data j).trans (hk1.data j)) ((hk2.pins j).trans (hk1.pins j))
  refine hQ w2 ⟨{ x.m9 with f := l.1, old := l.2.1, young := l.2.2 }, x.ids.eraseIdx k ++ [i], x.fr, x.mp, x.mr⟩ ?_ hvF (hS i c (h.slt hi hc)) hin
  have hmem : ∀ j, j ∈ x.ids.eraseIdx k ++ [i] ↔ j ∈ x.ids := fun j => by
    rw [List.mem_append, List.mem_singleton]
    refine ⟨fun hj => ?_, fun hj => ?_⟩
    · rcases hj with hj | rfl
      · exact List.mem_of_mem_eraseIdx hj
      · exact List.mem_of_getElem? hi
    · rcases mem_erase_or hi hj with e | e
      · exact .inr e
      · exact .inl e
  have hnd := List.nodup_append.1 h.nd
  have hkl := (List.getElem?_eq_some_iff.1 hi).1
  refine h.upd (F' := F) p2 rfl (fun k hk => .inl hk) (fun _ h => h) (fun k hk => Nat.lt_of_lt_of_le (h.fl k hk) hv.size) h.ff rfl rfl rfl rfl rfl rfl ?_ hc2 ?_ ?_ ?_ ?_ ?_ ?_ hv.size
  · intro q j
    rw [hmem j, show ((l.1 j).sum) = (x.m9.f j).sum from (hk2.sum j).trans (hk1.sum j)]
    exact h.mp q j
  · exact List.nodup_append.2 ⟨hnd.1, hc2.nd, fun a ha b hb => hnd.2.2 a ha b ((hmem b).1 hb)⟩
  · intro j hj
    rcases List.mem_append.1 hj with hj | hj
    · exact h.rg j (List.mem_append_left _ hj)
    · exact h.rg j (List.mem_append_right _ ((hmem j).1 hj))
  · rw [List.length_append, List.length_eraseIdx, if_pos hkl, List.length_singleton]
    have := h.ln; omega
  · unfold useL
    rw [hc]
    exact All2.append ((All2.erase h.all k).mono fun a b _ _ hr => hS a b hr) ⟨hS i c (h.slt hi hc), trivial⟩
  · show x.m9.bytes = _
    rw [h.ebytes]
    show (bytesL s.l : Int) = (bytesL (useL s.l k) : Int)
    unfold useL
    rw [hc, bytesL_append, bytesL_erase hc]
    simp only [Option.toList, bytesL]; omega
  · show bytesL (useL s.l k) ≤ s.room
    have := h.fit
    unfold useL
    rw [hc, bytesL_append]
    have e := bytesL_erase hc
    simp only [Option.toList, bytesL]; omega
/-- How far a place is from the end. -/
def far (ids : List Nat) (i : Int) : Nat := if i = -1 then 0 else ids.length - ids.findIdx (fun (j : Nat) => decide ((j : Int) = i))
theorem far_nx {ids : List Nat} (hn : ids.Nodup) (k : Nat) : far ids (nx ids k) = ids.length - k := by
  unfold far
  by_cases hk : k < ids.length
  · have hg := List.getElem?_eq_getElem hk
    rw [nx_some hg, if_neg (by omega)]
    congr 1
    have hlt : ids.findIdx (fun (j : Nat) => decide ((j : Int) = (ids[k] : Int))) < ids.length := List.findIdx_lt_length.2 ⟨ids[k], List.getElem_mem hk, by simp⟩
    have h1 := List.findIdx_getElem (w := hlt)
    simp only [decide_eq_true_eq] at h1
    exact nd_get hn (List.getElem?_eq_getElem hlt) (by rw [hg]; congr 1; omega)
  · rw [nx_none (by omega), if_pos rfl]; omega
theorem loose_ok (h : Stor w G F g s x) : cl Tryd.prog n_store_Store_loose #[.pointer (some ⟨g, 0, none⟩)] (.I .i64) w fun (r : Int) w' => r = nx x.ids (looseI s.l) ∧ w = w' := by
  refine store_Store_loose.cl ?_
  unfold store_Store_loose
  dsimp -zeta only [nz]
  rw [addOff]
  refine ldI0 (n := x.m9.old) h.mem.st rfl ?_
  refine lpI (fun (s' : Int × Unit) v => ∃ k, k ≤ x.ids.length ∧ s'.1 = nx x.ids k ∧ looseI s.l = k + looseI (s.l.drop k) ∧ v = w) (fun s' _ => far x.ids s'.1) ⟨0, Nat.zero_le _, h.ch.old, by simp, rfl⟩ ?_
  rintro D ⟨i', ⟨⟩⟩ v ⟨k, hk, rfl, hl, rfl⟩
  dsimp -zeta only
  have hlen := h.len
  refine bNe ?_ ?_ <;> intro hi
  · have hkl : k < x.ids.length := by
      apply Classical.byContradiction
      intro hh
      rw [nx_none (by omega)] at hi
      exact hi rfl
    have hg := List.getElem?_eq_getElem hkl
    have hgc := List.getElem?_eq_getElem (l := s.l) (i := k) (by omega)
    have hs := h.slt hg hgc
    have hd : s.l.drop k = s.l[k] :: s.l.drop (k + 1) := List.drop_eq_getElem_cons _
    rw [hd] at hl
    have hfar : far x.ids (nx x.ids k) = x.ids.length - k := far_nx h.ch.nd k
    have hfar' : far x.ids (nx x.ids (k + 1)) = x.ids.length - (k + 1) := far_nx h.ch.nd (k + 1)
    rw [nx_some hg] at hfar ⊢
    refine ldL0 (s := ⟨some ⟨x.m9.sb, 0, none⟩, x.m9.n, x.m9.sc⟩) h.mem.st rfl ?_
    refine ixSl rfl (h.rgi hg) ?_
    rw [addOff]
    refine h.mem.row.pins h.mem.f32 (h.rgi hg) ?_
    rw [hs.2.2]
    refine bD ?_ ?_ <;> intro hp
    · refine ldL0 (s := ⟨some ⟨x.m9.sb, 0, none⟩, x.m9.n, x.m9.sc⟩) h.mem.st rfl ?_
      refine ixSl rfl (h.rgi hg) ?_
      rw [addOff]
      refine h.mem.row.next h.mem.f32 (h.rgi hg) ?_
      rw [h.ch.next k _ hg]
      refine ⟨⟨k + 1, by omega, rfl, ?_, rfl⟩, ?_⟩
      · rw [hl, looseI, if_pos (by omega)]; omega
      · show far x.ids (nx x.ids (k + 1)) < far x.ids _
        rw [hfar', hfar]; omega
    · refine ⟨?_, rfl⟩
      rw [hl, looseI, if_neg (by omega), Nat.add_zero]
      exact (nx_some hg).symm
  · have hkl : k = x.ids.length := by
      apply Classical.byContradiction
      intro hh
      rw [nx_some (List.getElem?_eq_getElem (show k < x.ids.length by omega))] at hi
      omega
    refine ⟨?_, rfl⟩
    rw [hl, List.drop_eq_nil_of_le (by omega)]
    rfl
theorem held_ok (h : Stor w G F g s x) : cl Tryd.prog n_store_Store_held #[.pointer (some ⟨g, 0, none⟩)] (.tup (.pair (.I .i64) (.pair (.I .i64) .nil))) w fun (r : Int × Int × Unit) w' => r = ((heldN s.l : Int), (heldB s.l : Int), ()) ∧ w = w' := by
  refine store_Store_held.cl ?_
  unfold store_Store_held
  dsimp -zeta only [nz]
  rw [addOff]
  refine ldI0 (n := x.m9.old) h.mem.st rfl ?_
  refine lpI (fun (s' : Int × Int × Int × Unit) v => ∃ k, k ≤ x.ids.length ∧ s'.2.2.1 = nx x.ids k ∧ (heldN s.l : Int) = s'.1 + heldN (s.l.drop k) ∧ (heldB s.l : Int) = s'.2.1 + heldB (s.l.drop k) ∧ 0 ≤ s'.1 ∧ 0 ≤ s'.2.1 ∧ v = w) (fun s' _ => far x.ids s'.2.2.1) ⟨0, Nat.zero_le _, h.ch.old, by simp, by simp, by simp, by simp, rfl⟩ ?_
  rintro D ⟨a, b, i', ⟨⟩⟩ v ⟨k, hk, e, hl, hl2, ha, hb, rfl⟩
  dsimp -zeta only at e hl hl2 ha hb ⊢
  subst e
  have hlen := h.len
  have hN := heldN_le s.l
  have hB := heldB_le s.l
  have hsz := h.sz
  have hft := h.fit
  have hlm := h.lm
  refine bNe ?_ ?_ <;> intro hi
  · have hkl : k < x.ids.length := by
      apply Classical.byContradiction
      intro hh
      rw [nx_none (by omega)] at hi
      exact hi rfl
    have hg := List.getElem?_eq_getElem hkl
    have hgc := List.getElem?_eq_getElem (l := s.l) (i := k) (by omega)
    have hs := h.slt hg hgc
    have hd : s.l.drop k = s.l[k] :: s.l.drop (k + 1) := List.drop_eq_getElem_cons _
    rw [hd] at hl hl2
    have hfar : far x.ids (nx x.ids k) = x.ids.length - k := far_nx h.ch.nd k
    have hfar' : far x.ids (nx x.ids (k + 1)) = x.ids.length - (k + 1) := far_nx h.ch.nd (k + 1)
    rw [nx_some hg] at hfar ⊢
    simp only [heldN, heldB] at hl hl2
    refine ldL0 (s := ⟨some ⟨x.m9.sb, 0, none⟩, x.m9.n, x.m9.sc⟩) h.mem.st rfl ?_
    refine ixSl rfl (h.rgi hg) ?_
    rw [addOff]
    refine h.mem.row.pins h.mem.f32 (h.rgi hg) ?_
    rw [hs.2.2]
    refine bD ?_ ?_ <;> intro hp
    · rw [if_pos (by omega)] at hl hl2
      refine ldL0 (s := ⟨some ⟨x.m9.sb, 0, none⟩, x.m9.n, x.m9.sc⟩) h.mem.st rfl ?_
      refine ixSl rfl (h.rgi hg) ?_
      rw [addOff]
      refine h.mem.row.data h.mem.f32 (h.rgi hg) ?_
      refine ldL0 (s := ⟨some ⟨x.m9.sb, 0, none⟩, x.m9.n, x.m9.sc⟩) h.mem.st rfl ?_
      refine ixSl rfl (h.rgi hg) ?_
      rw [addOff]
      refine h.mem.row.next h.mem.f32 (h.rgi hg) ?_
      rw [h.ch.next k _ hg]
      have hn := hs.2.1.bs.len
      rw [hn]
      push_cast at hl hl2
      rw [i64w (by omega) (by omega), i64w (by omega) (by omega)]
      refine ⟨⟨k + 1, by omega, rfl, by omega, by omega, by omega, by omega, rfl⟩, ?_⟩
      show far x.ids (nx x.ids (k + 1)) < far x.ids _
      rw [hfar', hfar]; omega
    · rw [if_neg (by omega)] at hl hl2
      refine ldL0 (s := ⟨some ⟨x.m9.sb, 0, none⟩, x.m9.n, x.m9.sc⟩) h.mem.st rfl ?_
      refine ixSl rfl (h.rgi hg) ?_
      rw [addOff]
      refine h.mem.row.next h.mem.f32 (h.rgi hg) ?_
      rw [h.ch.next k _ hg]
      push_cast at hl hl2
      refine ⟨⟨k + 1, by omega, rfl, by omega, by omega, ha, hb, rfl⟩, ?_⟩
      show far x.ids (nx x.ids (k + 1)) < far x.ids _
      rw [hfar', hfar]; omega
  · have hkl : k = x.ids.length := by
      apply Classical.byContradiction
      intro hh
      rw [nx_some (List.getElem?_eq_getElem (show k < x.ids.length by omega))] at hi
      omega
    rw [List.drop_eq_nil_of_le (by omega)] at hl hl2
    refine ⟨?_, rfl⟩
    simp only [heldN, heldB, Int.natCast_zero, Int.add_zero] at hl hl2
    rw [hl, hl2]
end
end Go.Proofs.YtkaombhkepopgaaDoor
namespace Go.Proofs.YtkaombhkepopgaaDoor
open Go.RowKit Go.Fl

theorem slN : SlT Tryd.prog t_s_int t_int 1 8 := SlT.mk' (z := .int .i64 0) (by kernel_rfl) (by kernel_rfl) rfl (by decide)
def sv0 : SV := ⟨List.replicate 32 0, ⟨none, 0, 0⟩, 0, 0, 0⟩
theorem sv0_len : sv0.sum.length = 32 := rfl
theorem zrow_u8 (n : Nat) : (zrow n (.int .u8 0)) = ⟨u8s (List.replicate n 0), by simp [u8s_length]⟩ := Subtype.ext (by simp [zrow, u8s])
theorem slot0 : Kd.av k_store_slot ((zrow 32 (.int .u8 0)), (⟨none, 0, 0⟩, (0, (0, (0, ()))))) = kSlot.av (slotT sv0 sv0_len) := by
  rw [zrow_u8]; rfl
section
variable {w : World} {G F : Nat → Prop} {g : Nat} {s : Sto} {x : Sx}
theorem remove_ok {k i : Nat} {c : Ch} (h : Stor w G F g s x) (hi : x.ids[k]? = some i) (hc : s.l[k]? = some c) :
    cl Tryd.prog n_store_Store_remove #[.pointer (some ⟨g, 0, none⟩), .int .i64 i] (.tup .nil) w fun (_ : Unit) w' => StorTo w w' G F g { s with l := s.l.eraseIdx k } := by
  refine store_Store_remove.cl ?_
  unfold store_Store_remove
  dsimp -zeta only [nz]
  have hin := h.rgi hi
  have hr : ∀ j ∈ x.ids, j < x.m9.n := fun j hj => by rw [h.en]; exact h.rg j (List.mem_append_right _ hj)
  have hnb := Chain.nb h.ch hr hi
  refine (unlink_ok h.mem hin hnb.1 hnb.2).mono ?_
  rintro _ w3 ⟨m3, v3⟩
  obtain ⟨hc1, _⟩ := h.ch.unlink hi
  have hk1 := unlink_keep x.m9.f x.m9.old x.m9.young i
  generalize hu : unlinkF x.m9.f x.m9.old x.m9.young i = u at *
  have p3 := h.prt.stepMem m3 rfl v3
  intro n4
  have hf4 := Fr.drewN w3 n4
  have p4 := p3.fr' hf4
  generalize w3.drewN n4 = w4 at *
  rw [addOff]
  refine ldM0 (r := some x.mr) p4.mem.st (by rw [← h.em]; rfl) ?_
  refine ldL0 (s := ⟨some ⟨x.m9.sb, 0, none⟩, x.m9.n, x.m9.sc⟩) p4.mem.st rfl ?_
  refine ixSl rfl hin ?_
  refine p4.mem.row.sum p4.mem.f32 hin fun _ => ?_
  have hs := h.slt hi hc
  have hsum : (u.1 i).sum = c.sum := (hk1.sum i).trans hs.1
  have hd : c.sum.length = 32 := by rw [← hs.1]; exact h.mem.f32 i
  dsimp -zeta only
  rw [hsum]
  refine rnD kmS u_map_api_Sum_int p4.map ⟨c.sum, hd⟩ fun w12 mp12 g12 s12 => ?_
  have emp : (fun k' => if k' = (⟨c.sum, hd⟩ : K32) then none else mapV x.mp k') = mapV (fun k' => if k' = (⟨c.sum, hd⟩ : K32) then none else x.mp k') := by
    funext k'
    unfold mapV
    dsimp only
    split <;> rfl
  rw [emp] at mp12
  have p12 := p4.stepMap mp12 g12
  have hfm : F x.mr := h.fm
  have v12 : Mv F w w12 := ((v3.mono fun q hq => .inl (by rcases hq with rfl | rfl; exact h.fg; exact h.fs) : Mv F w w3).trans (Mv.of_fr (F := F) hf4) fun j hj => .inl hj).trans (Mv.of_grown g12 hfm) fun j hj => .inl hj
  intro n13
  have hf13 := Fr.drewN w12 n13
  have p13 := p12.fr' hf13
  have v13 : Mv F w _ := v12.trans (Mv.of_fr (F := F) hf13) fun j hj => .inl hj
  generalize w12.drewN n13 = w13 at *
  rw [addOff]
  refine ldI0 (n := x.m9.bytes) p13.mem.st rfl ?_
  refine ldL0 (s := ⟨some ⟨x.m9.sb, 0, none⟩, x.m9.n, x.m9.sc⟩) p13.mem.st rfl ?_
  refine ixSl rfl hin ?_
  rw [addOff]
  refine p13.mem.row.data p13.mem.f32 hin ?_
  have hdata : (u.1 i).data = (x.m9.f i).data := hk1.data i
  have hdl : (x.m9.f i).data.n = c.data.length := hs.2.1.bs.len
  have heb := h.ebytes
  have hbe := bytesL_erase hc
  have hft := h.fit
  have hsz := h.sz
  dsimp -zeta only
  rw [hdata, hdl, i64w (by omega) (by omega)]
  refine st0 p13.mem.st (by rw [stL9_size]; show _ < 8; simp) fun w21 hb21 g21 s21 => ?_
  have m21 := p13.mem.setSt (x' := { x.m9 with f := u.1, old := u.2.1, young := u.2.2, bytes := x.m9.bytes - (c.data.length : Int) }) hb21 g21 rfl rfl rfl rfl
  have p21 := p13.stepMem m21 rfl (mvG g21)
  have v21 : Mv F w w21 := v13.trans (Mv.of_grown g21 h.fg) fun j hj => .inl hj
  refine ldL0 (s := ⟨some ⟨x.m9.sb, 0, none⟩, x.m9.n, x.m9.sc⟩) p21.mem.st rfl ?_
  refine ixSl rfl hin ?_
  refine p21.mem.row.put p21.mem.f32 hin sv0 sv0_len slot0 fun w25 r25 g25 s25 => ?_
  have m25 := p21.mem.setRow r25 (p21.mem.f32.upS sv0_len) g25
  have p25 := p21.stepMem m25 rfl (Mv.of_grown g25 (.inr rfl))
  have v25 : Mv F w w25 := v21.trans (Mv.of_grown g25 h.fs) fun j hj => .inl hj
  rw [addOff]
  refine ldL0 (s := x.m9.free) p25.mem.st rfl ?_
  refine nwI fun a28 w29 ha28 hs29 hf29 hb29 hr29 => ?_
  have p29 := p25.fr' hf29
  have v29 : Mv F w w29 := v25.trans (Mv.of_fr (F := F) hf29) fun j hj => .inl hj
  have hln := h.ln
  have hkl := (List.getElem?_eq_some_iff.1 hi).1
  have hfn : x.m9.free.n = x.fr.length := by have := h.free.1; rw [List.length_map] at this; omega
  refine app_own slN (base := 0) (news := [.int .i64 i]) p29.free hr29 rfl (fun v hv => by rw [List.mem_singleton] at hv; rw [hv]; rfl) (by dsimp only; omega) (by dsimp only; omega) (Nat.zero_le _) fun r w31 hrn ho hg31 hat => ?_
  have enats : natsV x.fr ++ [.int .i64 (i : Int)] = natsV (x.fr ++ [i]) := by simp [natsV]

  rw [enats] at ho
  have hgl := (Array.getElem?_eq_some_iff.1 p29.mem.st).1
  have hsl := (Array.getElem?_eq_some_iff.1 p29.mem.row).1
  have hml := p29.map.lt
  have hfb : ∀ ad, x.m9.free.a = some ad → (Value.slice x.m9.free.a x.m9.free.n x.m9.free.c).ownBlock = some ad.block := fun ad ha => by rw [ha]; rfl
  have vf : Mv (fun q => ∃ ad, x.m9.free.a = some ad ∧ ad.block = q) w29 w31 := by
    refine ⟨hg31.os, hg31.tape, hg31.output, hg31.size, fun q hq hn => hg31.block q hq fun e => ?_⟩
    cases hfa : x.m9.free.a with
    | none => rw [hfa] at e; cases e
    | some ad =>
      rw [hfa] at e
      exact hn ⟨ad, hfa, (Option.some.inj e).symm⟩
  have m31 := p29.mem.mv vf (fun ⟨ad, ha, e⟩ => (p29.nef ha).1 e) (fun ⟨ad, ha, e⟩ => (p29.nef ha).2.1 e)
  have mp31 := p29.map.sub (vf.block x.mr hml fun ⟨ad, ha, e⟩ => (p29.nef ha).2.2 e)
  have v31 : Mv F w w31 := v29.trans vf fun j ⟨ad, ha, e⟩ => .inl (e ▸ h.ff ad ha)
  have hrb : ∀ ad, r.a = some ad → (∃ ad', x.m9.free.a = some ad' ∧ ad'.block = ad.block) ∨ ad.block = w29.heap.size := fun ad ha => by
    rw [ha] at hat
    rcases hat with e | e
    · cases hfa : x.m9.free.a with
      | none => rw [hfa] at e; cases e
      | some ad' =>
        rw [hfa] at e
        exact .inl ⟨ad', rfl, (Option.some.inj e).symm⟩
    · exact .inr (Option.some.inj e)
  have hrne : ∀ ad, r.a = some ad → ad.block ≠ g ∧ ad.block ≠ x.mr := fun ad ha => by
    rcases hrb ad ha with ⟨ad', ha', e⟩ | e
    · rw [← e]; exact ⟨(p29.nef ha').1, (p29.nef ha').2.2⟩
    · constructor <;> omega
  refine st0 m31.st (by rw [stL9_size]; show _ < 8; simp) fun w33 hb33 g33 s33 => ?_
  have m33 := m31.setSt (x' := { x.m9 with f := upS u.1 i sv0, old := u.2.1, young := u.2.2, bytes := x.m9.bytes - (c.data.length : Int), free := r }) hb33 g33 rfl rfl rfl rfl
  have vg : Mv (fun q => q = g) w31 w33 := Mv.of_grown g33 rfl
  have hmg : x.mr ≠ g := p29.nem.1
  have ho33 : w33.ownsRow 0 t_int 1 (.slice r.a r.n r.c) r.n (natsV (x.fr ++ [i])) := own_kp ho vg.kp fun ad ha e => (hrne ad ha).1 e
  have p33 : Prt w33 g _ (x.fr ++ [i]) x.mr _ := ⟨m33, ho33, mp31.sub (vg.block x.mr mp31.lt hmg)⟩
  have v33 : Mv F w w33 := v31.trans vg fun j hj => .inl (hj ▸ h.fg)
  have hni := not_erased h.ch.nd hi
  have hnd := List.nodup_append.1 h.nd
  have hmem : ∀ j, j ∈ x.ids.eraseIdx k ↔ j ∈ x.ids ∧ j ≠ i := fun j => by
    refine ⟨fun hj => ⟨List.mem_of_mem_eraseIdx hj, fun e => hni (e ▸ hj)⟩, fun hj => ?_⟩
    rcases mem_erase_or hi hj.1 with e | e
    · exact absurd e hj.2
    · exact e
  have hsz29 : w.heap.size ≤ w29.heap.size := v29.size
  refine ⟨fun q => F q ∨ ∃ ad, r.a = some ad ∧ ad.block = q, _, h.upd (s' := { s with l := s.l.eraseIdx k }) (ids' := x.ids.eraseIdx k) p33 rfl (fun q hq => ?_) (fun q hq => .inl hq) (fun q hq => ?_) (fun ad ha => .inr ⟨ad, ha, rfl⟩) rfl rfl rfl rfl rfl rfl ?_ ?_ ?_ ?_ ?_ ?_ ?_ ?_ v33.size, v33, fun q hq => ?_⟩
  · rcases hq with hq | ⟨ad, ha, rfl⟩
    · exact .inl hq
    · rcases hrb ad ha with ⟨ad', ha', e⟩ | e
      · exact .inl (e ▸ h.ff ad' ha')
      · right; omega
  · rcases hq with hq | ⟨ad, ha, rfl⟩
    · exact Nat.lt_of_lt_of_le (h.fl q hq) v33.size
    · exact (World.ownsRow.lt ho33 ad.block (by rw [ha]; rfl)).2
  · intro q j
    show (if q = (⟨c.sum, hd⟩ : K32) then none else x.mp q) = some j ↔ j ∈ x.ids.eraseIdx k ∧ ((upS u.1 i sv0) j).sum = q.1
    rw [hmem]
    by_cases e : j = i
    · subst e
      constructor
      · intro hq
        split at hq
        · cases hq
        · rename_i hne
          have := ((h.mp q j).1 hq).2
          exact absurd (Subtype.ext (this.symm.trans hs.1)) hne
      · exact fun hq => absurd rfl hq.1.2
    · rw [up_ne _ _ e, hk1.sum j]
      constructor
      · intro hq
        split at hq
        · cases hq
        · exact ⟨⟨((h.mp q j).1 hq).1, e⟩, ((h.mp q j).1 hq).2⟩
      · intro hq
        have hq' := (h.mp q j).2 ⟨hq.1.1, hq.2⟩
        rw [if_neg]
        · exact hq'
        · intro eq
          rw [eq] at hq'
          have := (h.mp ⟨c.sum, hd⟩ i).2 ⟨List.mem_of_getElem? hi, hs.1⟩
          rw [hq'] at this
          exact e (Option.some.inj this)
  · exact hc1.other fun j hj => by
      have : j ≠ i := ((hmem j).1 hj).2
      show ((upS u.1 i sv0) j).prev = _ ∧ ((upS u.1 i sv0) j).next = _
      rw [up_ne _ _ this]
      exact ⟨rfl, rfl⟩
  · have h1 : (x.fr ++ [i]).Nodup := List.nodup_append.2 ⟨hnd.1, by simp, fun a ha b hb => by
      rw [List.mem_singleton] at hb
      rw [hb]
      exact hnd.2.2 a ha i (List.mem_of_getElem? hi)⟩
    refine List.nodup_append.2 ⟨h1, hc1.nd, fun a ha b hb => ?_⟩
    rcases List.mem_append.1 ha with ha | ha
    · exact hnd.2.2 a ha b ((hmem b).1 hb).1
    · rw [List.mem_singleton] at ha
      rw [ha]
      exact fun e => ((hmem b).1 hb).2 e.symm
  · intro j hj
    rcases List.mem_append.1 hj with hj | hj
    · rcases List.mem_append.1 hj with hj | hj
      · exact h.rg j (List.mem_append_left _ hj)
      · rw [List.mem_singleton] at hj
        rw [hj]
        exact h.rg i (List.mem_append_right _ (List.mem_of_getElem? hi))
    · exact h.rg j (List.mem_append_right _ ((hmem j).1 hj).1)
  · rw [List.length_append, List.length_singleton, List.length_eraseIdx, if_pos hkl]; omega
  · refine (All2.erase h.all k).mono fun j c' hj _ hr => ?_
    have hji : j ≠ i := ((hmem j).1 hj).2
    refine hr.mv v33 (fun q hq => .inl (.inr hq)) (fun q hq => ?_) ?_ ?_ ?_
    · rcases hq with hq | hq | ⟨ad, ha, rfl⟩
      · exact .inl (.inl hq)
      · exact .inl (.inr hq)
      · rcases hrb ad ha with ⟨ad', ha', e⟩ | e
        · exact .inl (.inr (e ▸ h.ff ad' ha'))
        · right; omega
    · show ((upS u.1 i sv0) j).sum = _
      rw [up_ne _ _ hji, hk1.sum j]
    · show ((upS u.1 i sv0) j).data = _
      rw [up_ne _ _ hji, hk1.data j]
    · show ((upS u.1 i sv0) j).pins = _
      rw [up_ne _ _ hji, hk1.pins j]
  · show x.m9.bytes - (c.data.length : Int) = (bytesL (s.l.eraseIdx k) : Int)
    omega
  · show bytesL (s.l.eraseIdx k) ≤ s.room
    omega
  · rcases hq with hq | ⟨ad, ha, rfl⟩
    · exact .inl hq
    · rcases hrb ad ha with ⟨ad', ha', e⟩ | e
      · exact .inl (e ▸ h.ff ad' ha')
      · right; omega
end
end Go.Proofs.YtkaombhkepopgaaDoor
namespace Go.Proofs.YtkaombhkepopgaaDoor
open Go.RowKit Go.Fl

theorem ixN {w : World} {s : Sl} {l : List Nat} {i : Int} {k j : Nat} {K : Int → Prop} (hr : Rd w s.a (natsV l)) (hn : s.n = l.length) (hi : i = (k : Int)) (hk : l[k]? = some j) (h : K (j : Int)) : ixa s.a s.n i 1 fun a => ld (.I .i64) w a K := by
  have hkl := (List.getElem?_eq_some_iff.1 hk).1
  obtain ⟨ad, ha, hc⟩ := hr k (.int .i64 (j : Int)) (by rw [List.getElem?_map, hk]; rfl)
  refine ⟨by omega, by omega, ?_⟩
  rw [ha, hi]
  exact ⟨(j : Int), hc, h⟩
theorem cut0 (s : Sl) (m : Nat) : cut s 0 m 1 = ⟨s.a, m, s.c⟩ := by
  unfold cut
  have : s.a.map (atOff · ((0 : Nat) : Int) 1) = s.a := by
    cases s.a with
    | none => rfl
    | some a => show some (a.add 0) = some a; rw [Addr.add0]
  rw [this]
  simp
theorem own_take {w : World} {base : Nat} {e : TypeId} {A : Option Addr} {n c m : Nat} {xs : List Value} (h : w.ownsRow base e 1 (.slice A n c) n xs) (hm : m ≤ n) (hn : 0 < n) : w.ownsRow base e 1 (.slice A m c) m (xs.take m) := by
  obtain ⟨h1, h2⟩ := h
  rcases h2 with ⟨_, h3⟩ | ⟨g, cap, cur, hv, hb, hg, hnc, hcm, hsz, ht⟩
  · omega
  · injection hv with e1 e2 e3
    subst e3
    refine ⟨by rw [List.length_take]; omega, .inr ⟨g, c, cur, by rw [e1], hb, hg, by omega, hcm, hsz, ?_⟩⟩
    rw [← ht, List.take_take]
    congr 1
    omega
/-- How many slots are not free, as memory tells it. -/
def muS (g : Nat) (v : World) : Nat := match v.cell? ⟨g, 1, none⟩ with
  | some (.slice _ n _) => 64 - n
  | _ => 0
section
variable {w : World} {G F : Nat → Prop} {g : Nat} {s : Sto} {x : Sx}
theorem Stor.fn (h : Stor w G F g s x) : x.m9.free.n = x.fr.length := by have := h.free.1; rw [List.length_map] at this; omega
theorem Stor.mu (h : Stor w G F g s x) : muS g w = 64 - (s.most - s.l.length) := by
  have e : w.cell? ⟨g, 1, none⟩ = some (.slice x.m9.free.a x.m9.free.n x.m9.free.c) := (cell_of_row w g 1 _ _ _ h.mem.st).trans rfl
  unfold muS
  rw [e]
  have := h.fn
  have := h.ln
  have := h.len
  show 64 - x.m9.free.n = _
  omega
/-- The map's length. -/
theorem Stor.lenM (h : Stor w G F g s x) {K : Int → Prop} (k : K (s.l.length : Int)) : qn Tryd.prog (Builtin.len_ #[t_map_api_Sum_int] t_int #[.map (some x.mr)]) (.I .i64) w K := by
  have hl : s.l.length = (x.ids.map fun i => keyB (n := 32) ⟨(x.m9.f i).sum, h.mem.f32 i⟩).length := by rw [List.length_map, h.len]
  rw [hl] at k
  refine qnLenM u_map_api_Sum_int h.map ?_ (fun v => ?_) k
  · refine List.pairwise_map.2 ?_
    refine List.Pairwise.imp_of_mem ?_ h.ch.nd
    intro a b ha hb hne e
    obtain ⟨j, hj⟩ := List.mem_iff_getElem?.1 ha
    obtain ⟨k, hk⟩ := List.mem_iff_getElem?.1 hb
    exact hne (h.inj hj hk (congrArg Subtype.val (kmS.inj _ _ e)))
  · constructor
    · intro hv
      obtain ⟨i, hi, rfl⟩ := List.mem_map.1 hv
      exact ⟨_, _, rfl, by rw [mapV, (h.mp _ i).2 ⟨hi, rfl⟩]; rfl⟩
    · rintro ⟨k', u, rfl, hu⟩
      obtain ⟨i, hi, _⟩ := Option.map_eq_some_iff.1 hu
      obtain ⟨h1, h2⟩ := (h.mp k' i).1 hi
      refine List.mem_map.2 ⟨i, h1, ?_⟩
      congr 1
      exact Subtype.ext h2
theorem findI_erase {d : List UInt8} : ∀ {l : List Ch} (k : Nat), findI d l = none → findI d (l.eraseIdx k) = none
  | [], _, _ => by rw [List.eraseIdx_nil]; rfl
  | c :: l, k, h => by
    unfold findI at h
    split at h
    · cases h
    · rename_i hne
      cases k with
      | zero => exact Option.map_eq_none_iff.1 h
      | succ k =>
        rw [List.eraseIdx_cons_succ]
        unfold findI
        rw [if_neg hne, findI_erase k (Option.map_eq_none_iff.1 h)]
        rfl
theorem sPut_ok {d b : List UInt8} {p : Sl} (h : Stor w G F g s x) (hd : d.length = 32) (hb : Cb w (Zg G F) p b) (hbl : b.length ≤ 1048576) :
    cl Tryd.prog n_store_Store_Put #[.pointer (some ⟨g, 0, none⟩), .agg (u8s d).toArray, .slice p.a p.n p.c] (.I .i64) w fun (r : Int) w' => r = (s.put d b).2 ∧ StorTo w w' G F g (s.put d b).1 := by
  refine store_Store_Put.cl (p1 := ⟨u8s d, by rw [u8s_length, hd]⟩) ?_
  unfold store_Store_Put
  refine nwI fun a1 w2 ha1 hs2 hf2 hb1 _ => ?_
  have h2 := h.fr hf2
  have pre : ∀ {w' : World} {t' : Sto}, StorTo w2 w' G F g t' → StorTo w w' G F g t' := fun h' => StorTo.step (Mv.of_fr hf2) (fun k hk => .inl hk) h'
  have hb2 : Cb w2 (Zg G F) p b := hb.mv (Mv.of_fr (F := fun _ => False) hf2) (fun _ h => h.elim) (fun _ h => .inl h)
  have hpn := hb.bs.len
  refine (smade_ok h2).mono ?_
  rintro _ _ ⟨rfl, rfl⟩
  refine bF rfl ?_
  dsimp -zeta only [nz]
  rw [addOff]
  refine ldM0 (r := some x.mr) h2.mem.st (by rw [← h.em]; rfl) ?_
  refine ldR0 hb1 (by rw [u8s_length, hd]) ?_
  rcases h2.find hd with ⟨k, i, c, hf, hi, hc, hcd, hm⟩ | ⟨hf, hm⟩
  · refine qnM kmS u_map_api_Sum_int zInt h2.map ⟨d, hd⟩ ((i : Int), true, ()) (by simp [mapV, hm, Kd.av, AV.val, AV.elems]) ?_
    intro n9
    refine bT rfl ?_
    have hf9 := Fr.drewN w2 n9
    have h9 := h2.fr hf9
    generalize w2.drewN n9 = w9 at *
    have ep : s.put d b = ({ s with l := useL s.l k }, 0) := by unfold Sto.put; rw [hf]
    rw [ep]
    exact use_cl h9 hi hc fun w3 x3 h3 hv3 _ _ => ⟨rfl, pre ⟨F, x3, h3, (Mv.of_fr (F := F) hf9).trans hv3 fun j hj => .inl hj, fun k hk => .inl hk⟩⟩
  · refine qnM kmS u_map_api_Sum_int zInt h2.map ⟨d, hd⟩ (0, false, ()) (by simp [mapV, hm, Kd.av, AV.val, AV.elems]) ?_
    intro n9
    refine bF rfl ?_
    have hf9 := Fr.drewN w2 n9
    have h9 := h2.fr hf9
    generalize w2.drewN n9 = w9 at *
    have hN := heldN_le s.l
    have hB := heldB_le s.l
    have hsz := h.sz
    have hft := h.fit
    have hlm := h.lm
    refine (held_ok h9).mono ?_
    rintro _ _ ⟨rfl, rfl⟩
    refine ldI0 (n := x.m9.most) h9.mem.st rfl ?_
    rw [h9.emost]
    have ep : s.put d b = if s.most ≤ heldN s.l ∨ s.room < b.length + heldB s.l then (s, 7) else ({ s with l := shrinkL s.most s.room b.length s.l.length s.l ++ [⟨d, b, 0⟩] }, 0) := by unfold Sto.put; rw [hf]
    rw [ep]
    refine bD ?_ ?_ <;> intro hc1
    · rw [if_pos (.inl (by dsimp only at hc1; omega))]
      exact ⟨rfl, pre (h2.at_fr hf9)⟩
    rw [addOff]
    refine ldI0 (n := x.m9.room) h9.mem.st rfl ?_
    rw [h9.eroom, hpn]
    dsimp -zeta only at hc1 ⊢
    rw [i64w (by omega) (by omega)]
    refine bD ?_ ?_ <;> intro hc2
    · rw [if_pos (.inr (by omega))]
      exact ⟨rfl, pre (h2.at_fr hf9)⟩
    rw [if_neg (by omega)]
    have hp1 : heldN s.l < s.most := by omega
    have hp2 : b.length + heldB s.l ≤ s.room := by omega
    clear hc1 hc2 ep
    refine lpI (fun (_ : Unit) v => ∃ F1 x1 l1, Stor v G F1 g { s with l := l1 } x1 ∧ Mv F w2 v ∧ (∀ k, F1 k → F k ∨ w2.heap.size ≤ k) ∧ shrinkL s.most s.room b.length l1.length l1 = shrinkL s.most s.room b.length s.l.length s.l ∧ heldN l1 < s.most ∧ b.length + heldB l1 ≤ s.room ∧ findI d l1 = none)
      (fun _ v => muS g v) ⟨F, x, s.l, h9, Mv.of_fr hf9, fun _ h => .inl h, rfl, hp1, hp2, hf⟩ ?_
    rintro D ⟨⟩ v ⟨F1, x1, l1, h1, hv1, hF1, hsh, hq1, hq2, hfn⟩
    clear h9 hf9 h2
    have hlen1 : l1.length ≤ s.most := h1.lm
    have hft1 : bytesL l1 ≤ s.room := h1.fit
    -- one round
    have round : ∀ (J : World → Prop) (u : World), Fr v u → ¬fitsL s.most s.room b.length l1 → (∀ u' F2 x2 l2, Stor u' G F2 g { s with l := l2 } x2 → Mv F w2 u' → (∀ k, F2 k → F k ∨ w2.heap.size ≤ k) → shrinkL s.most s.room b.length l2.length l2 = shrinkL s.most s.room b.length s.l.length s.l → heldN l2 < s.most → b.length + heldB l2 ≤ s.room → findI d l2 = none → muS g u' < muS g v → J u') →
        cl Tryd.prog n_store_Store_loose #[.pointer (some ⟨g, 0, none⟩)] (.I .i64) u fun (x37 : Int) w38 => cl Tryd.prog n_store_Store_remove #[.pointer (some ⟨g, 0, none⟩), .int .i64 x37] (.tup .nil) w38 fun (_ : Unit) w40 => J w40 := by
      intro J u hfu hnf hJ
      have hu := h1.fr hfu
      refine (loose_ok hu).mono ?_
      rintro _ _ ⟨rfl, rfl⟩
      have hl := loose_there hq1 hq2 hnf
      have hg : x1.ids[looseI l1]? = some _ := List.getElem?_eq_getElem (by rw [h1.len]; exact hl)
      have hgc : l1[looseI l1]? = some _ := List.getElem?_eq_getElem hl
      show cl Tryd.prog n_store_Store_remove #[.pointer (some ⟨g, 0, none⟩), .int .i64 (nx x1.ids (looseI l1))] (.tup .nil) u _
      rw [nx_some hg]
      refine (remove_ok hu hg hgc).mono ?_
      rintro _ w40 ⟨F2, x2, h3, hv3, hF2⟩
      obtain ⟨e1, e2⟩ := loose_erase hl
      refine hJ w40 F2 x2 (l1.eraseIdx (looseI l1)) h3 ((hv1.trans (Mv.of_fr (F := F) hfu) fun j hj => .inl hj).trans hv3 fun j hj => hF1 j hj) (fun k hk => ?_) ?_ (by omega) (by omega) (findI_erase _ hfn) ?_
      · rcases hF2 k hk with h4 | h4
        · exact hF1 k h4
        · have := hv1.size
          have := hfu.size
          right; omega
      · rw [← hsh]
        exact (shrink_step hq1 hq2 hnf).symm
      · have m1 := h1.mu
        have m3 := h3.mu
        have e3 : (l1.eraseIdx (looseI l1)).length = l1.length - 1 := by rw [List.length_eraseIdx, if_pos hl]
        dsimp only at m1 m3
        rw [m1, m3, e3]
        omega
    refine ldM0 (r := some x1.mr) h1.mem.st (by rw [← h1.em]; rfl) ?_
    refine h1.lenM ?_
    refine ldI0 (n := x1.m9.most) h1.mem.st rfl ?_
    rw [h1.emost]
    refine bD ?_ ?_ <;> intro hc1
    · intro n31
      have hnf : ¬fitsL s.most s.room b.length l1 := fun hh => by have := hh.1; dsimp only at hc1; omega
      exact round _ _ (Fr.drewN v n31) hnf fun u' F2 x2 l2 a1 a2 a3 a4 a5 a6 a7 a8 => ⟨⟨F2, x2, l2, a1, a2, a3, a4, a5, a6, a7⟩, a8⟩
    refine ldI0 (n := x1.m9.room) h1.mem.st rfl ?_
    rw [addOff]
    refine ldI0 (n := x1.m9.bytes) h1.mem.st rfl ?_
    intro n36
    rw [h1.eroom, h1.ebytes]
    dsimp -zeta only at hc1 ⊢
    rw [i64w (by omega) (by omega)]
    have hf36 := Fr.drewN v n36
    refine bD ?_ ?_ <;> intro hc2
    · have hnf : ¬fitsL s.most s.room b.length l1 := fun hh => by have := hh.2; omega
      exact round _ _ hf36 hnf fun u' F2 x2 l2 a1 a2 a3 a4 a5 a6 a7 a8 => ⟨⟨F2, x2, l2, a1, a2, a3, a4, a5, a6, a7⟩, a8⟩
    have hfit : fitsL s.most s.room b.length l1 := ⟨by omega, by omega⟩
    clear round hc1 hc2
    have hdone : shrinkL s.most s.room b.length s.l.length s.l = l1 := by rw [← hsh, shrink_done hfit]
    rw [hdone]
    have h36 := h1.fr hf36
    have v36 : Mv F w2 _ := hv1.trans (Mv.of_fr (F := F) hf36) fun j hj => .inl hj
    generalize v.drewN n36 = w36 at *
    have hln := h36.ln
    have hfrn := h36.fn
    have hlen := h36.len
    have hfl := hfit.1
    dsimp only at hln hlen
    obtain ⟨q, hq⟩ : ∃ q, x1.fr.length = q + 1 := ⟨x1.fr.length - 1, by omega⟩
    obtain ⟨i, hi⟩ : ∃ i, x1.fr[q]? = some i := ⟨x1.fr[q], List.getElem?_eq_getElem (by omega)⟩
    have hfc : x1.m9.free.n ≤ x1.m9.free.c := by
      rcases h36.free.2 with ⟨hv, hn⟩ | ⟨g', cap, cur, hv, _, _, hc, _⟩
      · injection hv with _ e2 e3; omega
      · injection hv with _ e2 e3; omega
    have hin : i < x1.m9.n := by rw [h36.en]; exact h36.rg i (List.mem_append_left _ (List.mem_of_getElem? hi))
    have hfr0 : x1.fr = x1.fr.take q ++ [i] := by
      have : x1.fr.take (q + 1) = x1.fr := List.take_of_length_le (by omega)
      rw [List.take_add_one, hi] at this
      exact this.symm
    refine ldL0 (s := x1.m9.free) h36.mem.st rfl ?_
    refine ldL0 (s := x1.m9.free) h36.mem.st rfl ?_
    rw [i64w (by omega) (by omega)]
    refine ixN (k := q) (Rd.of_own h36.free) h36.fn (by omega) hi ?_
    intro n51 n52
    have hf52 := (Fr.drewN w36 n51).trans (Fr.drewN _ n52)
    have p52 := h36.prt.fr' hf52
    have v52 := v36.trans (Mv.of_fr (F := F) hf52) fun j hj => .inl hj
    generalize (w36.drewN n51).drewN n52 = w52 at *
    refine ldL0 (s := x1.m9.free) p52.mem.st rfl ?_
    refine ldL0 (s := x1.m9.free) p52.mem.st rfl ?_
    rw [i64w (by omega) (by omega)]
    refine ⟨Int.le_refl _, by omega, by omega, ?_⟩
    rw [show ((x1.m9.free.n : Int) - 1).toNat = q from by omega, show (0 : Int).toNat = 0 from rfl, cut0]
    refine st0 p52.mem.st (by rw [stL9_size]; show _ < 8; simp) fun w59 hb59 g59 s59 => ?_
    have m59 := p52.mem.setSt (x' := { x1.m9 with free := ⟨x1.m9.free.a, q, x1.m9.free.c⟩ }) hb59 g59 rfl rfl rfl rfl
    have vg59 : Mv (fun j => j = g) w52 w59 := Mv.of_grown g59 rfl
    have o59 := own_kp p52.free vg59.kp fun ad ha => (p52.nef ha).1
    have p59 : Prt w59 g { x1.m9 with free := ⟨x1.m9.free.a, q, x1.m9.free.c⟩ } (x1.fr.take q) x1.mr (mapV x1.mp) := by
      refine ⟨m59, ?_, p52.map.sub (vg59.block x1.mr p52.map.lt p52.nem.1)⟩
      show w59.ownsRow 0 t_int 1 (.slice x1.m9.free.a q x1.m9.free.c) q (natsV (x1.fr.take q))
      rw [natsV, List.map_take]
      exact own_take o59 (by omega) (by omega)
    have v59 : Mv F1 w36 w59 := ((Mv.of_fr (F := F1) hf52).trans vg59 fun j hj => .inl (hj ▸ h1.fg))
    clear m59 o59 hb59
    intro n60
    have hf60 := Fr.drewN w59 n60
    have p60 := p59.fr' hf60
    have v60 : Mv F1 w36 _ := v59.trans (Mv.of_fr (F := F1) hf60) fun j hj => .inl hj
    generalize w59.drewN n60 = w60 at *
    refine ldL0 (s := ⟨some ⟨x1.m9.sb, 0, none⟩, x1.m9.n, x1.m9.sc⟩) p60.mem.st rfl ?_
    have hv2_60 : Mv F w2 w60 := v36.trans v60 fun j hj => hF1 j hj
    have hnb1 : ¬F a1 := fun hh => by have := h.fl _ hh; omega
    have hb60 := hv2_60.heap hb1 hnb1
    have hbw : Cb w60 (Zg G F) p b := hb2.mv hv2_60 (fun j hj => .inl (.inr hj)) (fun j hj => .inl hj)
    refine ldR0 hb60 (by rw [u8s_length, hd]) ?_
    rw [← hpn]
    refine (Clone_byte_ok hbw.bs (by omega)).mono ?_
    rintro x64 w65 ⟨hx64, hf65⟩
    refine ⟨hf65, ?_⟩
    have p65 := p60.fr' hf65
    have v65 := v60.trans (Mv.of_fr (F := F1) hf65) fun j hj => .inl hj
    refine ixSl rfl hin ?_
    refine p65.mem.row.put p65.mem.f32 hin ⟨d, x64, 0, 0, 0⟩ hd rfl fun w67 r67 g67 s67 => ?_
    have m67 := p65.mem.setRow r67 (p65.mem.f32.upS hd) g67
    have p67 := p65.stepMem m67 rfl (Mv.of_grown g67 (.inr rfl))
    have v67 : Mv F1 w36 w67 := v65.trans (Mv.of_grown g67 h1.fs) fun j hj => .inl hj
    intro n68
    have hf68 := Fr.drewN w67 n68
    have p68 := p67.fr' hf68
    have v68 : Mv F1 w36 _ := v67.trans (Mv.of_fr (F := F1) hf68) fun j hj => .inl hj
    have hx67 : OwB w67 w60.heap.size t_uint8 x64 b := hx64.mv (Mv.of_grown (F := fun j => j = x1.m9.sb) g67 rfl) fun ad ha e => by
      have h5 := (hx64.own ad ha).1
      have h6 := (Array.getElem?_eq_some_iff.1 p60.mem.row).1
      dsimp only at h6
      omega
    have hx68 := hx67.fr hf68
    generalize w67.drewN n68 = w68 at *
    refine ldM0 (r := some x1.mr) p68.mem.st (by rw [← h1.em]; rfl) ?_
    have hv2_68 : Mv F w2 w68 := v36.trans v68 fun j hj => hF1 j hj
    refine ldR0 (hv2_68.heap hb1 hnb1) (by rw [u8s_length, hd]) ?_
    refine ruM kmS u_map_api_Sum_int p68.map ⟨d, hd⟩ (.int .i64 (i : Int)) fun w72 mp72 g72 s72 => ?_
    have emp : (fun k' => if k' = (⟨d, hd⟩ : K32) then some (Value.int .i64 (i : Int)) else mapV x1.mp k') = mapV (fun k' => if k' = (⟨d, hd⟩ : K32) then some i else x1.mp k') := by
      funext k'
      unfold mapV
      dsimp only
      split <;> rfl
    rw [emp] at mp72
    have p72 := p68.stepMap mp72 g72
    have v72 : Mv F1 w36 w72 := v68.trans (Mv.of_grown g72 h1.fm) fun j hj => .inl hj
    have hml := p68.map.lt
    have hx72 : OwB w72 w60.heap.size t_uint8 x64 b := hx68.mv (Mv.of_grown (F := fun j => j = x1.mr) g72 rfl) fun ad ha e => by
      have h5 := (hx64.own ad ha).1
      have h6 := p60.map.lt
      omega
    refine ldI0 (n := x1.m9.bytes) p72.mem.st rfl ?_
    have heb := h36.ebytes
    have hf2b := hfit.2
    dsimp only at heb
    rw [hpn, i64w (by omega) (by omega)]
    refine st0 p72.mem.st (by rw [stL9_size]; show _ < 8; simp) fun w76 hb76 g76 s76 => ?_
    have m76 := p72.mem.setSt (x' := { x1.m9 with free := ⟨x1.m9.free.a, q, x1.m9.free.c⟩, f := upS x1.m9.f i ⟨d, x64, 0, 0, 0⟩, bytes := x1.m9.bytes + (b.length : Int) }) hb76 g76 rfl rfl rfl rfl
    have p76 := p72.stepMem m76 rfl (mvG g76)
    have v76 : Mv F1 w36 w76 := v72.trans (Mv.of_grown g76 h1.fg) fun j hj => .inl hj
    have hx76 : OwB w76 w60.heap.size t_uint8 x64 b := hx72.mv (Mv.of_grown (F := fun j => j = g) g76 rfl) fun ad ha e => by
      have h5 := (hx64.own ad ha).1
      have h6 := (Array.getElem?_eq_some_iff.1 p60.mem.st).1
      omega
    have hnd := List.nodup_append.1 h36.nd
    have hni : i ∉ x1.ids := fun hh => hnd.2.2 i (List.mem_of_getElem? hi) i hh rfl
    have hr : ∀ j ∈ x1.ids, j < x1.m9.n := fun j hj => by rw [h36.en]; exact h36.rg j (List.mem_append_right _ hj)
    have hch : Chain (upS x1.m9.f i ⟨d, x64, 0, 0, 0⟩) x1.ids x1.m9.old x1.m9.young := h36.ch.other fun j hj => by
      have : j ≠ i := fun e => hni (e ▸ hj)
      rw [up_ne _ _ this]
      exact ⟨rfl, rfl⟩
    refine (link_ok p76.mem hin (Chain.endY hch hr)).mono ?_
    rintro _ w79 ⟨m79, vl⟩
    have p79 := p76.stepMem m79 rfl vl
    have hc2 := hch.link hni
    have hk2 := link_keep (upS x1.m9.f i ⟨d, x64, 0, 0, 0⟩) x1.m9.old x1.m9.young i
    dsimp only at m79 p79
    generalize hl : linkF (upS x1.m9.f i ⟨d, x64, 0, 0, 0⟩) x1.m9.old x1.m9.young i = l at *
    have vl1 : Mv F1 w76 w79 := vl.mono fun j hj => .inl (by rcases hj with rfl | rfl; exact h1.fg; exact h1.fs)
    have v79 : Mv F1 w36 w79 := v76.trans vl1 fun j hj => .inl hj
    have hx79 : OwB w79 w60.heap.size t_uint8 x64 b := hx76.mv vl fun ad ha e => by
      have h5 := (hx64.own ad ha).1
      have h6 := (Array.getElem?_eq_some_iff.1 p60.mem.st).1
      have h7 := (Array.getElem?_eq_some_iff.1 p60.mem.row).1
      dsimp only at h7
      rcases e with e | e
      · omega
      · dsimp only at e; omega
    have hZ60 : ∀ j, Zg G F1 j → j < w60.heap.size := fun j hj => by
      have := v60.size
      rcases hj with hj | hj
      · have := h36.gl j hj; omega
      · have := h36.fl j hj; omega
    have hsd : ∀ j, (l.1 j).sum = (upS x1.m9.f i ⟨d, x64, 0, 0, 0⟩ j).sum := hk2.sum
    refine ⟨rfl, pre ⟨F1, ⟨_, x1.ids ++ [i], x1.fr.take q, _, x1.mr⟩, h36.upd (s' := { s with l := l1 ++ [⟨d, b, 0⟩] }) (F' := F1) p79 rfl (fun j hj => .inl hj) (fun _ h => h) (fun j hj => Nat.lt_of_lt_of_le (h36.fl j hj) v79.size) h36.ff rfl rfl rfl rfl rfl rfl ?_ hc2 ?_ ?_ ?_ ?_ ?_ ?_ v79.size, v36.trans v79 fun j hj => hF1 j hj, hF1⟩⟩
    · intro k' j
      rw [List.mem_append, List.mem_singleton, show (l.1 j).sum = _ from hsd j]
      show (if k' = (⟨d, hd⟩ : K32) then some i else x1.mp k') = some j ↔ _
      by_cases e : j = i
      · subst e
        rw [up_same]
        constructor
        · intro hq'
          refine ⟨.inr rfl, ?_⟩
          split at hq'
          · rename_i e2; rw [e2]
          · exact absurd ((h36.mp k' j).1 hq').1 hni
        · intro hq'
          rw [if_pos (Subtype.ext hq'.2.symm)]
      · rw [up_ne _ _ e]
        constructor
        · intro hq'
          split at hq'
          · exact absurd (Option.some.inj hq').symm e
          · exact ⟨.inl ((h36.mp k' j).1 hq').1, ((h36.mp k' j).1 hq').2⟩
        · intro hq'
          have h5 := (h36.mp k' j).2 ⟨hq'.1.resolve_right e, hq'.2⟩
          rw [if_neg]
          · exact h5
          · intro e2
            rw [e2] at h5
            rcases h36.find hd with ⟨_, _, _, hff, _⟩ | ⟨_, hmm⟩
            · dsimp only at hff
              rw [hfn] at hff; cases hff
            · rw [hmm] at h5; cases h5
    · refine List.nodup_append.2 ⟨hnd.1.sublist (List.take_sublist _ _), hc2.nd, fun a ha c hc => ?_⟩
      rcases List.mem_append.1 hc with hc | hc
      · exact hnd.2.2 a (List.mem_of_mem_take ha) c hc
      · rw [List.mem_singleton] at hc
        rw [hc]
        intro e
        have hn2 := hnd.1
        rw [hfr0] at hn2
        exact (List.nodup_append.1 hn2).2.2 a ha i (by simp) e
    · intro j hj
      rcases List.mem_append.1 hj with hj | hj
      · exact h36.rg j (List.mem_append_left _ (List.mem_of_mem_take hj))
      · rcases List.mem_append.1 hj with hj | hj
        · exact h36.rg j (List.mem_append_right _ hj)
        · rw [List.mem_singleton] at hj
          rw [hj]
          exact h36.rg i (List.mem_append_left _ (List.mem_of_getElem? hi))
    · rw [List.length_append, List.length_singleton, List.length_take]
      show min q x1.fr.length + (x1.ids.length + 1) = s.most
      omega
    · refine All2.append (h36.all.mono fun j c' hj _ hr' => ?_) ⟨⟨?_, ?_, ?_⟩, trivial⟩
      · have hji : j ≠ i := fun e => hni (e ▸ hj)
        refine hr'.mv v79 (fun k' hk' => .inl (.inr hk')) (fun _ h => .inl h) ?_ ?_ ?_
        · show (l.1 j).sum = _
          rw [hk2.sum j, up_ne _ _ hji]
        · show (l.1 j).data = _
          rw [hk2.data j, up_ne _ _ hji]
        · show (l.1 j).pins = _
          rw [hk2.pins j, up_ne _ _ hji]
      · show (l.1 i).sum = d
        rw [hk2.sum i, up_same]
      · show Cb w79 (Zg G F1) (l.1 i).data b
        rw [hk2.data i, up_same]
        exact Cb.own hx79 hZ60
      · show (l.1 i).pins = _
        rw [hk2.pins i, up_same]; rfl
    · show x1.m9.bytes + (b.length : Int) = (bytesL (l1 ++ [⟨d, b, 0⟩]) : Int)
      rw [bytesL_append]
      simp only [bytesL]
      omega
    · show bytesL (l1 ++ [⟨d, b, 0⟩]) ≤ s.room
      rw [bytesL_append]
      simp only [bytesL]
      omega
end
end Go.Proofs.YtkaombhkepopgaaDoor
namespace Go.Proofs.YtkaombhkepopgaaDoor
open Go.RowKit Go.Fl

/-- A store that went on; its blocks are the same. -/
def StorIn (w w' : World) (G F : Nat → Prop) (g : Nat) (s' : Sto) : Prop := ∃ x', Stor w' G F g s' x' ∧ Mv F w w'
section
variable {w : World} {G F : Nat → Prop} {g : Nat} {s : Sto} {x : Sx}
theorem StorIn.to {w' : World} {s' : Sto} (h : StorIn w w' G F g s') : StorTo w w' G F g s' := by
  obtain ⟨x', h1, h2⟩ := h
  exact ⟨F, x', h1, h2, fun _ h => .inl h⟩
theorem StorIn.pre {w1 w' : World} {s' : Sto} (hf : Fr w w1) (h : StorIn w1 w' G F g s') : StorIn w w' G F g s' := by
  obtain ⟨x', h1, h2⟩ := h
  exact ⟨x', h1, (Mv.of_fr (F := F) hf).trans h2 fun j hj => .inl hj⟩
theorem sGet_ok {d : List UInt8} (h : Stor w G F g s x) (hd : d.length = 32) :
    cl Tryd.prog n_store_Store_Get #[.pointer (some ⟨g, 0, none⟩), .agg (u8s d).toArray] (.tup (.pair .L (.pair (.I .i64) .nil))) w fun (r : Sl × Int × Unit) w' => OwB w' w.heap.size t_uint8 r.1 (s.get d).2.1 ∧ r.2 = ((s.get d).2.2, ()) ∧ StorIn w w' G F g (s.get d).1 := by
  refine store_Store_Get.cl (p1 := ⟨u8s d, by rw [u8s_length, hd]⟩) ?_
  unfold store_Store_Get
  refine nwI fun a1 w2 ha1 hs2 hf2 hb1 _ => ?_
  refine ldR0 hb1 (by rw [u8s_length, hd]) ?_
  refine (find_ok (h.fr hf2) hd).mono ?_
  rintro r w5 ⟨hr, hf5⟩
  have hf5' := hf2.trans hf5
  have h5 := h.fr hf5'
  rcases hr with ⟨k, i, c, hf, hi, hc, hcd, rfl⟩ | ⟨hf, rfl⟩
  · have eg : s.get d = ({ s with l := useL s.l k }, c.data, 0) := by unfold Sto.get; rw [hf]; dsimp only; rw [hc]; rfl
    rw [eg]
    refine bF rfl ?_
    dsimp -zeta only [nz]
    refine use_cl h5 hi hc fun w11 x11 h11 hv11 hs11 hin => ?_
    refine ldL0 (s := ⟨some ⟨x11.m9.sb, 0, none⟩, x11.m9.n, x11.m9.sc⟩) h11.mem.st rfl ?_
    refine ixSl rfl hin ?_
    rw [addOff]
    refine h11.mem.row.data h11.mem.f32 hin ?_
    have hbe := bytesL_erase hc
    have hft := h.fit
    have hsz := h.sz
    refine (Clone_byte_ok hs11.2.1.bs (by omega)).mono ?_
    rintro x16 w17 ⟨ho, hf17⟩
    refine ⟨ho.mono (by have := hv11.size; have := hf5'.size; omega), rfl, ?_⟩
    exact StorIn.pre hf5' ⟨x11, h11.fr hf17, hv11.trans (Mv.of_fr (F := F) hf17) fun j hj => .inl hj⟩
  · have eg : s.get d = (s, [], 90) := by unfold Sto.get; rw [hf]
    rw [eg]
    refine bT rfl ?_
    exact ⟨OwB.nil _ _ _, rfl, x, h5, Mv.of_fr hf5'⟩
theorem All2.modify {α β : Type} {R S : α → β → Prop} {f : β → β} : ∀ {l : List α} {m : List β} {k : Nat}, All2 R l m → (∀ (j : Nat) (a : α) (b : β), l[j]? = some a → m[j]? = some b → j ≠ k → R a b → S a b) → (∀ a b, l[k]? = some a → m[k]? = some b → R a b → S a (f b)) → All2 S l (m.modify k f)
  | [], [], k, _, _, _ => by cases k <;> exact trivial
  | a :: l, b :: m, 0, h, h1, h2 => by
    rw [List.modify_zero_cons]
    refine ⟨h2 a b rfl rfl h.1, ?_⟩
    have key : ∀ {l : List α} {m : List β}, All2 R l m → (∀ (j : Nat) (a : α) (b : β), l[j]? = some a → m[j]? = some b → R a b → S a b) → All2 S l m := by
      intro l
      induction l with
      | nil => intro m h _; cases m with
        | nil => trivial
        | cons => exact h.elim
      | cons a l ih => intro m h h'; cases m with
        | nil => exact h.elim
        | cons b m => exact ⟨h' 0 a b rfl rfl h.1, ih h.2 fun j a b ha hb => h' (j + 1) a b (by simpa using ha) (by simpa using hb)⟩
    exact key h.2 fun j a' b' ha hb hr => h1 (j + 1) a' b' (by simpa using ha) (by simpa using hb) (by omega) hr
  | a :: l, b :: m, k + 1, h, h1, h2 => by
    rw [List.modify_succ_cons]
    exact ⟨h1 0 a b rfl rfl (by omega) h.1, All2.modify h.2 (fun j a b ha hb hj => h1 (j + 1) a b (by simpa using ha) (by simpa using hb) (by omega)) fun a b ha hb => h2 a b (by simpa using ha) (by simpa using hb)⟩
  | [], _ :: _, _, h, _, _ => h.elim
  | _ :: _, [], _, h, _, _ => h.elim
theorem bytesL_modify (v : Nat → Nat) : ∀ (l : List Ch) (k : Nat), bytesL (l.modify k fun c => { c with pins := v c.pins }) = bytesL l
  | [], k => by cases k <;> rfl
  | c :: l, 0 => by rw [List.modify_zero_cons]; rfl
  | c :: l, k + 1 => by rw [List.modify_succ_cons]; simp only [bytesL]; rw [bytesL_modify v l k]
/-- A chunk's pins are others. -/
theorem Stor.pins {w' : World} {k i : Nat} {v : Nat → Nat} {n : Int} (h : Stor w G F g s x) (hi : x.ids[k]? = some i) (hc : ∀ c, s.l[k]? = some c → n = (v c.pins : Int))
    (hr : SlR w' x.m9.sb (upS x.m9.f i { x.m9.f i with pins := n }) x.m9.n t_store_slot x.m9.post) (hg : w.grownBy w' (some x.m9.sb)) : StorIn w w' G F g { s with l := s.l.modify k fun c => { c with pins := v c.pins } } := by
  have hv : Mv (own9 g x.m9) w w' := Mv.of_grown hg (.inr rfl)
  have hvF : Mv F w w' := Mv.of_grown hg h.fs
  have m' := h.mem.setRow hr (h.mem.f32.upS (h.mem.f32 i)) hg
  have p' := h.prt.stepMem m' rfl hv
  have hsum : ∀ j, (upS x.m9.f i { x.m9.f i with pins := n } j).sum = (x.m9.f j).sum ∧ (upS x.m9.f i { x.m9.f i with pins := n } j).data = (x.m9.f j).data := fun j => by
    by_cases e : j = i
    · subst e; rw [up_same]; exact ⟨rfl, rfl⟩
    · rw [up_ne _ _ e]; exact ⟨rfl, rfl⟩
  refine ⟨⟨_, x.ids, x.fr, x.mp, x.mr⟩, h.upd (F' := F) (s' := { s with l := s.l.modify k fun c => { c with pins := v c.pins } }) p' rfl (fun k hk => .inl hk) (fun _ h => h) (fun k hk => Nat.lt_of_lt_of_le (h.fl k hk) hv.size) h.ff rfl rfl rfl rfl rfl rfl (fun q j => ?_) ?_ h.nd h.rg h.ln ?_ ?_ ?_ hv.size, hvF⟩
  · rw [(hsum j).1]; exact h.mp q j
  · refine h.ch.other fun j hj => ?_
    show (upS _ _ _ j).prev = _ ∧ (upS _ _ _ j).next = _
    by_cases e : j = i
    · subst e; rw [up_same]; exact ⟨rfl, rfl⟩
    · rw [up_ne _ _ e]; exact ⟨rfl, rfl⟩
  · refine All2.modify h.all (fun j a b ha hb hj hrr => ?_) fun a b ha hb hrr => ?_
    · have hai : a ≠ i := fun e => hj (nd_get h.ch.nd ha (e ▸ hi))
      refine hrr.mv hvF (fun q hq => .inl (.inr hq)) (fun _ h => .inl h) (hsum a).1 (hsum a).2 ?_
      show (upS _ _ _ a).pins = _
      rw [up_ne _ _ hai]
    · have hai : a = i := by rw [ha] at hi; exact Option.some.inj hi
      subst hai
      refine ⟨(hsum a).1.trans hrr.1, ?_, ?_⟩
      · rw [(hsum a).2]
        exact hrr.2.1.mv hvF (fun q hq => .inl (.inr hq)) (fun _ h => .inl h)
      · show (upS _ _ _ a).pins = _
        rw [up_same]
        exact hc b hb
  · rw [bytesL_modify v]; exact h.ebytes
  · rw [bytesL_modify v]; exact h.fit
theorem Pin_ok {d : List UInt8} (h : Stor w G F g s x) (hd : d.length = 32) (hp : ∀ c ∈ s.l, c.pins ≤ 1073741824) :
    cl Tryd.prog n_store_Store_Pin #[.pointer (some ⟨g, 0, none⟩), .agg (u8s d).toArray] (.I .i64) w fun (r : Int) w' => r = (s.pin d).2 ∧ StorIn w w' G F g (s.pin d).1 := by
  refine store_Store_Pin.cl (p1 := ⟨u8s d, by rw [u8s_length, hd]⟩) ?_
  unfold store_Store_Pin
  refine nwI fun a1 w2 ha1 hs2 hf2 hb1 _ => ?_
  refine ldR0 hb1 (by rw [u8s_length, hd]) ?_
  refine (find_ok (h.fr hf2) hd).mono ?_
  rintro r w5 ⟨hr, hf5⟩
  have hf5' := hf2.trans hf5
  have h5 := h.fr hf5'
  rcases hr with ⟨k, i, c, hf, hi, hc, hcd, rfl⟩ | ⟨hf, rfl⟩
  · have eg : s.pin d = ({ s with l := s.l.modify k fun c => { c with pins := c.pins + 1 } }, 0) := by unfold Sto.pin; rw [hf]
    rw [eg]
    refine bT rfl ?_
    dsimp -zeta only [nz]
    have hin := h5.rgi hi
    have hs := h5.slt hi hc
    refine ldL0 (s := ⟨some ⟨x.m9.sb, 0, none⟩, x.m9.n, x.m9.sc⟩) h5.mem.st rfl ?_
    refine ixSl rfl hin ?_
    rw [addOff]
    refine h5.mem.row.pins h5.mem.f32 hin ?_
    refine ixSl rfl hin ?_
    rw [addOff, hs.2.2]
    have hcp := hp c (List.mem_of_getElem? hc)
    rw [i64w (by omega) (by omega)]
    refine h5.mem.row.setPins h5.mem.f32 hin _ fun w11 r11 g11 s11 => ⟨rfl, StorIn.pre hf5' ?_⟩
    exact h5.pins (v := fun n => n + 1) hi (fun c' hc' => by rw [hc] at hc'; cases hc'; push_cast; rfl) r11 g11
  · have eg : s.pin d = (s, 90) := by unfold Sto.pin; rw [hf]
    rw [eg]
    refine bF rfl ?_
    exact ⟨rfl, x, h5, Mv.of_fr hf5'⟩
theorem Unpin_ok {d : List UInt8} (h : Stor w G F g s x) (hd : d.length = 32) (hp : ∀ c ∈ s.l, c.pins ≤ 1073741824) :
    cl Tryd.prog n_store_Store_Unpin #[.pointer (some ⟨g, 0, none⟩), .agg (u8s d).toArray] (.I .i64) w fun (r : Int) w' => r = (s.unpin d).2 ∧ StorIn w w' G F g (s.unpin d).1 := by
  refine store_Store_Unpin.cl (p1 := ⟨u8s d, by rw [u8s_length, hd]⟩) ?_
  unfold store_Store_Unpin
  refine nwI fun a1 w2 ha1 hs2 hf2 hb1 _ => ?_
  refine ldR0 hb1 (by rw [u8s_length, hd]) ?_
  refine (find_ok (h.fr hf2) hd).mono ?_
  rintro r w5 ⟨hr, hf5⟩
  have hf5' := hf2.trans hf5
  have h5 := h.fr hf5'
  rcases hr with ⟨k, i, c, hf, hi, hc, hcd, rfl⟩ | ⟨hf, rfl⟩
  · have eg : s.unpin d = if c.pins = 0 then (s, 91) else ({ s with l := s.l.modify k fun c => { c with pins := c.pins - 1 } }, 0) := by unfold Sto.unpin; rw [hf]; dsimp only; rw [hc]; rfl
    rw [eg]
    refine bF rfl ?_
    dsimp -zeta only [nz]
    have hin := h5.rgi hi
    have hs := h5.slt hi hc
    have hcp := hp c (List.mem_of_getElem? hc)
    refine ldL0 (s := ⟨some ⟨x.m9.sb, 0, none⟩, x.m9.n, x.m9.sc⟩) h5.mem.st rfl ?_
    refine ixSl rfl hin ?_
    rw [addOff]
    refine h5.mem.row.pins h5.mem.f32 hin ?_
    rw [hs.2.2]
    refine bE ?_ ?_ <;> intro hz
    · rw [if_pos (by omega)]
      exact ⟨rfl, x, h5, Mv.of_fr hf5'⟩
    · rw [if_neg (by omega)]
      refine ldL0 (s := ⟨some ⟨x.m9.sb, 0, none⟩, x.m9.n, x.m9.sc⟩) h5.mem.st rfl ?_
      refine ixSl rfl hin ?_
      rw [addOff]
      refine h5.mem.row.pins h5.mem.f32 hin ?_
      refine ixSl rfl hin ?_
      rw [addOff, hs.2.2]
      rw [i64w (by omega) (by omega)]
      refine h5.mem.row.setPins h5.mem.f32 hin _ fun w11 r11 g11 s11 => ⟨rfl, StorIn.pre hf5' ?_⟩
      exact h5.pins (v := fun n => n - 1) hi (fun c' hc' => by rw [hc] at hc'; cases hc'; omega) r11 g11
  · have eg : s.unpin d = (s, 90) := by unfold Sto.unpin; rw [hf]
    rw [eg]
    refine bT rfl ?_
    exact ⟨rfl, x, h5, Mv.of_fr hf5'⟩
theorem sLen_ok (h : Stor w G F g s x) : cl Tryd.prog n_store_Store_Len #[.pointer (some ⟨g, 0, none⟩)] (.I .i64) w fun (r : Int) w' => r = (s.l.length : Int) ∧ w = w' := by
  refine store_Store_Len.cl ?_
  unfold store_Store_Len
  refine (smade_ok h).mono ?_
  rintro _ _ ⟨rfl, rfl⟩
  refine bF rfl ?_
  dsimp -zeta only [nz]
  rw [addOff]
  refine ldM0 (r := some x.mr) h.mem.st (by rw [← h.em]; rfl) ?_
  exact h.lenM ⟨rfl, rfl⟩
/-- Rows of digests. -/
def sumsV (l : List (List UInt8)) : List Value := l.flatMap u8s
theorem sumsV_one (l : List (List UInt8)) : ∀ v ∈ sumsV l, v.oneCell' = true := fun v hv => by
  obtain ⟨d, _, h⟩ := List.mem_flatMap.1 hv
  exact u8s_one d v h
theorem slSum : SlT Tryd.prog t_s_api_Sum t_api_Sum 32 32 := SlT.mk' (z := .agg (List.replicate 32 (Value.int .u8 0)).toArray) (by kernel_rfl) (by kernel_rfl) rfl (by decide)
theorem sList_ok (h : Stor w G F g s x) : cl Tryd.prog n_store_Store_List #[.pointer (some ⟨g, 0, none⟩)] .L w fun (r : Sl) w' => r.n = s.l.length ∧ w'.ownsRow w.heap.size t_api_Sum 32 (.slice r.a r.n r.c) r.n (sumsV (s.l.map (·.sum))) ∧ Fr w w' := by
  refine store_Store_List.cl ?_
  unfold store_Store_List
  refine (smade_ok h).mono ?_
  rintro _ _ ⟨rfl, rfl⟩
  refine bF rfl ?_
  dsimp -zeta only [nz]
  rw [addOff]
  refine ldI0 (n := x.m9.old) h.mem.st rfl ?_
  refine lpI (fun (s' : Sl × Int × Unit) v => ∃ k, k ≤ x.ids.length ∧ s'.2.1 = nx x.ids k ∧ s'.1.n = k ∧ v.ownsRow w.heap.size t_api_Sum 32 (.slice s'.1.a s'.1.n s'.1.c) s'.1.n (sumsV ((s.l.take k).map (·.sum))) ∧ Fr w v) (fun s' _ => far x.ids s'.2.1)
    ⟨0, Nat.zero_le _, h.ch.old, rfl, World.ownsRow_nil _ _ _ _, Fr.refl w⟩ ?_
  rintro D ⟨r, i', ⟨⟩⟩ v ⟨k, hk, e, hrn, ho, hfv⟩
  dsimp -zeta only at e hrn ho ⊢
  subst e
  have hlen := h.len
  have hv := h.fr hfv
  have hlm := h.lm
  have hsz := h.sz
  refine bNe ?_ ?_ <;> intro hi
  · have hkl : k < x.ids.length := by
      apply Classical.byContradiction
      intro hh
      rw [nx_none (by omega)] at hi
      exact hi rfl
    have hg := List.getElem?_eq_getElem hkl
    have hgc := List.getElem?_eq_getElem (l := s.l) (i := k) (by omega)
    have hs := hv.slt hg hgc
    have hfar : far x.ids (nx x.ids k) = x.ids.length - k := far_nx h.ch.nd k
    have hfar' : far x.ids (nx x.ids (k + 1)) = x.ids.length - (k + 1) := far_nx h.ch.nd (k + 1)
    rw [nx_some hg] at hfar ⊢
    refine ldL0 (s := ⟨some ⟨x.m9.sb, 0, none⟩, x.m9.n, x.m9.sc⟩) hv.mem.st rfl ?_
    refine ixSl rfl (h.rgi hg) ?_
    refine hv.mem.row.sum hv.mem.f32 (h.rgi hg) fun _ => ?_
    dsimp -zeta only
    rw [hs.1, List.append_nil]
    have hcl : s.l[k].sum.length = 32 := by rw [← hs.1]; exact h.mem.f32 _
    refine nwI fun a13 w14 ha13 hs14 hf14 hb14 hr14 => ?_
    have ho14 := own_kept ho hf14
    refine app_own slSum (base := w.heap.size) (news := u8s s.l[k].sum) ho14 hr14 (by rw [u8s_length, hcl, Nat.one_mul]) (u8s_one _) (by dsimp only; omega) (by dsimp only; omega) (by have := hfv.size; have := hf14.size; omega) fun r15 w16 hrn15 ho15 hg15 hat => ?_
    have hfr : Fr w w16 := by
      refine hfv.on ?_
      refine hf14.mono hfv.size |>.grown hg15 (by have := hfv.size; have := hf14.size; omega) fun q hq => ?_
      exact (World.ownsRow.lt ho14 q hq).1
    have h16 := h.fr hfr
    refine ldL0 (s := ⟨some ⟨x.m9.sb, 0, none⟩, x.m9.n, x.m9.sc⟩) h16.mem.st rfl ?_
    refine ixSl rfl (h.rgi hg) ?_
    rw [addOff]
    refine h16.mem.row.next h16.mem.f32 (h.rgi hg) ?_
    rw [h.ch.next k _ hg]
    refine ⟨⟨k + 1, by omega, rfl, by dsimp only at hrn15; omega, ?_, hfr⟩, ?_⟩
    · have e : sumsV ((s.l.take (k + 1)).map (·.sum)) = sumsV ((s.l.take k).map (·.sum)) ++ u8s s.l[k].sum := by
        rw [List.take_add_one, hgc, List.map_append, sumsV, List.flatMap_append]
        simp [sumsV]
      rw [e]
      exact ho15
    · show far x.ids (nx x.ids (k + 1)) < far x.ids _
      rw [hfar', hfar]; omega
  · have hkl : k = x.ids.length := by
      apply Classical.byContradiction
      intro hh
      rw [nx_some (List.getElem?_eq_getElem (show k < x.ids.length by omega))] at hi
      omega
    refine ⟨by omega, ?_, hfv⟩
    rw [List.take_of_length_le (by omega)] at ho
    exact ho
end
end Go.Proofs.YtkaombhkepopgaaDoor
namespace Go.Proofs.YtkaombhkepopgaaDoor
open Go.RowKit Go.Fl

theorem slSlot : SlT Tryd.prog t_s_store_slot t_store_slot 36 80 := SlT.mk' (z := .agg (slotV sv0).toArray) (by kernel_rfl) (by kernel_rfl) rfl (by decide)
theorem own_ne {w : World} {base base' : Nat} {e e' : TypeId} {sz sz' : Nat} {s s' : Sl} {n n' : Nat} {xs xs' : List Value} (h : w.ownsRow base e sz (.slice s.a s.n s.c) n xs) (h' : w.ownsRow base' e' sz' (.slice s'.a s'.n s'.c) n' xs') (he : e ≠ e')
    {ad ad' : Addr} (ha : s.a = some ad) (ha' : s'.a = some ad') : ad.block ≠ ad'.block := by
  obtain ⟨c, hc⟩ := ownT h ha
  obtain ⟨c', hc'⟩ := ownT h' ha'
  intro e1
  rw [e1, hc'] at hc
  simp only [Option.some.injEq, Obj.cells.injEq] at hc
  exact he hc.2.1.symm
theorem own_neC {w : World} {base : Nat} {e t : TypeId} {sz : Nat} {s : Sl} {n g : Nat} {xs : List Value} {cs : Array Value} {f : Nat × Nat} (h : w.ownsRow base e sz (.slice s.a s.n s.c) n xs) (h' : w.heap[g]? = some (.cells cs t f)) (he : e ≠ t)
    {ad : Addr} (ha : s.a = some ad) : ad.block ≠ g := by
  obtain ⟨c, hc⟩ := ownT h ha
  intro e1
  rw [e1, h'] at hc
  simp only [Option.some.injEq, Obj.cells.injEq] at hc
  exact he hc.2.1.symm
theorem own_neM {w : World} {base : Nat} {e : TypeId} {sz : Nat} {s : Sl} {n m : Nat} {xs : List Value} {κ : Type} {key : κ → Value} {f : κ → Option Value} (h : w.ownsRow base e sz (.slice s.a s.n s.c) n xs) (h' : MapF key w m f)
    {ad : Addr} (ha : s.a = some ad) : ad.block ≠ m := by
  obtain ⟨c, hc⟩ := ownT h ha
  obtain ⟨es, clock, h1, _⟩ := h'.ex
  intro e1
  rw [e1, h1] at hc
  cases hc
/-- Only the row's own block turned. -/
theorem mv_own {w w' : World} {s : Sl} (hg : w.grownBy w' (Value.slice s.a s.n s.c).ownBlock) : Mv (fun q => ∃ ad, s.a = some ad ∧ ad.block = q) w w' := by
  refine ⟨hg.os, hg.tape, hg.output, hg.size, fun q hq hn => hg.block q hq fun e => ?_⟩
  cases hfa : s.a with
  | none => rw [hfa] at e; cases e
  | some ad => rw [hfa] at e; exact hn ⟨ad, hfa, (Option.some.inj e).symm⟩
/-- A store that is being made. -/
structure New9 (w0 v : World) (g m : Nat) (p0 p1 : Int) (n : Nat) (sl fr : Sl) : Prop where
  cells : v.heap[g]? = some (.cells (Kd.av k_store_Store ((sl, fr, -1, -1, ()), some m, p0, p1, 0, ())).cells.toArray t_store_Store (0, 0))
  row : v.ownsRow w0.heap.size t_store_slot 36 (.slice sl.a sl.n sl.c) sl.n (slotsV (fun _ => sv0) n)
  free : v.ownsRow w0.heap.size t_int 1 (.slice fr.a fr.n fr.c) fr.n (natsV ((List.range n).map fun i => p0.toNat - 1 - i))
  map : MapF (keyB (n := 32)) v m (fun _ => none)
  gl : w0.heap.size ≤ g
  ml : w0.heap.size ≤ m
  fr0 : Fr w0 v
theorem New_ok9 {w : World} {G : Nat → Prop} {p0 p1 : Int} (h0 : 1 ≤ p0 ∧ p0 ≤ 64) (h1 : 1 ≤ p1 ∧ p1 ≤ 8192) (hG : ∀ k, G k → k < w.heap.size) :
    cl Tryd.prog n_store_New #[.int .i64 p0, .int .i64 p1] (.tup (.pair .P (.pair (.I .i64) .nil))) w fun (r : Option Addr × Int × Unit) w' => ∃ g F x, r = (some ⟨g, 0, none⟩, 0, ()) ∧ Stor w' G F g ⟨p0.toNat, p1.toNat, []⟩ x ∧ Fr w w' ∧ ∀ k, F k → w.heap.size ≤ k := by
  refine store_New.cl ?_
  unfold store_New
  refine bN (by omega) (bN (by omega) (bN (by omega) (bN (by omega) ?_)))
  refine rnNewM (key := keyB (n := 32)) fun m w2 hm hmp hf2 hs2 => ?_
  refine nwI fun g w4 hg hs4 hf4 hb4 _ => ?_
  have hn0 : New9 w w4 g m p0 p1 0 ⟨none, 0, 0⟩ ⟨none, 0, 0⟩ := ⟨hb4, World.ownsRow_nil _ _ _ _, World.ownsRow_nil _ _ _ _, hmp.sub (hf4.block m (by omega)), by omega, by omega, hf2.trans hf4⟩
  refine lpI (fun (s' : Int × Unit) v => ∃ (n : Nat) (sl fr : Sl), s'.1 = (n : Int) ∧ (n : Int) ≤ p0 ∧ New9 w v g m p0 p1 n sl fr) (fun s' _ => (p0 - s'.1).toNat) ⟨0, _, _, rfl, by omega, hn0⟩ ?_
  rintro D ⟨i', ⟨⟩⟩ v ⟨n, sl, fr, e, hnp, hN⟩
  dsimp -zeta only at e ⊢
  subst e
  have hsn : sl.n = n := by
    have := hN.row.1
    rw [slotsV_length (fun _ => sv0_len)] at this; omega
  have hfn : fr.n = n := by have := hN.free.1; simp only [natsV, List.length_map, List.length_range] at this; omega
  refine bD ?_ ?_ <;> intro hlt
  · refine ldL0 (s := sl) hN.cells rfl ?_
    rw [slot0, slotT_cells, List.append_nil]
    refine nwI fun b10 w11 hb10 hs11 hf11 hblk hr11 => ?_
    have hc11 := hf11.heap hN.cells
    have hr := own_kept hN.row hf11
    have hfr := own_kept hN.free hf11
    have hmp11 := hN.map.sub (hf11.block m hN.map.lt)
    refine app_own slSlot (base := w.heap.size) (news := slotV sv0) hr hr11 (slotV_length sv0_len) (fun u hu => by
      simp only [slotV, List.mem_append] at hu
      rcases hu with hu | hu
      · exact u8s_one _ u hu
      · simp only [List.mem_cons, List.not_mem_nil, or_false] at hu
        rcases hu with rfl | rfl | rfl | rfl <;> rfl) (by dsimp only; omega) (by dsimp only; omega) (by have := hN.fr0.size; have := hf11.size; omega) fun r12 w13 hrn ho hg13 hat => ?_
    have v13 := mv_own hg13
    have hc13 := v13.heap hc11 fun ⟨ad, ha, e⟩ => own_neC hr hc11 (by decide) ha e
    have hfr13 := own_kp hfr v13.kp fun ad ha => fun ⟨ad', ha', e⟩ => own_ne hr hfr (by decide) ha' ha e
    have hmp13 := hmp11.sub (v13.block m hmp11.lt fun ⟨ad, ha, e⟩ => own_neM hr hmp11 ha e)
    have f13 : Fr w w13 := by
      have hf := hN.fr0.trans hf11
      exact hf.on ((Below.refl _ _).grown hg13 hf.size fun q hq => (World.ownsRow.lt hr q hq).1)
    refine st0 hc13 (by show 0 < 8; decide) fun w14 hb14 g14 s14 => ?_
    have hc14 : w14.heap[g]? = some (.cells (Kd.av k_store_Store ((r12, fr, -1, -1, ()), some m, p0, p1, 0, ())).cells.toArray t_store_Store (0, 0)) := hb14
    have v14 : Mv (fun q => q = g) w13 w14 := Mv.of_grown g14 rfl
    have ho14 := own_kp ho v14.kp fun ad ha => own_neC ho hc13 (by decide) ha
    have hfr14 := own_kp hfr13 v14.kp fun ad ha => own_neC hfr13 hc13 (by decide) ha
    have hmg : m ≠ g := by omega
    have hmp14 := hmp13.sub (v14.block m hmp13.lt hmg)
    have f14 : Fr w w14 := Mv.on f13 v14 fun j hj => by have := hN.gl; omega
    rw [addOff]
    refine ldL0 (s := fr) hc14 rfl ?_
    rw [i64w (n := p0 - 1) (by omega) (by omega), i64w (by omega) (by omega)]
    refine nwI fun b16 w17 hb16 hs17 hf17 hblk17 hr17 => ?_
    have hc17 := hf17.heap hc14
    have ho17 := own_kept ho14 hf17
    have hfr17 := own_kept hfr14 hf17
    have hmp17 := hmp14.sub (hf17.block m hmp14.lt)
    have f17 := f14.trans hf17
    refine app_own slN (base := w.heap.size) (news := [.int .i64 (p0 - 1 - n)]) hfr17 hr17 rfl (fun u hu => by rw [List.mem_singleton] at hu; rw [hu]; rfl) (by dsimp only; omega) (by dsimp only; omega) f17.size fun r18 w19 hrn18 ho18 hg18 hat18 => ?_
    have v19 := mv_own hg18
    have hc19 := v19.heap hc17 fun ⟨ad, ha, e⟩ => own_neC hfr17 hc17 (by decide) ha e
    have ho19 := own_kp ho17 v19.kp fun ad ha => fun ⟨ad', ha', e⟩ => own_ne hfr17 ho17 (by decide) ha' ha e
    have hmp19 := hmp17.sub (v19.block m hmp17.lt fun ⟨ad, ha, e⟩ => own_neM hfr17 hmp17 ha e)
    have f19 : Fr w w19 := f17.on ((Below.refl _ _).grown hg18 f17.size fun q hq => (World.ownsRow.lt hfr17 q hq).1)
    refine st0 hc19 (by show 1 < 8; decide) fun w20 hb20 g20 s20 => ?_
    have hc20 : w20.heap[g]? = some (.cells (Kd.av k_store_Store ((r12, r18, -1, -1, ()), some m, p0, p1, 0, ())).cells.toArray t_store_Store (0, 0)) := hb20
    have v20 : Mv (fun q => q = g) w19 w20 := Mv.of_grown g20 rfl
    have ho20 := own_kp ho19 v20.kp fun ad ha => own_neC ho19 hc19 (by decide) ha
    have hfr20 := own_kp ho18 v20.kp fun ad ha => own_neC ho18 hc19 (by decide) ha
    have hmp20 := hmp19.sub (v20.block m hmp19.lt hmg)
    have f20 : Fr w w20 := Mv.on f19 v20 fun j hj => by have := hN.gl; omega
    rw [i64w (by omega) (by omega)]
    refine ⟨⟨n + 1, r12, r18, by push_cast; rfl, by push_cast; omega, hc20, ho20, ?_, hmp20, hN.gl, hN.ml, f20⟩, by omega⟩
    have e : natsV ((List.range (n + 1)).map fun i => p0.toNat - 1 - i) = natsV ((List.range n).map fun i => p0.toNat - 1 - i) ++ [.int .i64 (p0 - 1 - n)] := by
      rw [List.range_succ, List.map_append, natsV, List.map_append]
      simp only [List.map_cons, List.map_nil]
      congr 3
      omega
    rw [e]
    exact hfr20
  · have hn : n = p0.toNat := by omega
    subst hn
    obtain ⟨hrl, hr2⟩ := hN.row
    rcases hr2 with ⟨_, hz⟩ | ⟨sb, cap, cur, hv, hsb, hcur, hnc, hcm, hsz, htk⟩
    · omega
    · injection hv with e1 e2 e3
      have hcell : sl = ⟨some ⟨sb, 0, none⟩, p0.toNat, cap⟩ := by cases sl; simp_all
      subst hcell
      have hcurE : cur = (slotsV (fun _ => sv0) p0.toNat ++ cur.toList.drop (p0.toNat * 36)).toArray := by
        rw [← htk, List.take_append_drop]
      refine ⟨g, fun k => k = g ∨ k = sb ∨ (∃ ad, fr.a = some ad ∧ ad.block = k) ∨ k = m, ⟨⟨sb, cap, p0.toNat, fun _ => sv0, cur.toList.drop (p0.toNat * 36), fr, -1, -1, some m, p0, p1, 0⟩, [], (List.range p0.toNat).map fun i => p0.toNat - 1 - i, fun _ => none, m⟩, rfl, ?_, hN.fr0, ?_⟩
      · have hnd : ((List.range p0.toNat).map fun i => p0.toNat - 1 - i).Nodup := by
          refine List.pairwise_map.2 (List.Pairwise.imp_of_mem ?_ List.pairwise_lt_range)
          intro a b ha hb hab
          have := List.mem_range.1 ha
          have := List.mem_range.1 hb
          omega
        have hFlt : ∀ k, (k = g ∨ k = sb ∨ (∃ ad, fr.a = some ad ∧ ad.block = k) ∨ k = m) → w.heap.size ≤ k ∧ k < v.heap.size := fun k hk => by
          rcases hk with rfl | rfl | ⟨ad, ha, rfl⟩ | rfl
          · exact ⟨hN.gl, (Array.getElem?_eq_some_iff.1 hN.cells).1⟩
          · exact ⟨hsb, (Array.getElem?_eq_some_iff.1 hcur).1⟩
          · exact World.ownsRow.lt hN.free ad.block (by rw [ha]; rfl)
          · exact ⟨hN.ml, hN.map.lt⟩
        refine { mem := ⟨hN.cells, ?_, fun _ => sv0_len⟩, en := rfl, em := rfl, emost := by dsimp only; omega, eroom := by dsimp only; omega, ebytes := rfl, free := ?_, map := hN.map, mp := fun k i => by simp, ch := ⟨List.nodup_nil, rfl, rfl, fun k i hk => by simp at hk, fun k i hk => by simp at hk⟩, nd := by simpa using hnd, rg := ?_, ln := by simp, all := trivial, fg := .inl rfl, fs := .inr (.inl rfl), ff := fun ad ha => .inr (.inr (.inl ⟨ad, ha, rfl⟩)), fm := .inr (.inr (.inr rfl)), fl := fun k hk => (hFlt k hk).2, gl := fun k hk => Nat.lt_of_lt_of_le (hG k hk) hN.fr0.size, gf := fun k hk hf => by have := hG k hk; have := (hFlt k hf).1; omega, sz := by dsimp only; omega, fit := Nat.zero_le _ }
        · show v.heap[sb]? = _
          rw [hcur]
          congr 2
        · refine ⟨hN.free.1, ?_⟩
          rcases hN.free.2 with h | ⟨g', cap', cur', a1, a2, a3⟩
          · exact .inl h
          · exact .inr ⟨g', cap', cur', a1, Nat.zero_le _, a3⟩
        · intro i hi
          rw [List.append_nil] at hi
          obtain ⟨j, hj, rfl⟩ := List.mem_map.1 hi
          have := List.mem_range.1 hj
          dsimp only; omega
      · intro k hk
        rcases hk with rfl | rfl | ⟨ad, ha, rfl⟩ | rfl
        · exact hN.gl
        · exact hsb
        · exact (World.ownsRow.lt hN.free ad.block (by rw [ha]; rfl)).1
        · exact hN.ml
end Go.Proofs.YtkaombhkepopgaaDoor
namespace Go.Fl

theorem lookS_le (l : List UInt8) : (lookS l).2.1 ≤ l.length := by
  cases l with
  | nil => simp [lookS]
  | cons b t =>
    rw [lookS_cons]
    generalize beN (if ones b.toNat < 8 then b.toNat % 2 ^ (7 - ones b.toNat) else 0) (t.take (ones b.toNat)) = X
    split
    · simp
    · split
      · simp
      · split
        · simp
        · simp; omega
theorem look_err {l : List UInt8} (h : (lookS l).2.2 ≠ 0) : (lookS l).1 = 0 ∧ (lookS l).2.1 = 0 := by
  cases l with
  | nil => simp [lookS]
  | cons b t =>
    rw [lookS_cons] at h ⊢
    generalize beN (if ones b.toNat < 8 then b.toNat % 2 ^ (7 - ones b.toNat) else 0) (t.take (ones b.toNat)) = X at *
    split
    · simp
    · split
      · simp
      · split
        · simp
        · rename_i h1 h2 h3
          rw [if_neg h1, if_neg h2, if_neg h3] at h
          simp at h
theorem look_short {x j : Nat} (hj : j < (numB x).length) : lookS ((numB x).take j) = (0, 0, 2) := by
  cases j with
  | zero => rfl
  | succ j =>
    rw [numB_length] at hj
    have hsp := (moreF_spec (f := 8) (x := x)).1
    change moreN x < 8 → x < 128 ^ (moreN x + 1) at hsp
    have hlt := leadB_lt hsp (moreN_le x)
    have hb : (UInt8.ofNat (leadB x (moreN x))).toNat = leadB x (moreN x) := by simp; omega
    rw [numB, List.take_succ_cons, lookS_cons, hb, ones_lead, if_pos (by simp [lowB_length]; omega)]
/-- The next byte; its error; how many bytes are read. -/
def rdByte : List UInt8 → Nat × Nat × Nat
  | [] => (0, 2, 0)
  | b :: _ => (b.toNat, 0, 1)
/-- The next number from lo to hi; its error; how many bytes are read. -/
def rdWithin (l : List UInt8) (lo hi : Int) : Int × Int × Nat :=
  if (lookS l).2.2 ≠ 0 then (0, (lookS l).2.2, 0) else if ((lookS l).1 : Int) < lo ∨ ((lookS l).1 : Int) > hi then (0, 5, 0) else ((lookS l).1, 0, (lookS l).2.1)
/-- The next yes or no. -/
def rdFlag (l : List UInt8) : Bool × Nat × Nat :=
  if (lookS l).2.2 ≠ 0 then (false, (lookS l).2.2, 0) else if (lookS l).1 > 1 then (false, 20, 0) else (decide ((lookS l).1 = 1), 0, (lookS l).2.1)
/-- The next text; its error; how many bytes are read. -/
def rdText (l : List UInt8) (most : Int) : List UInt8 × Nat × Nat :=
  if (lookS l).2.2 ≠ 0 then ([], (lookS l).2.2, 0) else if ((lookS l).1 : Int) > max most 0 then ([], 4, 0) else
  if (lookS l).1 > l.length - (lookS l).2.1 then ([], 2, 0) else ((l.drop (lookS l).2.1).take (lookS l).1, 0, (lookS l).2.1 + (lookS l).1)
theorem rdText_le (l : List UInt8) (most : Int) : (rdText l most).2.2 ≤ l.length := by
  have := lookS_le l
  unfold rdText
  repeat' split
  all_goals simp
  omega
theorem rdFlag_le (l : List UInt8) : (rdFlag l).2.2 ≤ l.length := by
  have := lookS_le l
  unfold rdFlag
  repeat' split
  all_goals simp
  omega
theorem rdWithin_le (l : List UInt8) (lo hi : Int) : (rdWithin l lo hi).2.2 ≤ l.length := by
  have := lookS_le l
  unfold rdWithin
  repeat' split
  all_goals simp
  omega
theorem rdByte_le (l : List UInt8) : (rdByte l).2.2 ≤ l.length := by cases l <;> simp [rdByte]
theorem rdText_err {l : List UInt8} {most : Int} (h : (rdText l most).2.1 ≠ 0) : (rdText l most).2.2 = 0 ∧ (rdText l most).1 = [] := by
  unfold rdText at h ⊢
  split
  · simp
  · split
    · simp
    · split
      · simp
      · rename_i h1 h2 h3
        rw [if_neg h1, if_neg h2, if_neg h3] at h
        simp at h
/-- A text that was put is read. -/
theorem rdText_put {m : List UInt8} {most : Int} (hm : m.length ≤ 9223372036854775807) (hh : (m.length : Int) ≤ max most 0) (rest : List UInt8) : rdText (numB m.length ++ (m ++ rest)) most = (m, 0, (numB m.length).length + m.length) := by
  unfold rdText
  rw [look_num hm]
  simp only [numB_length]
  rw [if_neg (by simp), if_neg (by omega), if_neg (by simp [numB_length])]
  have : (numB m.length ++ (m ++ rest)).drop (moreN m.length + 1) = m ++ rest := by rw [← numB_length, List.drop_left]
  rw [this, List.take_left]
theorem rdFlag_put (y : Bool) (rest : List UInt8) : rdFlag (numB (bif y then 1 else 0) ++ rest) = (y, 0, (numB (bif y then 1 else 0)).length) := by
  unfold rdFlag
  have h : (bif y then 1 else 0) ≤ 1 := by cases y <;> decide
  rw [look_num (by omega)]
  simp only [numB_length]
  rw [if_neg (by simp), if_neg (by omega)]
  cases y <;> simp
/-- A text's beginning is too short. -/
theorem rdText_short {m : List UInt8} {most : Int} (hm : m.length ≤ 9223372036854775807) (hh : (m.length : Int) ≤ max most 0) {j : Nat} (hj : j < (numB m.length).length + m.length) : (rdText ((numB m.length ++ m).take j) most).2.1 = 2 := by
  rcases Nat.lt_or_ge j (numB m.length).length with h | h
  · rw [List.take_append_of_le_length (by omega)]
    unfold rdText
    rw [look_short h]
    simp
  · rw [List.take_append, List.take_of_length_le h]
    unfold rdText
    rw [look_num hm]
    simp only [List.length_append, List.length_take]
    rw [if_neg (by simp), if_neg (by omega), if_pos (by rw [numB_length] at *; omega)]
/-- What is read, put again, is what was read. -/
theorem rdText_back {l : List UInt8} {most : Int} (h : (rdText l most).2.1 = 0) : l.take (rdText l most).2.2 = numB (rdText l most).1.length ++ (rdText l most).1 := by
  unfold rdText at h ⊢
  have hle := lookS_le l
  split
  · rename_i h1; rw [if_pos h1] at h; exact absurd h h1
  · rename_i h1
    rw [if_neg h1] at h
    split
    · rename_i h2; rw [if_pos h2] at h; simp at h
    · rename_i h2
      rw [if_neg h2] at h
      split
      · rename_i h3; rw [if_pos h3] at h; simp at h
      · rename_i h3
        obtain ⟨n, k, e, hl⟩ : ∃ n k e, lookS l = (n, k, e) := ⟨_, _, _, rfl⟩
        rw [hl] at h1 h2 h3 hle ⊢
        have h1 := Decidable.not_not.1 h1
        dsimp only at h1 h2 h3 hle ⊢
        subst h1
        obtain ⟨hk, hkl, ht, hn⟩ := look_back hl
        rw [List.length_take, List.length_drop, Nat.min_eq_left (by omega), List.take_add, ht]
end Go.Fl
namespace Go.Proofs.YtkaombhkepopgaaDoor
open Go.RowKit Go.Fl

/-- A reader over bytes. -/
def Rdr (w : World) (base g : Nat) (l : List UInt8) : Prop :=
  ∃ s : Sl, w.heap[g]? = some (.cells #[.slice s.a s.n s.c, .bool true] t_octet_Reader (0, 0)) ∧ Bs w s l ∧ (∀ ad, s.a = some ad → base ≤ ad.block ∧ ad.block < g) ∧ l.length ≤ 140737488351232
theorem Rdr.fr {w w' : World} {base g : Nat} {l : List UInt8} (h : Rdr w base g l) (hf : Fr w w') : Rdr w' base g l := by
  obtain ⟨s, h1, h2, h3⟩ := h
  exact ⟨s, hf.heap h1, h2.fr hf, h3⟩
theorem Rdr.kp {S : Nat → Prop} {w w' : World} {base g : Nat} {l : List UInt8} (h : Rdr w base g l) (hk : Kp S w w') (hS : ∀ k, base ≤ k → k ≤ g → S k) (hg : base ≤ g) : Rdr w' base g l := by
  obtain ⟨s, h1, h2, h3, h4⟩ := h
  exact ⟨s, (hk g (Array.getElem?_eq_some_iff.1 h1).1 (hS g hg (Nat.le_refl _))).trans h1, h2.kp hk fun ad ha => hS _ (h3 ad ha).1 (Nat.le_of_lt (h3 ad ha).2), h3, h4⟩
theorem Rdr.lt {w : World} {base g : Nat} {l : List UInt8} (h : Rdr w base g l) : g < w.heap.size := by
  obtain ⟨s, h1, _⟩ := h
  exact (Array.getElem?_eq_some_iff.1 h1).1

/-- The reader goes on. -/
theorem Rdr.adv {w : World} {base g : Nat} {l : List UInt8} (h : Rdr w base g l) {i : Int} {k : Nat} (hi : i = k) (hk : k ≤ l.length) {K : World → Prop}
    (hK : ∀ w', Rdr w' base g (l.drop k) → w.grownBy w' (some g) → w'.heap.size = w.heap.size → K w') :
    nz (some ⟨g, 0, none⟩) fun a => ld .L w a fun (x : Sl) => sls x i x.n 1 fun r => nz (some ⟨g, 0, none⟩) fun a' => st1 w a' (.slice r.a r.n r.c) fun w' => K w' := by
  obtain ⟨s, h1, h2, h3, h4⟩ := h
  have hl := h2.len
  subst hi
  show ld .L w ⟨g, 0, none⟩ _
  refine ldL0 h1 rfl ?_
  refine slsB h2 (by omega) (by omega) (by omega) fun r hr ha _ => ?_
  show st1 w ⟨g, 0, none⟩ _ _
  refine st0 h1 (by simp) fun w' hb hg hsz => hK w' ⟨r, hb, ?_, ?_, by simp; omega⟩ hg hsz
  · rw [Int.toNat_natCast, Int.toNat_natCast, List.take_of_length_le (by omega)] at hr
    refine hr.kp (kp_grown hg) fun ad had => ?_
    obtain ⟨ad', h5, h6⟩ := ha ad had
    rw [h6]
    exact Nat.ne_of_lt (h3 ad' h5).2
  · intro ad had
    obtain ⟨ad', h5, h6⟩ := ha ad had
    rw [h6]
    exact h3 ad' h5

theorem Read_ok {s : Sl} {l : List UInt8} {w : World} (hs : Bs w s l) (hl : l.length ≤ 140737488351232) :
    cl Tryd.prog n_octet_Read #[.slice s.a s.n s.c] .P w fun (r : Option Addr) w' => ∃ g, r = some ⟨g, 0, none⟩ ∧ w.heap.size ≤ g ∧ Rdr w' w.heap.size g l ∧ Fr w w' := by
  refine octet_Read.cl ?_
  unfold octet_Read
  refine copyB slB hs (by omega) fun r w1 ho hf => ?_
  refine nwI fun b w2 hb hsz hf2 hblk _ => ?_
  have hh := hf.size
  exact ⟨b, rfl, by omega, ⟨r, hblk, ho.bs.fr hf2, fun ad ha => ⟨(ho.own ad ha).1, by have := (ho.own ad ha).2; omega⟩, hl⟩, hf.trans hf2⟩

section
variable {w : World} {base g : Nat} {l : List UInt8}
theorem Left_ok (h : Rdr w base g l) : cl Tryd.prog n_octet_Reader_Left #[.pointer (some ⟨g, 0, none⟩)] (.I .i64) w fun (r : Int) w' => r = l.length ∧ w = w' := by
  obtain ⟨s, h1, h2, h3, h4⟩ := h
  refine octet_Reader_Left.cl ?_
  unfold octet_Reader_Left
  refine bF rfl ?_
  show ld .L w ⟨g, 0, none⟩ _
  exact ldL0 h1 rfl ⟨by rw [h2.len], rfl⟩

theorem Within_ok (h : Rdr w base g l) {lo hi : Int} : cl Tryd.prog n_octet_Reader_Within #[.pointer (some ⟨g, 0, none⟩), .int .i64 lo, .int .i64 hi] (.tup (.pair (.I .i64) (.pair (.I .i64) .nil))) w
    fun (r : Int × Int × Unit) w' => r = ((rdWithin l lo hi).1, (rdWithin l lo hi).2.1, ()) ∧ Rdr w' base g (l.drop (rdWithin l lo hi).2.2) ∧ w.grownBy w' (some g) := by
  have h' := h
  obtain ⟨s, h1, h2, h3, h4⟩ := h
  refine octet_Reader_Within.cl ?_
  unfold octet_Reader_Within
  refine bF rfl ?_
  show ld .B w ⟨g, 1, none⟩ _
  refine ldB0 h1 rfl (bF rfl ?_)
  show ld .L w ⟨g, 0, none⟩ _
  refine ldL0 h1 rfl ?_
  refine (octet_look_ok h2 h4).mono ?_
  rintro _ _ ⟨rfl, rfl⟩
  dsimp only
  unfold rdWithin
  refine bNe ?_ ?_ <;> intro he
  · rw [if_pos (by omega)]
    exact ⟨rfl, h', World.grownBy.refl _ _⟩
  · rw [if_neg (by omega)]
    refine bD ?_ ?_ <;> intro h1
    · rw [if_pos (.inl h1)]
      exact ⟨rfl, h', World.grownBy.refl _ _⟩
    · refine bD ?_ ?_ <;> intro h2
      · rw [if_pos (.inr h2)]
        exact ⟨rfl, h', World.grownBy.refl _ _⟩
      · rw [if_neg (by omega)]
        exact h'.adv rfl (lookS_le l) fun w' hr hg _ => ⟨rfl, hr, hg⟩

end

/-- No reader: none, or one that no call made. -/
def NoRdr (w : World) (p : Option Addr) : Prop := p = none ∨ ∃ g, p = some ⟨g, 0, none⟩ ∧ w.heap[g]? = some (.cells #[.slice none 0 0, .bool false] t_octet_Reader (0, 0))
section
variable {w : World} {p : Option Addr}
theorem no_Left (h : NoRdr w p) : cl Tryd.prog n_octet_Reader_Left #[.pointer p] (.I .i64) w fun (r : Int) w' => r = 0 ∧ w = w' := by
  refine octet_Reader_Left.cl ?_
  unfold octet_Reader_Left
  rcases h with rfl | ⟨g, rfl, h1⟩
  · exact bT rfl ⟨rfl, rfl⟩
  · refine bF rfl ?_
    show ld .L w ⟨g, 0, none⟩ _
    exact ldL0 (s := ⟨none, 0, 0⟩) h1 rfl ⟨rfl, rfl⟩
theorem no_Within (h : NoRdr w p) {lo hi : Int} : cl Tryd.prog n_octet_Reader_Within #[.pointer p, .int .i64 lo, .int .i64 hi] (.tup (.pair (.I .i64) (.pair (.I .i64) .nil))) w fun (r : Int × Int × Unit) w' => r = (0, 6, ()) ∧ w = w' := by
  refine octet_Reader_Within.cl ?_
  unfold octet_Reader_Within
  rcases h with rfl | ⟨g, rfl, h1⟩
  · exact bT rfl ⟨rfl, rfl⟩
  · refine bF rfl ?_
    show ld .B w ⟨g, 1, none⟩ _
    exact ldB0 h1 rfl (bT rfl ⟨rfl, rfl⟩)
end
end Go.Proofs.YtkaombhkepopgaaDoor
namespace Go.Proofs.YtkaombhkepopgaaDoor
open Go.RowKit Go.Fl

theorem low_tail {x k : Nat} : [UInt8.ofNat (x / 256 ^ k)] ++ lowB x k = lowB x (k + 1) := rfl
end Go.Proofs.YtkaombhkepopgaaDoor
namespace Go.Proofs.YtkaombhkepopgaaDoor
open Go.RowKit Go.Fl

end Go.Proofs.YtkaombhkepopgaaDoor
namespace Go.Fl

/-- How many bytes from two places on are the same, at most f. -/
def alikeF (b : List UInt8) : Nat → Nat → Nat → Nat
  | 0, _, _ => 0
  | f + 1, i, j => if j < b.length ∧ b[i]? = b[j]? then alikeF b f (i + 1) (j + 1) + 1 else 0
theorem alikeF_le (b : List UInt8) : ∀ f i j, alikeF b f i j ≤ f
  | 0, _, _ => Nat.le_refl _
  | f + 1, i, j => by unfold alikeF; split <;> have := alikeF_le b f (i + 1) (j + 1) <;> omega
/-- The loop that counts them: k are the same already. -/
theorem alikeF_step {b : List UInt8} : ∀ {f i j k : Nat}, k ≤ f → (∀ m, m < k → j + m < b.length ∧ b[i + m]? = b[j + m]?) → (k = f ∨ ¬(j + k < b.length ∧ b[i + k]? = b[j + k]?)) → alikeF b f i j = k
  | 0, i, j, k, hk, _, _ => by simp [alikeF]; omega
  | f + 1, i, j, k, hk, h, hs => by
    unfold alikeF
    cases k with
    | zero =>
      rcases hs with hs | hs
      · omega
      · exact if_neg hs
    | succ k =>
      rw [if_pos (by simpa using h 0 (by omega))]
      congr 1
      refine alikeF_step (by omega) (fun m hm => ?_) ?_
      · have := h (m + 1) (by omega)
        rw [show i + 1 + m = i + (m + 1) from by omega, show j + 1 + m = j + (m + 1) from by omega]
        exact this
      · rw [show i + 1 + k = i + (k + 1) from by omega, show j + 1 + k = j + (k + 1) from by omega]
        exact hs.imp (by omega) id
/-- Of the places back, back + 1, .. the first with the longest stretch, if it is longer than what is known. -/
def longF (b : List UInt8) (at' : Nat) : Nat → Nat → Nat × Nat → Nat × Nat
  | 0, _, s => s
  | f + 1, back, s => longF b at' f (back + 1) (if s.2 < alikeF b 66 (at' - back) at' then (back, alikeF b 66 (at' - back) at') else s)
/-- The longest stretch ahead of a place: how far back, how long. -/
def longS (b : List UInt8) (at' : Nat) : Nat × Nat := longF b at' (min 512 at') 1 (0, 0)
/-- Bytes as they are, in pieces. -/
def plainF : Nat → List UInt8 → List UInt8
  | 0, _ => []
  | _ + 1, [] => []
  | f + 1, c :: l => UInt8.ofNat (min 128 (c :: l).length - 1) :: ((c :: l).take 128 ++ plainF f ((c :: l).drop 128))
def plainS (l : List UInt8) : List UInt8 := plainF l.length l
/-- The tokens of bytes from a place on; what stands from 'lo' on is told as it is. -/
def shortF (b : List UInt8) : Nat → Nat → Nat → List UInt8
  | 0, _, _ => []
  | f + 1, lo, at' => if at' < b.length then
      if (longS b at').2 < 3 then shortF b f lo (at' + 1)
      else plainS ((b.take at').drop lo) ++ (UInt8.ofNat ((longS b at').2 + 125) :: (numB (longS b at').1 ++ shortF b f (at' + (longS b at').2) (at' + (longS b at').2)))
    else plainS (b.drop lo)
def shortS (b : List UInt8) : List UInt8 := shortF b (b.length + 1) 0 0
/-- Some bytes of what is there, again. -/
def againF (back : Nat) : Nat → List UInt8 → List UInt8
  | 0, out => out
  | n + 1, out => againF back n (out ++ [out.getD (out.length - back) 0])
/-- The bytes of tokens, at most so many, or why there are none. -/
def restF (most : Int) : Nat → List UInt8 → List UInt8 → List UInt8 × Nat
  | _, [], out => (out, 0)
  | 0, _ :: _, _ => ([], 0)
  | f + 1, c :: t, out =>
    if c.toNat < 128 then
      if t.length < c.toNat + 1 then ([], 2) else if (c.toNat : Int) + 1 > most - out.length then ([], 71) else restF most f (t.drop (c.toNat + 1)) (out ++ t.take (c.toNat + 1))
    else if (lookS t).2.2 = 2 then ([], 2)
    else if (lookS t).2.2 ≠ 0 ∨ c.toNat > 191 ∨ (lookS t).1 < 1 ∨ (lookS t).1 > 512 ∨ (lookS t).1 > out.length then ([], 70)
    else if (c.toNat : Int) - 125 > most - out.length then ([], 71)
    else restF most f (t.drop (lookS t).2.1) (againF (lookS t).1 (c.toNat - 125) out)
def restS (b : List UInt8) (most : Int) : List UInt8 × Nat := restF most b.length b []
theorem plainF_any : ∀ {f g : Nat} {l : List UInt8}, l.length ≤ f → l.length ≤ g → plainF f l = plainF g l
  | 0, 0, _, _, _ => rfl
  | 0, g + 1, l, h, _ => by rw [List.eq_nil_of_length_eq_zero (Nat.le_zero.1 h)]; rfl
  | f + 1, 0, l, _, h => by rw [List.eq_nil_of_length_eq_zero (Nat.le_zero.1 h)]; rfl
  | f + 1, g + 1, [], _, _ => rfl
  | f + 1, g + 1, c :: l, hf, hg => by
    rw [plainF, plainF]
    congr 2
    have : ((c :: l).drop 128).length ≤ l.length := by rw [List.length_drop, List.length_cons]; omega
    simp only [List.length_cons] at hf hg
    exact plainF_any (by omega) (by omega)
theorem plainS_step {l : List UInt8} (h : l ≠ []) : plainS l = UInt8.ofNat (min 128 l.length - 1) :: (l.take 128 ++ plainS (l.drop 128)) := by
  cases l with
  | nil => exact absurd rfl h
  | cons c t =>
    unfold plainS
    rw [List.length_cons, plainF, List.length_cons]
    congr 2
    exact plainF_any (by rw [List.length_drop, List.length_cons]; omega) (Nat.le_refl _)
theorem plainS_nil : plainS [] = [] := rfl
theorem plainF_len : ∀ {f : Nat} {l : List UInt8}, (plainF f l).length ≤ 2 * l.length
  | 0, l => by simp [plainF]
  | f + 1, [] => by simp [plainF]
  | f + 1, c :: l => by
    rw [plainF, List.length_cons, List.length_append, List.length_take]
    have := plainF_len (f := f) (l := (c :: l).drop 128)
    rw [List.length_drop, List.length_cons] at this
    rw [List.length_cons]
    omega
theorem plainS_len (l : List UInt8) : (plainS l).length ≤ 2 * l.length := plainF_len
theorem alikeF_fits {b : List UInt8} : ∀ {f i j : Nat}, j ≤ b.length → j + alikeF b f i j ≤ b.length
  | 0, i, j, h => by simpa [alikeF] using h
  | f + 1, i, j, h => by
    unfold alikeF
    split
    · rename_i hc
      have := alikeF_fits (f := f) (i := i + 1) (j := j + 1) (show j + 1 ≤ b.length by omega)
      omega
    · omega
/-- What holds of the best stretch: it is within its bounds. -/
theorem longF_fits {b : List UInt8} {p : Nat} (hp : p ≤ b.length) : ∀ {f back : Nat} {s : Nat × Nat}, 1 ≤ back → back + f ≤ min 512 p + 1 → p + s.2 ≤ b.length → s.2 ≤ 66 → s.1 ≤ min 512 p → (0 < s.2 → 1 ≤ s.1) →
    p + (longF b p f back s).2 ≤ b.length ∧ (longF b p f back s).2 ≤ 66 ∧ (longF b p f back s).1 ≤ min 512 p ∧ (0 < (longF b p f back s).2 → 1 ≤ (longF b p f back s).1)
  | 0, _, _, _, _, h1, h2, h3, h4 => ⟨h1, h2, h3, h4⟩
  | f + 1, back, s, hb, hf, h1, h2, h3, h4 => by
    rw [longF]
    split
    · exact longF_fits hp (by omega) (by omega) (alikeF_fits hp) (alikeF_le _ _ _ _) (by dsimp only; omega) (fun _ => hb)
    · exact longF_fits hp (by omega) (by omega) h1 h2 h3 h4
theorem longS_fits {b : List UInt8} {p : Nat} (hp : p ≤ b.length) : p + (longS b p).2 ≤ b.length ∧ (longS b p).2 ≤ 66 ∧ (longS b p).1 ≤ min 512 p ∧ (0 < (longS b p).2 → 1 ≤ (longS b p).1) :=
  longF_fits hp (Nat.le_refl _) (by omega) (by simpa using hp) (by decide) (Nat.zero_le _) (fun h => by cases h)
theorem shortF_any {b : List UInt8} : ∀ {f g lo p : Nat}, b.length + 1 ≤ f + p → b.length + 1 ≤ g + p → p ≤ b.length → shortF b f lo p = shortF b g lo p
  | 0, g, lo, p, hf, _, hp => by omega
  | f + 1, 0, lo, p, _, hg, hp => by omega
  | f + 1, g + 1, lo, p, hf, hg, hp => by
    rw [shortF, shortF]
    have hfit := longS_fits hp
    split
    · split
      · exact shortF_any (by omega) (by omega) (by omega)
      · congr 3
        exact shortF_any (by omega) (by omega) (by omega)
    · rfl
theorem againF_length (back : Nat) : ∀ (n : Nat) (out : List UInt8), (againF back n out).length = out.length + n
  | 0, out => rfl
  | n + 1, out => by rw [againF, againF_length back n]; simp; omega
theorem restF_any {most : Int} : ∀ {f g : Nat} {l out : List UInt8}, l.length ≤ f → l.length ≤ g → restF most f l out = restF most g l out
  | f, g, [], out, _, _ => by cases f <;> cases g <;> rfl
  | 0, _, c :: t, _, h, _ => by simp at h
  | _ + 1, 0, c :: t, _, _, h => by simp at h
  | f + 1, g + 1, c :: t, out, hf, hg => by
    simp only [List.length_cons] at hf hg
    rw [restF, restF]
    rw [restF_any (f := f) (g := g) (l := t.drop (c.toNat + 1)) (by rw [List.length_drop]; omega) (by rw [List.length_drop]; omega),
      restF_any (f := f) (g := g) (l := t.drop (lookS t).2.1) (by rw [List.length_drop]; omega) (by rw [List.length_drop]; omega)]
theorem againF_snoc (back : Nat) : ∀ (n : Nat) (out : List UInt8), againF back (n + 1) out = againF back n out ++ [(againF back n out).getD ((againF back n out).length - back) 0]
  | 0, out => rfl
  | n + 1, out => by rw [againF, againF_snoc back n]; rfl
theorem againF_pre (back : Nat) : ∀ (n : Nat) (out : List UInt8), ∃ add, againF back n out = out ++ add ∧ add.length = n
  | 0, out => ⟨[], by simp [againF]⟩
  | n + 1, out => by
    obtain ⟨add, h, hl⟩ := againF_pre back n (out ++ [out.getD (out.length - back) 0])
    exact ⟨[out.getD (out.length - back) 0] ++ add, by rw [againF, h, List.append_assoc], by simp [hl]⟩
/-- What bytes are added by n steps back. -/
def addF (back n : Nat) (out : List UInt8) : List UInt8 := (againF back n out).drop out.length
theorem addF_spec (back n : Nat) (out : List UInt8) : againF back n out = out ++ addF back n out := by
  obtain ⟨add, h, _⟩ := againF_pre back n out
  unfold addF
  rw [h]; simp
theorem addF_length (back n : Nat) (out : List UInt8) : (addF back n out).length = n := by
  obtain ⟨add, h, hl⟩ := againF_pre back n out
  unfold addF
  rw [h]; simpa using hl
theorem addF_snoc {back : Nat} (n : Nat) (out : List UInt8) : addF back (n + 1) out = addF back n out ++ [(out ++ addF back n out).getD (out.length + n - back) 0] := by
  have h := againF_snoc back n out
  rw [addF_spec, addF_spec back n, List.append_assoc] at h
  have h := List.append_cancel_left h
  rw [h, List.length_append, addF_length]
/-- A token: what it adds, how many bytes it has, or why there is none. -/
def stepS (out : List UInt8) (c : UInt8) (t : List UInt8) : List UInt8 × Nat × Nat :=
  if c.toNat < 128 then if t.length < c.toNat + 1 then ([], 0, 2) else (t.take (c.toNat + 1), c.toNat + 2, 0)
  else if (lookS t).2.2 = 2 then ([], 0, 2)
  else if (lookS t).2.2 ≠ 0 ∨ c.toNat > 191 ∨ (lookS t).1 < 1 ∨ (lookS t).1 > 512 ∨ (lookS t).1 > out.length then ([], 0, 70)
  else (addF (lookS t).1 (c.toNat - 125) out, (lookS t).2.1 + 1, 0)
theorem restF_step (most : Int) (f : Nat) (c : UInt8) (t out : List UInt8) : restF most (f + 1) (c :: t) out =
    if (stepS out c t).2.2 ≠ 0 then ([], (stepS out c t).2.2) else if ((stepS out c t).1.length : Int) > most - out.length then ([], 71)
    else restF most f ((c :: t).drop (stepS out c t).2.1) (out ++ (stepS out c t).1) := by
  rw [restF]
  unfold stepS
  split
  · split
    · rfl
    · rename_i h1 h2
      simp only [ne_eq, not_true_eq_false, if_false, List.length_take, List.drop_succ_cons]
      rw [Nat.min_eq_left (by omega)]
      rfl
  · split
    · rfl
    · split
      · rfl
      · simp only [ne_eq, not_true_eq_false, if_false, List.drop_succ_cons, addF_length, ← addF_spec]
        rw [show (((c.toNat - 125 : Nat) : Int)) = (c.toNat : Int) - 125 from by omega]
theorem stepS_le (out : List UInt8) (c : UInt8) (t : List UInt8) : (stepS out c t).2.1 ≤ t.length + 1 ∧ ((stepS out c t).2.2 = 0 → 1 ≤ (stepS out c t).2.1) := by
  have := lookS_le t
  unfold stepS
  repeat' split
  all_goals simp
  all_goals omega
theorem stepS_err {out : List UInt8} {c : UInt8} {t : List UInt8} (h : (stepS out c t).2.2 ≠ 0) : stepS out c t = ([], 0, (stepS out c t).2.2) := by
  unfold stepS at h ⊢
  by_cases h1 : c.toNat < 128
  · simp only [h1, if_true] at h ⊢
    by_cases h2 : t.length < c.toNat + 1
    · simp only [h2, if_true]
    · simp only [h2, if_false] at h; exact absurd rfl h
  · simp only [h1, if_false] at h ⊢
    by_cases h2 : (lookS t).2.2 = 2
    · rw [if_pos h2]
    · rw [if_neg h2] at h ⊢
      by_cases h3 : (lookS t).2.2 ≠ 0 ∨ c.toNat > 191 ∨ (lookS t).1 < 1 ∨ (lookS t).1 > 512 ∨ (lookS t).1 > out.length
      · rw [if_pos h3]
      · rw [if_neg h3] at h; exact absurd rfl h
theorem restF_err {most : Int} : ∀ {f : Nat} {l out : List UInt8}, (restF most f l out).2 ≠ 0 → (restF most f l out).1 = []
  | f, [], out, h => by cases f <;> simp [restF] at h
  | 0, c :: t, out, _ => rfl
  | f + 1, c :: t, out, h => by
    rw [restF_step] at h ⊢
    split
    · rfl
    · split
      · rfl
      · rename_i h1 h2
        rw [if_neg h1, if_neg h2] at h
        exact restF_err h
theorem restF_most {most : Int} : ∀ {f : Nat} {l out : List UInt8}, (out.length : Int) ≤ max most 0 → ((restF most f l out).1.length : Int) ≤ max most 0
  | f, [], out, h => by cases f <;> simpa [restF] using h
  | 0, c :: t, out, _ => by simp [restF]; omega
  | f + 1, c :: t, out, h => by
    rw [restF_step]
    split
    · simp; omega
    · split
      · simp; omega
      · exact restF_most (by simp; omega)
theorem restS_most (b : List UInt8) (most : Int) : ((restS b most).1.length : Int) ≤ max most 0 := restF_most (by simp; omega)
theorem stepS_len (out : List UInt8) (c : UInt8) (t : List UInt8) : (stepS out c t).1.length ≤ 66 * (stepS out c t).2.1 := by
  unfold stepS
  repeat' split
  all_goals simp only [List.length_nil, List.length_take, addF_length]
  all_goals omega
/-- Three bytes. -/
def t3 (b : List UInt8) (i : Nat) : List UInt8 := (b.drop i).take 3
/-- The last place ahead of i where three bytes stand, and 1; or 0. -/
def lastP (b k : List UInt8) : Nat → Nat
  | 0 => 0
  | i + 1 => if i + 3 ≤ b.length ∧ t3 b i = k then i + 1 else lastP b k i
theorem lastP_le (b k : List UInt8) : ∀ i, lastP b k i ≤ i
  | 0 => Nat.le_refl _
  | i + 1 => by unfold lastP; split; exact Nat.le_refl _; exact Nat.le_succ_of_le (lastP_le b k i)
theorem lastP_is {b k : List UInt8} : ∀ {i}, 0 < lastP b k i → t3 b (lastP b k i - 1) = k ∧ lastP b k i - 1 + 3 ≤ b.length
  | 0, h => by simp [lastP] at h
  | i + 1, h => by
    unfold lastP at h ⊢
    split
    · rename_i hc; exact ⟨hc.2, hc.1⟩
    · rename_i hc; rw [if_neg hc] at h; exact lastP_is h
theorem lastP_none {b k : List UInt8} : ∀ {i q : Nat}, lastP b k i ≤ q → q < i → q + 3 ≤ b.length → t3 b q ≠ k
  | 0, q, _, h, _ => by omega
  | i + 1, q, h, hq, hl => by
    unfold lastP at h
    split at h
    · omega
    · rename_i hc
      by_cases e : q = i
      · subst e; exact fun ht => hc ⟨hl, ht⟩
      · exact lastP_none h (by omega) hl
theorem t3_get {b : List UInt8} {i : Nat} (h : i + 3 ≤ b.length) : t3 b i = [b[i], b[i + 1], b[i + 2]] := by
  unfold t3
  rw [List.drop_eq_getElem_cons (by omega), List.drop_eq_getElem_cons (by omega), List.drop_eq_getElem_cons (by omega)]
  rfl
/-- Three same bytes are a stretch of three. -/
theorem alike_three {b : List UInt8} {i j f : Nat} (hi : i + 3 ≤ b.length) (hj : j + 3 ≤ b.length) : 3 ≤ alikeF b (f + 3) i j ↔ t3 b i = t3 b j := by
  rw [t3_get hi, t3_get hj]
  have e : ∀ m, (hm : m < 3) → ((j + m < b.length ∧ b[i + m]? = b[j + m]?) ↔ b[i + m]'(by omega) = b[j + m]'(by omega)) := fun m hm => by
    rw [List.getElem?_eq_getElem (by omega), List.getElem?_eq_getElem (by omega), Option.some.injEq]
    exact ⟨And.right, fun h => ⟨by omega, h⟩⟩
  have e0 := e 0 (by decide)
  have e1 := e 1 (by decide)
  have e2 : (j + 1 + 1 < b.length ∧ b[i + 1 + 1]? = b[j + 1 + 1]?) ↔ b[i + 2] = b[j + 2] := e 2 (by decide)
  simp only [Nat.add_zero] at e0
  rw [show f + 3 = f + 1 + 1 + 1 from rfl, alikeF, alikeF, alikeF]
  simp only [e0, e1, e2, List.cons.injEq, and_true]
  by_cases h0 : b[i] = b[j]
  · by_cases h1 : b[i + 1] = b[j + 1]
    · by_cases h2 : b[i + 2] = b[j + 2]
      · simp [h0, h1, h2]
      · simp [h0, h1, h2]
    · simp [h0, h1]
  · simp [h0]
/-- What a stretch is worth: nothing below three. -/
def filt (s : Nat × Nat) : Nat × Nat := if s.2 < 3 then (0, 0) else s
theorem longF_skip {b : List UInt8} {p : Nat} : ∀ {n f B : Nat} {s : Nat × Nat}, (∀ k, B ≤ k → k < B + n → alikeF b 66 (p - k) p < 3) → ∃ s', filt s' = filt s ∧ longF b p (f + n) B s = longF b p f (B + n) s'
  | 0, f, B, s, _ => ⟨s, rfl, rfl⟩
  | n + 1, f, B, s, h => by
    have h0 := h B (Nat.le_refl _) (by omega)
    obtain ⟨s', h1, h2⟩ := longF_skip (b := b) (p := p) (n := n) (f := f) (B := B + 1) (s := if s.2 < alikeF b 66 (p - B) p then (B, alikeF b 66 (p - B) p) else s) (fun k hk hk' => h k (by omega) (by omega))
    refine ⟨s', ?_, ?_⟩
    · rw [h1]
      unfold filt
      split
      · rename_i hlt
        rw [if_pos (by omega)]
      · rfl
    · rw [show f + (n + 1) = (f + n) + 1 from by omega, longF, h2, show B + 1 + n = B + (n + 1) from by omega]
/-- What lz finds. -/
def bestS (b : List UInt8) (i : Nat) : Nat × Nat := filt (longS b i)
/-- The chain's walk: what is known when place q - 1 comes next. -/
def Cand (b : List UInt8) (i q : Nat) (st : Nat × Nat) : Prop :=
  q ≤ i ∧ (0 < q → t3 b (q - 1) = t3 b i ∧ q - 1 + 3 ≤ b.length) ∧ ∃ (B : Nat) (s : Nat × Nat), filt s = st ∧ 1 ≤ B ∧ B ≤ min 512 i + 1 ∧ q + B ≤ i + 1 ∧ longS b i = longF b i (min 512 i + 1 - B) B s ∧ ∀ m, q ≤ m → m + B ≤ i → t3 b m ≠ t3 b i
theorem alike_few {b : List UInt8} {i m : Nat} (hi : i + 3 ≤ b.length) (hm : m ≤ i) (h : t3 b m ≠ t3 b i) : alikeF b 66 m i < 3 := by
  have : ¬3 ≤ alikeF b 66 m i := fun h3 => h ((alike_three (b := b) (i := m) (j := i) (f := 63) (by omega) hi).1 h3)
  omega
theorem cand_init {b : List UInt8} {i : Nat} (h : i + 3 ≤ b.length) : Cand b i (lastP b (t3 b i) i) (0, 0) :=
  ⟨lastP_le _ _ _, lastP_is, 1, (0, 0), rfl, Nat.le_refl _, by omega, by have := lastP_le b (t3 b i) i; omega, by rw [show min 512 i + 1 - 1 = min 512 i from by omega]; rfl, fun m h1 h2 => lastP_none h1 (by omega) (by omega)⟩
theorem cand_end {b : List UInt8} {i q : Nat} {st : Nat × Nat} (hi : i + 3 ≤ b.length) (h : Cand b i q st) (hq : q = 0 ∨ 512 < i + 1 - q) : bestS b i = st := by
  obtain ⟨h1, h2, B, s, h3, h4, h5, h6, h7, h8⟩ := h
  obtain ⟨s', h9, h10⟩ := longF_skip (b := b) (p := i) (n := min 512 i + 1 - B) (f := 0) (B := B) (s := s) (fun k hk hk' => alike_few hi (by omega) (h8 _ (by omega) (by omega)))
  rw [Nat.zero_add] at h10
  unfold bestS
  rw [h7, h10, ← h3, ← h9]
  rfl
theorem cand_step {b : List UInt8} {i q : Nat} {st : Nat × Nat} (hi : i + 3 ≤ b.length) (h : Cand b i q st) (hq : 0 < q) (h512 : i + 1 - q ≤ 512) :
    Cand b i (lastP b (t3 b (q - 1)) (q - 1)) (if st.2 < alikeF b 66 (q - 1) i then (i + 1 - q, alikeF b 66 (q - 1) i) else st) := by
  obtain ⟨h1, h2, B, s, h3, h4, h5, h6, h7, h8⟩ := h
  obtain ⟨h2a, h2b⟩ := h2 hq
  obtain ⟨s', h9, h10⟩ := longF_skip (b := b) (p := i) (n := i + 1 - q - B) (f := min 512 i + 1 - (i + 1 - q)) (B := B) (s := s) (fun k hk hk' => alike_few hi (by omega) (h8 _ (by omega) (by omega)))
  rw [show min 512 i + 1 - (i + 1 - q) + (i + 1 - q - B) = min 512 i + 1 - B from by omega, show B + (i + 1 - q - B) = i + 1 - q from by omega] at h10
  have h3' : 3 ≤ alikeF b 66 (q - 1) i := (alike_three (f := 63) h2b hi).2 h2a
  have hle := lastP_le b (t3 b (q - 1)) (q - 1)
  refine ⟨by omega, fun hp => ?_, i + 1 - q + 1, if s'.2 < alikeF b 66 (q - 1) i then (i + 1 - q, alikeF b 66 (q - 1) i) else s', ?_, by omega, by omega, by omega, ?_, fun m hm hm' => ?_⟩
  · obtain ⟨e1, e2⟩ := lastP_is hp
    exact ⟨by rw [e1, h2a], e2⟩
  · have hf : filt s' = st := h9.trans h3
    rw [← hf]
    unfold filt
    by_cases hs : s'.2 < 3
    · rw [if_pos (show s'.2 < alikeF b 66 (q - 1) i by omega), if_pos hs]
      simp only
      rw [if_neg (by omega), if_pos (by omega)]
    · rw [if_neg hs]
      split
      · simp only
        rw [if_neg (by omega)]
      · rfl
  · rw [h7, h10, show min 512 i + 1 - (i + 1 - q) = (min 512 i + 1 - (i + 1 - q + 1)) + 1 from by omega, longF, show i - (i + 1 - q) = q - 1 from by omega]
  · rw [← h2a]
    exact lastP_none hm (by omega) (by omega)
theorem best_none {b : List UInt8} {i : Nat} (h : b.length < i + 3) (hi : i ≤ b.length) : bestS b i = (0, 0) := by
  have := longS_fits hi
  unfold bestS filt
  rw [if_pos (by omega)]
theorem bestS_fits {b : List UInt8} {i : Nat} (hi : i ≤ b.length) : i + (bestS b i).2 ≤ b.length ∧ (bestS b i).2 ≤ 66 ∧ (bestS b i).1 ≤ min 512 i ∧ (0 < (bestS b i).2 → 1 ≤ (bestS b i).1 ∧ 3 ≤ (bestS b i).2) := by
  have := longS_fits hi
  unfold bestS filt
  split
  · simp; omega
  · exact ⟨this.1, this.2.1, this.2.2.1, fun h => ⟨this.2.2.2 h, by omega⟩⟩
theorem lastP_over {b k : List UInt8} {i : Nat} (h : b.length < i + 3) : lastP b k (i + 1) = lastP b k i := by
  rw [lastP, if_neg fun hc => by omega]
/-- The token of one piece. -/
def tokF (b : List UInt8) (k : Nat) : List UInt8 := UInt8.ofNat (min 128 (b.length - 128 * k) - 1) :: (b.drop (128 * k)).take 128
theorem plainS_tok {b : List UInt8} {k : Nat} (h : 128 * k < b.length) : plainS (b.drop (128 * k)) = tokF b k ++ plainS (b.drop (128 * (k + 1))) := by
  rw [plainS_step (by intro e; have := congrArg List.length e; rw [List.length_drop, List.length_nil] at this; omega), List.length_drop, List.drop_drop]
  rfl
end Go.Fl
namespace Go.Proofs.YtkaombhkepopgaaDoor
open Go.RowKit Go.Fl

end Go.Proofs.YtkaombhkepopgaaDoor
namespace Go.Proofs.YtkaombhkepopgaaDoor
open Go.RowKit Go.Fl

set_option maxRecDepth 4000 in
theorem step_ok {so sb : Sl} {out t : List UInt8} {c : UInt8} {w : World} (hso : Bs w so out) (hsb : Bs w sb (c :: t)) (hl : t.length ≤ 1099511627776) (hlo : out.length ≤ 140737488355328) :
    cl Tryd.prog n_lz_step #[.slice so.a so.n so.c, .slice sb.a sb.n sb.c] (.tup (.pair .L (.pair (.I .i64) (.pair (.I .i64) .nil)))) w fun (r : Sl × Int × Int × Unit) w' => Bs w' r.1 (stepS out c t).1 ∧ r.2 = (((stepS out c t).2.1 : Int), ((stepS out c t).2.2 : Int), ()) ∧ Fr w w' := by
  refine lz_step.cl ?_
  unfold lz_step
  have hn := hsb.len
  have hno := hso.len
  rw [List.length_cons] at hn
  have hc := c.toNat_lt
  refine ixBc (c := c) hsb.rd hsb.len (by decide) rfl (Fr.refl w) ?_
  dsimp -zeta only
  refine bD ?_ ?_ <;> intro h128
  · refine ixBc (c := c) hsb.rd hsb.len (by decide) rfl (Fr.refl w) ?_
    rw [i64w (n := (c.toNat : Int)) (by omega) (by omega), i64w (n := (c.toNat : Int) + 1) (by omega) (by omega), i64w (n := (c.toNat : Int) + 1 + 1) (by omega) (by omega)]
    refine bD ?_ ?_ <;> intro h1
    · have : stepS out c t = ([], 0, 2) := by unfold stepS; rw [if_pos (by omega), if_pos (by omega)]
      rw [this]; exact ⟨Bs.nil _ _, rfl, Fr.refl w⟩
    · have : stepS out c t = (t.take (c.toNat + 1), c.toNat + 2, 0) := by unfold stepS; rw [if_pos (by omega), if_neg (by omega)]
      rw [this]
      refine sls3B slB hsb (.inr rfl) (by decide) (by omega) (by simp; omega) fun r h _ _ => ?_
      have e : ((c :: t).take ((c.toNat : Int) + 1 + 1).toNat).drop (1 : Int).toNat = t.take (c.toNat + 1) := by
        rw [show ((c.toNat : Int) + 1 + 1).toNat = c.toNat + 1 + 1 from by omega]
        simp only [Int.toNat_one, List.take_succ_cons, List.drop_succ_cons, List.drop_zero]
      rw [e] at h
      exact ⟨h, by simp only [Prod.mk.injEq, and_true]; exact ⟨by omega, rfl⟩, Fr.refl w⟩
  · refine ixBc (c := c) hsb.rd hsb.len (by decide) rfl (Fr.refl w) ?_
    refine slsB hsb (by decide) (by omega) (by simp; omega) fun r8 h8 _ _ => ?_
    have e : ((c :: t).take (sb.n : Int).toNat).drop (1 : Int).toNat = t := by
      rw [List.take_of_length_le (by simp; omega)]
      simp only [Int.toNat_one, List.drop_succ_cons, List.drop_zero]
    rw [e] at h8
    refine (Read_ok h8 (Nat.le_trans hl (by decide))).mono ?_
    rintro x9 w10 ⟨g, rfl, hg, hrdr, hf10⟩
    refine (Within_ok hrdr).mono ?_
    rintro _ w12 ⟨rfl, hrdr12, hgr12⟩
    have hs10 := hf10.size
    have hf12 : Fr w w12 := hf10.on (grown_below hgr12 hg hs10)
    have hlook := lookS_le t
    generalize hW : rdWithin t 1 (min 512 (so.n : Int)) = W at *
    obtain ⟨back, e, k⟩ := W
    dsimp only at hrdr12 ⊢
    have hst : stepS out c t = if e = 2 then ([], 0, 2) else if e ≠ 0 ∨ c.toNat > 191 then ([], 0, 70) else (addF back.toNat (c.toNat - 125) out, k + 1, 0) := by
      unfold stepS
      rw [if_neg (by omega)]
      unfold rdWithin at hW
      generalize lookS t = L at *
      obtain ⟨b', k', e'⟩ := L
      dsimp only at hW ⊢
      by_cases he' : e' ≠ 0
      · rw [if_pos he'] at hW
        simp only [Prod.mk.injEq] at hW
        obtain ⟨rfl, rfl, rfl⟩ := hW
        by_cases h2 : e' = 2
        · rw [if_pos h2, if_pos (show (e' : Int) = 2 by omega)]
        · rw [if_neg h2, if_neg (show ¬(e' : Int) = 2 by omega), if_pos (Or.inl he'), if_pos (Or.inl (show (e' : Int) ≠ 0 by omega))]
      · rw [if_neg he'] at hW
        obtain rfl : e' = 0 := by omega
        rw [if_neg (show ¬(0 : Nat) = 2 by decide)]
        by_cases hr : (b' : Int) < 1 ∨ (b' : Int) > min 512 (so.n : Int)
        · rw [if_pos hr] at hW
          simp only [Prod.mk.injEq] at hW
          obtain ⟨rfl, rfl, rfl⟩ := hW
          rw [if_neg (show ¬(5 : Int) = 2 by decide), if_pos (Or.inl (show (5 : Int) ≠ 0 by decide)), if_pos (show (0 : Nat) ≠ 0 ∨ c.toNat > 191 ∨ b' < 1 ∨ b' > 512 ∨ b' > out.length by omega)]
        · rw [if_neg hr] at hW
          simp only [Prod.mk.injEq] at hW
          obtain ⟨rfl, rfl, rfl⟩ := hW
          rw [if_neg (show ¬((0 : Int) = 2) by decide)]
          by_cases hq : c.toNat > 191
          · rw [if_pos (show (0 : Nat) ≠ 0 ∨ c.toNat > 191 ∨ b' < 1 ∨ b' > 512 ∨ b' > out.length by omega), if_pos (Or.inr hq)]
          · rw [if_neg (show ¬((0 : Nat) ≠ 0 ∨ c.toNat > 191 ∨ b' < 1 ∨ b' > 512 ∨ b' > out.length) by omega), if_neg (show ¬((0 : Int) ≠ 0 ∨ c.toNat > 191) by omega), Int.toNat_natCast]
    have hbk : e = 0 → 1 ≤ back ∧ back ≤ out.length ∧ k ≤ t.length := by
      rintro rfl
      unfold rdWithin at hW
      split at hW
      · rename_i h; simp only [Prod.mk.injEq] at hW; omega
      · split at hW
        · simp at hW
        · simp only [Prod.mk.injEq] at hW
          omega
    rw [hst]
    refine bE ?_ ?_ <;> intro he
    · rw [if_pos he]; exact ⟨Bs.nil _ _, by rw [he]; rfl, hf12⟩
    rw [if_neg he]
    refine bNe ?_ ?_ <;> intro h0
    · rw [if_pos (by omega)]; exact ⟨Bs.nil _ _, rfl, hf12⟩
    rw [i64w (n := (c.toNat : Int)) (by omega) (by omega), i64w (n := (c.toNat : Int) - 128) (by omega) (by omega), i64w (n := (c.toNat : Int) - 128 + 3) (by omega) (by omega)]
    refine bD ?_ ?_ <;> intro h66
    · rw [if_pos (by omega)]; exact ⟨Bs.nil _ _, rfl, hf12⟩
    rw [if_neg (by omega)]
    obtain ⟨hb1, hb2, hk⟩ := hbk (by omega)
    clear hst hbk hW
    obtain ⟨bk, rfl⟩ := Int.eq_ofNat_of_zero_le (show 0 ≤ back by omega)
    rw [Int.toNat_natCast]
    refine mksN slB.under (z := .int .u8 0) (bytes := 1) (by kernel_rfl) rfl w12.heap.size (c.toNat - 125) (by omega) (by omega) (by omega) (Nat.le_refl _) fun w14 ho14 _ _ hf14 => ?_
    refine lpI (fun s' w' => Below w12.heap.size w14 w' ∧ ∃ (i : Nat) (r : List UInt8), i + r.length = c.toNat - 125 ∧ s'.1 = i ∧ OwB w' w12.heap.size t_uint8 ⟨some ⟨w12.heap.size, 0, none⟩, c.toNat - 125, c.toNat - 125⟩ (addF bk i out ++ r)) (fun s' _ => (c.toNat - 125 - s'.1).toNat)
      ⟨Below.refl _ _, 0, List.replicate (c.toNat - 125) 0, by simp, rfl, ?_⟩ ?_
    · have h0 : addF bk 0 out = [] := List.eq_nil_of_length_eq_zero (addF_length _ _ _)
      rw [h0, List.nil_append]
      unfold OwB
      have : u8s (List.replicate (c.toNat - 125) 0) = List.replicate (c.toNat - 125) (Value.int .u8 0) := by simp [u8s]
      rw [this]
      exact ho14
    rintro _ ⟨i', ⟨⟩⟩ w16 ⟨hb16, i, r, hir, rfl, ho⟩
    dsimp only at ho ⊢
    have hal := addF_length bk i out
    have hsl := ho.len
    have hf16 : Fr w w16 := hf12.trans (hf14.on hb16)
    have hr16 : Rdr w16 w.heap.size g (t.drop k) := hrdr12.fr (hf14.on hb16)
    refine bD ?_ ?_ <;> intro hlt
    · have fin : ∀ (v : UInt8) (K : World → Prop), (out ++ addF bk i out)[out.length + i - bk]? = some v → (∀ w', OwB w' w12.heap.size t_uint8 ⟨some ⟨w12.heap.size, 0, none⟩, c.toNat - 125, c.toNat - 125⟩ (addF bk (i + 1) out ++ r.tail) → Below w12.heap.size w16 w' → K w') →
          ixa (some ⟨w12.heap.size, 0, none⟩) (c.toNat - 125) (i : Int) 1 fun a => st1 w16 a (.int .u8 v.toNat) K := by
        intro v K hv hK
        refine stB ho (by omega) (by simp; omega) v rfl fun w' ho' hb' _ _ => hK w' ?_ hb'
        rw [addF_snoc, List.getD_eq_getElem?_getD, hv, Option.getD_some]
        rw [Int.toNat_natCast, List.set_append_right _ _ (by omega), hal, Nat.sub_self] at ho'
        cases r with
        | nil => simp at hir; omega
        | cons x r' => simpa using ho'
      have hi1 : IntKind.i64.wrap ((i : Int) + 1) = ((i + 1 : Nat) : Int) := by rw [i64w (by omega) (by omega)]; omega
      have go : ∀ w', OwB w' w12.heap.size t_uint8 ⟨some ⟨w12.heap.size, 0, none⟩, c.toNat - 125, c.toNat - 125⟩ (addF bk (i + 1) out ++ r.tail) → Below w12.heap.size w16 w' →
          Below w12.heap.size w14 w' ∧ ∃ (i' : Nat) (r : List UInt8), i' + r.length = c.toNat - 125 ∧ IntKind.i64.wrap ((i : Int) + 1) = i' ∧ OwB w' w12.heap.size t_uint8 ⟨some ⟨w12.heap.size, 0, none⟩, c.toNat - 125, c.toNat - 125⟩ (addF bk i' out ++ r) :=
        fun w' ho' hb' => ⟨hb16.trans hb', i + 1, r.tail, by rw [List.length_tail]; omega, hi1, ho'⟩
      have dec : ((c.toNat : Int) - 125 - IntKind.i64.wrap ((i : Int) + 1)).toNat < ((c.toNat : Int) - 125 - i).toNat := by rw [hi1]; omega
      refine bD ?_ ?_ <;> intro hib
      · rw [i64w (n := (so.n : Int) - bk) (by omega) (by omega), i64w (n := (so.n : Int) - bk + i) (by omega) (by omega)]
        have hget : out[((so.n : Int) - bk + i).toNat]? = some (out[((so.n : Int) - bk + i).toNat]'(by omega)) := List.getElem?_eq_getElem _
        refine ixBc hso.rd hso.len (by omega) hget hf16 ?_
        refine fin _ _ ?_ fun w' ho' hb' => ⟨go w' ho' hb', dec⟩
        rw [← hget, List.getElem?_append_left (by omega)]
        congr 1
        omega
      · rw [i64w (n := (i : Int) - bk) (by omega) (by omega)]
        have hget : (addF bk i out ++ r)[((i : Int) - bk).toNat]? = some ((addF bk i out ++ r)[((i : Int) - bk).toNat]'(by rw [List.length_append]; omega)) := List.getElem?_eq_getElem _
        refine ixBc ho.rd ho.len (by omega) hget (Fr.refl _) ?_
        refine fin _ _ ?_ fun w' ho' hb' => ⟨go w' ho' hb', dec⟩
        have e1 : (addF bk i out ++ r)[((i : Int) - bk).toNat]? = (addF bk i out)[((i : Int) - bk).toNat]? := List.getElem?_append_left (by omega)
        have e2 : (out ++ addF bk i out)[out.length + i - bk]? = (addF bk i out)[out.length + i - bk - out.length]? := List.getElem?_append_right (by omega)
        rw [← hget, e1, e2]
        congr 1
        omega
    · refine (Left_ok hr16).mono ?_
      rintro _ w28 ⟨rfl, rfl⟩
      rw [List.length_drop]
      have hi2 : i = c.toNat - 125 := by omega
      have hr0 : r = [] := List.eq_nil_of_length_eq_zero (by omega)
      rw [hr0, List.append_nil, hi2] at ho
      refine ⟨ho.bs, ?_, hf16⟩
      rw [i64w (by omega) (by omega)]
      simp only [Prod.mk.injEq, and_true]
      exact ⟨by omega, rfl⟩
theorem Restore_ok {s : Sl} {b : List UInt8} {most : Int} {w : World} (hs : Bs w s b) (hl : b.length ≤ 1099511627776) (hm : -9223372036854775808 ≤ most ∧ most ≤ 9223372036854775807) :
    cl Tryd.prog n_lz_Restore #[.slice s.a s.n s.c, .int .i64 most] (.tup (.pair .L (.pair (.I .i64) .nil))) w fun (r : Sl × Int × Unit) w' => OwB w' w.heap.size t_uint8 r.1 (restS b most).1 ∧ r.2 = (((restS b most).2 : Int), ()) ∧ Fr w w' := by
  refine lz_Restore.cl ?_
  unfold lz_Restore
  refine lpI (fun s' w' => Fr w w' ∧ ∃ (l o : List UInt8), Bs w' s'.1 l ∧ (l ≠ [] → ∀ ad, s'.1.a = some ad → ad.block < w.heap.size) ∧ OwB w' w.heap.size t_uint8 s'.2.1 o ∧ (o.length : Int) ≤ max most 0 ∧ o.length + 66 * l.length ≤ 66 * b.length ∧ restF most l.length l o = restS b most) (fun s' _ => s'.1.n)
    ⟨Fr.refl w, b, [], hs, hs.lt, OwB.nil _ _ _, by simp; omega, by simp, rfl⟩ ?_
  rintro _ ⟨x, out, ⟨⟩⟩ w2 ⟨hf, l, o, hx, hold, ho, hom, hol, heq⟩
  dsimp only at hx hold ho ⊢
  have hn := hx.len
  have hno := ho.len
  refine bD ?_ ?_ <;> intro hpos
  · cases l with
    | nil => simp at hn; omega
    | cons c t =>
      rw [List.length_cons] at hn hol heq
      refine (step_ok ho.bs hx (by omega) (by omega)).mono ?_
      rintro ⟨add, r2⟩ w6 ⟨hadd, hr2, hf6⟩
      dsimp only at hadd hr2
      subst hr2
      rw [restF_step] at heq
      have hle := stepS_le o c t
      have hsl := stepS_len o c t
      have hal := hadd.len
      generalize hS : stepS o c t = S at *
      obtain ⟨ad, k, e⟩ := S
      dsimp only at heq hadd hal hle hsl ⊢
      have hf' := hf.trans hf6
      refine bNe ?_ ?_ <;> intro he
      · rw [if_pos (by omega)] at heq
        rw [← heq]; exact ⟨OwB.nil _ _ _, rfl, hf'⟩
      · rw [if_neg (by omega)] at heq
        rw [i64w (n := most - out.n) (by omega) (by omega)]
        refine bD ?_ ?_ <;> intro hm2
        · rw [if_pos (by omega)] at heq
          rw [← heq]; exact ⟨OwB.nil _ _ _, rfl, hf'⟩
        · rw [if_neg (by omega)] at heq
          refine app_B slB (base := w.heap.size) (ho.fr hf6) hadd.rd hadd.len.symm (by omega) hf'.size fun r7 w8 h8 hb8 _ _ => ?_
          have hK : Kp (fun k => k < w.heap.size) w2 w8 := fun k hk2 hk => (hb8.block k hk).trans (hf6.block k hk2)
          have hx8 : Bs w8 x (c :: t) := hx.kpn hK fun h => hold h
          refine slsB hx8 (by omega) (by omega) (by simp; omega) fun r9 h9 hblk9 _ => ?_
          have e9 : ((c :: t).take (x.n : Int).toNat).drop (k : Int).toNat = (c :: t).drop k := by
            rw [List.take_of_length_le (by simp; omega), Int.toNat_natCast]
          rw [e9] at h9
          have h9l := h9.len
          rw [List.length_drop, List.length_cons] at h9l
          have h1k := hle.2 (by omega)
          refine ⟨⟨hf'.on hb8, (c :: t).drop k, o ++ ad, h9, fun _ a ha => ?_, h8, ?_, ?_, ?_⟩, by omega⟩
          · obtain ⟨a', h1, h2⟩ := hblk9 a ha
            rw [h2]
            exact hold (by simp) a' h1
          · rw [List.length_append]; omega
          · rw [List.length_append, List.length_drop, List.length_cons]; omega
          · rw [← heq]
            exact restF_any (by rw [List.length_drop]; omega) (by rw [List.length_drop, List.length_cons]; omega)
  · have hl0 : l = [] := List.eq_nil_of_length_eq_zero (by omega)
    subst hl0
    rw [← heq]; exact ⟨ho, rfl, hf⟩
end Go.Proofs.YtkaombhkepopgaaDoor
namespace Go.Proofs.YtkaombhkepopgaaDoor
open Go.RowKit Go.Fl

theorem u8_key : KeyM Tryd.prog t_3_uint8 (keyB (n := 3)) := keyM_bytes u_3_uint8 u_uint8 (fun w => by
  obtain ⟨i, z, hi, hz, hsize, hby, hzs⟩ := slB.info
  simp [sizeOf, typeInfo, hi, hsize])
/-- What the map holds when the places ahead of i are noted. -/
def headF (b : List UInt8) (i : Nat) (k : {l : List UInt8 // l.length = 3}) : Option Value := if lastP b k.1 i = 0 then none else some (.int .i64 (lastP b k.1 i))
/-- What the row holds. -/
def prevL (b : List UInt8) (i : Nat) : List Value := (List.range b.length).map fun p => .int .i64 ((if p < i ∧ p + 3 ≤ b.length then lastP b (t3 b p) p else 0 : Nat) : Int)
structure Chn (w : World) (c : Nat) (sb : Sl) (b : List UInt8) (r g i : Nat) : Prop where
  st : w.heap[c]? = some (.cells #[.slice sb.a sb.n sb.c, .map (some r), .slice (some ⟨g, 0, none⟩) b.length b.length] t_lz_chains (0, 0))
  bs : Bs w sb b
  old : b ≠ [] → ∀ ad, sb.a = some ad → ad.block < r
  mp : MapF keyB w r (headF b i)
  pv : w.heap[g]? = some (.cells (prevL b i).toArray t_int (0, 0))
  rg : r < g
  gc : g < c
section
variable {w : World} {c r g i : Nat} {sb : Sl} {b : List UInt8}
theorem Chn.fr {w' : World} (h : Chn w c sb b r g i) (hf : Fr w w') : Chn w' c sb b r g i :=
  ⟨hf.heap h.st, h.bs.fr hf, h.old, h.mp.sub (hf.block r h.mp.lt), hf.heap h.pv, h.rg, h.gc⟩
theorem Chn.lt (h : Chn w c sb b r g i) : c < w.heap.size := (Array.getElem?_eq_some_iff.1 h.st).1
theorem Chn.low {w' : World} (h : Chn w c sb b r g i) (hf : Below (c + 1) w w') : Chn w' c sb b r g i := by
  have h1 := h.rg
  have h2 := h.gc
  have hk : Kp (fun k => k < c + 1) w w' := fun k _ hk => hf.block k hk
  exact ⟨(hf.block c (by omega)).trans h.st, h.bs.kpn hk fun hb ad ha => by have := h.old hb ad ha; omega, h.old, h.mp.sub (hf.block r (by omega)), (hf.block g (by omega)).trans h.pv, h1, h2⟩
theorem at_ok (h : Chn w c sb b r g i) {p : Nat} (hp : p + 3 ≤ b.length) (hl : b.length ≤ 1099511627776) :
    cl Tryd.prog n_lz_chains_at #[.pointer (some ⟨c, 0, none⟩), .int .i64 (p : Int)] (.row 3) w fun (x : {l : List Value // l.length = 3}) w' => x.1 = u8s (t3 b p) ∧ Fr w w' := by
  refine lz_chains_at.cl ?_
  unfold lz_chains_at
  have ht3 : (u8s (t3 b p)).length = 3 := by rw [u8s_length, t3_get hp]; rfl
  refine nwI fun a w2 ha hsz hf hblk _ => ?_
  have h2 := h.fr hf
  show ld .L w2 ⟨c, 0, none⟩ _
  refine ldL0 h2.st rfl ?_
  rw [i64w (by omega) (by omega)]
  refine slsB h2.bs (by omega) (by omega) (by omega) fun r5 h5 _ _ => ?_
  have e5 : (b.take ((p : Int) + 3).toNat).drop (p : Int).toNat = t3 b p := by
    unfold t3
    rw [show ((p : Int) + 3).toNat = p + 3 from by omega, Int.toNat_natCast, List.drop_take]
    congr 1
    omega
  rw [e5] at h5
  have h5n := h5.len
  refine qnArr u_3_uint8 (by rw [h5n, ← u8s_length, ht3]; exact Nat.le_refl _) ?_
  refine ldRd h5.rd ht3 (by decide) ?_
  refine stL_row (cs := (zrow 3 (.int .u8 0)).1) hblk (by rw [ht3]; decide) (u8s_one _) fun w9 hb9 hg9 hs9 => ?_
  have e9 : (zrow 3 (.int .u8 0)).1.take 0 ++ u8s (t3 b p) ++ (zrow 3 (.int .u8 0)).1.drop (0 + (u8s (t3 b p)).length) = u8s (t3 b p) := by rw [ht3]; simp [zrow]
  rw [e9] at hb9
  refine ldR0 hb9 ht3 ⟨rfl, ?_⟩
  exact hf.on (grown_below hg9 (by omega) hf.size)
theorem alike_ok (h : Chn w c sb b r g i) {p q : Nat} (hpq : p < q) (hq : q ≤ b.length) (hl : b.length ≤ 1099511627776) :
    cl Tryd.prog n_lz_chains_alike #[.pointer (some ⟨c, 0, none⟩), .int .i64 (p : Int), .int .i64 (q : Int)] (.I .i64) w fun (x : Int) w' => x = alikeF b 66 p q ∧ Fr w w' := by
  refine lz_chains_alike.cl ?_
  unfold lz_chains_alike
  have hn := h.bs.len
  refine lpI (fun s' w' => Fr w w' ∧ ∃ k : Nat, k ≤ 66 ∧ s'.1 = k ∧ ∀ m, m < k → q + m < b.length ∧ b[p + m]? = b[q + m]?) (fun s' _ => (66 - s'.1).toNat) ⟨Fr.refl w, 0, by omega, rfl, fun m h => by omega⟩ ?_
  rintro _ ⟨k, ⟨⟩⟩ w2 ⟨hf, k, hk, rfl, hm⟩
  dsimp -zeta only
  have h2 := h.fr hf
  refine bD ?_ ?_ <;> intro h66
  · show ld .L w2 ⟨c, 0, none⟩ _
    refine ldL0 h2.st rfl ?_
    rw [i64w (n := (q : Int) + k) (by omega) (by omega), i64w (n := (p : Int) + k) (by omega) (by omega)]
    refine bD ?_ ?_ <;> intro hlt
    · show ld .L w2 ⟨c, 0, none⟩ _
      refine ldL0 h2.st rfl ?_
      have g1 : b[((p : Int) + k).toNat]? = some (b[p + k]'(by omega)) := by rw [show ((p : Int) + k).toNat = p + k from by omega]; exact List.getElem?_eq_getElem _
      have g2 : b[((q : Int) + k).toNat]? = some (b[q + k]'(by omega)) := by rw [show ((q : Int) + k).toNat = q + k from by omega]; exact List.getElem?_eq_getElem _
      refine ixBc h2.bs.rd h2.bs.len (by omega) g1 (Fr.refl _) ?_
      show ld .L w2 ⟨c, 0, none⟩ _
      refine ldL0 h2.st rfl ?_
      refine ixBc h2.bs.rd h2.bs.len (by omega) g2 (Fr.refl _) ?_
      intro n
      have hf' := hf.trans (Fr.drewN w2 n)
      refine bE ?_ ?_ <;> intro he
      · rw [i64w (by omega) (by omega)]
        refine ⟨⟨hf', k + 1, by omega, by simp, fun m hmk => ?_⟩, by omega⟩
        by_cases hme : m = k
        · subst hme
          refine ⟨by omega, ?_⟩
          rw [List.getElem?_eq_getElem (by omega), List.getElem?_eq_getElem (by omega)]
          congr 1
          exact UInt8.toNat_inj.1 (by omega)
        · exact hm m (by omega)
      · refine ⟨?_, hf'⟩
        rw [alikeF_step hk hm (.inr fun hx => he ?_)]
        rw [List.getElem?_eq_getElem (by omega), List.getElem?_eq_getElem (by omega)] at hx
        rw [Option.some.inj hx.2]
    · intro n
      refine ⟨?_, hf.trans (Fr.drewN w2 n)⟩
      rw [alikeF_step hk hm (.inr fun hx => by omega)]
  · intro n
    refine ⟨?_, hf.trans (Fr.drewN w2 n)⟩
    rw [alikeF_step hk hm (.inl (by omega))]
theorem zero_int (w : World) : (zeroValue t_int).run Tryd.prog w = .ok (.int .i64 0) w := run_zeroV (by kernel_rfl) w
theorem headF_get (b : List UInt8) (i : Nat) (k : {l : List UInt8 // l.length = 3}) : (headF b i k).getD (.int .i64 0) = .int .i64 (lastP b k.1 i) := by
  unfold headF
  split
  · rename_i h; rw [h]; rfl
  · rfl
theorem prevL_get {b : List UInt8} {i p : Nat} (hp : p < i) (hl : p + 3 ≤ b.length) : (prevL b i)[p]? = some (.int .i64 (lastP b (t3 b p) p)) := by
  unfold prevL
  rw [List.getElem?_map, List.getElem?_range (by omega)]
  simp [hp, hl]
theorem prevL_over {b : List UInt8} {i : Nat} (h : b.length < i + 3) : prevL b (i + 1) = prevL b i := by
  unfold prevL
  refine List.map_congr_left fun p _ => ?_
  by_cases hp : p < i ∧ p + 3 ≤ b.length
  · rw [if_pos hp, if_pos (by omega)]
  · rw [if_neg hp, if_neg (by omega)]
theorem prevL_put {b : List UInt8} {i : Nat} (h : i + 3 ≤ b.length) : (prevL b i).set i (.int .i64 (lastP b (t3 b i) i)) = prevL b (i + 1) := by
  apply List.ext_getElem?
  intro p
  rw [List.getElem?_set]
  unfold prevL
  rw [List.length_map, List.length_range, List.getElem?_map, List.getElem?_map]
  by_cases hp : p < b.length
  · rw [List.getElem?_range hp]
    by_cases e : i = p
    · subst e
      simp [h, hp]
    · rw [if_neg e]
      simp only [Option.map_some]
      by_cases hc : p < i ∧ p + 3 ≤ b.length
      · rw [if_pos hc, if_pos (by omega)]
      · rw [if_neg hc, if_neg (by omega)]
  · rw [if_neg (by omega)]
    simp [List.getElem?_eq_none (l := List.range b.length) (i := p) (by simp; omega)]
theorem headF_over {b : List UInt8} {i : Nat} (h : b.length < i + 3) : headF b (i + 1) = headF b i := by
  funext k
  unfold headF
  rw [lastP_over h]
theorem headF_put {b : List UInt8} {i : Nat} (h : i + 3 ≤ b.length) {h3 : (t3 b i).length = 3} : (fun k' => if k' = (⟨t3 b i, h3⟩ : {l : List UInt8 // l.length = 3}) then some (.int .i64 ((i : Int) + 1)) else headF b i k') = headF b (i + 1) := by
  funext k
  unfold headF
  by_cases e : k = ⟨t3 b i, h3⟩
  · subst e
    have hP : lastP b (t3 b i) (i + 1) = i + 1 := by rw [lastP, if_pos ⟨h, rfl⟩]
    simp only [if_true, hP]
    rfl
  · have hP : lastP b k.1 (i + 1) = lastP b k.1 i := by rw [lastP, if_neg fun hc => e (Subtype.ext hc.2.symm)]
    rw [if_neg e, hP]
theorem best_ok (h : Chn w c sb b r g i) (hi : i ≤ b.length) (hl : b.length ≤ 1099511627776) :
    cl Tryd.prog n_lz_chains_best #[.pointer (some ⟨c, 0, none⟩), .int .i64 (i : Int)] (.tup (.pair (.I .i64) (.pair (.I .i64) .nil))) w fun (x : Int × Int × Unit) w' => x = (((bestS b i).1 : Int), ((bestS b i).2 : Int), ()) ∧ Fr w w' := by
  refine lz_chains_best.cl ?_
  unfold lz_chains_best
  have hn := h.bs.len
  show ld .L w ⟨c, 0, none⟩ _
  refine ldL0 h.st rfl ?_
  rw [i64w (n := (i : Int) + 3) (by omega) (by omega)]
  refine bD ?_ ?_ <;> intro h3
  · rw [best_none (by omega) hi]; exact ⟨rfl, Fr.refl w⟩
  have hi3 : i + 3 ≤ b.length := by omega
  intro n
  have hf3 := Fr.drewN w n
  have h' := h.fr hf3
  generalize w.drewN n = w3 at *
  show ld .M w3 ⟨c, 1, none⟩ _
  refine ldM0 h'.st rfl ?_
  refine (at_ok h' hi3 hl).mono ?_
  rintro ⟨x6, hx6⟩ w7 ⟨hx, hf7⟩
  dsimp only at hx
  subst hx
  refine ⟨hf7, ?_⟩
  have h7 := h'.fr hf7
  have ht3 : (t3 b i).length = 3 := by rw [t3_get hi3]; rfl
  refine qnM u8_key u_map_3_uint8_int zero_int h7.mp ⟨t3 b i, ht3⟩ (kd := .I .i64) ((lastP b (t3 b i) i : Nat) : Int) (by rw [headF_get]; rfl) ?_
  refine lpI (fun s' w' => Fr w w' ∧ ∃ (q : Nat) (st : Nat × Nat), s'.1 = st.1 ∧ s'.2.1 = st.2 ∧ s'.2.2.1 = q ∧ Cand b i q st) (fun s' _ => s'.2.2.1.toNat) ⟨hf3.trans hf7, _, (0, 0), rfl, rfl, rfl, cand_init hi3⟩ ?_
  rintro _ ⟨bk, sz, p, ⟨⟩⟩ w10 ⟨hf10, q, ⟨bk', sz'⟩, rfl, rfl, rfl, hc⟩
  dsimp -zeta only
  have hqi := hc.1
  refine bD ?_ ?_ <;> intro hq0
  · have hq1 : (q : Int) - 1 = ((q - 1 : Nat) : Int) := by omega
    rw [i64w (n := (q : Int) - 1) (by omega) (by omega), i64w (n := (i : Int) - ((q : Int) - 1)) (by omega) (by omega), hq1]
    have h10 := h.fr hf10
    refine bD ?_ ?_ <;> intro h512
    · refine (alike_ok h10 (show q - 1 < i by omega) hi hl).mono ?_
      rintro _ w14 ⟨rfl, hf14⟩
      have h14 := h10.fr hf14
      have hstep := cand_step hi3 hc (by omega) (by omega)
      have hpl : q - 1 + 3 ≤ b.length := (hc.2.1 (by omega)).2
      have hle := lastP_le b (t3 b (q - 1)) (q - 1)
      have fin : ∀ (K : Int → Prop), K ((lastP b (t3 b (q - 1)) (q - 1) : Nat) : Int) → nz (some ⟨c, 0, none⟩) fun a => ld .L w14 (a.add 2) fun (x : Sl) => ixa x.a x.n ((q - 1 : Nat) : Int) 1 fun a' => ld (.I .i64) w14 a' K := by
        intro K hK
        show ld .L w14 ⟨c, 2, none⟩ _
        refine ldL0 (s := ⟨some ⟨g, 0, none⟩, b.length, b.length⟩) h14.st rfl ?_
        exact ixH h14.pv (by omega) (by dsimp only; omega) (by rw [Int.toNat_natCast]; exact prevL_get (by omega) hpl) hK
      refine bD ?_ ?_ <;> intro hgt
      · refine fin _ ?_
        rw [if_pos (by omega)] at hstep
        refine ⟨⟨hf10.trans hf14, _, _, ?_, rfl, rfl, hstep⟩, by omega⟩
        simp only
        omega
      · refine fin _ ?_
        rw [if_neg (by omega)] at hstep
        exact ⟨⟨hf10.trans hf14, _, _, rfl, rfl, rfl, hstep⟩, by omega⟩
    · rw [cand_end hi3 hc (by omega)]; exact ⟨rfl, hf10⟩
  · rw [cand_end hi3 hc (by omega)]; exact ⟨rfl, hf10⟩
theorem put_ok (h : Chn w c sb b r g i) (hi : i ≤ b.length) (hl : b.length ≤ 1099511627776) :
    cl Tryd.prog n_lz_chains_put #[.pointer (some ⟨c, 0, none⟩), .int .i64 (i : Int)] (.tup .nil) w fun (_ : Unit) w' => Chn w' c sb b r g (i + 1) ∧ Below r w w' ∧ Kp (fun k => k ≠ r ∧ k ≠ g) w w' := by
  refine lz_chains_put.cl ?_
  unfold lz_chains_put
  have hn := h.bs.len
  have hrg := h.rg
  have hgc := h.gc
  have hclt := h.lt
  show ld .L w ⟨c, 0, none⟩ _
  refine ldL0 h.st rfl ?_
  rw [i64w (n := (i : Int) + 3) (by omega) (by omega)]
  refine bD ?_ ?_ <;> intro h3
  rotate_left
  · refine ⟨⟨h.st, h.bs, h.old, ?_, ?_, hrg, hgc⟩, Below.refl _ _, fun _ _ _ => rfl⟩
    · rw [headF_over (by omega)]; exact h.mp
    · rw [prevL_over (by omega)]; exact h.pv
  have hi3 : i + 3 ≤ b.length := by omega
  have ht3 : (t3 b i).length = 3 := by rw [t3_get hi3]; rfl
  refine (at_ok h hi3 hl).mono ?_
  rintro ⟨x6, hx6⟩ w4 ⟨hx, hf4⟩
  dsimp only at hx
  subst hx
  refine nwI fun a w6 ha hsz hf6 hblk _ => ?_
  have hs4 := hf4.size
  refine stL_row (cs := (zrow 3 (.int .u8 0)).1) hblk (by rw [hx6]; decide) (u8s_one _) fun w7 hb7 hg7 hs7 => ?_
  have e7 : (zrow 3 (.int .u8 0)).1.take 0 ++ u8s (t3 b i) ++ (zrow 3 (.int .u8 0)).1.drop (0 + (u8s (t3 b i)).length) = u8s (t3 b i) := by rw [hx6]; simp [zrow]
  rw [e7] at hb7
  intro n
  have hf7 : Fr w w7 := (hf4.trans hf6).on (grown_below hg7 (by omega) (hf4.trans hf6).size)
  have hf8 := hf7.trans (Fr.drewN w7 n)
  have hb8 := (Fr.drewN w7 n).heap hb7
  generalize w7.drewN n = w8 at *
  have h8 := h.fr hf8
  show ld .L w8 ⟨c, 2, none⟩ _
  refine ldL0 (s := ⟨some ⟨g, 0, none⟩, b.length, b.length⟩) h8.st rfl ?_
  show ld .M w8 ⟨c, 1, none⟩ _
  refine ldM0 h8.st rfl ?_
  refine ldR0 hb8 hx6 ?_
  refine qnM u8_key u_map_3_uint8_int zero_int h8.mp ⟨t3 b i, ht3⟩ (kd := .I .i64) ((lastP b (t3 b i) i : Nat) : Int) (by rw [headF_get]; rfl) ?_
  refine ixSt h8.pv (by omega) (by dsimp only; omega) (by rw [Int.toNat_natCast]; simp [prevL]; omega) fun w16 hb16 hg16 hs16 => ?_
  rw [Int.toNat_natCast, prevL_put hi3] at hb16
  intro n2
  have hf17 := Fr.drewN w16 n2
  have hb17 := hf17.heap hb16
  have hs17 : (w16.drewN n2).heap.size = w16.heap.size := rfl
  have hK17 : ∀ k : Nat, (w16.drewN n2).heap[k]? = w16.heap[k]? := fun _ => rfl
  generalize w16.drewN n2 = w17 at *
  have hs8 := hf8.size
  have hst17 : w17.heap[c]? = some (.cells #[.slice sb.a sb.n sb.c, .map (some r), .slice (some ⟨g, 0, none⟩) b.length b.length] t_lz_chains (0, 0)) := by
    rw [hK17, hg16.block c (by omega) (by simp; omega)]; exact h8.st
  have ha17 : w17.heap[a]? = some (.cells (u8s (t3 b i)).toArray t_3_uint8 (0, 0)) := by
    have hal := (Array.getElem?_eq_some_iff.1 hb8).1
    rw [hK17, hg16.block a hal (by simp; omega)]; exact hb8
  have hm17 : MapF keyB w17 r (headF b i) := h8.mp.sub (by rw [hK17, hg16.block r (by omega) (by simp; omega)])
  show ld .M w17 ⟨c, 1, none⟩ _
  refine ldM0 hst17 rfl ?_
  refine ldR0 ha17 hx6 ?_
  refine ruM u8_key u_map_3_uint8_int hm17 ⟨t3 b i, ht3⟩ _ fun w21 hm21 hg21 hs21 => ?_
  rw [i64w (by omega) (by omega)] at hm21
  have hB : Below r w w21 := by
    have b1 : Below r w8 w16 := grown_below hg16 (by omega) (by omega)
    have b2 : Below r w17 w21 := grown_below hg21 (Nat.le_refl _) (by omega)
    exact (((hf8.mono (by omega)).trans b1).trans (hf17.mono (by omega))).trans b2
  have hKp : Kp (fun k => k ≠ r ∧ k ≠ g) w w21 := fun k hk hne => by
    rw [hg21.block k (by omega) (by simp; omega), hK17, hg16.block k (by omega) (by simp; omega), hf8.block k hk]
  refine ⟨⟨?_, ?_, h.old, ?_, ?_, hrg, hgc⟩, hB, hKp⟩
  · rw [hKp c hclt (by omega)]; exact h.st
  · exact h.bs.kpn (S := fun k => k < r) (fun k _ hk => hB.block k hk) h.old
  · rw [← headF_put hi3 (h3 := ht3)]; exact hm21
  · rw [hg21.block g (by omega) (by simp; omega)]; exact hb17
end
end Go.Proofs.YtkaombhkepopgaaDoor
namespace Go.Fl
open Go.RowKit

/-- The wide fence, within a round or without. -/
def wr (r : Option Nat) : Fence := { Fence.wide with round := r }
theorem opIn {P : Program} {r : Option Nat} {n : Nat} {o : Oper} {a : Act} {w : World} {next : Act → World → Prop} {Q : Exit → Act → World → Prop} (ho : ∀ c, o.op ≠ .defer c) (h : o.wp P a w next Q) : o.wpIn (wr r) n P a w next Q := by
  refine ⟨fun _ _ => trivial, ?_⟩
  rw [Oper.semAt_eq _ _ _ ho]
  unfold Oper.wp at h
  generalize (execOp a.eval o).run P w = rr at *
  have hd : ∀ m, (wr r).depth.isSome = true → 1 ≤ m := fun m h => by simp [wr, Fence.wide] at h
  cases rr with
  | ok x w' =>
    cases x with
    | value v => exact h
    | skip => exact h
    | defer d => exact h
    | enter f args => exact ⟨hd n, callsIn_wide.2 h⟩
    | row row args =>
      refine ⟨hd n, fun c cs _ => ?_⟩
      obtain ⟨v, w2, h1, h2⟩ := h c cs
      exact ⟨v, w2, h1, stepsIn_wide.2 h2⟩
    | _ => exact h.elim
  | halt x w' =>
    cases x with
    | panic v => exact h
    | _ => exact h.elim
theorem opIn_then {F : Fence} {n : Nat} {P : Program} {o : Oper} {a : Act} {w : World} {K K' : Act → World → Prop} {Q : Exit → Act → World → Prop} (h : o.wpIn F n P a w K (Exit.then K' Q)) : o.wpIn F n P a w K Q := by
  refine ⟨h.1, ?_⟩
  have h := h.2
  generalize (o.semAt F.round a.eval).run P w = r at *
  cases r with
  | ok x w' => cases x <;> exact h
  | halt x w' => cases x <;> exact h
theorem listIn {P : Program} {r : Option Nat} {n : Nat} {ops : Array Oper} {Q : Exit → Act → World → Prop} (hQ : ¬LetsOut Q) : ∀ {L : List Oper} {a : Act} {w : World}, (∀ o ∈ L, ∀ c, o.op ≠ .defer c) → wpList P ops Q L a w → wpListIn (wr r) n P ops Q L a w
  | [], a, w, _, h => h
  | o :: L, a, w, hd, h => by
    have hd' : ∀ o ∈ L, ∀ c, o.op ≠ .defer c := fun p hp => hd p (List.mem_cons_of_mem _ hp)
    rw [wpList] at h
    rw [wpListIn]
    split
    · rename_i hw
      rw [if_pos hw] at h
      rcases h with h | h
      · exact Oper.wpIn_mono (fun a w h => listIn hQ hd' h) (opIn (hd o (List.mem_cons_self ..)) h)
      · exact absurd h.2 hQ
    · rename_i hw
      rw [if_neg hw] at h
      exact ⟨fun _ _ => trivial, listIn hQ hd' h⟩
theorem wpListIn_app {F : Fence} {n : Nat} {P : Program} {ops : Array Oper} {Q : Exit → Act → World → Prop} {L2 : List Oper} : ∀ {L1 : List Oper} {a : Act} {w : World},
    wpListIn F n P ops (Exit.then (wpListIn F n P ops Q L2) Q) L1 a w → wpListIn F n P ops Q (L1 ++ L2) a w
  | [], a, w, h => h
  | o :: L1, a, w, h => by
    rw [List.cons_append]
    rw [wpListIn] at h ⊢
    split
    · rename_i hw
      rw [if_pos hw] at h
      exact Oper.wpIn_mono (fun a w h => wpListIn_app h) (opIn_then h)
    · rename_i hw
      rw [if_neg hw] at h
      exact ⟨h.1, wpListIn_app h.2⟩
/-- Code that is shown in the plain walk, without a round. -/
theorem inW {P : Program} {an : Nat → LA} {c : Code} {n : Nat} {Q : Exit → Act → World → Prop} {E : List AV} {w : World} (hc : (codeFns c).all (callable P) = true) (h : vc P an c (fun e E' w' => Q e (acts E') w') E w) : c.wpIn Fence.wide n P Q (acts E) w := by
  refine wpIn_wide.2 (wp_mono (code_sound (fun f hf => List.all_eq_true.1 hc f hf) h) ?_)
  rintro e a w' ⟨E', rfl, _, hq⟩
  exact hq
/-- Operations that are shown in the plain walk. -/
theorem opsW {P : Program} {r : Option Nat} {n : Nat} {all L : List Oper} {Q : Exit → Act → World → Prop} {E : List AV} {w : World} (hc : (L.flatMap opFns).all (callable P) = true) (hd : ∀ o ∈ L, ∀ c, o.op ≠ .defer c) (hQ : ¬LetsOut Q) (h : opsVC P all (fun E' w' => Q .normal (acts E') w') L E w) :
    wpListIn (wr r) n P all.toArray Q L (acts E) w := by
  refine listIn hQ hd (ops_sound (fun o ho f hf => List.all_eq_true.1 hc f (List.mem_flatMap.2 ⟨o, ho, hf⟩)) h ?_)
  exact fun E' w' _ _ hq => hq
/-- A region within a round. -/
theorem inR {P : Program} {l n id : Nat} {L : List Oper} {Q : Exit → Act → World → Prop} {E : List AV} {w : World} (hc : (L.flatMap opFns).all (callable P) = true) (hd : ∀ o ∈ L, ∀ c, o.op ≠ .defer c) (hQ : ¬LetsOut Q) (h : opsVC P L (fun E' w' => Q .normal (acts E') w') L E w) :
    (Code.region id L.toArray false).wpIn (Fence.wide.inRound l) n P Q (acts E) w := wpIn_region_lit (opsW (r := some l) hc hd hQ h)
/-- The same act with more deferred calls behind. -/
def more (ds : List Deferred) (a : Act) : Act := { a with defers := a.defers ++ ds }
theorem more_put (ds : List Deferred) (a : Act) (d : Option Tmp) (v : Value) : more ds (a.put d v) = (more ds a).put d v := by cases d <;> rfl
theorem more_eval (ds : List Deferred) (a : Act) : (more ds a).eval = a.eval := by funext x; cases x <;> rfl
theorem opIn_more {F : Fence} {n : Nat} {P : Program} {ds : List Deferred} {o : Oper} {a : Act} {w : World} {K K' : Act → World → Prop} {Q : Exit → Act → World → Prop} (hK : ∀ a w, K a w → K' (more ds a) w)
    (h : o.wpIn F n P a w K (fun e a w => Q e (more ds a) w)) : o.wpIn F n P (more ds a) w K' Q := by
  unfold Oper.wpIn at h ⊢
  rw [more_eval]
  refine ⟨h.1, ?_⟩
  have h := h.2
  have hL : LetsOut (fun e a w => Q e (more ds a) w) → LetsOut Q := fun ⟨a, w, h⟩ => ⟨_, w, h⟩
  generalize (o.semAt F.round a.eval).run P w = r at *
  cases r with
  | ok x w' =>
    cases x with
    | value v => have := hK _ _ h; rw [more_put] at this; exact this
    | skip => have := hK _ _ h; rw [more_put] at this; exact this
    | defer d => have := hK _ _ h; rw [more_put] at this; exact this
    | enter f args =>
      refine ⟨h.1, CallsIn.mono h.2 ?_⟩
      rintro (v | c | _) w2 h
      · have := hK _ _ h; rw [more_put] at this; exact this
      · exact h
      · exact hL h
    | row row args =>
      refine ⟨h.1, RowsIn.mono h.2 fun v w2 h => ?_⟩
      have := hK _ _ h; rw [more_put] at this; exact this
    | round l f tmps assign body =>
      refine ⟨h.1, RoundIn.mono h.2 ?_⟩
      rintro (v | c | _) w2 h
      · have := hK _ _ h; rw [more_put] at this; exact this
      · exact h
      · exact hL h
    | _ => exact h.elim
  | halt x w' =>
    cases x with
    | panic v => exact h
    | _ => exact h.elim
theorem listIn_more {F : Fence} {n : Nat} {P : Program} {ds : List Deferred} {ops : Array Oper} {Q : Exit → Act → World → Prop} : ∀ {L : List Oper} {a : Act} {w : World},
    wpListIn F n P ops (fun e a w => Q e (more ds a) w) L a w → wpListIn F n P ops Q L (more ds a) w
  | [], a, w, h => h
  | o :: L, a, w, h => by
    rw [wpListIn] at h ⊢
    have ht : (more ds a).tmps = a.tmps := rfl
    rw [ht]
    split
    · rename_i hw
      rw [if_pos hw] at h
      exact opIn_more (fun a w h => listIn_more h) h
    · rename_i hw
      rw [if_neg hw] at h
      rw [more_eval, ← more_put]
      exact ⟨h.1, listIn_more h.2⟩
def noDefer (L : List Oper) : Bool := L.all fun o => match o.op with | .defer _ => false | _ => true
theorem noDefer_of {L : List Oper} (h : noDefer L = true) {o : Oper} (ho : o ∈ L) (c : Call) : o.op ≠ .defer c := fun e => by
  have := List.all_eq_true.1 h o ho
  rw [e] at this
  cases this
theorem run_yieldOp {P : Program} {o : Oper} {a : Act} {t : TypeId} {x y : Operand} {l : Nat} {v : Value} (h : o.op = .call { callee := .value x, args := #[y], argTypes := #[t] }) (hx : a.eval x = .func (.yield l) #[] #[]) (hy : a.eval y = v) (w : World) :
    (execOp a.eval o).run P w = (Instr.yield l #[v]).run P w := by
  unfold execOp
  rw [h]
  simp [resolve, hx, hy, invoke, Deferred.ofValue]
/-- Changes of variables. -/
def up (e : Nat → AV) : List (Nat × AV) → Nat → AV
  | [], m => e m
  | (k, v) :: l, m => bif k == m then v else up e l m
end Go.Fl
namespace Go.Proofs.YtkaombhkepopgaaDoor
open Go.RowKit Go.Fl

def cA : Code → Code
  | .seq a _ => a
  | c => c
def cB : Code → Code
  | .seq _ b => b
  | c => c
def cK : Code → Code
  | .block _ c => c
  | .loop c => c
  | .rangeFunc _ _ _ c => c
  | c => c
def cAsg : Code → Code
  | .rangeFunc _ _ c _ => c
  | c => c
noncomputable def code24 : Code := Tryd.f61.body.getD .skip
noncomputable def code45 : Code := Tryd.f71.body.getD .skip
abbrev na : Nat → LA := fun _ => []
abbrev uU : AV := .v undef

theorem lit0 (out b : Sl) (Q : Exit → List AV → World → Prop) (w : World) :
    vc Tryd.prog na (cA code24) Q [.v (.slice out.a out.n out.c), .v (.slice b.a b.n b.c), uU, uU, uU, uU, uU, uU, uU, uU, uU, uU, uU, uU, uU, uU, uU, uU, uU] w =
    nw w [.slice out.a out.n out.c] t_s_uint8 fun a2 w' => Q .normal [.v (.slice out.a out.n out.c), .v (.slice b.a b.n b.c), .v (.pointer (some a2)), uU, .v (.slice none 0 0), uU, uU, uU, uU, uU, uU, uU, uU, uU, uU, uU, uU, uU, uU] w' := by kernel_rfl
theorem lit1 (out b : Sl) (a2 : Addr) (Q : Exit → List AV → World → Prop) (w : World) :
    vc Tryd.prog na (cA (cA (cB code24))) Q [.v (.slice out.a out.n out.c), .v (.slice b.a b.n b.c), .v (.pointer (some a2)), uU, .v (.slice none 0 0), uU, uU, uU, uU, uU, uU, uU, uU, uU, uU, uU, uU, uU, uU] w =
    cl Tryd.prog n_slices_Chunk_byte_byte #[.slice b.a b.n b.c, .int .i64 128] .U w fun x7 w' => Q .normal [.v (.slice out.a out.n out.c), .v (.slice b.a b.n b.c), .v (.pointer (some a2)), uU, .v (.slice none 0 0), uU, .v (.slice b.a b.n b.c), .v x7, uU, uU, uU, uU, uU, uU, uU, uU, uU, uU, uU] w' := by kernel_rfl
noncomputable def rf24 : Code := cK (cB (cA (cB code24)))
noncomputable def opsL : Code → List Oper
  | .region _ ops _ => ops.toList
  | _ => []
noncomputable def opsB : List Oper := opsL (cK (cK rf24))
noncomputable def opsA : List Oper := opsL (cAsg rf24)
noncomputable def opsE : List Oper := opsL (cA (cB (cB code24)))
theorem k24 : Tryd.f61.body = some code24 := by kernel_rfl
theorem k24a : code24 = .seq (cA code24) (.seq (.seq (cA (cA (cB code24))) (.block 0 (.rangeFunc (.tmp 7) #[8] (.region 2 opsA.toArray false) (.block 1 (.region 3 opsB.toArray false))))) (.seq (.region 4 opsE.toArray false) .ret)) := by kernel_rfl
theorem nd24B : noDefer opsB = true := by kernel_rfl
theorem nd24A : noDefer opsA = true := by kernel_rfl
theorem res24 : Tryd.f61.results = #[.tmp 4] := by kernel_rfl
/-- The body of a round. -/
theorem litB (a2 : Addr) (p : Sl) (e0 e1 e3 e4 e6 e7 e8 e9 e10 e11 e12 e13 e14 e15 e16 e17 e18 : AV) (Q : World → Prop) (w : World) :
    opsVC Tryd.prog opsB (fun _ w' => Q w') opsB [e0, e1, .v (.pointer (some a2)), e3, e4, .v (.slice p.a p.n p.c), e6, e7, e8, e9, e10, e11, e12, e13, e14, e15, e16, e17, e18] w =
    ld .L w a2 fun (x9 : Sl) => nw w [.int .u8 (IntKind.u8.wrap (IntKind.i64.wrap ((p.n : Int) - 1)))] t_uint8 fun a14 w1 => app Tryd.prog t_s_uint8 t_s_uint8 x9 ⟨some a14, 1, 1⟩ w1 fun r15 w2 => app Tryd.prog t_s_uint8 t_s_uint8 r15 p w2 fun r17 w3 => st1 w3 a2 (.slice r17.a r17.n r17.c) fun w4 => Q w4 := by kernel_rfl
/-- The variables at a round. -/
def t24 (out b : Sl) (a2 : Addr) (f : Value) (p p8 : AV) : List AV := [.v (.slice out.a out.n out.c), .v (.slice b.a b.n b.c), .v (.pointer (some a2)), uU, .v (.slice none 0 0), p, .v (.slice b.a b.n b.c), .v f, p8, uU, uU, uU, uU, uU, uU, uU, uU, uU, uU]
theorem litA (out b : Sl) (a2 : Addr) (f : Value) (p : Sl) (Q : List AV → World → Prop) (w : World) :
    opsVC Tryd.prog opsA Q opsA (t24 out b a2 f uU (.v (.slice p.a p.n p.c))) w = Q (t24 out b a2 f (.v (.slice p.a p.n p.c)) (.v (.slice p.a p.n p.c))) w := by kernel_rfl
theorem actA (out b : Sl) (a2 : Addr) (f v : Value) : ({ tmps := ((#[8] : Array Tmp).zip #[v]).foldl (fun t (p, v) => t.setIfInBounds p v) (acts [.v (.slice out.a out.n out.c), .v (.slice b.a b.n b.c), .v (.pointer (some a2)), uU, .v (.slice none 0 0), uU, .v (.slice b.a b.n b.c), .v f, uU, uU, uU, uU, uU, uU, uU, uU, uU, uU, uU]).tmps, defers := [] } : Act) =
    acts (t24 out b a2 f uU (.v v)) := by kernel_rfl
theorem ndE : noDefer opsE = true := by kernel_rfl
theorem litE (out b : Sl) (a2 : Addr) (f : Value) (Q : List AV → World → Prop) (w : World) :
    opsVC Tryd.prog opsE Q opsE [.v (.slice out.a out.n out.c), .v (.slice b.a b.n b.c), .v (.pointer (some a2)), uU, .v (.slice none 0 0), uU, .v (.slice b.a b.n b.c), .v f, uU, uU, uU, uU, uU, uU, uU, uU, uU, uU, uU] w =
    ld .L w a2 fun (x : Sl) => Q [.v (.slice out.a out.n out.c), .v (.slice b.a b.n b.c), .v (.pointer (some a2)), uU, .v (.slice x.a x.n x.c), uU, .v (.slice b.a b.n b.c), .v f, uU, uU, uU, uU, uU, uU, uU, uU, uU, uU, .v (.slice x.a x.n x.c)] w := by kernel_rfl
theorem act24 (out b : Value) : ({ tmps := #[out, b] ++ Array.replicate (Tryd.f61.ntmps - #[out, b].size) undef, defers := [] } : Act) = acts [.v out, .v b, uU, uU, uU, uU, uU, uU, uU, uU, uU, uU, uU, uU, uU, uU, uU, uU, uU] := by kernel_rfl
theorem ch0 (y a1 a3 : AV) (Q : Exit → List AV → World → Prop) (w : World) :
    vc Tryd.prog na (cA code45) Q [y, a1, a3, uU, uU, uU, uU, uU, uU, uU, uU, uU, uU, uU, uU, uU, uU, uU, uU, uU, uU, uU, uU, uU, uU, uU, uU, uU, uU, uU, uU] w =
    Q .normal [y, a1, a3, uU, .v (.int .i64 0), uU, uU, uU, uU, uU, uU, uU, uU, uU, uU, uU, uU, uU, uU, uU, uU, uU, uU, uU, uU, uU, uU, uU, uU, uU, uU] w := by kernel_rfl
/-- The closure's variables. -/
def t45 (y : AV) (a1 a3 : Addr) (i : Int) (e : Nat → AV) : List AV := [y, .v (.pointer (some a1)), .v (.pointer (some a3)), e 3, .v (.int .i64 i), e 5, e 6, e 7, e 8, e 9, e 10, e 11, e 12, e 13, e 14, e 15, e 16, e 17, e 18, e 19, e 20, e 21, e 22, e 23, e 24, e 25, e 26, e 27, e 28, e 29, e 30]
noncomputable def loop45 : Code := cK (cK (cB code45))
theorem ch1 (y : AV) (a1 a3 : Addr) (i : Int) (e : Nat → AV) (Q : Exit → List AV → World → Prop) (w : World) :
    vc Tryd.prog na (cA (cA loop45)) Q (t45 y a1 a3 i e) w = ld .L w a1 fun (x7 : Sl) => Q .normal (t45 y a1 a3 i (up e [(6, .v (.int .i64 i)), (7, .v (.slice x7.a x7.n x7.c)), (8, .v (.int .i64 (x7.n : Int))), (9, .v (.bool (decide (i < (x7.n : Int)))))])) w := by kernel_rfl
theorem ch3 (y : AV) (a1 a3 : Addr) (i : Int) (e : Nat → AV) (Q : Exit → List AV → World → Prop) (w : World) :
    vc Tryd.prog na (cA (cK (cA (cB loop45)))) Q (t45 y a1 a3 i e) w = ld (.I .i64) w a3 fun (x13 : Int) => ld .L w a1 fun (x14 : Sl) => sls x14 i x14.n 1 fun r16 => dr w fun w2 => Q .normal (t45 y a1 a3 i (up e [(5, .v (.int .i64 (min x13 (r16.n : Int)))), (13, .v (.int .i64 x13)), (14, .v (.slice x14.a x14.n x14.c)), (15, .v (.int .i64 i)), (16, .v (.slice r16.a r16.n r16.c)), (17, .v (.int .i64 (r16.n : Int))), (18, .v (.int .i64 (min x13 (r16.n : Int))))])) w2 := by kernel_rfl
noncomputable def ops45 : List Oper := match cA (cB (cK (cA (cB loop45)))) with | .region _ ops _ => ops.toList | _ => []
theorem ch4 (y : AV) (a1 a3 : Addr) (i j : Int) (e : Nat → AV) (Q : List AV → World → Prop) (w : World) :
    opsVC Tryd.prog ops45 Q (ops45.take 10) (t45 y a1 a3 i (up e [(5, .v (.int .i64 j))])) w = ld .L w a1 fun (x20 : Sl) => qn Tryd.prog (Instr.sliceAt t_s_uint8 (.slice x20.a x20.n x20.c) (some (.int .i64 i)) (some (.int .i64 (IntKind.i64.wrap (i + j)))) (some (.int .i64 (IntKind.i64.wrap (i + j))))) .L w fun (r28 : Sl) => Q (t45 y a1 a3 i (up e [(5, .v (.int .i64 j)), (19, y), (20, .v (.slice x20.a x20.n x20.c)), (21, .v (.int .i64 i)), (22, .v (.int .i64 i)), (23, .v (.int .i64 j)), (24, .v (.int .i64 (IntKind.i64.wrap (i + j)))), (25, .v (.int .i64 i)), (26, .v (.int .i64 j)), (27, .v (.int .i64 (IntKind.i64.wrap (i + j)))), (28, .v (.slice r28.a r28.n r28.c))])) w := by kernel_rfl
theorem ch5 (y : AV) (a1 a3 : Addr) (i j : Int) (e : Nat → AV) (x20 r28 : Sl) (b : Bool) (Q : List AV → World → Prop) (w : World) :
    opsVC Tryd.prog ops45 Q (ops45.drop 11) (t45 y a1 a3 i (up e [(5, .v (.int .i64 j)), (19, y), (20, .v (.slice x20.a x20.n x20.c)), (21, .v (.int .i64 i)), (22, .v (.int .i64 i)), (23, .v (.int .i64 j)), (24, .v (.int .i64 (IntKind.i64.wrap (i + j)))), (25, .v (.int .i64 i)), (26, .v (.int .i64 j)), (27, .v (.int .i64 (IntKind.i64.wrap (i + j)))), (28, .v (.slice r28.a r28.n r28.c)), (29, .v (.bool b))])) w = Q (t45 y a1 a3 i (up e [(5, .v (.int .i64 j)), (19, y), (20, .v (.slice x20.a x20.n x20.c)), (21, .v (.int .i64 i)), (22, .v (.int .i64 i)), (23, .v (.int .i64 j)), (24, .v (.int .i64 (IntKind.i64.wrap (i + j)))), (25, .v (.int .i64 i)), (26, .v (.int .i64 j)), (27, .v (.int .i64 (IntKind.i64.wrap (i + j)))), (28, .v (.slice r28.a r28.n r28.c)), (29, .v (.bool b)), (30, .v (.bool (!b)))])) w := by kernel_rfl
theorem chP (y : AV) (a1 a3 : Addr) (i j : Int) (e : Nat → AV) (x20 r28 : Sl) (b : Bool) : (acts (t45 y a1 a3 i (up e [(5, .v (.int .i64 j)), (19, y), (20, .v (.slice x20.a x20.n x20.c)), (21, .v (.int .i64 i)), (22, .v (.int .i64 i)), (23, .v (.int .i64 j)), (24, .v (.int .i64 (IntKind.i64.wrap (i + j)))), (25, .v (.int .i64 i)), (26, .v (.int .i64 j)), (27, .v (.int .i64 (IntKind.i64.wrap (i + j)))), (28, .v (.slice r28.a r28.n r28.c))]))).put (some 29) (.bool b) = acts (t45 y a1 a3 i (up e [(5, .v (.int .i64 j)), (19, y), (20, .v (.slice x20.a x20.n x20.c)), (21, .v (.int .i64 i)), (22, .v (.int .i64 i)), (23, .v (.int .i64 j)), (24, .v (.int .i64 (IntKind.i64.wrap (i + j)))), (25, .v (.int .i64 i)), (26, .v (.int .i64 j)), (27, .v (.int .i64 (IntKind.i64.wrap (i + j)))), (28, .v (.slice r28.a r28.n r28.c)), (29, .v (.bool b))])) := by kernel_rfl
theorem ch2 (y : AV) (a1 a3 : Addr) (i : Int) (e : Nat → AV) (Q : Exit → List AV → World → Prop) (w : World) :
    vc Tryd.prog na (cB (cB loop45)) Q (t45 y a1 a3 i e) w = ld (.I .i64) w a3 fun (x11 : Int) => Q .normal (t45 y a1 a3 (IntKind.i64.wrap (i + x11)) (up e [(10, .v (.int .i64 i)), (11, .v (.int .i64 x11)), (12, .v (.int .i64 (IntKind.i64.wrap (i + x11))))])) w := by kernel_rfl
/- END OF FORMS -/
/-- The pieces' places. -/
abbrev Al (sn : Nat) := {k : Nat // 128 * k < sn}
def chk (s : Sl) (k : Nat) : Sl := ⟨s.a.map (·.add (128 * k)), min 128 (s.n - 128 * k), min 128 (s.n - 128 * k)⟩
def upto (sn : Nat) : Nat → List (Al sn)
  | 0 => []
  | k + 1 => upto sn k ++ (if h : 128 * k < sn then [⟨k, h⟩] else [])
theorem upto_le (sn : Nat) : ∀ k, (upto sn k).length ≤ k
  | 0 => Nat.le_refl _
  | k + 1 => by have := upto_le sn k; unfold upto; split <;> simp <;> omega
theorem t45_5 {y : AV} {a1 a3 : Addr} {i : Int} {e : Nat → AV} {v : AV} (h : e 5 = v) : t45 y a1 a3 i e = t45 y a1 a3 i (up e [(5, v)]) := by subst h; rfl
def enc1 (s : Sl) (x : Al s.n) : Array Value := #[.slice (chk s x.1).a (chk s x.1).n (chk s x.1).c]
noncomputable def blk45 : Code := cK (cA (cB loop45))
theorem k45 : Tryd.f71.body = some code45 := by kernel_rfl
theorem k45a : code45 = .seq (cA code45) (.block 0 (.loop loop45)) := by kernel_rfl
theorem k45b : loop45 = .seq (.seq (cA (cA loop45)) (.cond (.tmp 9) .skip (.exit 0))) (.seq (.block 1 blk45) (cB (cB loop45))) := by kernel_rfl
theorem k45c : blk45 = .seq (cA blk45) (.seq (.region 4 ops45.toArray false) (.cond (.tmp 30) .ret .skip)) := by kernel_rfl
noncomputable def yop : Oper := ops45[10]?.getD { dst := none, op := .move (.tmp 0), type := 0, pos := "", after := #[], guard := none }
theorem k45d : ops45.drop 10 = yop :: ops45.drop 11 := by kernel_rfl
theorem yop_op : yop.op = .call { callee := .value (.tmp 19), args := #[.tmp 28], argTypes := #[t_s_uint8] } := by kernel_rfl
theorem res45 : Tryd.f71.results = #[] := by kernel_rfl
theorem yop_guard : yop.guard = none := by kernel_rfl
theorem yop_dst : yop.dst = some 29 := by kernel_rfl
theorem nd45 : (ops45.all fun o => match o.op with | .defer _ => false | _ => true) = true := by kernel_rfl
theorem nd45' {o : Oper} (h : o ∈ ops45) (c : Call) : o.op ≠ .defer c := fun e => by
  have := List.all_eq_true.1 nd45 o h
  rw [e] at this
  cases this

theorem act45 (y : Value) (a1 a3 : Addr) : ({ tmps := (#[y] ++ #[.pointer (some a1), .pointer (some a3)]) ++ Array.replicate (Tryd.f71.ntmps - (#[y] ++ #[Value.pointer (some a1), .pointer (some a3)]).size) undef, defers := [] } : Act) =
    acts [.v y, .v (.pointer (some a1)), .v (.pointer (some a3)), uU, uU, uU, uU, uU, uU, uU, uU, uU, uU, uU, uU, uU, uU, uU, uU, uU, uU, uU, uU, uU, uU, uU, uU, uU, uU, uU, uU] := by kernel_rfl
def mu45 (sn : Nat) (a : Act) (_ : World) : Nat := match a.tmps[4]? with
  | some (Value.int _ i) => ((sn : Int) + 256 - i).toNat
  | _ => 0
theorem chunk_stops {n : Nat} (s : Sl) (hcap : s.n ≤ s.c) (hlen : s.n ≤ 1099511627776) {a1 a3 : Nat} {w0 : World} (h1 : w0.heap[a1]? = some (.cells #[.slice s.a s.n s.c] t_s_uint8 (0, 0))) (h3 : w0.heap[a3]? = some (.cells #[.int .i64 128] t_int (0, 0))) :
    SeqStopsK Fence.wide n Tryd.prog n_slices_Chunk_byte_byte_1 #[.pointer (some ⟨a1, 0, none⟩), .pointer (some ⟨a3, 0, none⟩)] (enc1 s) (fun W W' => W'.heap[a1]? = W.heap[a1]? ∧ W'.heap[a3]? = W.heap[a3]?)
      (fun xs => ∃ m, s.n ≤ 128 * m ∧ xs = upto s.n m) (fun _ => True) (s.n + 1) w0 := by
  intro l J Jx W hW hJ hJx hY h0
  have c1 : W.heap[a1]? = some (.cells #[.slice s.a s.n s.c] t_s_uint8 (0, 0)) := (hW.block a1 (Array.getElem?_eq_some_iff.1 h1).1).trans h1
  have c3 : W.heap[a3]? = some (.cells #[.int .i64 128] t_int (0, 0)) := (hW.block a3 (Array.getElem?_eq_some_iff.1 h3).1).trans h3
  refine callsIn_of_wp (c := code45) Tryd.func71 k45 trivial ?_ rfl
  rw [k45a]
  rw [act45]
  refine wpIn_seq (inW (an := na) (by kernel_rfl) ?_)
  rw [ch0]
  show (Code.block 0 (.loop loop45)).wpIn _ _ _ _ (acts (t45 (.v (.func (.yield l) #[] #[])) ⟨a1, 0, none⟩ ⟨a3, 0, none⟩ 0 fun _ => uU)) W
  refine wpIn_block (wpIn_loop (fun a W' => ∃ (k : Nat) (e : Nat → AV), a = acts (t45 (.v (.func (.yield l) #[] #[])) ⟨a1, 0, none⟩ ⟨a3, 0, none⟩ ((128 * k : Nat) : Int) e) ∧ 128 * k ≤ s.n + 128 ∧ J (upto s.n k) W' ∧ W'.heap[a1]? = W.heap[a1]? ∧ W'.heap[a3]? = W.heap[a3]?)
    (mu45 s.n) ⟨0, _, rfl, by omega, h0, rfl, rfl⟩ ?_)
  rintro _ W1 ⟨k, e, rfl, hk, hJ1, k1, k3⟩
  have c1 := k1.trans c1
  have c3 := k3.trans c3
  rw [k45b]
  refine wpIn_seq (wpIn_seq (inW (an := na) (by kernel_rfl) ?_))
  rw [ch1]
  refine ldL0 c1 rfl ?_
  generalize hE : up e _ = E
  have hE9 : E 9 = .v (.bool (decide (((128 * k : Nat) : Int) < (s.n : Int)))) := by rw [← hE]; rfl
  have ev9 : (acts (t45 (.v (.func (.yield l) #[] #[])) ⟨a1, 0, none⟩ ⟨a3, 0, none⟩ ((128 * k : Nat) : Int) E)).eval (.tmp 9) = .bool (decide (((128 * k : Nat) : Int) < (s.n : Int))) := by
    show (E 9).val = _
    rw [hE9]
    rfl
  by_cases hlt : ((128 * k : Nat) : Int) < (s.n : Int)
  · rw [decide_eq_true hlt] at ev9
    refine wpIn_cond_true ev9 (wpIn_skip ?_)
    have hks : 128 * k < s.n := by omega
    refine wpIn_seq (wpIn_block ?_)
    rw [k45c]
    clear hE hE9 ev9
    refine wpIn_seq (inW (an := na) (by kernel_rfl) ?_)
    show vc Tryd.prog na (cA (cK (cA (cB loop45)))) _ _ _
    rw [ch3]
    refine ldI0 c3 rfl ?_
    refine ldL0 c1 rfl ?_
    refine ⟨by omega, by omega, by omega, ?_⟩
    intro n2
    have hJ2 : J (upto s.n k) (W1.drewN n2) := hJ _ _ _ none hJ1 ⟨rfl, rfl, rfl, Nat.le_refl _, fun _ _ _ => rfl⟩ (fun r h => by cases h)
    have c1 : (W1.drewN n2).heap[a1]? = some (.cells #[.slice s.a s.n s.c] t_s_uint8 (0, 0)) := c1
    have c3 : (W1.drewN n2).heap[a3]? = some (.cells #[.int .i64 128] t_int (0, 0)) := c3
    have k1 : (W1.drewN n2).heap[a1]? = W.heap[a1]? := k1
    have k3 : (W1.drewN n2).heap[a3]? = W.heap[a3]? := k3
    generalize W1.drewN n2 = W2 at *
    generalize hE3 : up E _ = E3
    have hj : (min 128 ((cut s ((128 * k : Nat) : Int).toNat (s.n : Int).toNat 1).n : Int)) = ((min 128 (s.n - 128 * k) : Nat) : Int) := by
      show min 128 (((s.n : Int).toNat - ((128 * k : Nat) : Int).toNat : Nat) : Int) = _
      omega
    have h5 : E3 5 = .v (.int .i64 ((min 128 (s.n - 128 * k) : Nat) : Int)) := by
      rw [← hj, ← hE3]
      rfl
    clear hE3
    rw [t45_5 h5]
    refine wpIn_seq (wpIn_region_lit ?_)
    suffices h : wpListIn (wr none) n Tryd.prog ops45.toArray _ (ops45.take 10 ++ ops45.drop 10) _ _ by
      rw [List.take_append_drop] at h
      exact h
    refine wpListIn_app (opsW (by kernel_rfl) (fun o ho c => nd45' (List.mem_of_mem_take ho) c) (by rintro ⟨a, w, ⟨v, hv⟩, _⟩; cases hv) ?_)
    rw [ch4]
    refine ldL0 c1 rfl ?_
    have hw : IntKind.i64.wrap (((128 * k : Nat) : Int) + ((min 128 (s.n - 128 * k) : Nat) : Int)) = ((128 * k + min 128 (s.n - 128 * k) : Nat) : Int) := by
      rw [i64w (by omega) (by omega)]; omega
    refine ⟨chk s k, fun w' _ => ?_, ?_⟩
    · rw [hw]
      have := run_sls3 slB w' s (lo := some (.int .i64 ((128 * k : Nat) : Int))) (l := ((128 * k : Nat) : Int)) (h := ((128 * k + min 128 (s.n - 128 * k) : Nat) : Int)) (.inr rfl) (by omega) (by omega) (by omega)
      rw [Int.toNat_natCast, Int.toNat_natCast, if_neg (by omega), Nat.add_sub_cancel_left] at this
      exact this
    obtain ⟨fn, tmps, assign, body, hy, hR⟩ := hY (upto s.n k) ⟨k, hks⟩ W2 hJ2 (by have := upto_le s.n k; omega)
    show wpListIn (wr none) n Tryd.prog ops45.toArray _ (ops45.drop 10) _ W2
    rw [k45d, wpListIn, if_pos (by rw [Region.wanted, yop_guard])]
    refine ⟨fun _ _ => trivial, ?_⟩
    show yop.uponIn _ _ _ _ _ _ ((yop.semAt none _).run Tryd.prog W2)
    rw [Oper.semAt_none, run_yieldOp yop_op (l := l) (v := .slice (chk s k).a (chk s k).n (chk s k).c) rfl rfl]
    have hy' : (Instr.yield l #[.slice (chk s k).a (chk s k).n (chk s k).c]).run Tryd.prog W2 = _ := hy
    rw [hy', Oper.uponIn_round]
    refine ⟨fun h => by simp [wr, Fence.wide] at h, RoundIn.mono hR ?_⟩
    rintro e1 W3 (⟨rfl, hJ3, q1, q3⟩ | ⟨rfl, hJx3⟩)
    · show wpListIn (wr none) n Tryd.prog ops45.toArray _ (ops45.drop 11) ((acts _).put yop.dst (.bool true)) W3
      rw [yop_dst, chP]
      refine opsW (by kernel_rfl) (fun o ho c => nd45' (List.mem_of_mem_drop ho) c) (by rintro ⟨a, w, ⟨v, hv⟩, _⟩; cases hv) ?_
      rw [ch5]
      refine wpIn_cond_false rfl (wpIn_skip ?_)
      show (cB (cB loop45)).wpIn _ _ _ _ _ _
      refine inW (an := na) (by kernel_rfl) ?_
      rw [ch2]
      refine ldI0 (q3.trans c3) rfl ?_
      have hw2 : IntKind.i64.wrap (((128 * k : Nat) : Int) + 128) = ((128 * (k + 1) : Nat) : Int) := by
        rw [i64w (by omega) (by omega)]; omega
      rw [hw2]
      refine ⟨⟨k + 1, _, rfl, by omega, ?_, q1.trans k1, q3.trans k3⟩, ?_⟩
      · rw [upto, dif_pos hks]; exact hJ3
      · show ((s.n : Int) + 256 - ((128 * (k + 1) : Nat) : Int)).toNat < ((s.n : Int) + 256 - ((128 * k : Nat) : Int)).toNat
        omega
    · show wpListIn (wr none) n Tryd.prog ops45.toArray _ (ops45.drop 11) ((acts _).put yop.dst (.bool false)) W3
      rw [yop_dst, chP]
      refine opsW (by kernel_rfl) (fun o ho c => nd45' (List.mem_of_mem_drop ho) c) (by rintro ⟨a, w, ⟨v, hv⟩, _⟩; cases hv) ?_
      rw [ch5]
      refine wpIn_cond_true rfl (wpIn_ret ?_)
      simp only [Exit.inBlock, Exit.then]
      exact bodyPost_ret (results_none res45 _ _ _) rfl ⟨⟨_, rfl⟩, .inr ⟨_, trivial, hJx3⟩⟩
  · rw [decide_eq_false hlt] at ev9
    refine wpIn_cond_false ev9 (wpIn_exit ?_)
    simp only [Exit.inBlock, Exit.then, if_true]
    exact bodyPost_end (results_none res45 _ _ _) rfl ⟨⟨_, rfl⟩, .inl ⟨_, ⟨k, by omega, rfl⟩, hJ1⟩⟩
theorem Chunk_ok {s : Sl} {w : World} : cl Tryd.prog n_slices_Chunk_byte_byte #[.slice s.a s.n s.c, .int .i64 128] .U w fun (x : Value) w' =>
    ∃ a1 a3, x = .func (.func n_slices_Chunk_byte_byte_1) #[] #[.pointer (some ⟨a1, 0, none⟩), .pointer (some ⟨a3, 0, none⟩)] ∧ w'.heap[a1]? = some (.cells #[.slice s.a s.n s.c] t_s_uint8 (0, 0)) ∧ w'.heap[a3]? = some (.cells #[.int .i64 128] t_int (0, 0)) ∧ w.heap.size ≤ a1 ∧ w.heap.size ≤ a3 ∧ Fr w w' := by
  refine slices_Chunk_byte_byte.cl ?_
  unfold slices_Chunk_byte_byte
  refine nwI fun a1 w2 ha1 hs1 hf1 hb1 _ => ?_
  refine nwI fun a3 w4 ha3 hs3 hf3 hb3 _ => ?_
  have hf := hf1.trans hf3
  refine ldI0 hb3 rfl ?_
  exact bN (by decide) ⟨a1, a3, rfl, hf3.heap hb1, hb3, by omega, by omega, hf⟩
def toks {sn : Nat} (b : List UInt8) (xs : List (Al sn)) : List UInt8 := xs.flatMap fun x => tokF b x.1
theorem toks_upto {sn : Nat} {b : List UInt8} (hn : sn = b.length) : ∀ k, toks b (upto sn k) ++ plainS (b.drop (128 * k)) = plainS b
  | 0 => rfl
  | k + 1 => by
    subst hn
    rw [upto]
    by_cases h : 128 * k < b.length
    · rw [dif_pos h]
      have ih := toks_upto (b := b) rfl k
      rw [plainS_tok h] at ih
      unfold toks at ih ⊢
      rw [List.flatMap_append, List.append_assoc]
      simpa using ih
    · rw [dif_neg h, List.append_nil]
      have ih := toks_upto (b := b) rfl k
      rw [List.drop_eq_nil_of_le (by omega)] at ih ⊢
      exact ih
theorem toks_len {sn : Nat} (b : List UInt8) : ∀ xs : List (Al sn), (toks b xs).length ≤ 129 * xs.length
  | [] => Nat.le_refl _
  | x :: xs => by
    have := toks_len b xs
    unfold toks at this ⊢
    rw [List.flatMap_cons, List.length_append, List.length_cons]
    have h1 : (tokF b x.1).length ≤ 129 := by unfold tokF; rw [List.length_cons, List.length_take]; omega
    omega
/-- What holds between two rounds. -/
def litI (w0 : World) (base Bx a1 a3 : Nat) (o b : List UInt8) (sb : Sl) {sn : Nat} (pre : List (Al sn)) (W : World) : Prop :=
  ∃ r : Sl, W.heap[Bx]? = some (.cells #[.slice r.a r.n r.c] t_s_uint8 (0, 0)) ∧ OwB W base t_uint8 r (o ++ toks b pre) ∧ (∀ k, (Value.slice r.a r.n r.c).ownBlock = some k → k ≠ Bx ∧ k ≠ a1 ∧ k ≠ a3) ∧ Bs W sb b ∧ Below base w0 W
theorem litI_own {w0 : World} {base Bx a1 a3 B : Nat} {o b : List UInt8} {sb : Sl} (hB : base ≤ B) (h0 : base ≤ w0.heap.size) (hold : b ≠ [] → ∀ ad, sb.a = some ad → ad.block < base) : OwnFrom B (litI w0 base Bx a1 a3 o b sb (sn := sb.n)) := by
  rintro s W W' row ⟨r, h1, h2, h3, h4, h5⟩ hg hr
  have keep : ∀ (k : Nat) (cs : Array Value) (t : TypeId) (f : Nat × Nat), W.heap[k]? = some (.cells cs t f) → W'.heap[k]? = W.heap[k]? := fun k cs t f hk =>
    hg.block k (Array.getElem?_eq_some_iff.1 hk).1 fun e => by
      obtain ⟨_, ob, hob, hc⟩ := hr k e.symm
      rw [hk] at hob
      cases hob
      cases hc
  refine ⟨r, (keep _ _ _ _ h1).trans h1, ?_, h3, ?_, ?_⟩
  · refine h2.kp (S := fun k => W'.heap[k]? = W.heap[k]?) (fun k _ hk => hk) fun ad had => ?_
    rcases h2.2 with ⟨hv, _⟩ | ⟨g, cap, cur, hv, _, hgg, _⟩
    · rw [had] at hv; cases hv
    · rw [had] at hv; injection hv with hv; cases hv; exact keep _ _ _ _ hgg
  · refine h4.kpn (S := fun k => k < base) (fun k hk hkb => hg.block k hk fun e => ?_) hold
    have := (hr k e.symm).1
    omega
  · exact h5.grown hg (Nat.le_trans h0 h5.size) (fun k hk => by have := (hr k hk).1; omega)
theorem chunk_bs {w : World} {sb : Sl} {b : List UInt8} (h : Bs w sb b) {k : Nat} (hk : 128 * k < b.length) : Bs w (chk sb k) ((b.drop (128 * k)).take 128) := by
  have hn := h.len
  have hc := h.cap
  obtain ⟨hr, hl, _⟩ := h.cut (i := 128 * k) (j := 128 * k + min 128 (b.length - 128 * k)) (by omega) (by omega)
  have e : (b.take (128 * k + min 128 (b.length - 128 * k))).drop (128 * k) = (b.drop (128 * k)).take 128 := by
    rw [List.drop_take, Nat.add_sub_cancel_left]
    apply List.take_eq_take_iff.2
    rw [List.length_drop]
    omega
  rw [e] at hr
  unfold chk
  refine ⟨?_, by show min 128 (sb.n - 128 * k) = _; rw [List.length_take, List.length_drop]; omega, Nat.le_refl _⟩
  unfold Fl.cut at hr
  rw [if_neg (by omega)] at hr
  exact hr
theorem literals_ok {so sb : Sl} {base : Nat} {o b : List UInt8} {w : World} (ho : OwB w base t_uint8 so o) (hb : Bs w sb b) (hold : b ≠ [] → ∀ ad, sb.a = some ad → ad.block < base) (hbase : base ≤ w.heap.size) (hlb : b.length ≤ 137438953472) (hlo : o.length ≤ 35184372088832) :
    cl Tryd.prog n_lz_literals #[.slice so.a so.n so.c, .slice sb.a sb.n sb.c] .L w fun (r : Sl) w' => OwB w' base t_uint8 r (o ++ plainS b) ∧ Below base w w' := by
  have hn := hb.len
  refine (callsIn_wide (n := 3)).1 ?_
  refine callsIn_of_wp_marks (c := code24) Tryd.func61 k24 trivial ?_ rfl
  rw [k24a, act24]
  refine wpIn_seq (inW (an := na) (by kernel_rfl) ?_)
  rw [lit0]
  refine nwI fun Bx w1 hBx hs1 hf1 hblk1 _ => ?_
  refine wpIn_seq (wpIn_seq (inW (an := na) (by kernel_rfl) ?_))
  rw [lit1]
  refine (Chunk_ok (s := sb) (w := w1)).mono ?_
  rintro x7 w2 ⟨a1, a3, rfl, c1, c3, g1, g3, hf2⟩
  have hf := hf1.trans hf2
  have hh := hf.size
  have hBx2 := hf2.heap hblk1
  have l1 := (Array.getElem?_eq_some_iff.1 c1).1
  have l3 := (Array.getElem?_eq_some_iff.1 c3).1
  refine wpIn_block ?_
  refine wpIn_rangeFunc_ownF rfl (by decide) (gf := n_slices_Chunk_byte_byte_1) (lb := #[.pointer (some ⟨a1, 0, none⟩), .pointer (some ⟨a3, 0, none⟩)]) rfl trivial (enters_of Tryd.func71 (by kernel_rfl) k45)
    (chunk_stops sb hb.cap (by omega) c1 c3) (fun h k => ⟨k.1.trans h.1, k.2.trans h.2⟩) ?_ (Below.refl _ _) (fun _ => rfl)
    (litI w2 base Bx a1 a3 o b sb) (fun _ _ _ => False) (litI_own (by omega) (by omega) hold) (fun _ _ _ _ _ h _ _ => h) ?_
    (fun x => acts (t24 so sb ⟨Bx, 0, none⟩ (.func (.func n_slices_Chunk_byte_byte_1) #[] #[.pointer (some ⟨a1, 0, none⟩), .pointer (some ⟨a3, 0, none⟩)]) (.v (.slice (chk sb x.1).a (chk sb x.1).n (chk sb x.1).c)) (.v (.slice (chk sb x.1).a (chk sb x.1).n (chk sb x.1).c)))) ?assign ?body ?done ?stop
  · intro W l ob ob' hl _ _ _
    have e1 : l ≠ a1 := by omega
    have e3 : l ≠ a3 := by omega
    exact ⟨World.putObj_heap_other (Ne.symm e1), World.putObj_heap_other (Ne.symm e3)⟩
  · refine ⟨so, hBx2, ?_, fun k hk => ?_, hb.fr hf, Below.refl _ _⟩
    · have := ho.fr hf
      simpa [toks] using this
    · have := (ho.block k hk).2
      omega
  case assign =>
    intro l x W K hK
    rw [show enc1 sb x = #[.slice (chk sb x.1).a (chk sb x.1).n (chk sb x.1).c] from rfl, actA]
    refine inR (by kernel_rfl) (fun o ho c => noDefer_of nd24A ho c) (by rintro ⟨a, w, h⟩; exact h) ?_
    rw [litA]
    exact hK
  case body =>
    rintro l pre x W ⟨r, hB, hr, hne, hb', hlow⟩ hlen
    refine wpIn_block ?_
    refine inR (by kernel_rfl) (fun o ho c => noDefer_of nd24B ho c) (by rintro ⟨a, w, h⟩; exact h) ?_
    have hx : 128 * x.1 < b.length := by have := x.2; omega
    have htl := toks_len b pre
    have hch := chunk_bs hb' hx
    have hcl := hch.len
    rw [List.length_take, List.length_drop] at hcl
    show opsVC Tryd.prog opsB (fun _ w' => KeepsOthers W w' ∧ (w'.heap[a1]? = W.heap[a1]? ∧ w'.heap[a3]? = W.heap[a3]?) ∧ litI w2 base Bx a1 a3 o b sb (pre ++ [x]) w') opsB _ W
    unfold t24
    rw [litB]
    refine ldL0 hB rfl ?_
    have hsz := hlow.size
    have hlW := hb'.lt
    refine nwI fun a14 w3 ha14 hs14 hf14 hblk14 hrd14 => ?_
    have hc14 : IntKind.u8.wrap (IntKind.i64.wrap (((chk sb x.1).n : Int) - 1)) = ((UInt8.ofNat (min 128 (b.length - 128 * x.1) - 1)).toNat : Int) := by
      rw [i64w (by omega) (by omega), u8w, u8_ofNat]
      omega
    rw [hc14] at hrd14 hblk14
    refine app_B slB (base := base) (m := [UInt8.ofNat (min 128 (b.length - 128 * x.1) - 1)]) (hr.fr hf14) hrd14 rfl (by rw [List.length_append]; simp; omega) (by have := hf14.size; omega) fun r15 w4 h15 hb15 hk15 hat15 => ?_
    have hch4 : Bs w4 (chk sb x.1) ((b.drop (128 * x.1)).take 128) := by
      refine hch.kpn (S := fun k => k < base) (fun k hk hkb => (hb15.block k hkb).trans (hf14.block k hk)) fun hne' ad had => ?_
      unfold chk at had
      cases hsa : sb.a with
      | none => rw [hsa] at had; cases had
      | some ad' =>
        rw [hsa] at had
        simp only [Option.map_some, Option.some.injEq] at had
        rw [← had, add_block]
        exact hold (fun e => by rw [e] at hx; simp at hx) ad' hsa
    have hs15 := hb15.size
    refine app_B slB (base := base) h15 hch4.rd hch4.len.symm (by simp only [List.length_append, List.length_cons, List.length_nil, List.length_take, List.length_drop]; omega) (by have := hf14.size; omega) fun r17 w5 h17 hb17 hk17 hat17 => ?_
    have hlt14 := hf14.size
    have hs17 := hb17.size
    have own_lt : ∀ k, (Value.slice r.a r.n r.c).ownBlock = some k → k < W.heap.size := fun k hk => (hr.block k hk).2
    have ne15 : ∀ k, k < W.heap.size → (Value.slice r.a r.n r.c).ownBlock ≠ some k → (Value.slice r15.a r15.n r15.c).ownBlock ≠ some k := fun k hk hne e => by
      rcases hat15 with h | h
      · rw [h] at e; exact hne e
      · rw [h] at e; cases e; omega
    have kk : ∀ k, k < W.heap.size → (Value.slice r.a r.n r.c).ownBlock ≠ some k → w5.heap[k]? = W.heap[k]? := fun k hk hne => by
      rw [hk17 k (by omega) (ne15 k hk hne), hk15 k (by omega) hne, hf14.block k hk]
    have hBl := (Array.getElem?_eq_some_iff.1 hB).1
    have hBne : (Value.slice r.a r.n r.c).ownBlock ≠ some Bx := fun e => (hne Bx e).1 rfl
    refine st0 ((kk Bx hBl hBne).trans hB) (by simp) fun w6 hb6 hg6 hs6 => ?_
    have k6 : ∀ k, k < W.heap.size → k ≠ Bx → (Value.slice r.a r.n r.c).ownBlock ≠ some k → w6.heap[k]? = W.heap[k]? := fun k hk hB' hne => by
      rw [hg6.block k (by omega) (by simp; omega)]; exact kk k hk hne
    have hL6 : Below base W w6 := (((hf14.mono (by omega)).trans hb15).trans hb17).grown hg6 (by omega) (fun k hk => by cases hk; omega)
    have hne17 : ∀ k, (Value.slice r17.a r17.n r17.c).ownBlock = some k → k ≠ Bx ∧ k ≠ a1 ∧ k ≠ a3 := fun k hk => by
      rcases hat17 with h | h
      · rw [h] at hk
        rcases hat15 with h' | h'
        · rw [h'] at hk; exact hne k hk
        · rw [h'] at hk; cases hk; omega
      · rw [h] at hk; cases hk; omega
    refine ⟨⟨by omega, fun k ob hk ho' => ?_⟩, ⟨k6 a1 (by omega) (by omega) fun e => (hne a1 e).2.1 rfl, k6 a3 (by omega) (by omega) fun e => (hne a3 e).2.2 rfl⟩, ⟨r17, ?_, ?_, hne17, ?_, hlow.trans hL6⟩⟩
    · rw [k6 k (Array.getElem?_eq_some_iff.1 hk).1 (fun e => by rw [e, hB] at hk; cases hk; cases ho') (fun e => ?_)]
      · exact hk
      · rcases hr.2 with ⟨hv, _⟩ | ⟨g, cap, cur, hv, _, hgg, _⟩
        · rw [hv] at e; cases e
        · rw [hv] at e; cases e; rw [hgg] at hk; cases hk; cases ho'
    · simpa using hb6
    · have ht : o ++ toks b (pre ++ [x]) = o ++ toks b pre ++ [UInt8.ofNat (min 128 (b.length - 128 * x.1) - 1)] ++ (b.drop (128 * x.1)).take 128 := by
        unfold toks
        rw [List.flatMap_append]
        simp [tokF]
      rw [ht]
      exact h17.kp (S := fun k => k ≠ Bx) (fun k hk hkB => hg6.block k hk (by simp; omega)) fun ad had => (hne17 ad.block (by rw [had]; rfl)).1
    · exact hb'.kpn (S := fun k => k < base) (fun k _ hk => hL6.block k hk) hold
  case done =>
    rintro D ys W hD ⟨m, hm, rfl⟩ hI hK
    obtain ⟨r', hB', hr', hne', hb'', hlow'⟩ := (litI_own (w0 := w2) (base := base) (Bx := Bx) (a1 := a1) (a3 := a3) (B := w2.heap.size) (o := o) (b := b) (sb := sb) (by omega) (by omega) hold).putObj (.deferred none) hI hD hK rfl
    obtain ⟨r, hB, hr, hne, hb', hlow⟩ := hI
    have hrr : r' = r := by
      have e : (W.putObj D (.deferred none)).heap[Bx]? = W.heap[Bx]? := World.putObj_heap_other (by have := (Array.getElem?_eq_some_iff.1 hBx2).1; omega)
      rw [e, hB] at hB'
      simp only [Option.some.injEq, Obj.cells.injEq, Array.mk.injEq, List.cons.injEq, Value.slice.injEq, and_true] at hB'
      obtain ⟨e1, e2, e3⟩ := hB'
      cases r; cases r'; simp_all
    subst hrr
    simp only [Exit.inBlock, Exit.then]
    show (Code.seq (.region 4 opsE.toArray false) .ret).wpIn _ _ _ _ (more [{ target := .collected D, args := #[] }] (acts _)) W
    refine wpIn_seq (wpIn_region_lit (listIn_more (opsW (r := none) (by kernel_rfl) (fun o ho c => noDefer_of ndE ho c) ?_ ?_)))
    · rintro ⟨a, w, x, hx, _⟩
      cases hx
    · rw [litE]
      refine ldL0 hB rfl ?_
      refine wpIn_ret ?_
      refine ⟨by simp, .inl ⟨_, _, rfl, run_takeDeferred hK, ?_⟩⟩
      refine ⟨_, results_tmp res24 _ _ _, r', rfl, ?_, (hf.mono hbase).trans hlow'⟩
      have e := toks_upto (b := b) hn m
      rw [List.drop_eq_nil_of_le (by omega), plainS_nil, List.append_nil] at e
      rw [← e]
      exact hr'
  case stop =>
    rintro D c pre W _ _ h _
    exact h.elim
end Go.Proofs.YtkaombhkepopgaaDoor
namespace Go.Proofs.YtkaombhkepopgaaDoor
open Go.RowKit Go.Fl

theorem bestS_lt {b : List UInt8} {p : Nat} : (bestS b p).2 < 3 ↔ (longS b p).2 < 3 := by
  unfold bestS filt
  split
  · rename_i h; exact ⟨fun _ => h, fun _ => by decide⟩
  · exact Iff.rfl
theorem bestS_eq {b : List UInt8} {p : Nat} (h : ¬(longS b p).2 < 3) : bestS b p = longS b p := by unfold bestS filt; rw [if_neg h]
theorem chn_new {sb : Sl} {b : List UInt8} {w0 w1 w2 w3 : World} {r g c : Nat} (hb : Bs w0 sb b) (h1 : w1 = w0.alloc (.map #[] 0)) (hr : r = w0.heap.size) (hg : w2.heap[g]? = some (.cells (List.replicate b.length (Value.int .i64 0)).toArray t_int (0, 0))) (hgr : g = w1.heap.size) (hf2 : Fr w1 w2)
    (hc : w3.heap[c]? = some (.cells #[.slice sb.a sb.n sb.c, .map (some r), .slice (some ⟨g, 0, none⟩) b.length b.length] t_lz_chains (0, 0))) (hcw : c = w2.heap.size) (hf3 : Fr w2 w3) : Chn w3 c sb b r g 0 := by
  subst h1 hr
  have hf1 : Fr w0 (w0.alloc (.map #[] 0)) := Fr.alloc _ _
  have hs1 : (w0.alloc (.map #[] 0)).heap.size = w0.heap.size + 1 := by simp
  have hm := MapF.new w0 (keyB (n := 3))
  have hgl := (Array.getElem?_eq_some_iff.1 hg).1
  refine ⟨hc, ((hb.fr hf1).fr hf2).fr hf3, hb.lt, ?_, ?_, by omega, by omega⟩
  · have : headF b 0 = fun _ => none := by funext k; unfold headF lastP; rfl
    rw [this]
    exact hm.sub ((hf3.block _ (by omega)).trans (hf2.block _ (by omega)))
  · have : prevL b 0 = List.replicate b.length (Value.int .i64 0) := by
      unfold prevL
      apply List.ext_getElem?
      intro i
      rw [List.getElem?_map, List.getElem?_replicate]
      by_cases hi : i < b.length
      · rw [List.getElem?_range hi, if_pos hi]; simp
      · rw [List.getElem?_eq_none (by simp; omega), if_neg hi]; rfl
    rw [this]
    exact (hf3.block g hgl).trans hg
theorem Shorten_ok {s : Sl} {b : List UInt8} {w : World} (hs : Bs w s b) (hl : b.length ≤ 1073741824) :
    cl Tryd.prog n_lz_Shorten #[.slice s.a s.n s.c] .L w fun (r : Sl) w' => OwB w' w.heap.size t_uint8 r (shortS b) ∧ Fr w w' := by
  refine lz_Shorten.cl ?_
  unfold lz_Shorten
  have hn := hs.len
  refine ⟨some w.heap.size, w.alloc (.map #[] 0), run_makeMap _ _, ?_⟩
  have hf1 : Fr w (w.alloc (.map #[] 0)) := Fr.alloc _ _
  refine mksN (z := .int .i64 0) (bytes := 8) u_s_int (by kernel_rfl) rfl w.heap.size b.length (by omega) (by omega) (by omega) hf1.size fun w4 ho4 hg4 hs4 hf4 => ?_
  refine nwI fun c w6 hc hs6 hf6 hc6 _ => ?_
  have hC := chn_new (sb := s) (b := b) (w0 := w) hs rfl rfl hg4 rfl hf4 hc6 hc hf6
  have hf : Fr w w6 := (hf1.trans hf4).trans hf6
  have hcw : w.heap.size ≤ c := by have := (hf1.trans hf4).size; omega
  have hold := hC.old
  have hrg := hC.rg
  have hgc := hC.gc
  generalize (w.alloc (.map #[] 0)).heap.size = g at *
  clear hg4 hs4 hs6 ho4
  have sub : ∀ {w' : World} {r : Sl}, (∀ ad, r.a = some ad → ∃ ad', s.a = some ad' ∧ ad.block = ad'.block) → ∀ {l : List UInt8}, (l ≠ [] → b ≠ []) → l ≠ [] → ∀ ad, r.a = some ad → ad.block < c + 1 := fun {w' r} h {l} hlb hl0 ad ha => by
    obtain ⟨ad', h1, h2⟩ := h ad ha
    have := hold (hlb hl0) ad' h1
    omega
  refine lpI (fun s' w' => Fr w w' ∧ ∃ (lo p : Nat) (o : List UInt8), lo ≤ p ∧ p ≤ b.length ∧ s'.2.1 = lo ∧ s'.2.2.1 = p ∧ o.length ≤ 20 * lo ∧ OwB w' (c + 1) t_uint8 s'.1 o ∧ Chn w' c s b w.heap.size g p ∧ o ++ shortF b (b.length + 1 - p) lo p = shortS b) (fun s' _ => (b.length - s'.2.2.1).toNat)
    ⟨hf, 0, 0, [], Nat.le_refl _, Nat.zero_le _, rfl, rfl, by simp, OwB.nil _ _ _, hC, rfl⟩ ?_
  clear hC hc6 hf6 hf4 hf1 hf
  rintro _ ⟨out, from', p', ⟨⟩⟩ w8 ⟨hf8, lo, p, o, hlo, hp, rfl, rfl, hol, ho, hC, heq⟩
  dsimp only at ho ⊢
  have hfit := bestS_fits hp
  have hclt := hC.lt
  refine bD ?_ ?_ <;> intro hlt
  · have hpl : p < b.length := by omega
    rw [show b.length + 1 - p = (b.length - p) + 1 from by omega, shortF, if_pos hpl] at heq
    refine (best_ok hC hp (by omega)).mono ?_
    rintro _ w12 ⟨rfl, hf12⟩
    dsimp only
    have ho := ho.fr hf12
    have hC := hC.fr hf12
    have hf12' := hf8.trans hf12
    have hsz := hf12'.size
    refine bD ?_ ?_ <;> intro h3
    · rw [if_pos (bestS_lt.1 (by omega))] at heq
      refine (put_ok hC hp (by omega)).mono ?_
      rintro _ w14 ⟨hC14, hB14, hK14⟩
      rw [i64w (by omega) (by omega)]
      refine ⟨⟨hf12'.on hB14, lo, p + 1, o, by omega, by omega, rfl, by simp, hol, ho.kp hK14 (fun ad had => by have := (ho.own ad had).1; omega), hC14, ?_⟩, by omega⟩
      rw [← heq, show b.length + 1 - (p + 1) = b.length - p from by omega]
    · have hl3 : ¬(longS b p).2 < 3 := fun h => h3 (by have := bestS_lt.2 h; omega)
      rw [if_neg hl3, ← bestS_eq hl3] at heq
      generalize (bestS b p).2 = n at *
      generalize (bestS b p).1 = back at *
      have hpl2 := plainS_len ((b.take p).drop lo)
      rw [List.length_drop, List.length_take] at hpl2
      refine slsB hC.bs (by omega) (by omega) (by omega) fun r15 h15 hblk15 _ => ?_
      rw [Int.toNat_natCast, Int.toNat_natCast] at h15
      refine (literals_ok ho h15 (sub (w' := w12) hblk15 (fun h e => h (by rw [e]; simp))) (by have := hC.lt; omega) (by simp; omega) (by omega)).mono ?_
      rintro x16 w17 ⟨h16, hb16⟩
      have hC17 := hC.low hb16
      have hf17 : Fr w w17 := hf12'.on (hb16.mono (by omega))
      have hc : IntKind.u8.wrap (IntKind.i64.wrap (IntKind.i64.wrap (128 + (n : Int)) - 3)) = ((UInt8.ofNat (n + 125)).toNat : Int) := by
        rw [i64w (n := 128 + (n : Int)) (by omega) (by omega), i64w (by omega) (by omega), u8w, u8_ofNat]; omega
      rw [hc]
      refine nwI fun b18 w19 hb18 hs18 hf19 hblk19 hrd19 => ?_
      have hs17 := hf17.size
      have hc17 := hC17.lt
      refine app_B slB (base := c + 1) (m := [UInt8.ofNat (n + 125)]) (h16.fr hf19) hrd19 rfl (by simp; omega) (by omega) fun r20 w21 h20 hb20 _ _ => ?_
      have hC21 := (hC17.fr hf19).low hb20
      have hf21 : Fr w w21 := (hf17.trans hf19).on (hb20.mono (by omega))
      refine (octet_Number_ok h20.bs (by simp; omega) (by omega)).mono ?_
      rintro x22 w23 ⟨h22, hf23⟩
      rw [Int.toNat_natCast] at h22
      have h22 := h22.mono (show c + 1 ≤ w21.heap.size from hC21.lt)
      have h9 := numB_le back
      refine lpI (fun s' w' => Fr w w' ∧ ∃ m : Nat, m ≤ n ∧ s'.1 = ((p + m : Nat) : Int) ∧ s'.2.1 = m ∧ OwB w' (c + 1) t_uint8 x22 (o ++ plainS ((b.take p).drop lo) ++ [UInt8.ofNat (n + 125)] ++ numB back) ∧ Chn w' c s b w.heap.size g (p + m)) (fun s' _ => (n - s'.2.1).toNat)
        ⟨hf21.trans hf23, 0, Nat.zero_le _, rfl, rfl, h22, hC21.fr hf23⟩ ?_
      rintro _ ⟨i', m', ⟨⟩⟩ w25 ⟨hf25, m, hm, rfl, rfl, h25, hC25⟩
      dsimp only at h25 ⊢
      refine bD ?_ ?_ <;> intro hmn
      · refine (put_ok hC25 (by omega) (by omega)).mono ?_
        rintro _ w29 ⟨hC29, hB29, hK29⟩
        rw [i64w (n := ((p + m : Nat) : Int) + 1) (by omega) (by omega), i64w (n := (m : Int) + 1) (by omega) (by omega)]
        exact ⟨⟨hf25.on hB29, m + 1, by omega, by omega, by simp, h25.kp hK29 (fun ad had => by have := (h25.own ad had).1; omega), hC29⟩, by omega⟩
      · obtain rfl : m = n := by omega
        refine ⟨⟨hf25, p + m, p + m, _, Nat.le_refl _, by omega, rfl, rfl, ?_, h25, hC25, ?_⟩, by omega⟩
        · simp; omega
        · rw [← heq, shortF_any (f := b.length + 1 - (p + m)) (g := b.length - p) (by omega) (by omega) (by omega)]
          simp
  · obtain rfl : p = b.length := by omega
    rw [show b.length + 1 - b.length = 0 + 1 from by omega, shortF, if_neg (by omega)] at heq
    have hpl2 := plainS_len (b.drop lo)
    rw [List.length_drop] at hpl2
    refine slsB hC.bs (by omega) (by omega) (by omega) fun r30 h30 hblk30 _ => ?_
    have e30 : (b.take (s.n : Int).toNat).drop (lo : Int).toNat = b.drop lo := by rw [List.take_of_length_le (by omega), Int.toNat_natCast]
    rw [e30] at h30
    refine (literals_ok ho h30 (sub (w' := w8) hblk30 (fun h e => h (by rw [e]; simp))) (by omega) (by simp; omega) (by omega)).mono ?_
    rintro x31 w32 ⟨h31, hb31⟩
    rw [heq] at h31
    exact ⟨h31.mono (by omega), hf8.on (hb31.mono (by omega))⟩
end Go.Proofs.YtkaombhkepopgaaDoor
namespace Go.Proofs.YtkaombhkepopgaaDoor
open Go.RowKit Go.Fl

theorem Rot_ok {x : Int} {k : Int} (n : Nat) (h1 : bits .and .u64 (IntKind.u64.wrap k) 31 = ((32 - n : Nat) : Int)) (hn : 1 ≤ n) (hn2 : n ≤ 31) {w : World} : cl Tryd.prog n_math_bits_RotateLeft32 #[.int .u32 x, .int .i64 k] (.I .u32) w fun (r : Int) w' => r = rotS x n ∧ w = w' := by
  refine math_bits_RotateLeft32.cl ?_
  unfold math_bits_RotateLeft32
  rw [h1]
  refine bP (by omega) ?_
  have h2 : IntKind.u64.wrap (32 - ((32 - n : Nat) : Int)) = (n : Int) := by rw [u64w (by omega) (by omega)]; omega
  rw [h2]
  refine bP (by omega) ⟨?_, rfl⟩
  rw [show min ((32 - n : Nat) : Int).toNat 32 = 32 - n from by omega, show min ((n : Nat) : Int).toNat 32 = n from by omega]
  rfl
theorem spread_ok {s : Sl} {b : List UInt8} {w : World} (hs : Bs w s b) (hl : b.length = 64) : cl Tryd.prog n_digest_spread #[.slice s.a s.n s.c] (.row 64) w fun (r : {l : List Value // l.length = 64}) w' => r.1 = ints (spreadS b 64) ∧ Fr w w' := by
  refine digest_spread.cl ?_
  unfold digest_spread
  have hn := hs.len
  refine nwI fun a1 w2 ha1 hs2 hf2 hb2 _ => ?_
  refine nwI fun a3 w4 ha3 hs4 hf4 hb4 _ => ?_
  have hz : (zrow 64 (.int .u32 0)).1 = ints (spreadS b 0 ++ List.replicate 64 0) := by simp [zrow, ints, spreadS]
  rw [hz] at hb4
  have hfa := hf2.trans hf4
  have step : ∀ {w' w'' : World}, Fr w w' → w'.grownBy w'' (some a3) → Fr w w'' := fun hf hg => hf.on (grown_below hg (by omega) hf.size)
  have byt : ∀ (w' : World) (i : Nat) (K : Int → Prop), Fr w w' → i < 64 → K (byteS b i) → ixa s.a s.n (i : Int) 1 fun a => ld (.I .u8) w' a K := by
    intro w' i K hf hi hK
    refine ixBc (c := b.getD i 0) hs.rd hs.len (by omega) ?_ hf hK
    rw [Int.toNat_natCast, List.getD_eq_getElem?_getD, List.getElem?_eq_getElem (by omega)]
    rfl
  refine lpI (fun s' w' => Fr w w' ∧ ∃ i : Nat, i ≤ 16 ∧ s'.1 = i ∧ w'.heap[a3]? = some (.cells (ints (spreadS b i ++ List.replicate (64 - i) 0)).toArray t_64_uint32 (0, 0)) ∧ w'.heap[a1]? = some (.cells (zrow 64 (.int .u32 0)).1.toArray t_64_uint32 (0, 0))) (fun s' _ => (16 - s'.1).toNat)
    ⟨hfa, 0, by decide, rfl, hb4, hf4.heap hb2⟩ ?_
  rintro _ ⟨i', ⟨⟩⟩ w6 ⟨hf6, i, hi, rfl, hb6, hc6⟩
  dsimp only
  have hsl := spreadS_length b i
  have put : ∀ (n : Nat) (v : Int) (w' : World) (K : World → Prop), n < 64 → Fr w w' → v = (if n < 16 then w16S b n else nextS (spreadS b n) n) → w'.heap[a3]? = some (.cells (ints (spreadS b n ++ List.replicate (64 - n) 0)).toArray t_64_uint32 (0, 0)) → w'.heap[a1]? = some (.cells (zrow 64 (.int .u32 0)).1.toArray t_64_uint32 (0, 0)) →
      (∀ w'', Fr w w'' → w''.heap[a3]? = some (.cells (ints (spreadS b (n + 1) ++ List.replicate (64 - (n + 1)) 0)).toArray t_64_uint32 (0, 0)) → w''.heap[a1]? = some (.cells (zrow 64 (.int .u32 0)).1.toArray t_64_uint32 (0, 0)) → K w'') → ixa (some ⟨a3, 0, none⟩) 64 (n : Int) 1 fun a => st1 w' a (.int .u32 v) K := by
    intro n v w' K hn hf hv h3 h1 hK
    have hln := spreadS_length b n
    refine ixSt h3 (by omega) (by omega) (by rw [ints_length, List.length_append, hln, List.length_replicate]; omega) fun w'' hb hg hsz => hK w'' (step hf hg) ?_ ?_
    · rw [hb]
      congr 4
      rw [spreadS, ← hv, Int.toNat_natCast]
      simp only [ints, List.map_append, List.map_cons, List.map_nil, List.map_replicate]
      rw [List.set_append_right _ _ (by rw [List.length_map]; omega), List.length_map, hln, Nat.sub_self, show 64 - n = (64 - (n + 1)) + 1 from by omega, List.replicate_succ]
      simp
    · rw [hg.block a1 (Array.getElem?_eq_some_iff.1 h1).1 (by simp; omega)]; exact h1
  refine bD ?_ ?_ <;> intro hlt
  · intro n2
    have hf9 := hf6.trans (Fr.drewN w6 n2)
    have hb9 : (w6.drewN n2).heap[a3]? = _ := hb6
    have hc9 : (w6.drewN n2).heap[a1]? = _ := hc6
    generalize w6.drewN n2 = w9 at *
    have e0 : IntKind.i64.wrap (4 * (i : Int)) = ((4 * i : Nat) : Int) := by rw [i64w (by omega) (by omega)]; omega
    have e1 : IntKind.i64.wrap (((4 * i : Nat) : Int) + 1) = ((4 * i + 1 : Nat) : Int) := by rw [i64w (by omega) (by omega)]; omega
    have e2 : IntKind.i64.wrap (((4 * i : Nat) : Int) + 2) = ((4 * i + 2 : Nat) : Int) := by rw [i64w (by omega) (by omega)]; omega
    have e3 : IntKind.i64.wrap (((4 * i : Nat) : Int) + 3) = ((4 * i + 3 : Nat) : Int) := by rw [i64w (by omega) (by omega)]; omega
    rw [e0, e1, e2, e3]
    refine byt w9 _ _ hf9 (by omega) (byt w9 _ _ hf9 (by omega) (byt w9 _ _ hf9 (by omega) (byt w9 _ _ hf9 (by omega) ?_)))
    refine put i _ w9 _ (by omega) hf9 (by rw [if_pos (by omega)]; rfl) hb9 hc9 fun w19 hf19 hb19 hc19 => ?_
    rw [i64w (by omega) (by omega)]
    exact ⟨⟨hf19, i + 1, by omega, rfl, hb19, hc19⟩, by omega⟩
  obtain rfl : i = 16 := by omega
  refine lpI (fun s' w' => Fr w w' ∧ ∃ i : Nat, 16 ≤ i ∧ i ≤ 64 ∧ s'.1 = i ∧ w'.heap[a3]? = some (.cells (ints (spreadS b i ++ List.replicate (64 - i) 0)).toArray t_64_uint32 (0, 0)) ∧ w'.heap[a1]? = some (.cells (zrow 64 (.int .u32 0)).1.toArray t_64_uint32 (0, 0))) (fun s' _ => (64 - s'.1).toNat)
    ⟨hf6, 16, by decide, by decide, rfl, hb6, hc6⟩ ?_
  rintro _ ⟨i', ⟨⟩⟩ w21 ⟨hf21, i, hi16, hi64, rfl, hb21, hc21⟩
  dsimp only
  have hln := spreadS_length b i
  have wrd : ∀ (w' : World) (k : Nat) (K : Int → Prop), w'.heap[a3]? = some (.cells (ints (spreadS b i ++ List.replicate (64 - i) 0)).toArray t_64_uint32 (0, 0)) → 1 ≤ k → k ≤ 16 → K ((spreadS b i).getD (i - k) 0) → ixa (some ⟨a3, 0, none⟩) 64 (IntKind.i64.wrap ((i : Int) - (k : Int))) 1 fun a => ld (.I .u32) w' a K := by
    intro w' k K hb hk hk2 hK
    rw [i64w (by omega) (by omega), show (i : Int) - (k : Int) = ((i - k : Nat) : Int) from by omega]
    refine ixW hb (by rw [List.length_append, hln, List.length_replicate]; omega) (by omega) ?_
    rw [List.getD_eq_getElem?_getD, List.getElem?_append_left (by omega), ← List.getD_eq_getElem?_getD]
    exact hK
  refine bD ?_ ?_ <;> intro hlt2
  · refine wrd w21 15 _ hb21 (by decide) (by decide) (wrd w21 2 _ hb21 (by decide) (by decide) ?_)
    intro n2
    have hf28 := hf21.trans (Fr.drewN w21 n2)
    have hb28 : (w21.drewN n2).heap[a3]? = _ := hb21
    have hc28 : (w21.drewN n2).heap[a1]? = _ := hc21
    generalize w21.drewN n2 = w28 at *
    refine (Rot_ok 7 (by decide) (by decide) (by decide)).mono ?_
    rintro _ _ ⟨rfl, rfl⟩
    refine (Rot_ok 18 (by decide) (by decide) (by decide)).mono ?_
    rintro _ _ ⟨rfl, rfl⟩
    refine (Rot_ok 17 (by decide) (by decide) (by decide)).mono ?_
    rintro _ _ ⟨rfl, rfl⟩
    refine (Rot_ok 19 (by decide) (by decide) (by decide)).mono ?_
    rintro _ _ ⟨rfl, rfl⟩
    intro n3
    have hf37 := hf28.trans (Fr.drewN w28 n3)
    have hb37 : (w28.drewN n3).heap[a3]? = _ := hb28
    have hc37 : (w28.drewN n3).heap[a1]? = _ := hc28
    generalize w28.drewN n3 = w37 at *
    refine wrd w37 16 _ hb37 (by decide) (by decide) (wrd w37 7 _ hb37 (by decide) (by decide) ?_)
    refine put i _ w37 _ (by omega) hf37 (by rw [if_neg (by omega)]; rfl) hb37 hc37 fun w43 hf43 hb43 hc43 => ?_
    rw [i64w (by omega) (by omega)]
    exact ⟨⟨hf43, i + 1, by omega, by omega, rfl, hb43, hc43⟩, by omega⟩
  · obtain rfl : i = 64 := by omega
    rw [Nat.sub_self, List.replicate_zero, List.append_nil] at hb21
    have h64 : (zrow 64 (.int .u32 0)).1.length = 64 := (zrow 64 (.int .u32 0)).2
    generalize (zrow 64 (.int .u32 0)).1 = z at *
    have hw64 : (ints (spreadS b 64)).length = 64 := by rw [ints_length, hln]
    have hone : ∀ v ∈ ints (spreadS b 64), v.oneCell' = true := fun v hv => by
      obtain ⟨x, _, rfl⟩ := List.mem_map.1 hv
      rfl
    generalize ints (spreadS b 64) = ws at *
    refine ldR0 hb21 hw64 ?_
    refine stL_row (cs := z) hc21 (by show 0 + ws.length ≤ z.length; omega) (fun v hv => by
      exact hone v hv) fun w45 hb45 hg45 hs45 => ?_
    have e : z.take 0 ++ ws ++ z.drop (0 + ws.length) = ws := by rw [List.drop_eq_nil_of_le (by omega)]; simp
    rw [e] at hb45
    exact ldR0 hb45 hw64 ⟨rfl, hf21.on (grown_below hg45 (by omega) hf21.size)⟩
theorem zero_state (w : World) : (zeroValue t_digest_state).run Tryd.prog w = .ok (.agg #[.int .u32 0, .int .u32 0, .int .u32 0, .int .u32 0, .int .u32 0, .int .u32 0, .int .u32 0, .int .u32 0]) w := run_zeroV (by kernel_rfl) w
theorem build_state (v0 v1 v2 v3 v4 v5 v6 v7 : Int) (w : World) : (Instr.build t_digest_state #[(0, .int .u32 v0), (1, .int .u32 v1), (2, .int .u32 v2), (3, .int .u32 v3), (4, .int .u32 v4), (5, .int .u32 v5), (6, .int .u32 v6), (7, .int .u32 v7)]).run Tryd.prog w = .ok (.agg (ints [v0, v1, v2, v3, v4, v5, v6, v7]).toArray) w := by
  simp [Instr.build, run_underlying u_digest_state, Instr.fill, Value.cells, ints]
theorem ints_one (l : List Int) : ∀ v ∈ ints l, v.oneCell' = true := fun v hv => by
  obtain ⟨x, _, rfl⟩ := List.mem_map.1 hv
  rfl
/-- A row of words is put into a new block. -/
theorem newRow {n : Nat} {l : List Int} {t : TypeId} {w : World} {K : Addr → World → Prop} (z : {l : List Value // l.length = n}) (hl : l.length = n)
    (h : ∀ a w', w.heap.size ≤ a → Fr w w' → a < w'.heap.size → w'.heap[a]? = some (.cells (ints l).toArray t (0, 0)) → K ⟨a, 0, none⟩ w') : nw w z.1 t fun a w2 => stL a w2 0 (ints l) fun w3 => K a w3 := by
  refine nwI fun a w2 ha hs hf hb _ => ?_
  refine stL_row (cs := z.1) hb (by rw [ints_length, hl, z.2]; omega) (ints_one l) fun w3 hb3 hg3 hs3 => h a w3 (by omega) (hf.on (grown_below hg3 (by omega) hf.size)) (by omega) ?_
  have e : z.1.take 0 ++ ints l ++ z.1.drop (0 + (ints l).length) = ints l := by rw [List.drop_eq_nil_of_le (by rw [ints_length, hl, z.2]; omega)]; simp
  rw [e] at hb3
  exact hb3
set_option maxHeartbeats 1000000 in
theorem stir_ok {s : Sl} {b : List UInt8} {w : World} {g : Nat} {h : List Int} {rest : List Value} {t : TypeId} {R : List Int} (hs : Bs w s b) (hl : b.length = 64) (hh : h.length = 8) (hg : w.heap[g]? = some (.cells (ints h ++ rest).toArray t (0, 0))) (hR : Glob w g_digest_rounds R) (hRl : R.length = 64) :
    cl Tryd.prog n_digest_state_stir #[.pointer (some ⟨g, 0, none⟩), .slice s.a s.n s.c] (.tup .nil) w fun (_ : Unit) w' => w'.heap[g]? = some (.cells (ints (stirS R h b) ++ rest).toArray t (0, 0)) ∧ w.grownBy w' (some g) := by
  refine digest_state_stir.cl ?_
  unfold digest_state_stir
  have hgl := (Array.getElem?_eq_some_iff.1 hg).1
  refine (spread_ok hs hl).mono ?_
  rintro ⟨x1, hx1⟩ w2 ⟨hx, hf2⟩
  dsimp only at hx
  have hwl := spreadS_length b 64
  obtain ⟨ws, hws⟩ : ∃ ws, spreadS b 64 = ws := ⟨_, rfl⟩
  rw [hws] at hx hwl
  subst hx
  refine newRow (l := ws) (zrow 64 (.int .u32 0)) hwl fun a3 w5 ha3 hf5 hl5 hb5 => ?_
  have hf5' := hf2.trans hf5
  show ld (.row 8) w5 ⟨g, 0, none⟩ _
  refine ldRow (vs := ints h) (hf5'.heap hg) (by rw [List.drop_zero, List.take_left' (by rw [ints_length, hh])]) (by rw [ints_length, hh]) ?_
  refine newRow (l := h) (zrow 8 (.int .u32 0)) hh fun a8 w10 ha8 hf10 hl10 hb10 => ?_
  have hf10' := hf5'.trans hf10
  have hs2 := hf2.size
  have hs5 := hf5.size
  refine lpI (fun s' w' => Fr w w' ∧ ∃ i : Nat, i ≤ 64 ∧ s'.1 = i ∧ w'.heap[a3]? = some (.cells (ints (ws)).toArray t_64_uint32 (0, 0)) ∧ w'.heap[a8]? = some (.cells (ints (roundsS R (ws) h i)).toArray t_digest_state (0, 0))) (fun s' _ => (64 - s'.1).toNat)
    ⟨hf10', 0, by decide, rfl, hf10.heap hb5, hb10⟩ ?_
  rintro _ ⟨i', ⟨⟩⟩ w12 ⟨hf12, i, hi, rfl, h3, h8⟩
  dsimp only
  have hrl := roundsS_length (K := R) (ws := ws) hh i
  generalize hX : roundsS R (ws) h i = X at *
  have xw : ∀ {w' : World} (k : Nat) {K : Int → Prop}, w'.heap[a8]? = some (.cells (ints X).toArray t_digest_state (0, 0)) → k < 8 → K (X.getD k 0) → ixa (some ⟨a8, 0, none⟩) 8 (k : Int) 1 fun a => ld (.I .u32) w' a K := fun k _ hb hk hK => ixW hb (by omega) hk hK
  refine bD ?_ ?_ <;> intro hlt
  · refine xw 0 h8 (by decide) (xw 4 h8 (by decide) ?_)
    intro n1
    have hf19 := hf12.trans (Fr.drewN w12 n1)
    have h3' : (w12.drewN n1).heap[a3]? = _ := h3
    have h8' : (w12.drewN n1).heap[a8]? = _ := h8
    generalize w12.drewN n1 = w19 at *
    refine (Rot_ok 6 (by decide) (by decide) (by decide)).mono ?_
    rintro _ _ ⟨rfl, rfl⟩
    refine (Rot_ok 11 (by decide) (by decide) (by decide)).mono ?_
    rintro _ _ ⟨rfl, rfl⟩
    refine (Rot_ok 25 (by decide) (by decide) (by decide)).mono ?_
    rintro _ _ ⟨rfl, rfl⟩
    refine xw 7 h8' (by decide) (xw 5 h8' (by decide) (xw 6 h8' (by decide) ?_))
    refine ixGlob (hR.fr hf19) (by omega) hRl ?_
    refine ixW h3' (by omega) (by omega) ?_
    intro n2
    have hf36 := hf19.trans (Fr.drewN w19 n2)
    have h3'' : (w19.drewN n2).heap[a3]? = _ := h3'
    have h8'' : (w19.drewN n2).heap[a8]? = _ := h8'
    generalize w19.drewN n2 = w36 at *
    refine (Rot_ok 2 (by decide) (by decide) (by decide)).mono ?_
    rintro _ _ ⟨rfl, rfl⟩
    refine (Rot_ok 13 (by decide) (by decide) (by decide)).mono ?_
    rintro _ _ ⟨rfl, rfl⟩
    refine (Rot_ok 22 (by decide) (by decide) (by decide)).mono ?_
    rintro _ _ ⟨rfl, rfl⟩
    refine xw 1 h8'' (by decide) (xw 2 h8'' (by decide) (xw 1 h8'' (by decide) (xw 2 h8'' (by decide) (xw 1 h8'' (by decide) (xw 2 h8'' (by decide) (xw 3 h8'' (by decide) (xw 5 h8'' (by decide) (xw 6 h8'' (by decide) ?_))))))))
    refine ⟨⟨ints (roundS X (R.getD i 0) ((ws).getD i 0)), rfl⟩, fun w' _ => build_state _ _ _ _ _ _ _ _ w', ?_⟩
    refine stL_row (cs := ints X) h8'' (by rw [ints_length, ints_length]; show 0 + 8 ≤ X.length; omega) (ints_one _) fun w62 hb62 hg62 hs62 => ?_
    have e : (ints X).take 0 ++ ints (roundS X (R.getD i 0) ((ws).getD i 0)) ++ (ints X).drop (0 + (ints (roundS X (R.getD i 0) ((ws).getD i 0))).length) = ints (roundsS R (ws) h (i + 1)) := by
      rw [List.drop_eq_nil_of_le (by rw [ints_length, ints_length]; show X.length ≤ 0 + 8; omega), roundsS, hX]
      simp
    rw [e] at hb62
    rw [i64w (by omega) (by omega)]
    have ha38 : a3 ≠ a8 := by omega
    refine ⟨⟨hf36.on (grown_below hg62 (by omega) hf36.size), i + 1, by omega, rfl, ?_, hb62⟩, by omega⟩
    rw [hg62.block a3 (Array.getElem?_eq_some_iff.1 h3'').1 (by simp; omega)]; exact h3''
  obtain rfl : i = 64 := by omega
  have hSl := stirS_length R h b
  have hSg : ∀ j, j < 8 → (stirS R h b).getD j 0 = w32 (h.getD j 0 + X.getD j 0) := by
    intro j hj
    rw [← hX, stirS, hws, List.getD_eq_getElem?_getD, List.getElem?_map, List.getElem?_range hj]
    rfl
  generalize stirS R h b = S at *
  refine lpI (fun s' w' => ∃ i : Nat, i ≤ 8 ∧ s'.1 = i ∧ w'.heap[a8]? = some (.cells (ints X).toArray t_digest_state (0, 0)) ∧ w'.heap[g]? = some (.cells (ints (S.take i ++ h.drop i) ++ rest).toArray t (0, 0)) ∧ w.grownBy w' (some g)) (fun s' _ => (8 - s'.1).toNat)
    ⟨0, by decide, rfl, h8, by simpa using hf12.heap hg, fr_grown hf12⟩ ?_
  rintro _ ⟨j', ⟨⟩⟩ w64 ⟨j, hj, rfl, k8, kg, kf⟩
  dsimp only
  refine bD ?_ ?_ <;> intro hlt2
  · intro n3
    have k8 : (w64.drewN n3).heap[a8]? = _ := k8
    have kg : (w64.drewN n3).heap[g]? = _ := kg
    have kf : w.grownBy (w64.drewN n3) (some g) := kf.trans ⟨rfl, rfl, rfl, Nat.le_refl _, fun _ _ _ => rfl⟩
    generalize w64.drewN n3 = w67 at *
    have hcur : (ints (S.take j ++ h.drop j) ++ rest)[j]? = some (.int .u32 (h.getD j 0)) := by
      rw [List.getElem?_append_left (by rw [ints_length, List.length_append, List.length_take, List.length_drop]; omega), ints, List.getElem?_map, List.getElem?_append_right (by rw [List.length_take]; omega), List.length_take, Nat.min_eq_left (by omega), Nat.sub_self, List.getElem?_drop, Nat.add_zero, List.getElem?_eq_getElem (by omega)]
      simp [List.getD_eq_getElem?_getD, List.getElem?_eq_getElem (show j < h.length by omega)]
    refine ixH kg (by omega) (by omega) (by rw [Int.toNat_natCast]; exact hcur) ?_
    refine xw j k8 (by omega) ?_
    refine ixSt kg (by omega) (by omega) (by rw [Int.toNat_natCast, List.length_append, ints_length, List.length_append, List.length_take, List.length_drop]; omega) fun w75 hb75 hg75 hs75 => ?_
    rw [i64w (by omega) (by omega)]
    refine ⟨⟨j + 1, by omega, rfl, ?_, ?_, kf.trans hg75⟩, by omega⟩
    · rw [hg75.block a8 (Array.getElem?_eq_some_iff.1 k8).1 (by simp; omega)]; exact k8
    · have hset : S.take (j + 1) ++ h.drop (j + 1) = (S.take j ++ h.drop j).set j (S.getD j 0) := by
        rw [List.set_append_right _ _ (by rw [List.length_take]; omega), List.length_take, Nat.min_eq_left (by omega), Nat.sub_self, List.drop_eq_getElem_cons (show j < h.length by omega), List.set_cons_zero, List.take_succ_eq_append_getElem (by omega), List.append_assoc]
        simp [List.getD_eq_getElem?_getD, List.getElem?_eq_getElem (show j < S.length by omega)]
      rw [hb75, Int.toNat_natCast, List.set_append_left _ _ (by rw [ints_length, List.length_append, List.length_take, List.length_drop]; omega), show IntKind.u32.wrap (h.getD j 0 + X.getD j 0) = S.getD j 0 from (hSg j (by omega)).symm, hset]
      simp only [ints, List.map_set]
  · obtain rfl : j = 8 := by omega
    refine ⟨?_, kf⟩
    rw [kg, List.take_of_length_le (by omega), List.drop_eq_nil_of_le (by omega), List.append_nil]
end Go.Proofs.YtkaombhkepopgaaDoor
namespace Go.Proofs.YtkaombhkepopgaaDoor
open Go.RowKit Go.Fl

/-- The digest's tables. -/
structure Dig (w : World) : Prop where
  first : Glob w g_digest_first F0
  rounds : Glob w g_digest_rounds K0
theorem Dig.fr {w w' : World} (h : Dig w) (hf : Fr w w') : Dig w' := ⟨h.first.fr hf, h.rounds.fr hf⟩
/-- A hash: its state, what is left, how many. -/
def hTail (s : Sl) (n : Int) : List Value := [.slice s.a s.n s.c, .int .i64 n, .bool true]
def Hsh (w : World) (g : Nat) (h : List Int) (s : Sl) (n : Int) : Prop := w.heap[g]? = some (.cells (ints h ++ hTail s n).toArray t_digest_Hash (0, 0))
theorem hAt {h : List Int} (hh : h.length = 8) (s : Sl) (n : Int) (i : Nat) : (ints h ++ hTail s n).toArray[8 + i]? = (hTail s n)[i]? := by
  rw [List.getElem?_toArray, List.getElem?_append_right (by rw [ints_length]; omega), ints_length, hh, Nat.add_sub_cancel_left]
theorem hSet {h : List Int} (hh : h.length = 8) (s : Sl) (n : Int) (i : Nat) (v : Value) : (ints h ++ hTail s n).toArray.setIfInBounds (8 + i) v = (ints h ++ (hTail s n).set i v).toArray := by
  rw [List.setIfInBounds_toArray, List.set_append_right _ _ (by rw [ints_length]; omega), ints_length, hh, Nat.add_sub_cancel_left]
theorem New_ok {w : World} (hd : Dig w) : cl Tryd.prog n_digest_New #[] .P w fun (r : Option Addr) w' => ∃ g, r = some ⟨g, 0, none⟩ ∧ w.heap.size ≤ g ∧ Hsh w' g F0 ⟨none, 0, 0⟩ 0 ∧ Fr w w' := by
  refine digest_New.cl ?_
  unfold digest_New
  refine ldGlob hd.first rfl ?_
  refine nwI fun g w3 hg hs hf hb _ => ?_
  exact ⟨g, rfl, by omega, hb, hf⟩
theorem Write_ok {x : Sl} {b : List UInt8} {w : World} {g : Nat} (hd : Dig w) (H : Hsh w g F0 ⟨none, 0, 0⟩ 0) (hx : Bs w x b) (hl : b.length ≤ 140737488351232) (hg0 : b ≠ [] → ∀ ad, x.a = some ad → ad.block ≠ g) (hgd : g ≠ g_digest_rounds) :
    cl Tryd.prog n_digest_Hash_Write #[.pointer (some ⟨g, 0, none⟩), .slice x.a x.n x.c] (.tup .nil) w fun (_ : Unit) w' =>
      ∃ s : Sl, Hsh w' g (allS K0 (b.length + 1) F0 b).1 s b.length ∧ Bs w' s (allS K0 (b.length + 1) F0 b).2 ∧ (∀ ad, s.a = some ad → ad.block ≠ g) ∧ w.grownBy w' (some g) := by
  refine digest_Hash_Write.cl ?_
  unfold digest_Hash_Write
  have hgl := (Array.getElem?_eq_some_iff.1 H).1
  have hxn := hx.len
  have h8 : F0.length = 8 := rfl
  refine bF rfl ?_
  show ld .B w ⟨g, 10, none⟩ _
  refine ldB0 H (hAt h8 _ _ 2) (bF rfl ?_)
  show ld (.I .i64) w ⟨g, 9, none⟩ _
  refine ldI0 H (hAt h8 _ _ 1) ?_
  refine nzI ?_
  rw [addOff, Nat.zero_add]
  refine st0 H (by simp [ints_length, h8, hTail]) fun w6 hb6 hg6 hs6 => ?_
  rw [show (9 : Nat) = 8 + 1 from rfl, hSet h8] at hb6
  have hb6 : Hsh w6 g F0 ⟨none, 0, 0⟩ b.length := by
    rw [i64w (by omega) (by omega)] at hb6
    have : ((0 : Int) + (x.n : Int)) = (b.length : Int) := by omega
    rw [this] at hb6
    exact hb6
  intro n1
  have hb7 : Hsh (w6.drewN n1) g F0 ⟨none, 0, 0⟩ b.length := hb6
  have hg7 : w.grownBy (w6.drewN n1) (some g) := hg6.trans ⟨rfl, rfl, rfl, Nat.le_refl _, fun _ _ _ => rfl⟩
  generalize w6.drewN n1 = w7 at *
  have hs7 := hg7.size
  have hx7 : Bs w7 x b := hx.kpn (kp_grown hg7) hg0
  show ld .L w7 ⟨g, 8, none⟩ _
  refine ldL0 (s := ⟨none, 0, 0⟩) hb7 (hAt h8 _ _ 0) ?_
  show ld .L w7 ⟨g, 8, none⟩ _
  refine ldL0 (s := ⟨none, 0, 0⟩) hb7 (hAt h8 _ _ 0) ?_
  dsimp only
  refine mks0 slB w7.heap.size b.length (by rw [i64w (by omega) (by omega)]; omega) (by omega) (by omega) (Nat.le_refl _) fun w13 ho13 hf13 => ⟨hf13, ?_⟩
  refine app_B slB (base := w7.heap.size) (l := []) (m := []) ho13 (Rd.nil _ _) rfl (by simp) hf13.size fun r14 w15 h14 hb15 _ _ => ?_
  have hf15 := hf13.on hb15
  refine app_B slB (base := w7.heap.size) h14 (hx7.fr hf15).rd hx7.len.symm (by simp; omega) hf15.size fun r16 w17 h16 hb17 _ _ => ?_
  have hf17 := hf15.on hb17
  rw [List.append_nil, List.nil_append] at h16
  refine lpI (fun s' w' => ∃ (h : List Int) (l : List UInt8), h.length = 8 ∧ Bs w' s'.1 l ∧ (∀ ad, s'.1.a = some ad → ad.block ≠ g) ∧ Hsh w' g h ⟨none, 0, 0⟩ b.length ∧ w.grownBy w' (some g) ∧ l.length ≤ b.length ∧ allS K0 (l.length + 1) h l = allS K0 (b.length + 1) F0 b) (fun s' _ => s'.1.n)
    ⟨F0, b, h8, h16.bs, fun ad had => by have := (h16.own ad had).1; have := (Array.getElem?_eq_some_iff.1 hb7).1; omega, hf17.heap hb7, hg7.trans (fr_grown hf17), Nat.le_refl _, rfl⟩ ?_
  rintro _ ⟨s, ⟨⟩⟩ w19 ⟨h, l, hh8, hsl, hne, hH, hgr, hll, heq⟩
  dsimp only at hsl hne ⊢
  have hsn := hsl.len
  refine bD ?_ ?_ <;> intro h64
  · intro n2
    have hH : Hsh (w19.drewN n2) g h ⟨none, 0, 0⟩ b.length := hH
    have hsl : Bs (w19.drewN n2) s l := hsl.fr (Fr.drewN w19 n2)
    have hgr : w.grownBy (w19.drewN n2) (some g) := hgr.trans ⟨rfl, rfl, rfl, Nat.le_refl _, fun _ _ _ => rfl⟩
    generalize w19.drewN n2 = w22 at *
    refine nzI ?_
    refine slsB hsl (by decide) (by decide) (by omega) fun r24 h24 hblk24 _ => ?_
    rw [Int.toNat_zero, List.drop_zero, show (64 : Int).toNat = 64 from rfl] at h24
    have hK0 : Glob w22 g_digest_rounds K0 := hd.rounds.grown hgr hgd
    refine (stir_ok h24 (by rw [List.length_take]; omega) hh8 hH hK0 rfl).mono ?_
    rintro _ w26 ⟨hH26, hg26⟩
    have hsl26 : Bs w26 s l := hsl.kpn (kp_grown hg26) fun _ => hne
    refine slsB hsl26 (by decide) (by omega) (by omega) fun r27 h27 hblk27 _ => ?_
    have e27 : (l.take (s.n : Int).toNat).drop (64 : Int).toNat = l.drop 64 := by rw [List.take_of_length_le (by omega)]; rfl
    rw [e27] at h27
    have h27l := h27.len
    rw [List.length_drop] at h27l
    refine ⟨⟨stirS K0 h (l.take 64), l.drop 64, stirS_length _ _ _, h27, fun ad had => ?_, hH26, hgr.trans hg26, by rw [List.length_drop]; omega, ?_⟩, by omega⟩
    · obtain ⟨ad', h1, h2⟩ := hblk27 ad had
      rw [h2]; exact hne ad' h1
    · rw [allS, if_neg (by omega)] at heq
      rw [← heq]
      exact allS_any (by rw [List.length_drop]; omega) (by rw [List.length_drop]; omega)
  · refine nzI ?_
    rw [addOff, Nat.zero_add]
    refine st0 hH (by simp [ints_length, hh8, hTail]) fun w29 hb29 hg29 hs29 => ?_
    rw [show (8 : Nat) = 8 + 0 from rfl, hSet hh8] at hb29
    have e : allS K0 (l.length + 1) h l = (h, l) := by rw [allS, if_pos (by omega)]
    rw [← heq, e]
    exact ⟨s, hb29, hsl.kpn (kp_grown hg29) fun _ => hne, hne, hgr.trans hg29⟩
theorem Sum_ok {w : World} {g : Nat} {h : List Int} {s : Sl} {r : List UInt8} {n : Nat} (hR : Glob w g_digest_rounds K0) (H : Hsh w g h s n) (hh : h.length = 8) (hs : Bs w s r) (hr : r.length < 64) (hn : n ≤ 140737488351232) :
    cl Tryd.prog n_digest_Hash_Sum #[.pointer (some ⟨g, 0, none⟩)] (.row 32) w fun (x : {l : List Value // l.length = 32}) w' =>
      x.1 = u8s (outS (allS K0 ((zerosS 64 (r ++ [128]) ++ lenS n).length + 1) h (zerosS 64 (r ++ [128]) ++ lenS n)).1) ∧ Fr w w' := by
  refine digest_Hash_Sum.cl ?_
  unfold digest_Hash_Sum
  refine nwI fun a1 w2 ha1 hs2 hf2 hb1 _ => ?_
  refine nwI fun a3 w4 ha3 hs4 hf4 hb3 _ => ?_
  have hf := hf2.trans hf4
  have hz32 : (zrow 32 (.int .u8 0)).1 = u8s (List.replicate 32 0) := by simp [zrow, u8s]
  rw [hz32] at hb1 hb3
  have hb1 := hf4.heap hb1
  refine bF rfl ?_
  have H4 : Hsh w4 g h s n := hf.heap H
  refine nzI ?_
  rw [addOff, Nat.zero_add]
  refine ldB0 H4 (hAt hh _ _ 2) (bF rfl ?_)
  have stay : ∀ {u : World}, Fr w4 u → Hsh u g h s n := fun hu => hu.heap H4
  refine nwI fun a13 w14 ha13 hs14 hf14 hb13 _ => ?_
  refine nzI ?_
  rw [addOff, Nat.zero_add]
  refine ldL0 (stay hf14) (hAt hh _ _ 0) ?_
  refine app_B slB (base := w4.heap.size) (l := []) (OwB.new hb13 (by omega)) ((hs.fr hf).fr hf14).rd hs.len.symm (by simp; omega) hf14.size fun r17 w18 h17 hb18 _ _ => ?_
  have hf18 := hf14.on hb18
  rw [List.nil_append] at h17
  refine nwI fun a19 w20 ha19 hs20 hf20 hb20 hrd20 => ?_
  have hf20' := hf18.trans hf20
  refine app_B slB (base := w4.heap.size) (m := [128]) (h17.fr hf20) hrd20 rfl (by simp; omega) hf20'.size fun r21 w22 h21 hb22 _ _ => ?_
  have hf22 := hf20'.on hb22
  refine lpI (fun s' w' => Fr w4 w' ∧ ∃ (f : Nat) (l : List UInt8), OwB w' w4.heap.size t_uint8 s'.1 l ∧ zerosS f l = zerosS 64 (r ++ [128]) ∧ (120 - l.length % 64) % 64 ≤ f ∧ l.length + (120 - l.length % 64) % 64 ≤ 130) (fun s' _ => ((120 - s'.1.n % 64) % 64))
    ⟨hf22, 64, _, h21, rfl, by omega, by simp; omega⟩ ?_
  rintro _ ⟨e, ⟨⟩⟩ w24 ⟨hf24, f, l, hl, hz, hf64, hlb⟩
  dsimp only at hl ⊢
  have hen := hl.len
  have etm : Int.tmod (e.n : Int) 64 = ((l.length % 64 : Nat) : Int) := by rw [hen, Int.tmod_eq_emod_of_nonneg (by omega)]; omega
  rw [etm]
  refine bNe ?_ ?_ <;> intro h56
  · refine nwI fun a27 w28 ha27 hs28 hf28 hb28 hrd28 => ?_
    have hf28' := hf24.trans hf28
    refine app_B slB (base := w4.heap.size) (m := [0]) (hl.fr hf28) hrd28 rfl (by simp; omega) hf28'.size fun r29 w30 h29 hb30 _ _ => ?_
    have h29l := h29.len
    rw [List.length_append, List.length_cons, List.length_nil] at h29l
    cases f with
    | zero => omega
    | succ f =>
      rw [zerosS, if_neg (by omega)] at hz
      refine ⟨⟨hf28'.on hb30, f, _, h29, hz, by rw [List.length_append, List.length_cons, List.length_nil]; omega, by rw [List.length_append, List.length_cons, List.length_nil]; omega⟩, ?_⟩
      show (120 - r29.n % 64) % 64 < (120 - e.n % 64) % 64
      omega
  have hE : l = zerosS 64 (r ++ [128]) := by
    rw [← hz]
    cases f with
    | zero => rfl
    | succ f => rw [zerosS, if_pos (by omega)]
  have hzl := zerosS_len (f := 64) (l := r ++ [128]) (by omega)
  rw [← hE] at hzl ⊢
  clear hE hz hf64 hlb
  have hll : l.length ≤ 128 := by rw [hzl]; simp; omega
  refine lpI (fun s' w' => Fr w4 w' ∧ ∃ i : Nat, i ≤ 8 ∧ s'.2.1 = i ∧ OwB w' w4.heap.size t_uint8 s'.1 (l ++ (lenS n).take i)) (fun s' _ => (8 - s'.2.1).toNat) ⟨hf24, 0, by decide, rfl, by simpa using hl⟩ ?_
  rintro _ ⟨e2, i', ⟨⟩⟩ w32 ⟨hf32, i, hi, rfl, h32⟩
  dsimp only at h32 ⊢
  have hLl := lenS_length n
  refine bD ?_ ?_ <;> intro hlt
  · refine nzI ?_
    rw [addOff, Nat.zero_add]
    refine ldI0 (stay hf32) (hAt hh _ _ 1) ?_
    have es : IntKind.i64.wrap (56 - IntKind.i64.wrap (8 * (i : Int))) = ((56 - 8 * i : Nat) : Int) := by
      rw [i64w (n := 8 * (i : Int)) (by omega) (by omega), i64w (by omega) (by omega)]; omega
    rw [es]
    refine bP (by omega) ?_
    rw [show min ((56 - 8 * i : Nat) : Int).toNat 64 = 56 - 8 * i from by omega, u64w (n := ((n : Nat) : Int)) (by omega) (by omega), u64w (n := ((n : Nat) : Int) * 8) (by omega) (by omega)]
    have eb : IntKind.u8.wrap (((n : Nat) : Int) * 8 / 2 ^ (56 - 8 * i)) = ((UInt8.ofNat (n * 8 / 2 ^ (56 - 8 * i))).toNat : Int) := by
      rw [u8w, u8_ofNat]
      congr 1
    rw [eb]
    refine nwI fun a37 w38 ha37 hs38 hf38 hb38 hrd38 => ?_
    have hf38' := hf32.trans hf38
    refine app_B slB (base := w4.heap.size) (m := [UInt8.ofNat (n * 8 / 2 ^ (56 - 8 * i))]) (h32.fr hf38) hrd38 rfl (by rw [List.length_append, List.length_take]; simp; omega) hf38'.size fun r39 w40 h39 hb40 _ _ => ?_
    rw [i64w (by omega) (by omega)]
    refine ⟨⟨hf38'.on hb40, i + 1, by omega, rfl, ?_⟩, by omega⟩
    rw [List.take_succ_eq_append_getElem (by omega), ← List.append_assoc]
    have : (lenS n)[i]'(by omega) = UInt8.ofNat (n * 8 / 2 ^ (56 - 8 * i)) := by simp [lenS]
    rw [this]
    exact h39
  obtain rfl : i = 8 := by omega
  rw [List.take_of_length_le (by omega)] at h32
  generalize hE : l ++ lenS n = E at *
  have hEl : E.length ≤ 136 ∧ 64 ≤ E.length ∧ E.length % 64 = 0 := by
    rw [← hE, List.length_append, hLl, hzl, List.length_append, List.length_cons, List.length_nil]
    omega
  refine nzI ?_
  refine ldRow (vs := ints h) (stay hf32) (by rw [List.drop_zero, List.take_left' (by rw [ints_length, hh])]) (by rw [ints_length, hh]) ?_
  refine newRow (l := h) (zrow 8 (.int .u32 0)) hh fun a43 w45 ha43 hf45 hl45 hb45 => ?_
  have hf45' := hf32.trans hf45
  have hs32 := hf32.size
  refine lpI (fun s' w' => ∃ (h' : List Int) (t : List UInt8), Below w32.heap.size w45 w' ∧ h'.length = 8 ∧ w'.heap[a43]? = some (.cells (ints h').toArray t_digest_state (0, 0)) ∧ Bs w' s'.1 t ∧ (t ≠ [] → ∀ ad, s'.1.a = some ad → ad.block < w32.heap.size) ∧ t.length % 64 = 0 ∧ t.length ≤ 136 ∧ allS K0 (t.length + 1) h' t = allS K0 (E.length + 1) h E ∧ ((∀ x ∈ h', 0 ≤ x) ∨ t ≠ [])) (fun s' _ => s'.1.n)
    ⟨h, E, Below.refl _ _, hh, hb45, (h32.fr hf45).bs, fun _ ad had => (h32.own ad had).2, hEl.2.2, hEl.1, rfl, .inr (by intro e; rw [e] at hEl; simp at hEl)⟩ ?_
  rintro _ ⟨e3, ⟨⟩⟩ w47 ⟨h', t, hb47, hh', k43, ht, hold, hm, htl, heq, hnn⟩
  dsimp only at ht hold ⊢
  have htn := ht.len
  refine bD ?_ ?_ <;> intro hpos
  · refine slsB ht (by decide) (by decide) (by omega) fun r50 h50 hblk50 _ => ?_
    rw [Int.toNat_zero, List.drop_zero, show (64 : Int).toNat = 64 from rfl] at h50
    have hfr47 : Fr w4 w47 := hf45'.on (hb47.mono hf32.size)
    refine (stir_ok (rest := []) h50 (by rw [List.length_take]; omega) hh' (by rw [List.append_nil]; exact k43) ((hR.fr hf).fr hfr47) rfl).mono ?_
    rintro _ w52 ⟨k52, hg52⟩
    rw [List.append_nil] at k52
    have htne : t ≠ [] := by intro e; rw [e] at htn; simp at htn; omega
    have ht52 : Bs w52 e3 t := ht.kpn (kp_grown hg52) fun h0 ad had => by have := hold h0 ad had; omega
    refine slsB ht52 (by decide) (by omega) (by omega) fun r53 h53 hblk53 _ => ?_
    have e53 : (t.take (e3.n : Int).toNat).drop (64 : Int).toNat = t.drop 64 := by rw [List.take_of_length_le (by omega)]; rfl
    rw [e53] at h53
    have h53l := h53.len
    rw [List.length_drop] at h53l
    refine ⟨⟨stirS K0 h' (t.take 64), t.drop 64, hb47.trans (grown_below hg52 (by omega) (by have := hb47.size; omega)), stirS_length _ _ _, k52, h53, fun _ ad had => ?_, by rw [List.length_drop]; omega, by rw [List.length_drop]; omega, ?_, .inl (stirS_nn _ _ _)⟩, by omega⟩
    · obtain ⟨ad', h1, h2⟩ := hblk53 ad had
      rw [h2]; exact hold htne ad' h1
    · rw [allS, if_neg (by omega)] at heq
      rw [← heq]
      exact allS_any (by rw [List.length_drop]; omega) (by rw [List.length_drop]; omega)
  have ht0 : t = [] := List.eq_nil_of_length_eq_zero (by omega)
  subst ht0
  have hX : (allS K0 (E.length + 1) h E).1 = h' := by rw [← heq]; rfl
  have hnn' : ∀ x ∈ h', 0 ≤ x := hnn.resolve_right (fun h => h rfl)
  rw [hX]
  clear hX heq hold ht hm htl hpos hnn
  have hfr47 : Fr w4 w47 := hf45'.on (hb47.mono hf32.size)
  have hW47 : Fr w w47 := hf.trans hfr47
  have k3 := hfr47.heap hb3
  have k1 := hfr47.heap hb1
  have hol := outS_length h'
  have ha13 : a1 < a3 := by omega
  have hs32' := hfr47.size
  have h8' : w4.heap.size ≤ a43 := by have := hf32.size; omega
  clear hb47 hb3 hb1 stay h32 H4 hEl
  refine lpI (fun s' w' => Fr w w' ∧ ∃ i : Nat, i ≤ 32 ∧ s'.1 = i ∧ w'.heap[a3]? = some (.cells (u8s ((outS h').take i ++ List.replicate (32 - i) 0)).toArray t_api_Sum (0, 0)) ∧ w'.heap[a43]? = some (.cells (ints h').toArray t_digest_state (0, 0)) ∧ w'.heap[a1]? = some (.cells (u8s (List.replicate 32 0)).toArray t_api_Sum (0, 0))) (fun s' _ => (32 - s'.1).toNat)
    ⟨hW47, 0, by decide, rfl, k3, k43, k1⟩ ?_
  rintro _ ⟨i', ⟨⟩⟩ w55 ⟨hf55, i, hi, rfl, m3, m43, m1⟩
  dsimp only
  refine bD ?_ ?_ <;> intro hlt3
  · have e4 : IntKind.i64.wrap (Int.tdiv (i : Int) 4) = ((i / 4 : Nat) : Int) := by
      rw [show Int.tdiv (i : Int) 4 = ((i / 4 : Nat) : Int) from by rw [Int.ofNat_tdiv]; rfl, i64w (by omega) (by omega)]
    rw [e4]
    refine ixW m43 (by omega) (by omega) ?_
    have e5 : IntKind.i64.wrap (24 - IntKind.i64.wrap (8 * Int.tmod (i : Int) 4)) = ((24 - 8 * (i % 4) : Nat) : Int) := by
      rw [show Int.tmod (i : Int) 4 = ((i % 4 : Nat) : Int) from by rw [Int.tmod_eq_emod_of_nonneg (by omega)]; omega, i64w (n := 8 * ((i % 4 : Nat) : Int)) (by omega) (by omega), i64w (by omega) (by omega)]; omega
    rw [e5]
    refine bP (by omega) ?_
    rw [show min ((24 - 8 * (i % 4) : Nat) : Int).toNat 32 = 24 - 8 * (i % 4) from by omega]
    have ev : IntKind.u8.wrap (h'.getD (i / 4) 0 / 2 ^ (24 - 8 * (i % 4))) = (((outS h').getD i 0).toNat : Int) := by
      have hx : 0 ≤ h'.getD (i / 4) 0 := by
        rw [List.getD_eq_getElem?_getD, List.getElem?_eq_getElem (by omega), Option.getD_some]
        exact hnn' _ (List.getElem_mem _)
      have ho : (outS h').getD i 0 = UInt8.ofNat ((h'.getD (i / 4) 0).toNat / 2 ^ (24 - 8 * (i % 4))) := by
        rw [outS, List.getD_eq_getElem?_getD, List.getElem?_map, List.getElem?_range (by omega)]
        rfl
      rw [ho]
      obtain ⟨m, hm⟩ := Int.eq_ofNat_of_zero_le hx
      rw [hm, Int.toNat_natCast, u8w, u8_ofNat]
      congr 1
    rw [ev]
    refine ixSt m3 (by omega) (by omega) (by rw [Int.toNat_natCast, u8s_length, List.length_append, List.length_take, List.length_replicate]; omega) fun w61 hb61 hg61 hs61 => ?_
    rw [i64w (by omega) (by omega)]
    refine ⟨⟨hf55.on (grown_below hg61 (by omega) hf55.size), i + 1, by omega, rfl, ?_, ?_, ?_⟩, by omega⟩
    · have hset : u8s ((outS h').take (i + 1) ++ List.replicate (32 - (i + 1)) 0) = (u8s ((outS h').take i ++ List.replicate (32 - i) 0)).set i (.int .u8 ((outS h').getD i 0).toNat) := by
        have e : (outS h').take (i + 1) ++ List.replicate (32 - (i + 1)) 0 = ((outS h').take i ++ List.replicate (32 - i) 0).set i ((outS h').getD i 0) := by
          rw [List.set_append_right _ _ (by rw [List.length_take]; omega), List.length_take, Nat.min_eq_left (by omega), Nat.sub_self, show 32 - i = (32 - (i + 1)) + 1 from by omega, List.replicate_succ, List.set_cons_zero, List.take_succ_eq_append_getElem (by omega), List.append_assoc]
          simp [List.getD_eq_getElem?_getD, List.getElem?_eq_getElem (show i < (outS h').length by omega)]
        rw [e]
        simp only [u8s, List.map_set]
      rw [hb61, Int.toNat_natCast, hset]
    · rw [hg61.block a43 (Array.getElem?_eq_some_iff.1 m43).1 (by simp; omega)]; exact m43
    · rw [hg61.block a1 (Array.getElem?_eq_some_iff.1 m1).1 (by simp; omega)]; exact m1
  obtain rfl : i = 32 := by omega
  rw [List.take_of_length_le (by omega), Nat.sub_self, List.replicate_zero, List.append_nil] at m3
  have h32' : (u8s (outS h')).length = 32 := by rw [u8s_length, hol]
  have hone := u8s_one (outS h')
  generalize u8s (outS h') = o at *
  refine ldR0 m3 h32' ?_
  refine stL_row (cs := u8s (List.replicate 32 0)) m1 (by show 0 + o.length ≤ _; rw [u8s_length, List.length_replicate]; omega) hone fun w63 hb63 hg63 hs63 => ?_
  have e : (u8s (List.replicate 32 (0 : UInt8))).take 0 ++ o ++ (u8s (List.replicate 32 (0 : UInt8))).drop (0 + o.length) = o := by rw [List.drop_eq_nil_of_le (by rw [u8s_length, List.length_replicate]; omega)]; simp
  have hb63 : w63.heap[a1]? = some (.cells o.toArray t_api_Sum (0, 0)) := by rw [← e]; exact hb63
  exact ldR0 hb63 h32' ⟨rfl, hf55.on (grown_below hg63 (by omega) hf55.size)⟩
/-- The digest of one part. -/
theorem Of_ok {x : Sl} {b : List UInt8} {a : Nat} {w : World} (hd : Dig w) (ha : w.heap[a]? = some (.cells #[.slice x.a x.n x.c] t_s_uint8 (0, 0))) (hx : Bs w x b) (hl : b.length ≤ 140737488351232) :
    cl Tryd.prog n_digest_Of #[.slice (some ⟨a, 0, none⟩) 1 1] (.row 32) w fun (r : {l : List Value // l.length = 32}) w' => r.1 = u8s (dig b) ∧ Fr w w' := by
  refine digest_Of.cl (p0 := ⟨some ⟨a, 0, none⟩, 1, 1⟩) ?_
  unfold digest_Of
  refine nwI fun a1 w2 ha1 hs2 hf2 hb1 _ => ?_
  have hz32 : (zrow 32 (.int .u8 0)).1 = u8s (List.replicate 32 0) := by simp [zrow, u8s]
  rw [hz32] at hb1
  refine (New_ok (hd.fr hf2)).mono ?_
  rintro _ w4 ⟨g, rfl, hg, hH, hf4⟩
  have hf := hf2.trans hf4
  have hgl := (Array.getElem?_eq_some_iff.1 hH).1
  have hd4 := hd.fr hf
  have hal := (Array.getElem?_eq_some_iff.1 ha).1
  have glt : ∀ {q : Nat} {l : List Int}, Glob w q l → 0 < l.length → q < w.heap.size := fun h hl => World.block_lt_of_cell? w _ (h 0 hl)
  have gd1 := glt hd.first (by decide)
  have gd2 := glt hd.rounds (by decide)
  have hlen := allS_length (K := K0) (f := b.length + 1) (h := F0) (l := b) rfl
  have hrest := allS_rest (K := K0) (f := b.length + 1) (h := F0) (l := b) (by omega)
  refine lpI (fun s' w' => (s'.1 = 0 ∧ w' = w4) ∨ (s'.1 = 1 ∧ ∃ s : Sl, Hsh w' g (allS K0 (b.length + 1) F0 b).1 s b.length ∧ Bs w' s (allS K0 (b.length + 1) F0 b).2 ∧ w4.grownBy w' (some g))) (fun s' _ => (1 - s'.1).toNat) (.inl ⟨rfl, rfl⟩) ?_
  rintro _ ⟨i', ⟨⟩⟩ w6 (⟨h0, rfl⟩ | ⟨h1, s, k1, k2, k3⟩)
  · dsimp only at h0 ⊢
    subst h0
    refine bP (by decide) ?_
    refine ⟨by decide, by decide, ?_⟩
    show ld .L w6 (atOff ⟨a, 0, none⟩ 0 1) _
    rw [atH]
    refine ldL0 (s := x) (hf.heap ha) rfl ?_
    refine (Write_ok hd4 hH (hx.fr hf) hl (fun hb ad had => by have := hx.lt hb ad had; have := hf2.size; omega) (by have := hf2.size; omega)).mono ?_
    rintro _ w12 ⟨s, k1, k2, _, k3⟩
    exact ⟨.inr ⟨rfl, s, k1, k2, k3⟩, by decide⟩
  · dsimp only at h1 ⊢
    subst h1
    refine bN (by decide) ?_
    have hs2' := hf2.size
    have hfr6 : Fr w2 w6 := hf4.on (grown_below k3 hg hf4.size)
    refine (Sum_ok (hd4.rounds.grown k3 (by omega)) k1 hlen k2 hrest.1 hl).mono ?_
    rintro ⟨x13, hx13⟩ w14 ⟨hx, hf14⟩
    dsimp only at hx
    obtain ⟨o, ho⟩ : ∃ o, u8s (dig b) = o := ⟨_, rfl⟩
    have hx : x13 = o := hx.trans ho
    have hone := u8s_one (dig b)
    have hol : (u8s (dig b)).length = 32 := by rw [u8s_length, dig_length]
    rw [ho] at hone hol ⊢
    subst hx
    clear ho
    have hb14 := hf14.heap (hfr6.heap hb1)
    have hfw := hf2.trans (hfr6.trans hf14)
    refine stL_row (cs := u8s (List.replicate 32 0)) hb14 (by show 0 + x13.length ≤ _; rw [u8s_length, List.length_replicate]; omega) hone fun w15 hb15 hg15 hs15 => ?_
    have e : (u8s (List.replicate 32 (0 : UInt8))).take 0 ++ x13 ++ (u8s (List.replicate 32 (0 : UInt8))).drop (0 + x13.length) = x13 := by rw [List.drop_eq_nil_of_le (by rw [u8s_length, List.length_replicate]; omega)]; simp
    have hb15 : w15.heap[a1]? = some (.cells x13.toArray t_api_Sum (0, 0)) := by rw [← e]; exact hb15
    exact ldR0 hb15 hol ⟨rfl, hfw.on (grown_below hg15 (by omega) hfw.size)⟩
end Go.Proofs.YtkaombhkepopgaaDoor
