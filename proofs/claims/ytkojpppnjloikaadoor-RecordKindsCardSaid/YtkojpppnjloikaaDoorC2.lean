/- Contracts of the octet reader's methods: what each returns, and how the reader stands behind it. -/
import Derived.Test.YtkojpppnjloikaaDoorC1
import Derived.Test.YtkojpppnjloikaaDoorFlBlk
import Derived.Test.YtkojpppnjloikaaDoorFlRd
namespace Go.Proofs.YtkojpppnjloikaaDoor
open Go.RowKit Go.Fl

/-- A reader over bytes. -/
def Rdr (w : World) (base g : Nat) (l : List UInt8) : Prop :=
  ∃ s : Sl, w.heap[g]? = some (.cells #[.slice s.a s.n s.c, .bool true] t_octet_Reader (0, 0)) ∧ Bs w s l ∧ (∀ ad, s.a = some ad → base ≤ ad.block ∧ ad.block < g) ∧ l.length ≤ 1099511627776
theorem Rdr.fr {w w' : World} {base g : Nat} {l : List UInt8} (h : Rdr w base g l) (hf : Fr w w') : Rdr w' base g l := by
  obtain ⟨s, h1, h2, h3⟩ := h
  exact ⟨s, hf.heap h1, h2.fr hf, h3⟩
theorem Rdr.kp {S : Nat → Prop} {w w' : World} {base g : Nat} {l : List UInt8} (h : Rdr w base g l) (hk : Kp S w w') (hS : ∀ k, base ≤ k → k ≤ g → S k) (hg : base ≤ g) : Rdr w' base g l := by
  obtain ⟨s, h1, h2, h3, h4⟩ := h
  exact ⟨s, (hk g (Array.getElem?_eq_some_iff.1 h1).1 (hS g hg (Nat.le_refl _))).trans h1, h2.kp hk fun ad ha => hS _ (h3 ad ha).1 (Nat.le_of_lt (h3 ad ha).2), h3, h4⟩
theorem Rdr.lt {w : World} {base g : Nat} {l : List UInt8} (h : Rdr w base g l) : g < w.heap.size := by
  obtain ⟨s, h1, _⟩ := h
  exact (Array.getElem?_eq_some_iff.1 h1).1

/-- The reader goes on. -/
theorem Rdr.adv {w : World} {base g : Nat} {l : List UInt8} (h : Rdr w base g l) {i : Int} {k : Nat} (hi : i = k) (hk : k ≤ l.length) {K : World → Prop}
    (hK : ∀ w', Rdr w' base g (l.drop k) → w.grownBy w' (some g) → w'.heap.size = w.heap.size → K w') :
    nz (some ⟨g, 0, none⟩) fun a => ld .L w a fun (x : Sl) => sls x i x.n 1 fun r => nz (some ⟨g, 0, none⟩) fun a' => st1 w a' (.slice r.a r.n r.c) fun w' => K w' := by
  obtain ⟨s, h1, h2, h3, h4⟩ := h
  have hl := h2.len
  subst hi
  show ld .L w ⟨g, 0, none⟩ _
  refine ldL0 h1 rfl ?_
  refine slsB h2 (by omega) (by omega) (by omega) fun r hr ha _ => ?_
  show st1 w ⟨g, 0, none⟩ _ _
  refine st0 h1 (by simp) fun w' hb hg hsz => hK w' ⟨r, hb, ?_, ?_, by simp; omega⟩ hg hsz
  · rw [Int.toNat_natCast, Int.toNat_natCast, List.take_of_length_le (by omega)] at hr
    refine hr.kp (kp_grown hg) fun ad had => ?_
    obtain ⟨ad', h5, h6⟩ := ha ad had
    rw [h6]
    exact Nat.ne_of_lt (h3 ad' h5).2
  · intro ad had
    obtain ⟨ad', h5, h6⟩ := ha ad had
    rw [h6]
    exact h3 ad' h5

theorem Read_ok {s : Sl} {l : List UInt8} {w : World} (hs : Bs w s l) (hl : l.length ≤ 1099511627776) :
    cl Tryd.prog n_octet_Read #[.slice s.a s.n s.c] .P w fun (r : Option Addr) w' => ∃ g, r = some ⟨g, 0, none⟩ ∧ w.heap.size ≤ g ∧ Rdr w' w.heap.size g l ∧ Fr w w' := by
  refine octet_Read.cl ?_
  unfold octet_Read
  refine copyB slB hs (by omega) fun r w1 ho hf => ?_
  refine nwI fun b w2 hb hsz hf2 hblk _ => ?_
  have hh := hf.size
  exact ⟨b, rfl, by omega, ⟨r, hblk, ho.bs.fr hf2, fun ad ha => ⟨(ho.own ad ha).1, by have := (ho.own ad ha).2; omega⟩, hl⟩, hf.trans hf2⟩

section
variable {w : World} {base g : Nat} {l : List UInt8}
theorem Left_ok (h : Rdr w base g l) : cl Tryd.prog n_octet_Reader_Left #[.pointer (some ⟨g, 0, none⟩)] (.I .i64) w fun (r : Int) w' => r = l.length ∧ w = w' := by
  obtain ⟨s, h1, h2, h3, h4⟩ := h
  refine octet_Reader_Left.cl ?_
  unfold octet_Reader_Left
  refine bF rfl ?_
  show ld .L w ⟨g, 0, none⟩ _
  exact ldL0 h1 rfl ⟨by rw [h2.len], rfl⟩

/-- The next number, its error, how many bytes it has. -/
theorem Reader_Number_ok (h : Rdr w base g l) : cl Tryd.prog n_octet_Reader_Number #[.pointer (some ⟨g, 0, none⟩)] (.tup (.pair (.I .i64) (.pair (.I .i64) .nil))) w
    fun (r : Int × Int × Unit) w' => r = (((lookS l).1 : Int), ((lookS l).2.2 : Int), ()) ∧ Rdr w' base g (l.drop (lookS l).2.1) ∧ w.grownBy w' (some g) := by
  have h' := h
  obtain ⟨s, h1, h2, h3, h4⟩ := h
  refine octet_Reader_Number.cl ?_
  unfold octet_Reader_Number
  refine bF rfl ?_
  show ld .B w ⟨g, 1, none⟩ _
  refine ldB0 h1 rfl (bF rfl ?_)
  show ld .L w ⟨g, 0, none⟩ _
  refine ldL0 h1 rfl ?_
  refine (octet_look_ok h2 h4).mono ?_
  rintro _ _ ⟨rfl, rfl⟩
  exact h'.adv rfl (lookS_le l) fun w' hr hg _ => ⟨rfl, hr, hg⟩

theorem End_ok (h : Rdr w base g l) : cl Tryd.prog n_octet_Reader_End #[.pointer (some ⟨g, 0, none⟩)] (.I .i64) w fun (r : Int) w' => r = (if l = [] then 0 else 3) ∧ w = w' := by
  obtain ⟨s, h1, h2, h3, h4⟩ := h
  refine octet_Reader_End.cl ?_
  unfold octet_Reader_End
  refine bF rfl ?_
  show ld .B w ⟨g, 1, none⟩ _
  refine ldB0 h1 rfl (bF rfl ?_)
  show ld .L w ⟨g, 0, none⟩ _
  refine ldL0 h1 rfl ?_
  have hl := h2.len
  cases l with
  | nil => exact bN (by simp [hl]) ⟨rfl, rfl⟩
  | cons b t => exact bP (by simp [hl]) ⟨rfl, rfl⟩

theorem Byte_ok (h : Rdr w base g l) : cl Tryd.prog n_octet_Reader_Byte #[.pointer (some ⟨g, 0, none⟩)] (.tup (.pair (.I .u8) (.pair (.I .i64) .nil))) w
    fun (r : Int × Int × Unit) w' => r = (((rdByte l).1 : Int), ((rdByte l).2.1 : Int), ()) ∧ Rdr w' base g (l.drop (rdByte l).2.2) ∧ w.grownBy w' (some g) := by
  have h' := h
  obtain ⟨s, h1, h2, h3, h4⟩ := h
  refine octet_Reader_Byte.cl ?_
  unfold octet_Reader_Byte
  refine bF rfl ?_
  show ld .B w ⟨g, 1, none⟩ _
  refine ldB0 h1 rfl (bF rfl ?_)
  show ld .L w ⟨g, 0, none⟩ _
  refine ldL0 h1 rfl ?_
  have hl := h2.len
  cases l with
  | nil => exact bT (by simp [hl]) ⟨rfl, h', World.grownBy.refl _ _⟩
  | cons b t =>
    refine bF (by simp [hl]; omega) ?_
    show ld .L w ⟨g, 0, none⟩ _
    refine ldL0 h1 rfl ?_
    refine ixB0 h2.rd h2.len (Fr.refl w) ?_
    exact h'.adv (k := 1) rfl (by simp) fun w' hr hg _ => ⟨rfl, hr, hg⟩

theorem Within_ok (h : Rdr w base g l) {lo hi : Int} : cl Tryd.prog n_octet_Reader_Within #[.pointer (some ⟨g, 0, none⟩), .int .i64 lo, .int .i64 hi] (.tup (.pair (.I .i64) (.pair (.I .i64) .nil))) w
    fun (r : Int × Int × Unit) w' => r = ((rdWithin l lo hi).1, (rdWithin l lo hi).2.1, ()) ∧ Rdr w' base g (l.drop (rdWithin l lo hi).2.2) ∧ w.grownBy w' (some g) := by
  have h' := h
  obtain ⟨s, h1, h2, h3, h4⟩ := h
  refine octet_Reader_Within.cl ?_
  unfold octet_Reader_Within
  refine bF rfl ?_
  show ld .B w ⟨g, 1, none⟩ _
  refine ldB0 h1 rfl (bF rfl ?_)
  show ld .L w ⟨g, 0, none⟩ _
  refine ldL0 h1 rfl ?_
  refine (octet_look_ok h2 h4).mono ?_
  rintro _ _ ⟨rfl, rfl⟩
  dsimp only
  unfold rdWithin
  refine bNe ?_ ?_ <;> intro he
  · rw [if_pos (by omega)]
    exact ⟨rfl, h', World.grownBy.refl _ _⟩
  · rw [if_neg (by omega)]
    refine bD ?_ ?_ <;> intro h1
    · rw [if_pos (.inl h1)]
      exact ⟨rfl, h', World.grownBy.refl _ _⟩
    · refine bD ?_ ?_ <;> intro h2
      · rw [if_pos (.inr h2)]
        exact ⟨rfl, h', World.grownBy.refl _ _⟩
      · rw [if_neg (by omega)]
        exact h'.adv rfl (lookS_le l) fun w' hr hg _ => ⟨rfl, hr, hg⟩

theorem Reader_Text_ok (h : Rdr w base g l) {most : Int} : cl Tryd.prog n_octet_Reader_Text #[.pointer (some ⟨g, 0, none⟩), .int .i64 most] (.tup (.pair .L (.pair (.I .i64) .nil))) w
    fun (r : Sl × Int × Unit) w' => r.2 = (((rdText l most).2.1 : Int), ()) ∧ OwB w' w.heap.size t_uint8 r.1 (rdText l most).1 ∧ Rdr w' base g (l.drop (rdText l most).2.2) ∧ w.grownBy w' (some g) := by
  have h' := h
  obtain ⟨s, h1, h2, h3, h4⟩ := h
  refine octet_Reader_Text.cl ?_
  unfold octet_Reader_Text
  refine bF rfl ?_
  show ld .B w ⟨g, 1, none⟩ _
  refine ldB0 h1 rfl (bF rfl ?_)
  show ld .L w ⟨g, 0, none⟩ _
  refine ldL0 h1 rfl ?_
  refine (octet_look_ok h2 h4).mono ?_
  rintro _ _ ⟨rfl, rfl⟩
  dsimp only
  have hle := lookS_le l
  have hn := h2.len
  unfold rdText
  refine bNe ?_ ?_ <;> intro he
  · rw [if_pos (by omega)]
    exact ⟨rfl, OwB.nil _ _ _, h', World.grownBy.refl _ _⟩
  · rw [if_neg (by omega)]
    refine bD ?_ ?_ <;> intro hm
    · rw [if_pos hm]
      exact ⟨rfl, OwB.nil _ _ _, h', World.grownBy.refl _ _⟩
    · rw [if_neg hm]
      show ld .L w ⟨g, 0, none⟩ _
      refine ldL0 h1 rfl ?_
      rw [i64w (n := (s.n : Int) - _) (by omega) (by omega)]
      refine bD ?_ ?_ <;> intro hs
      · rw [if_pos (by omega)]
        exact ⟨rfl, OwB.nil _ _ _, h', World.grownBy.refl _ _⟩
      · rw [if_neg (by omega)]
        generalize (lookS l).2.1 = k at *
        generalize (lookS l).1 = n at *
        refine nwI fun b w1 hb hsz hf hblk _ => ?_
        show ld .L w1 ⟨g, 0, none⟩ _
        refine ldL0 (hf.heap h1) rfl ?_
        rw [i64w (n := (k : Int) + n) (by omega) (by omega)]
        refine slsB (h2.fr hf) (by omega) (by omega) (by omega) fun x hx _ _ => ?_
        rw [show ((k : Int) + n).toNat = k + n from by omega, Int.toNat_natCast] at hx
        refine app_B slB (base := w.heap.size) (l := []) (OwB.new hblk (by omega)) hx.rd hx.len.symm (by simp; omega) hf.size fun r w2 ho hb2 hkp hor => ?_
        have hf2 : Fr w w2 := hf.on hb2
        refine (h'.fr hf2).adv (k := k + n) (by omega) (by omega) fun w3 hr hg hsz3 => ⟨rfl, ?_, hr, ?_⟩
        · have hlt := h'.lt
          have e : (l.take (k + n)).drop k = (l.drop k).take n := by rw [List.drop_take, Nat.add_sub_cancel_left]
          rw [List.nil_append, e] at ho
          refine ho.kp (kp_grown hg) fun ad ha => ?_
          have := (ho.own ad ha).1
          omega
        · exact World.grownBy.trans (fr_grown hf2) hg
end

/-- No reader: none, or one that no call made. -/
def NoRdr (w : World) (p : Option Addr) : Prop := p = none ∨ ∃ g, p = some ⟨g, 0, none⟩ ∧ w.heap[g]? = some (.cells #[.slice none 0 0, .bool false] t_octet_Reader (0, 0))
section
variable {w : World} {p : Option Addr}
theorem no_Left (h : NoRdr w p) : cl Tryd.prog n_octet_Reader_Left #[.pointer p] (.I .i64) w fun (r : Int) w' => r = 0 ∧ w = w' := by
  refine octet_Reader_Left.cl ?_
  unfold octet_Reader_Left
  rcases h with rfl | ⟨g, rfl, h1⟩
  · exact bT rfl ⟨rfl, rfl⟩
  · refine bF rfl ?_
    show ld .L w ⟨g, 0, none⟩ _
    exact ldL0 (s := ⟨none, 0, 0⟩) h1 rfl ⟨rfl, rfl⟩
theorem no_Number (h : NoRdr w p) : cl Tryd.prog n_octet_Reader_Number #[.pointer p] (.tup (.pair (.I .i64) (.pair (.I .i64) .nil))) w fun (r : Int × Int × Unit) w' => r = (0, 6, ()) ∧ w = w' := by
  refine octet_Reader_Number.cl ?_
  unfold octet_Reader_Number
  rcases h with rfl | ⟨g, rfl, h1⟩
  · exact bT rfl ⟨rfl, rfl⟩
  · refine bF rfl ?_
    show ld .B w ⟨g, 1, none⟩ _
    exact ldB0 h1 rfl (bT rfl ⟨rfl, rfl⟩)
theorem no_Within (h : NoRdr w p) {lo hi : Int} : cl Tryd.prog n_octet_Reader_Within #[.pointer p, .int .i64 lo, .int .i64 hi] (.tup (.pair (.I .i64) (.pair (.I .i64) .nil))) w fun (r : Int × Int × Unit) w' => r = (0, 6, ()) ∧ w = w' := by
  refine octet_Reader_Within.cl ?_
  unfold octet_Reader_Within
  rcases h with rfl | ⟨g, rfl, h1⟩
  · exact bT rfl ⟨rfl, rfl⟩
  · refine bF rfl ?_
    show ld .B w ⟨g, 1, none⟩ _
    exact ldB0 h1 rfl (bT rfl ⟨rfl, rfl⟩)
theorem no_Text (h : NoRdr w p) {most : Int} : cl Tryd.prog n_octet_Reader_Text #[.pointer p, .int .i64 most] (.tup (.pair .L (.pair (.I .i64) .nil))) w fun (r : Sl × Int × Unit) w' => r = (⟨none, 0, 0⟩, 6, ()) ∧ w = w' := by
  refine octet_Reader_Text.cl ?_
  unfold octet_Reader_Text
  rcases h with rfl | ⟨g, rfl, h1⟩
  · exact bT rfl ⟨rfl, rfl⟩
  · refine bF rfl ?_
    show ld .B w ⟨g, 1, none⟩ _
    exact ldB0 h1 rfl (bT rfl ⟨rfl, rfl⟩)
theorem no_Byte (h : NoRdr w p) : cl Tryd.prog n_octet_Reader_Byte #[.pointer p] (.tup (.pair (.I .u8) (.pair (.I .i64) .nil))) w fun (r : Int × Int × Unit) w' => r = (0, 6, ()) ∧ w = w' := by
  refine octet_Reader_Byte.cl ?_
  unfold octet_Reader_Byte
  rcases h with rfl | ⟨g, rfl, h1⟩
  · exact bT rfl ⟨rfl, rfl⟩
  · refine bF rfl ?_
    show ld .B w ⟨g, 1, none⟩ _
    exact ldB0 h1 rfl (bT rfl ⟨rfl, rfl⟩)
theorem no_End (h : NoRdr w p) : cl Tryd.prog n_octet_Reader_End #[.pointer p] (.I .i64) w fun (r : Int) w' => r = 6 ∧ w = w' := by
  refine octet_Reader_End.cl ?_
  unfold octet_Reader_End
  rcases h with rfl | ⟨g, rfl, h1⟩
  · exact bT rfl ⟨rfl, rfl⟩
  · refine bF rfl ?_
    show ld .B w ⟨g, 1, none⟩ _
    exact ldB0 h1 rfl (bT rfl ⟨rfl, rfl⟩)
end
end Go.Proofs.YtkojpppnjloikaaDoor
