/- Contracts of the reference's layer 7. -/
import Derived.Test.YtkojpppnjloikaaDoorC3
import Derived.Test.YtkojpppnjloikaaDoorFlLz
import Derived.Test.YtkojpppnjloikaaDoorFlBlk
namespace Go.Proofs.YtkojpppnjloikaaDoor
open Go.RowKit Go.Fl

theorem ref_Longest_ok {s : Sl} {b : List UInt8} {w : World} {p : Nat} (hs : Bs w s b) (hl : b.length ≤ 1099511627776) (hp : p < b.length) :
    cl Tryd.prog n_flumeref07_Longest #[.slice s.a s.n s.c, .int .i64 (p : Int)] (.tup (.pair (.I .i64) (.pair (.I .i64) .nil))) w fun (r : Int × Int × Unit) w' => r = (((longS b p).1 : Int), ((longS b p).2 : Int), ()) ∧ Fr w w' := by
  refine flumeref07_Longest.cl ?_
  unfold flumeref07_Longest
  have hn := hs.len
  refine lpI (fun s' w' => Fr w w' ∧ ∃ back far long : Nat, 1 ≤ back ∧ back ≤ min 512 p + 1 ∧ s'.2.2.1 = back ∧ s'.1 = far ∧ s'.2.1 = long ∧ longS b p = longF b p (min 512 p + 1 - back) back (far, long)) (fun s' _ => (513 - s'.2.2.1).toNat)
    ⟨Fr.refl w, 1, 0, 0, by omega, by omega, rfl, rfl, rfl, rfl⟩ ?_
  rintro _ ⟨far, long, back, ⟨⟩⟩ w2 ⟨hf2, back, far, long, h1, hb, rfl, rfl, rfl, hL⟩
  dsimp -zeta only
  have done : ¬(back ≤ min 512 p) → longS b p = (far, long) := fun h => by
    rw [hL, show min 512 p + 1 - back = 0 from by omega]; rfl
  refine bD ?_ ?_ <;> intro h512
  · refine bD ?_ ?_ <;> intro hbp
    · intro j1
      have hj : ∀ (k : Nat) (w' : World), Fr w w' → k ≤ 66 → (∀ m, m < k → p + m < b.length ∧ b[p - back + m]? = b[p + m]?) → (k = 66 ∨ ¬(p + k < b.length ∧ b[p - back + k]? = b[p + k]?)) →
          bif decide ((k : Int) > (long : Int)) then j1 (back : Int) (k : Int) w' else j1 (far : Int) (long : Int) w' := by
        intro k w' hf' hk hm hstop
        have ha := alikeF_step hk hm hstop
        rw [show min 512 p + 1 - back = (min 512 p + 1 - (back + 1)) + 1 from by omega, longF, ha] at hL
        refine bD ?_ ?_ <;> intro hgt
        · rw [if_pos (show long < k by omega)] at hL
          refine ⟨⟨hf', back + 1, back, k, by omega, by omega, ?_, rfl, rfl, hL⟩, ?_⟩
          · exact (i64w (by omega) (by omega)).trans (by simp)
          · show (513 - IntKind.i64.wrap ((back : Int) + 1)).toNat < _
            rw [i64w (by omega) (by omega)]; omega
        · rw [if_neg (show ¬long < k by omega)] at hL
          refine ⟨⟨hf', back + 1, far, long, by omega, by omega, ?_, rfl, rfl, hL⟩, ?_⟩
          · exact (i64w (by omega) (by omega)).trans (by simp)
          · show (513 - IntKind.i64.wrap ((back : Int) + 1)).toNat < _
            rw [i64w (by omega) (by omega)]; omega
      clear_value j1
      refine lpI (fun s' w' => Fr w w' ∧ ∃ k : Nat, k ≤ 66 ∧ s'.1 = k ∧ ∀ m, m < k → p + m < b.length ∧ b[p - back + m]? = b[p + m]?) (fun s' _ => (66 - s'.1).toNat) ⟨hf2, 0, by omega, rfl, fun m h => by omega⟩ ?_
      rintro _ ⟨k, ⟨⟩⟩ w6 ⟨hf6, k, hk, rfl, hm⟩
      dsimp only
      refine bD ?_ ?_ <;> intro h66
      · rw [i64w (n := (p : Int) + k) (by omega) (by omega)]
        refine bD ?_ ?_ <;> intro hlt
        · refine ixB hs.rd hs.len (by omega) (by omega) hf6 ?_
          rw [i64w (n := (p : Int) - back) (by omega) (by omega), i64w (by omega) (by omega)]
          refine ixB hs.rd hs.len (by omega) (by omega) hf6 ?_
          intro n
          have hf13 := hf6.trans (Fr.drewN w6 n)
          have e1 : ((p : Int) + k).toNat = p + k := by omega
          have e2 : ((p : Int) - back + k).toNat = p - back + k := by omega
          have g1 : b[p + k]? = some (b[p + k]'(by omega)) := List.getElem?_eq_getElem _
          have g2 : b[p - back + k]? = some (b[p - back + k]'(by omega)) := List.getElem?_eq_getElem _
          simp only [e1, e2]
          refine bE ?_ ?_ <;> intro he
          · rw [i64w (by omega) (by omega)]
            refine ⟨⟨hf13, k + 1, by omega, rfl, fun m hmk => ?_⟩, by omega⟩
            by_cases hme : m = k
            · subst hme
              refine ⟨by omega, ?_⟩
              rw [g1, g2]
              congr 1
              exact (UInt8.toNat_inj.1 (by omega)).symm
            · exact hm m (by omega)
          · refine hj k _ hf13 hk hm (.inr fun h => he ?_)
            rw [g1, g2] at h
            rw [Option.some.inj h.2]
        · intro n
          exact hj k _ (hf6.trans (Fr.drewN w6 n)) hk hm (.inr fun h => by omega)
      · intro n
        exact hj k _ (hf6.trans (Fr.drewN w6 n)) hk hm (.inl (by omega))
    · rw [done (by omega)]; exact ⟨rfl, hf2⟩
  · rw [done (by omega)]; exact ⟨rfl, hf2⟩
theorem ref_plain_ok {s : Sl} {l : List UInt8} {w : World} (hs : Bs w s l) (hl : l.length ≤ 1099511627776) :
    cl Tryd.prog n_flumeref07_plain #[.slice s.a s.n s.c] .L w fun (r : Sl) w' => OwB w' w.heap.size t_uint8 r (plainS l) ∧ Fr w w' := by
  refine flumeref07_plain.cl ?_
  unfold flumeref07_plain
  have hll := plainS_len l
  refine lpI (fun s' w' => Fr w w' ∧ ∃ rest o : List UInt8, Bs w' s'.1 rest ∧ OwB w' w.heap.size t_uint8 s'.2.1 o ∧ o ++ plainS rest = plainS l ∧ rest.length ≤ l.length ∧ (rest ≠ [] → ∀ ad, s'.1.a = some ad → ad.block < w.heap.size)) (fun s' _ => s'.1.n)
    ⟨Fr.refl w, l, [], hs, OwB.nil _ _ _, rfl, Nat.le_refl _, fun h => hs.lt h⟩ ?_
  rintro _ ⟨x, out, ⟨⟩⟩ w2 ⟨hf, rest, o, hx, ho, heq, hrl, hold⟩
  dsimp only at hx ho hold ⊢
  have hn := hx.len
  have holen := congrArg List.length heq
  rw [List.length_append] at holen
  refine bD ?_ ?_ <;> intro hpos
  · have hne : rest ≠ [] := fun h => by rw [h] at hn; simp at hn; omega
    intro n
    have hx := hx.fr (Fr.drewN w2 n)
    have ho := ho.fr (Fr.drewN w2 n)
    have hf := hf.trans (Fr.drewN w2 n)
    generalize w2.drewN n = w5 at *
    have hm : min 128 (x.n : Int) = ((min 128 rest.length : Nat) : Int) := by omega
    rw [hm]
    have hm1 : 1 ≤ min 128 rest.length := by omega
    have hpl := plainS_step hne
    rw [hpl] at heq holen
    rw [List.length_cons, List.length_append, List.length_take] at holen
    refine slsB hx (by decide) (by omega) (by omega) fun r6 h6 hblk6 _ => ?_
    rw [Int.toNat_zero, Int.toNat_natCast, List.drop_zero] at h6
    have hc : IntKind.u8.wrap (IntKind.i64.wrap (((min 128 rest.length : Nat) : Int) - 1)) = ((UInt8.ofNat (min 128 rest.length - 1)).toNat : Int) := by
      rw [i64w (by omega) (by omega), u8w, u8_ofNat]
      omega
    rw [hc]
    refine nwI fun b w8 hb hsz hf8 hblk hrd => ?_
    have hh := hf.size
    have hh8 := hf8.size
    refine app_B slB (base := w.heap.size) (m := [UInt8.ofNat (min 128 rest.length - 1)]) (ho.fr hf8) hrd rfl (by simp; omega) (by omega) fun r9 w10 h9 hb9 _ _ => ?_
    have hf10 : Fr w w10 := (hf.trans hf8).on hb9
    have hK : Kp (fun k => k < w.heap.size) w5 w10 := fun k _ hk => (hb9.block k hk).trans (hf8.block k (by omega))
    have ht : rest.take (min 128 rest.length) = rest.take 128 := by rw [List.take_eq_take_iff]; omega
    have h6' : Bs w10 r6 (rest.take 128) := by
      rw [← ht]
      exact h6.kpn hK fun _ ad had => by
        obtain ⟨ad', h1, h2⟩ := hblk6 ad had
        rw [h2]
        exact hold hne ad' h1
    refine app_B slB (base := w.heap.size) h9 h6'.rd h6'.len.symm (by simp; omega) hf10.size fun r11 w12 h11 hb11 _ _ => ?_
    have hf12 : Fr w w12 := hf10.on hb11
    have hK2 : Kp (fun k => k < w.heap.size) w5 w12 := fun k hk5 hk => (hb11.block k hk).trans (hK k hk5 hk)
    have hx12 : Bs w12 x rest := hx.kpn hK2 fun h ad had => hold h ad had
    refine slsB hx12 (by omega) (by omega) (by omega) fun r13 h13 hblk13 _ => ?_
    have hd : (rest.take (x.n : Int).toNat).drop (((min 128 rest.length : Nat) : Int)).toNat = rest.drop 128 := by
      rw [Int.toNat_natCast, Int.toNat_natCast, List.take_of_length_le (by omega)]
      by_cases h : rest.length ≤ 128
      · rw [List.drop_eq_nil_of_le (by omega), List.drop_eq_nil_of_le (by omega)]
      · rw [Nat.min_eq_left (by omega)]
    rw [hd] at h13
    have h13l := h13.len
    rw [List.length_drop] at h13l
    refine ⟨⟨hf12, rest.drop 128, _, h13, h11, ?_, by rw [List.length_drop]; omega, fun _ ad had => ?_⟩, by omega⟩
    · rw [← heq]; simp
    · obtain ⟨ad', h1, h2⟩ := hblk13 ad had
      rw [h2]
      exact hold hne ad' h1
  · have : rest = [] := List.eq_nil_of_length_eq_zero (by omega)
    subst this
    rw [plainS_nil, List.append_nil] at heq
    exact ⟨heq ▸ ho, hf⟩
theorem ref_Shorten_ok {s : Sl} {b : List UInt8} {w : World} (hs : Bs w s b) (hl : b.length ≤ 1048576) :
    cl Tryd.prog n_flumeref07_Shorten #[.slice s.a s.n s.c] .L w fun (r : Sl) w' => Bs w' r (shortS b) ∧ Fr w w' := by
  refine flumeref07_Shorten.cl ?_
  unfold flumeref07_Shorten
  have hn := hs.len
  refine lpI (fun s' w' => Fr w w' ∧ ∃ (lo p : Nat) (o : List UInt8), lo ≤ p ∧ p ≤ b.length ∧ s'.2.2.1 = p ∧ o.length ≤ 20 * lo ∧ OwB w' w.heap.size t_uint8 s'.1 o ∧ OwB w' w.heap.size t_uint8 s'.2.1 ((b.take p).drop lo) ∧ (∀ k, (Value.slice s'.1.a s'.1.n s'.1.c).ownBlock = some k → (Value.slice s'.2.1.a s'.2.1.n s'.2.1.c).ownBlock ≠ some k) ∧ o ++ shortF b (b.length + 1 - p) lo p = shortS b) (fun s' _ => (b.length - s'.2.2.1).toNat)
    ⟨Fr.refl w, 0, 0, [], Nat.le_refl _, Nat.zero_le _, rfl, by simp, OwB.nil _ _ _, by simpa using OwB.nil _ _ _, (fun k h => by cases h), rfl⟩ ?_
  rintro _ ⟨out, some', p', ⟨⟩⟩ w2 ⟨hf, lo, p, o, hlo, hp, rfl, hol, ho, hso, hsep, heq⟩
  dsimp only at ho hso hsep ⊢
  have hfit := longS_fits hp
  refine bD ?_ ?_ <;> intro hlt
  · have hpl : p < b.length := by omega
    rw [show b.length + 1 - p = (b.length - p) + 1 from by omega, shortF, if_pos hpl] at heq
    refine (ref_Longest_ok (hs.fr hf) (by omega) hpl).mono ?_
    rintro _ w6 ⟨rfl, hf6⟩
    dsimp only
    have ho := ho.fr hf6
    have hso := hso.fr hf6
    have hf := hf.trans hf6
    have hh := hf.size
    refine bD ?_ ?_ <;> intro h3
    · rw [if_pos (by omega)] at heq
      refine ixB hs.rd hs.len (by omega) (by simpa using hpl) hf ?_
      simp only [Int.toNat_natCast]
      refine nwI fun a9 w10 hb hsz hf10 hblk hrd => ?_
      refine app_B slB (base := w.heap.size) (m := [b[p]]) (hso.fr hf10) hrd rfl (by simp; omega) (by omega) fun r11 w12 h11 hb11 hk11 hat11 => ?_
      rw [i64w (by omega) (by omega)]
      have hob := (ho.fr hf10).block
      refine ⟨⟨(hf.trans hf10).on hb11, lo, p + 1, o, by omega, by omega, rfl, by omega, ?_, ?_, ?_, ?_⟩, by omega⟩
      · exact (ho.fr hf10).kp (S := fun k => (Value.slice some'.a some'.n some'.c).ownBlock ≠ some k) hk11 fun ad had => hsep _ (by rw [had]; rfl)
      · rw [List.take_succ_eq_append_getElem hpl, List.drop_append_of_le_length (by rw [List.length_take]; omega)]
        exact h11
      · intro k hk
        rcases hat11 with h | h
        · rw [h]; exact hsep k hk
        · rw [h]
          have := (hob k hk).2
          intro e
          have := Option.some.inj e
          omega
      · rw [← heq, show b.length + 1 - (p + 1) = b.length - p from by omega]
    · rw [if_neg (by omega)] at heq
      generalize (longS b p).2 = n at *
      generalize (longS b p).1 = back at *
      have hpl2 := plainS_len ((b.take p).drop lo)
      rw [List.length_drop, List.length_take] at hpl2
      refine (ref_plain_ok hso.bs (by simp; omega)).mono ?_
      rintro x13 w14 ⟨h13, hf14⟩
      have hf14' := hf.trans hf14
      refine app_B slB (base := w.heap.size) (ho.fr hf14) h13.rd h13.len.symm (by omega) hf14'.size fun r15 w16 h15 hb15 _ _ => ?_
      have hf16 := hf14'.on hb15
      have hc : IntKind.u8.wrap (IntKind.i64.wrap ((n : Int) + 125)) = ((UInt8.ofNat (n + 125)).toNat : Int) := by
        rw [i64w (by omega) (by omega), u8w, u8_ofNat]; omega
      rw [hc]
      refine nwI fun b17 w18 hb17 hsz18 hf18 hblk18 hrd18 => ?_
      have hh16 := hf16.size
      refine app_B slB (base := w.heap.size) (m := [UInt8.ofNat (n + 125)]) (h15.fr hf18) hrd18 rfl (by simp; omega) (by omega) fun r19 w20 h19 hb19 _ _ => ?_
      have hf20 : Fr w w20 := (hf16.trans hf18).on hb19
      refine (ref_Number_ok h19.bs (by simp; omega) (by omega)).mono ?_
      rintro x21 w22 ⟨h21, hf22⟩
      rw [Int.toNat_natCast] at h21
      have h9 := numB_le back
      rw [i64w (by omega) (by omega)]
      refine ⟨⟨hf20.trans hf22, p + n, p + n, _, Nat.le_refl _, by omega, by simp, ?_, h21.mono hf20.size, ?_, (fun k _ h => by cases h), ?_⟩, by omega⟩
      · simp; omega
      · have : (b.take (p + n)).drop (p + n) = [] := by rw [List.drop_eq_nil_iff, List.length_take]; omega
        rw [this]; exact OwB.nil _ _ _
      · rw [← heq, shortF_any (f := b.length + 1 - (p + n)) (g := b.length - p) (by omega) (by omega) (by omega)]
        simp
  · obtain rfl : p = b.length := by omega
    rw [show b.length + 1 - b.length = 0 + 1 from by omega, shortF, if_neg (by omega)] at heq
    rw [List.take_length] at hso
    have hh := hf.size
    have hpl2 := plainS_len (b.drop lo)
    rw [List.length_drop] at hpl2
    refine (ref_plain_ok hso.bs (by simp; omega)).mono ?_
    rintro x23 w24 ⟨h23, hf24⟩
    refine app_B slB (base := w.heap.size) (ho.fr hf24) h23.rd h23.len.symm (by omega) (hf.trans hf24).size fun r25 w26 h25 hb25 _ _ => ⟨?_, (hf.trans hf24).on hb25⟩
    rw [heq] at h25
    exact h25.bs
end Go.Proofs.YtkojpppnjloikaaDoor
