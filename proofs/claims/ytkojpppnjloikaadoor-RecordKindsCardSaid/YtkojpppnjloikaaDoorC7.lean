/- Contracts: what tokens tell, by the reference and by lz. -/
import Derived.Test.YtkojpppnjloikaaDoorC4
import Derived.Test.YtkojpppnjloikaaDoorC6
import Derived.Test.YtkojpppnjloikaaDoorFlMem
namespace Go.Proofs.YtkojpppnjloikaaDoor
open Go.RowKit Go.Fl

set_option maxRecDepth 4000 in
theorem ref_Restore_ok {s : Sl} {b : List UInt8} {most : Int} {w : World} (hs : Bs w s b) (hl : b.length ≤ 1099511627776) (hm : -9223372036854775808 ≤ most ∧ most ≤ 9223372036854775807) :
    cl Tryd.prog n_flumeref07_Restore #[.slice s.a s.n s.c, .int .i64 most] (.tup (.pair .L (.pair (.I .i64) .nil))) w fun (r : Sl × Int × Unit) w' => OwB w' w.heap.size t_uint8 r.1 (restS b most).1 ∧ r.2 = (((restS b most).2 : Int), ()) ∧ Fr w w' := by
  refine flumeref07_Restore.cl ?_
  unfold flumeref07_Restore
  have hn := hs.len
  refine lpI (fun s' w' => Fr w w' ∧ ∃ (p : Nat) (o : List UInt8), p ≤ b.length ∧ s'.2.1 = p ∧ OwB w' w.heap.size t_uint8 s'.1 o ∧ o.length ≤ 66 * p ∧ restF most (b.length - p) (b.drop p) o = restS b most) (fun s' _ => (b.length - s'.2.1).toNat)
    ⟨Fr.refl w, 0, [], Nat.zero_le _, rfl, OwB.nil _ _ _, Nat.zero_le _, rfl⟩ ?_
  rintro _ ⟨out, p', ⟨⟩⟩ w2 ⟨hf, p, o, hp, rfl, ho, hol, heq⟩
  dsimp only at ho ⊢
  have hon := ho.len
  refine bD ?_ ?_ <;> intro hlt
  · have hpl : p < b.length := by omega
    have hbp := hs.fr hf
    obtain ⟨c, hc⟩ : ∃ c, b[p] = c := ⟨_, rfl⟩
    refine ixBc (c := c) hs.rd hs.len (by omega) (by rw [Int.toNat_natCast, List.getElem?_eq_getElem hpl, hc]) hf ?_
    have hdrop : b.drop p = c :: b.drop (p + 1) := hc ▸ List.drop_eq_getElem_cons hpl
    rw [show b.length - p = (b.length - p - 1) + 1 from by omega, hdrop, restF] at heq
    clear hdrop hc
    have hc := c.toNat_lt
    rw [i64w (n := (c.toNat : Int)) (by omega) (by omega), i64w (n := (p : Int) + 1) (by omega) (by omega)]
    rw [List.length_drop] at heq
    refine bD ?_ ?_ <;> intro h128
    · rw [if_pos (by omega)] at heq
      rw [i64w (n := (s.n : Int) - _) (by omega) (by omega), i64w (n := (c.toNat : Int) + 1) (by omega) (by omega)]
      refine bD ?_ ?_ <;> intro h1
      · rw [if_pos (by omega)] at heq
        rw [← heq]; exact ⟨OwB.nil _ _ _, rfl, hf⟩
      · rw [if_neg (by omega)] at heq
        refine bD ?_ ?_ <;> intro h2
        · rw [if_pos (by omega)] at heq
          rw [← heq]; exact ⟨OwB.nil _ _ _, rfl, hf⟩
        · rw [i64w (n := most - _) (by omega) (by omega), i64w (n := most - _ - 1) (by omega) (by omega)]
          refine bD ?_ ?_ <;> intro h3
          · rw [if_pos (by omega)] at heq
            rw [← heq]; exact ⟨OwB.nil _ _ _, rfl, hf⟩
          · rw [if_neg (by omega)] at heq
            rw [i64w (n := (p : Int) + 1 + c.toNat) (by omega) (by omega), i64w (n := (p : Int) + 1 + c.toNat + 1) (by omega) (by omega), i64w (n := (p : Int) + 1 + (c.toNat + 1)) (by omega) (by omega)]
            refine slsB hbp (by omega) (by omega) (by omega) fun r h _ _ => ?_
            have hr : (b.take ((p : Int) + 1 + c.toNat + 1).toNat).drop ((p : Int) + 1).toNat = (b.drop (p + 1)).take (c.toNat + 1) := by
              rw [show ((p : Int) + 1 + c.toNat + 1).toNat = p + 1 + (c.toNat + 1) from by omega, show ((p : Int) + 1).toNat = p + 1 from by omega, List.drop_take]
              congr 1
              omega
            rw [hr] at h
            have hhl : ((b.drop (p + 1)).take (c.toNat + 1)).length = c.toNat + 1 := by rw [List.length_take, List.length_drop]; omega
            refine app_B slB (base := w.heap.size) ho h.rd h.len.symm (by omega) hf.size fun r8 w9 h9 hb9 _ _ => ?_
            refine ⟨⟨hf.on hb9, p + 1 + (c.toNat + 1), _, by omega, by omega, h9, by rw [List.length_append]; omega, ?_⟩, by omega⟩
            rw [← heq, List.drop_drop]
            exact restF_any (by rw [List.length_drop]; omega) (by rw [List.length_drop]; omega)
    · rw [if_neg (by omega)] at heq
      refine slsB hbp (by omega) (by omega) (by omega) fun r h _ _ => ?_
      have hr : (b.take (s.n : Int).toNat).drop ((p : Int) + 1).toNat = b.drop (p + 1) := by
        rw [List.take_of_length_le (by omega), show ((p : Int) + 1).toNat = p + 1 from by omega]
      rw [hr] at h
      refine (ref_Look_ok h (by rw [List.length_drop]; omega)).mono ?_
      rintro _ w12 ⟨rfl, hf12⟩
      dsimp only
      have hle := lookS_le (b.drop (p + 1))
      rw [List.length_drop] at hle
      have hf' := hf.trans hf12
      generalize hL : lookS (b.drop (p + 1)) = L at *
      obtain ⟨back, k, e⟩ := L
      dsimp only at heq hle ⊢
      refine bE ?_ ?_ <;> intro he
      · rw [if_pos (by omega)] at heq
        rw [← heq]; exact ⟨OwB.nil _ _ _, rfl, hf'⟩
      rw [if_neg (by omega)] at heq
      have bad : (e ≠ 0 ∨ c.toNat > 191 ∨ back < 1 ∨ back > 512 ∨ back > o.length) → OwB w12 w.heap.size t_uint8 ⟨none, 0, 0⟩ (restS b most).1 ∧ ((70 : Int), ()) = (((restS b most).2 : Int), ()) ∧ Fr w w12 := by
        intro h
        rw [if_pos h] at heq
        rw [← heq]; exact ⟨OwB.nil _ _ _, rfl, hf'⟩
      refine bNe ?_ ?_ <;> intro h0
      · exact bad (by omega)
      refine bD ?_ ?_ <;> intro h1
      · exact bad (by omega)
      refine bD ?_ ?_ <;> intro h2
      · exact bad (by omega)
      refine bD ?_ ?_ <;> intro h3
      · exact bad (by omega)
      refine bD ?_ ?_ <;> intro h4
      · exact bad (by omega)
      rw [if_neg (by omega)] at heq
      have he0 : e = 0 := by omega
      subst he0
      rw [i64w (n := (c.toNat : Int) - 125) (by omega) (by omega)]
      have cap : (c.toNat : Int) - 125 > most - o.length → OwB w12 w.heap.size t_uint8 ⟨none, 0, 0⟩ (restS b most).1 ∧ ((71 : Int), ()) = (((restS b most).2 : Int), ()) ∧ Fr w w12 := by
        intro h
        rw [if_pos h] at heq
        rw [← heq]; exact ⟨OwB.nil _ _ _, rfl, hf'⟩
      refine bD ?_ ?_ <;> intro h5
      · exact cap (by omega)
      rw [i64w (n := most - _) (by omega) (by omega)]
      refine bD ?_ ?_ <;> intro h6
      · exact cap (by omega)
      rw [if_neg (by omega)] at heq
      clear bad cap
      refine lpI (fun s' w' => Fr w w' ∧ ∃ i : Nat, i ≤ c.toNat - 125 ∧ s'.2.1 = i ∧ OwB w' w.heap.size t_uint8 s'.1 (againF back i o)) (fun s' _ => (c.toNat - 125 - s'.2.1).toNat) ⟨hf', 0, Nat.zero_le _, rfl, ho.fr hf12⟩ ?_
      rintro _ ⟨x, i', ⟨⟩⟩ w14 ⟨hf14, i, hi, rfl, hx⟩
      dsimp only at hx ⊢
      have hxl := againF_length back i o
      have hxn := hx.len
      refine bD ?_ ?_ <;> intro hlt2
      · rw [i64w (n := (x.n : Int) - back) (by omega) (by omega)]
        refine ixB hx.rd hx.len (by omega) (by omega) (Fr.refl _) ?_
        refine nwI fun b17 w18 hb17 hsz18 hf18 hblk18 hrd18 => ?_
        have hget : (againF back i o)[((x.n : Int) - back).toNat]'(by omega) = (againF back i o).getD ((againF back i o).length - back) 0 := by
          rw [List.getD_eq_getElem?_getD, List.getElem?_eq_getElem (by omega), Option.getD_some]
          congr 1
          omega
        refine app_B slB (base := w.heap.size) (m := [(againF back i o)[((x.n : Int) - back).toNat]'(by omega)]) (hx.fr hf18) hrd18 rfl (by simp; omega) (hf14.trans hf18).size fun r21 w22 h21 hb21 _ _ => ?_
        rw [hget, ← againF_snoc] at h21
        rw [i64w (n := (i : Int) + 1) (by omega) (by omega)]
        exact ⟨⟨(hf14.trans hf18).on hb21, i + 1, by omega, rfl, h21⟩, by omega⟩
      · have hi2 : i = c.toNat - 125 := by omega
        subst hi2
        rw [i64w (by omega) (by omega)]
        refine ⟨⟨hf14, p + 1 + k, _, by omega, by omega, hx, by omega, ?_⟩, by omega⟩
        rw [← heq, List.drop_drop]
        exact restF_any (by rw [List.length_drop]; omega) (by rw [List.length_drop]; omega)
  · obtain rfl : p = b.length := by omega
    rw [List.drop_length] at heq
    have : restS b most = (o, 0) := by rw [← heq]; cases b.length - b.length <;> rfl
    rw [this]; exact ⟨ho, rfl, hf⟩
set_option maxRecDepth 4000 in
theorem step_ok {so sb : Sl} {out t : List UInt8} {c : UInt8} {w : World} (hso : Bs w so out) (hsb : Bs w sb (c :: t)) (hl : t.length ≤ 1099511627776) (hlo : out.length ≤ 140737488355328) :
    cl Tryd.prog n_lz_step #[.slice so.a so.n so.c, .slice sb.a sb.n sb.c] (.tup (.pair .L (.pair (.I .i64) (.pair (.I .i64) .nil)))) w fun (r : Sl × Int × Int × Unit) w' => Bs w' r.1 (stepS out c t).1 ∧ r.2 = (((stepS out c t).2.1 : Int), ((stepS out c t).2.2 : Int), ()) ∧ Fr w w' := by
  refine lz_step.cl ?_
  unfold lz_step
  have hn := hsb.len
  have hno := hso.len
  rw [List.length_cons] at hn
  have hc := c.toNat_lt
  refine ixBc (c := c) hsb.rd hsb.len (by decide) rfl (Fr.refl w) ?_
  dsimp -zeta only
  refine bD ?_ ?_ <;> intro h128
  · refine ixBc (c := c) hsb.rd hsb.len (by decide) rfl (Fr.refl w) ?_
    rw [i64w (n := (c.toNat : Int)) (by omega) (by omega), i64w (n := (c.toNat : Int) + 1) (by omega) (by omega), i64w (n := (c.toNat : Int) + 1 + 1) (by omega) (by omega)]
    refine bD ?_ ?_ <;> intro h1
    · have : stepS out c t = ([], 0, 2) := by unfold stepS; rw [if_pos (by omega), if_pos (by omega)]
      rw [this]; exact ⟨Bs.nil _ _, rfl, Fr.refl w⟩
    · have : stepS out c t = (t.take (c.toNat + 1), c.toNat + 2, 0) := by unfold stepS; rw [if_pos (by omega), if_neg (by omega)]
      rw [this]
      refine sls3B slB hsb (.inr rfl) (by decide) (by omega) (by simp; omega) fun r h _ _ => ?_
      have e : ((c :: t).take ((c.toNat : Int) + 1 + 1).toNat).drop (1 : Int).toNat = t.take (c.toNat + 1) := by
        rw [show ((c.toNat : Int) + 1 + 1).toNat = c.toNat + 1 + 1 from by omega]
        simp only [Int.toNat_one, List.take_succ_cons, List.drop_succ_cons, List.drop_zero]
      rw [e] at h
      exact ⟨h, by simp only [Prod.mk.injEq, and_true]; exact ⟨by omega, rfl⟩, Fr.refl w⟩
  · refine ixBc (c := c) hsb.rd hsb.len (by decide) rfl (Fr.refl w) ?_
    refine slsB hsb (by decide) (by omega) (by simp; omega) fun r8 h8 _ _ => ?_
    have e : ((c :: t).take (sb.n : Int).toNat).drop (1 : Int).toNat = t := by
      rw [List.take_of_length_le (by simp; omega)]
      simp only [Int.toNat_one, List.drop_succ_cons, List.drop_zero]
    rw [e] at h8
    refine (Read_ok h8 hl).mono ?_
    rintro x9 w10 ⟨g, rfl, hg, hrdr, hf10⟩
    refine (Within_ok hrdr).mono ?_
    rintro _ w12 ⟨rfl, hrdr12, hgr12⟩
    have hs10 := hf10.size
    have hf12 : Fr w w12 := hf10.on (grown_below hgr12 hg hs10)
    have hlook := lookS_le t
    generalize hW : rdWithin t 1 (min 512 (so.n : Int)) = W at *
    obtain ⟨back, e, k⟩ := W
    dsimp only at hrdr12 ⊢
    have hst : stepS out c t = if e = 2 then ([], 0, 2) else if e ≠ 0 ∨ c.toNat > 191 then ([], 0, 70) else (addF back.toNat (c.toNat - 125) out, k + 1, 0) := by
      unfold stepS
      rw [if_neg (by omega)]
      unfold rdWithin at hW
      generalize lookS t = L at *
      obtain ⟨b', k', e'⟩ := L
      dsimp only at hW ⊢
      by_cases he' : e' ≠ 0
      · rw [if_pos he'] at hW
        simp only [Prod.mk.injEq] at hW
        obtain ⟨rfl, rfl, rfl⟩ := hW
        by_cases h2 : e' = 2
        · rw [if_pos h2, if_pos (show (e' : Int) = 2 by omega)]
        · rw [if_neg h2, if_neg (show ¬(e' : Int) = 2 by omega), if_pos (Or.inl he'), if_pos (Or.inl (show (e' : Int) ≠ 0 by omega))]
      · rw [if_neg he'] at hW
        obtain rfl : e' = 0 := by omega
        rw [if_neg (show ¬(0 : Nat) = 2 by decide)]
        by_cases hr : (b' : Int) < 1 ∨ (b' : Int) > min 512 (so.n : Int)
        · rw [if_pos hr] at hW
          simp only [Prod.mk.injEq] at hW
          obtain ⟨rfl, rfl, rfl⟩ := hW
          rw [if_neg (show ¬(5 : Int) = 2 by decide), if_pos (Or.inl (show (5 : Int) ≠ 0 by decide)), if_pos (show (0 : Nat) ≠ 0 ∨ c.toNat > 191 ∨ b' < 1 ∨ b' > 512 ∨ b' > out.length by omega)]
        · rw [if_neg hr] at hW
          simp only [Prod.mk.injEq] at hW
          obtain ⟨rfl, rfl, rfl⟩ := hW
          rw [if_neg (show ¬((0 : Int) = 2) by decide)]
          by_cases hq : c.toNat > 191
          · rw [if_pos (show (0 : Nat) ≠ 0 ∨ c.toNat > 191 ∨ b' < 1 ∨ b' > 512 ∨ b' > out.length by omega), if_pos (Or.inr hq)]
          · rw [if_neg (show ¬((0 : Nat) ≠ 0 ∨ c.toNat > 191 ∨ b' < 1 ∨ b' > 512 ∨ b' > out.length) by omega), if_neg (show ¬((0 : Int) ≠ 0 ∨ c.toNat > 191) by omega), Int.toNat_natCast]
    have hbk : e = 0 → 1 ≤ back ∧ back ≤ out.length ∧ k ≤ t.length := by
      rintro rfl
      unfold rdWithin at hW
      split at hW
      · rename_i h; simp only [Prod.mk.injEq] at hW; omega
      · split at hW
        · simp at hW
        · simp only [Prod.mk.injEq] at hW
          omega
    rw [hst]
    refine bE ?_ ?_ <;> intro he
    · rw [if_pos he]; exact ⟨Bs.nil _ _, by rw [he]; rfl, hf12⟩
    rw [if_neg he]
    refine bNe ?_ ?_ <;> intro h0
    · rw [if_pos (by omega)]; exact ⟨Bs.nil _ _, rfl, hf12⟩
    rw [i64w (n := (c.toNat : Int)) (by omega) (by omega), i64w (n := (c.toNat : Int) - 128) (by omega) (by omega), i64w (n := (c.toNat : Int) - 128 + 3) (by omega) (by omega)]
    refine bD ?_ ?_ <;> intro h66
    · rw [if_pos (by omega)]; exact ⟨Bs.nil _ _, rfl, hf12⟩
    rw [if_neg (by omega)]
    obtain ⟨hb1, hb2, hk⟩ := hbk (by omega)
    clear hst hbk hW
    obtain ⟨bk, rfl⟩ := Int.eq_ofNat_of_zero_le (show 0 ≤ back by omega)
    rw [Int.toNat_natCast]
    refine mksN slB.under (z := .int .u8 0) (bytes := 1) (by kernel_rfl) rfl w12.heap.size (c.toNat - 125) (by omega) (by omega) (by omega) (Nat.le_refl _) fun w14 ho14 _ _ hf14 => ?_
    refine lpI (fun s' w' => Below w12.heap.size w14 w' ∧ ∃ (i : Nat) (r : List UInt8), i + r.length = c.toNat - 125 ∧ s'.1 = i ∧ OwB w' w12.heap.size t_uint8 ⟨some ⟨w12.heap.size, 0, none⟩, c.toNat - 125, c.toNat - 125⟩ (addF bk i out ++ r)) (fun s' _ => (c.toNat - 125 - s'.1).toNat)
      ⟨Below.refl _ _, 0, List.replicate (c.toNat - 125) 0, by simp, rfl, ?_⟩ ?_
    · have h0 : addF bk 0 out = [] := List.eq_nil_of_length_eq_zero (addF_length _ _ _)
      rw [h0, List.nil_append]
      unfold OwB
      have : u8s (List.replicate (c.toNat - 125) 0) = List.replicate (c.toNat - 125) (Value.int .u8 0) := by simp [u8s]
      rw [this]
      exact ho14
    rintro _ ⟨i', ⟨⟩⟩ w16 ⟨hb16, i, r, hir, rfl, ho⟩
    dsimp only at ho ⊢
    have hal := addF_length bk i out
    have hsl := ho.len
    have hf16 : Fr w w16 := hf12.trans (hf14.on hb16)
    have hr16 : Rdr w16 w.heap.size g (t.drop k) := hrdr12.fr (hf14.on hb16)
    refine bD ?_ ?_ <;> intro hlt
    · have fin : ∀ (v : UInt8) (K : World → Prop), (out ++ addF bk i out)[out.length + i - bk]? = some v → (∀ w', OwB w' w12.heap.size t_uint8 ⟨some ⟨w12.heap.size, 0, none⟩, c.toNat - 125, c.toNat - 125⟩ (addF bk (i + 1) out ++ r.tail) → Below w12.heap.size w16 w' → K w') →
          ixa (some ⟨w12.heap.size, 0, none⟩) (c.toNat - 125) (i : Int) 1 fun a => st1 w16 a (.int .u8 v.toNat) K := by
        intro v K hv hK
        refine stB ho (by omega) (by simp; omega) v rfl fun w' ho' hb' _ _ => hK w' ?_ hb'
        rw [addF_snoc, List.getD_eq_getElem?_getD, hv, Option.getD_some]
        rw [Int.toNat_natCast, List.set_append_right _ _ (by omega), hal, Nat.sub_self] at ho'
        cases r with
        | nil => simp at hir; omega
        | cons x r' => simpa using ho'
      have hi1 : IntKind.i64.wrap ((i : Int) + 1) = ((i + 1 : Nat) : Int) := by rw [i64w (by omega) (by omega)]; omega
      have go : ∀ w', OwB w' w12.heap.size t_uint8 ⟨some ⟨w12.heap.size, 0, none⟩, c.toNat - 125, c.toNat - 125⟩ (addF bk (i + 1) out ++ r.tail) → Below w12.heap.size w16 w' →
          Below w12.heap.size w14 w' ∧ ∃ (i' : Nat) (r : List UInt8), i' + r.length = c.toNat - 125 ∧ IntKind.i64.wrap ((i : Int) + 1) = i' ∧ OwB w' w12.heap.size t_uint8 ⟨some ⟨w12.heap.size, 0, none⟩, c.toNat - 125, c.toNat - 125⟩ (addF bk i' out ++ r) :=
        fun w' ho' hb' => ⟨hb16.trans hb', i + 1, r.tail, by rw [List.length_tail]; omega, hi1, ho'⟩
      have dec : ((c.toNat : Int) - 125 - IntKind.i64.wrap ((i : Int) + 1)).toNat < ((c.toNat : Int) - 125 - i).toNat := by rw [hi1]; omega
      refine bD ?_ ?_ <;> intro hib
      · rw [i64w (n := (so.n : Int) - bk) (by omega) (by omega), i64w (n := (so.n : Int) - bk + i) (by omega) (by omega)]
        have hget : out[((so.n : Int) - bk + i).toNat]? = some (out[((so.n : Int) - bk + i).toNat]'(by omega)) := List.getElem?_eq_getElem _
        refine ixBc hso.rd hso.len (by omega) hget hf16 ?_
        refine fin _ _ ?_ fun w' ho' hb' => ⟨go w' ho' hb', dec⟩
        rw [← hget, List.getElem?_append_left (by omega)]
        congr 1
        omega
      · rw [i64w (n := (i : Int) - bk) (by omega) (by omega)]
        have hget : (addF bk i out ++ r)[((i : Int) - bk).toNat]? = some ((addF bk i out ++ r)[((i : Int) - bk).toNat]'(by rw [List.length_append]; omega)) := List.getElem?_eq_getElem _
        refine ixBc ho.rd ho.len (by omega) hget (Fr.refl _) ?_
        refine fin _ _ ?_ fun w' ho' hb' => ⟨go w' ho' hb', dec⟩
        have e1 : (addF bk i out ++ r)[((i : Int) - bk).toNat]? = (addF bk i out)[((i : Int) - bk).toNat]? := List.getElem?_append_left (by omega)
        have e2 : (out ++ addF bk i out)[out.length + i - bk]? = (addF bk i out)[out.length + i - bk - out.length]? := List.getElem?_append_right (by omega)
        rw [← hget, e1, e2]
        congr 1
        omega
    · refine (Left_ok hr16).mono ?_
      rintro _ w28 ⟨rfl, rfl⟩
      rw [List.length_drop]
      have hi2 : i = c.toNat - 125 := by omega
      have hr0 : r = [] := List.eq_nil_of_length_eq_zero (by omega)
      rw [hr0, List.append_nil, hi2] at ho
      refine ⟨ho.bs, ?_, hf16⟩
      rw [i64w (by omega) (by omega)]
      simp only [Prod.mk.injEq, and_true]
      exact ⟨by omega, rfl⟩
theorem Restore_ok {s : Sl} {b : List UInt8} {most : Int} {w : World} (hs : Bs w s b) (hl : b.length ≤ 1099511627776) (hm : -9223372036854775808 ≤ most ∧ most ≤ 9223372036854775807) :
    cl Tryd.prog n_lz_Restore #[.slice s.a s.n s.c, .int .i64 most] (.tup (.pair .L (.pair (.I .i64) .nil))) w fun (r : Sl × Int × Unit) w' => OwB w' w.heap.size t_uint8 r.1 (restS b most).1 ∧ r.2 = (((restS b most).2 : Int), ()) ∧ Fr w w' := by
  refine lz_Restore.cl ?_
  unfold lz_Restore
  refine lpI (fun s' w' => Fr w w' ∧ ∃ (l o : List UInt8), Bs w' s'.1 l ∧ (l ≠ [] → ∀ ad, s'.1.a = some ad → ad.block < w.heap.size) ∧ OwB w' w.heap.size t_uint8 s'.2.1 o ∧ (o.length : Int) ≤ max most 0 ∧ o.length + 66 * l.length ≤ 66 * b.length ∧ restF most l.length l o = restS b most) (fun s' _ => s'.1.n)
    ⟨Fr.refl w, b, [], hs, hs.lt, OwB.nil _ _ _, by simp; omega, by simp, rfl⟩ ?_
  rintro _ ⟨x, out, ⟨⟩⟩ w2 ⟨hf, l, o, hx, hold, ho, hom, hol, heq⟩
  dsimp only at hx hold ho ⊢
  have hn := hx.len
  have hno := ho.len
  refine bD ?_ ?_ <;> intro hpos
  · cases l with
    | nil => simp at hn; omega
    | cons c t =>
      rw [List.length_cons] at hn hol heq
      refine (step_ok ho.bs hx (by omega) (by omega)).mono ?_
      rintro ⟨add, r2⟩ w6 ⟨hadd, hr2, hf6⟩
      dsimp only at hadd hr2
      subst hr2
      rw [restF_step] at heq
      have hle := stepS_le o c t
      have hsl := stepS_len o c t
      have hal := hadd.len
      generalize hS : stepS o c t = S at *
      obtain ⟨ad, k, e⟩ := S
      dsimp only at heq hadd hal hle hsl ⊢
      have hf' := hf.trans hf6
      refine bNe ?_ ?_ <;> intro he
      · rw [if_pos (by omega)] at heq
        rw [← heq]; exact ⟨OwB.nil _ _ _, rfl, hf'⟩
      · rw [if_neg (by omega)] at heq
        rw [i64w (n := most - out.n) (by omega) (by omega)]
        refine bD ?_ ?_ <;> intro hm2
        · rw [if_pos (by omega)] at heq
          rw [← heq]; exact ⟨OwB.nil _ _ _, rfl, hf'⟩
        · rw [if_neg (by omega)] at heq
          refine app_B slB (base := w.heap.size) (ho.fr hf6) hadd.rd hadd.len.symm (by omega) hf'.size fun r7 w8 h8 hb8 _ _ => ?_
          have hK : Kp (fun k => k < w.heap.size) w2 w8 := fun k hk2 hk => (hb8.block k hk).trans (hf6.block k hk2)
          have hx8 : Bs w8 x (c :: t) := hx.kpn hK fun h => hold h
          refine slsB hx8 (by omega) (by omega) (by simp; omega) fun r9 h9 hblk9 _ => ?_
          have e9 : ((c :: t).take (x.n : Int).toNat).drop (k : Int).toNat = (c :: t).drop k := by
            rw [List.take_of_length_le (by simp; omega), Int.toNat_natCast]
          rw [e9] at h9
          have h9l := h9.len
          rw [List.length_drop, List.length_cons] at h9l
          have h1k := hle.2 (by omega)
          refine ⟨⟨hf'.on hb8, (c :: t).drop k, o ++ ad, h9, fun _ a ha => ?_, h8, ?_, ?_, ?_⟩, by omega⟩
          · obtain ⟨a', h1, h2⟩ := hblk9 a ha
            rw [h2]
            exact hold (by simp) a' h1
          · rw [List.length_append]; omega
          · rw [List.length_append, List.length_drop, List.length_cons]; omega
          · rw [← heq]
            exact restF_any (by rw [List.length_drop]; omega) (by rw [List.length_drop, List.length_cons]; omega)
  · have hl0 : l = [] := List.eq_nil_of_length_eq_zero (by omega)
    subst hl0
    rw [← heq]; exact ⟨ho, rfl, hf⟩
end Go.Proofs.YtkojpppnjloikaaDoor
