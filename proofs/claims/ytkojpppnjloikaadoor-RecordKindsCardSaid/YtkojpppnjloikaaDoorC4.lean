/- Contracts of the reference's Look and reader: they read what octet's reads. -/
import Derived.Test.YtkojpppnjloikaaDoorC2
import Derived.Test.YtkojpppnjloikaaDoorC3
namespace Go.Proofs.YtkojpppnjloikaaDoor
open Go.RowKit Go.Fl

theorem Lead_q {k : Nat} {w : World} {K : Int → Prop} (hk : k ≤ 8) (h : K ((256 - 2 ^ (8 - k) : Nat) : Int)) : qcl Tryd.prog n_flumeref02_Lead #[.int .i64 (k : Int)] (.I .i64) w K := by
  refine ⟨((256 - 2 ^ (8 - k) : Nat) : Int), fun n => (Lead_ok hk).mono ?_, h⟩
  rintro _ _ ⟨rfl, rfl⟩
  exact ⟨rfl, n, rfl⟩

theorem ref_Look_ok {s : Sl} {l : List UInt8} {w : World} (hs : Bs w s l) (hl : l.length ≤ 1099511627776) :
    cl Tryd.prog n_flumeref02_Look #[.slice s.a s.n s.c] (.tup (.pair (.I .i64) (.pair (.I .i64) (.pair (.I .i64) .nil)))) w
      fun (r : Int × Int × Int × Unit) w' => r = (((lookS l).1 : Int), ((lookS l).2.1 : Int), ((lookS l).2.2 : Int), ()) ∧ Fr w w' := by
  refine flumeref02_Look.cl ?_
  unfold flumeref02_Look
  have hn := hs.len
  cases l with
  | nil => exact bT (by simp [hn]) ⟨rfl, Fr.refl w⟩
  | cons b t =>
    refine bF (by simp [hn]; omega) ?_
    have hb := b.toNat_lt
    have ho := ones_le b.toNat
    rw [List.length_cons] at hn hl
    intro j1
    have hj : ∀ w', Fr w w' → j1 (ones b.toNat : Int) w' := by
      intro w' hf
      have hoy := ones_y hb
      have hsp := (ones_spec hb).1
      show bif _ then _ else _
      rw [lookS_cons, hoy]
      have hiff : ∀ X, X = beN (b.toNat - (256 - 2 ^ (8 - ones b.toNat))) (t.take (ones b.toNat)) → ones b.toNat ≤ t.length → X ≤ 9223372036854775807 → (numB X = b :: t.take (ones b.toNat) ↔ moreN X = ones b.toNat) := fun X h1 h2 h3 => num_iff h1 h2 h3
      generalize ones b.toNat = k at *
      rw [i64w (n := (k : Int) + 1) (by omega) (by omega)]
      refine bD ?_ ?_ <;> intro hlen
      · rw [if_pos (by omega)]; exact ⟨rfl, hf⟩
      · rw [if_neg (by omega)]
        refine ixB0 hs.rd (by simp [hn]) hf ?_
        refine Lead_q ho ?_
        intro n1
        have hf1 : Fr w (w'.drewN n1) := hf.trans (Fr.drewN _ _)
        generalize w'.drewN n1 = w1 at hf1
        generalize hy : b.toNat - (256 - 2 ^ (8 - k)) = y at *
        have hkt : k ≤ t.length := by omega
        refine lpI (fun s' w'' => Fr w w'' ∧ ∃ i : Nat, i ≤ k ∧ s'.2.1 = (i : Int) + 1 ∧ s'.1 = (beN y (t.take i) : Nat) ∧ beN y (t.take i) ≤ 9223372036854775807) (fun s' _ => (k + 1 - s'.2.1).toNat) ⟨hf1, 0, by omega, rfl, ?_, ?_⟩ ?_
        · rw [i64w (n := (b.toNat : Int)) (by omega) (by omega), i64w (by omega) (by omega)]
          show _ = ((y : Nat) : Int)
          omega
        · show y ≤ _
          omega
        · rintro _ ⟨z, i, ⟨⟩⟩ w2 ⟨hf2, i, hik, rfl, rfl, h63⟩
          dsimp only
          refine bD ?_ ?_ <;> intro hi
          · have hik' : i < k := by omega
            have hX : beN y (t.take k) = beN (beN y (t.take i)) ((t.take k).drop i) := by
              rw [← beN_append]
              congr 1
              have := List.take_append_drop i (t.take k)
              rw [List.take_take, Nat.min_eq_left (by omega)] at this
              exact this.symm
            refine bD ?_ ?_ <;> intro hbig
            · have := beN_far (l := t.take k) (k := i) (show beN y (t.take i) ≥ 36028797018963968 by omega) (by rw [List.length_take]; omega)
              rw [hX, if_pos this]
              exact ⟨rfl, hf2⟩
            · refine ixB hs.rd (by simp [hn]) (by omega) (by rw [List.length_cons]; omega) hf2 ?_
              have e1 : ((i : Int) + 1).toNat = i + 1 := by omega
              have hst : t.take (i + 1) = t.take i ++ [t[i]] := by rw [List.take_succ_eq_append_getElem (by omega)]
              have hstep : beN y (t.take (i + 1)) = beN y (t.take i) * 256 + t[i].toNat := by rw [hst, beN_append]; rfl
              have hc := t[i].toNat_lt
              simp only [e1, List.getElem_cons_succ]
              rw [i64w (n := 256 * _) (by omega) (by omega), i64w (n := ((t[i].toNat : Nat) : Int)) (by omega) (by omega), i64w (by omega) (by omega), i64w (by omega) (by omega)]
              refine ⟨⟨hf2, i + 1, by omega, by simp, ?_, by omega⟩, by omega⟩
              rw [hstep]
              omega
          · obtain rfl : i = k := by omega
            have hiff := hiff _ rfl hkt h63
            generalize beN y (t.take i) = X at *
            rw [if_neg (by omega)]
            intro n2
            have hf3 : Fr w (w2.drewN n2) := hf2.trans (Fr.drewN _ _)
            generalize w2.drewN n2 = w3 at hf3
            refine slsB (hs.fr hf3) (by decide) (by omega) (by rw [List.length_cons]; omega) fun r hr _ _ => ?_
            rw [show ((i : Int) + 1).toNat = i + 1 from by omega, Int.toNat_zero, List.drop_zero, List.take_succ_cons] at hr
            refine bstrI hr.rd hr.len.symm (Fr.refl _) ?_
            refine (ref_Number_ok (Bs.nil w3 0) (by simp) (by omega)).mono ?_
            rintro x w4 ⟨hx, hf4⟩
            rw [List.nil_append, Int.toNat_natCast] at hx
            refine ⟨hf4, bstrI hx.rd hx.len.symm (Fr.refl _) ?_⟩
            rw [beqB_eq]
            by_cases hm : moreN X = i
            · rw [if_neg (by omega)]
              refine bF (by rw [decide_eq_true (hiff.2 hm)]; rfl) ⟨?_, hf3.trans hf4⟩
              simp
            · rw [if_pos hm]
              exact bT (by rw [decide_eq_false (fun h => hm (hiff.1 h))]; rfl) ⟨rfl, hf3.trans hf4⟩
    refine lpI (fun s' w' => Fr w w' ∧ ∃ k : Nat, k ≤ 8 ∧ s'.1 = k ∧ ∀ j, j ≤ k → 256 - 2 ^ (8 - j) ≤ b.toNat) (fun s' _ => (8 - s'.1).toNat) ⟨Fr.refl w, 0, by omega, rfl, fun j hj => by rw [Nat.le_zero.1 hj]; simp⟩ ?_
    rintro _ ⟨k, ⟨⟩⟩ w' ⟨hf, k, hk, rfl, hle⟩
    dsimp only
    refine bD ?_ ?_ <;> intro h8
    · refine ixB0 hs.rd (by simp [hn]) hf ?_
      rw [i64w (n := (k : Int) + 1) (by omega) (by omega), show (k : Int) + 1 = ((k + 1 : Nat) : Int) from by simp]
      refine Lead_q (by omega) ?_
      intro n
      have hf' : Fr w (w'.drewN n) := hf.trans (Fr.drewN _ _)
      rw [i64w (n := (b.toNat : Int)) (by omega) (by omega)]
      refine bD ?_ ?_ <;> intro hge
      · refine ⟨⟨hf', k + 1, by omega, rfl, fun j hj => ?_⟩, by omega⟩
        by_cases hjk : j ≤ k
        · exact hle j hjk
        · obtain rfl : j = k + 1 := by omega
          omega
      · have : ones b.toNat = k := ones_of (by omega) (hle k (Nat.le_refl _)) (by rw [show 7 - k = 8 - (k + 1) from by omega]; omega)
        rw [← this]
        exact hj _ hf'
    · obtain rfl : k = 8 := by omega
      have h255 := hle 8 (Nat.le_refl _)
      have h1 : ones b.toNat = 8 := by
        have : b.toNat = 255 := by simp at h255; omega
        rw [this]; rfl
      intro n
      have := hj (w'.drewN n) (hf.trans (Fr.drewN _ _))
      rwa [h1] at this
end Go.Proofs.YtkojpppnjloikaaDoor
