/- The order of numbers' bytes. No program is named here. -/
import Derived.Test.YtpilmeekncobkaaFlNum
import Derived.Test.YtpilmeekncobkaaFlUse
import Derived.Lib.Bytealg
import Derived.Lib.BytesEntry
namespace Go.Fl
open Go.RowKit Go.Lib

theorem run_bytesOf {P : Program} {w : World} {A : Option Addr} {n c : Nat} {l : List UInt8} (h : Rd w A (u8s l)) (hl : l.length = n) :
    (Extern.Bytes.bytesOf (.slice A n c)).run P w = .ok ⟨l.toArray⟩ w := by
  cases A with
  | none =>
    cases l with
    | nil => rfl
    | cons b t => obtain ⟨ad, ha, _⟩ := h.u8 (l := b :: t) (i := 0) (by simp); cases ha
  | some a =>
    subst hl
    have := run_loadBytesX (P := P) w (l.map fun x => (x.toNat : Int)) a .empty (fun j x hx => by
      rw [List.getElem?_map, Option.map_eq_some_iff] at hx
      obtain ⟨y, hy, rfl⟩ := hx
      obtain ⟨ad, ha, hc⟩ := h j (.int .u8 y.toNat) (by simp [u8s, hy])
      cases ha
      exact hc)
    rw [List.length_map] at this
    refine this.trans ?_
    congr 1
    apply ByteArray.ext
    simp [Lib.bytesOf, Function.comp_def]
theorem run_cmpB {P : Program} {w : World} {s x : Sl} {l m : List UInt8} (hs : Bs w s l) (hx : Bs w x m) :
    (Extern.BytealgCompare.compare #[.slice s.a s.n s.c, .slice x.a x.n x.c]).run P w = .ok (.int .i64 (compareBytes l m)) w := by
  change Sem.run P (do pure (goInt (Extern.BytealgCompare.cmp (← Extern.Bytes.bytesOf (.slice s.a s.n s.c)) (← Extern.Bytes.bytesOf (.slice x.a x.n x.c))))) w = _
  simp only [Sem.run_bind, run_bytesOf hs.rd hs.len.symm, run_bytesOf hx.rd hx.len.symm, Sem.run_pure, Result.andThen]
  rw [cmp_eq]
  rfl

/-- Less, alike, more. -/
def cmpN (x y : Nat) : Int := if x < y then -1 else if y < x then 1 else 0
theorem cmp_low (x y : Nat) : ∀ k, compareBytes (lowB x k) (lowB y k) = cmpN (x % 256 ^ k) (y % 256 ^ k)
  | 0 => by simp [lowB, compareBytes, cmpN, Nat.mod_one]
  | k + 1 => by
    rw [lowB_succ, lowB_succ, compareBytes, cmp_low x y k, Nat.mod_pow_succ, Nat.mod_pow_succ]
    simp only [UInt8.lt_iff_toNat_lt, UInt8.toNat_ofNat']
    have hB : 0 < 256 ^ k := Nat.pow_pos (by decide)
    have h1 := Nat.mod_lt x hB
    have h2 := Nat.mod_lt y hB
    rw [show (2 : Nat) ^ 8 = 256 from rfl]
    generalize x / 256 ^ k % 256 = p
    generalize y / 256 ^ k % 256 = q
    generalize x % 256 ^ k = r at *
    generalize y % 256 ^ k = s at *
    generalize 256 ^ k = B at *
    by_cases hpq : p < q
    · have := Nat.mul_le_mul_left B (show p + 1 ≤ q by omega)
      rw [Nat.mul_add] at this
      rw [if_pos hpq, cmpN, if_pos (by omega)]
    · by_cases hqp : q < p
      · have := Nat.mul_le_mul_left B (show q + 1 ≤ p by omega)
        rw [Nat.mul_add] at this
        rw [if_neg hpq, if_pos hqp, cmpN, if_neg (by omega), if_pos (by omega)]
      · obtain rfl : p = q := by omega
        rw [if_neg hpq, if_neg hpq]
        unfold cmpN
        congr 1
        · simp
        · congr 1; simp
theorem lead_more {x y : Nat} (h : moreN x < moreN y) : leadB x (moreN x) < leadB y (moreN y) ∧ x < y := by
  obtain ⟨h1, _⟩ := moreF_spec (f := 8) (x := x)
  obtain ⟨_, h2⟩ := moreF_spec (f := 8) (x := y)
  change moreN x < 8 → x < 128 ^ (moreN x + 1) at h1
  change ∀ j, j < moreN y → 128 ^ (j + 1) ≤ y at h2
  have hy := moreN_le y
  have h1 := h1 (by omega)
  have hs := lead_small (x := x) (k := moreN x) (by omega) h1
  have h2 := h2 _ h
  unfold leadB
  rw [if_pos (by omega)]
  generalize x / 256 ^ moreN x = q at *
  generalize (if moreN y < 8 then y / 256 ^ moreN y else 0) = q'
  generalize moreN x = k at *
  generalize moreN y = k' at *
  have e : (2 : Nat) ^ (8 - k) = 2 * 2 ^ (7 - k) := by rw [show 8 - k = (7 - k) + 1 from by omega, Nat.pow_succ]; omega
  have e1 : (2 : Nat) ^ (8 - k') ≤ 2 ^ (7 - k) := Nat.pow_le_pow_right (by decide) (by omega)
  have e2 : (2 : Nat) ^ (7 - k) ≤ 2 ^ 7 := Nat.pow_le_pow_right (by decide) (by omega)
  exact ⟨by omega, by omega⟩
theorem lead_lt' (x : Nat) : leadB x (moreN x) < 256 := leadB_lt (moreF_spec (f := 8) (x := x)).1 (moreN_le x)
theorem cmp_num {x y : Nat} (hx63 : x ≤ 9223372036854775807) (hy63 : y ≤ 9223372036854775807) : compareBytes (numB x) (numB y) = cmpN x y := by
  unfold numB
  rw [compareBytes]
  simp only [UInt8.lt_iff_toNat_lt, UInt8.toNat_ofNat']
  have hx := lead_lt' x
  have hy := lead_lt' y
  rw [Nat.mod_eq_of_lt hx, Nat.mod_eq_of_lt hy]
  rcases Nat.lt_trichotomy (moreN x) (moreN y) with h | h | h
  · have := lead_more h
    rw [if_pos this.1, cmpN, if_pos this.2]
  · rw [← h, cmp_low]
    unfold leadB
    have h1 := Nat.div_add_mod x (256 ^ moreN x)
    have h2 := Nat.div_add_mod y (256 ^ moreN x)
    have h8 := moreN_le x
    by_cases hk : moreN x < 8
    · rw [if_pos hk, if_pos hk]
      have hB : 0 < 256 ^ moreN x := Nat.pow_pos (by decide)
      have hm1 := Nat.mod_lt x hB
      have hm2 := Nat.mod_lt y hB
      generalize 256 - 2 ^ (8 - moreN x) = A
      generalize 256 ^ moreN x = B at *
      generalize x / B = p at *
      generalize y / B = q at *
      generalize x % B = r at *
      generalize y % B = s at *
      subst h1 h2
      by_cases hpq : p < q
      · have := Nat.mul_le_mul_left B (show p + 1 ≤ q by omega)
        rw [Nat.mul_add] at this
        rw [if_pos (by omega), cmpN, if_pos (by omega)]
      · by_cases hqp : q < p
        · have := Nat.mul_le_mul_left B (show q + 1 ≤ p by omega)
          rw [Nat.mul_add] at this
          rw [if_neg (by omega), if_pos (by omega), cmpN, if_neg (by omega), if_pos (by omega)]
        · obtain rfl : p = q := by omega
          rw [if_neg (by omega), if_neg (by omega)]
          unfold cmpN
          congr 1
          · simp
          · congr 1; simp
    · have h88 : moreN x = 8 := by omega
      rw [if_neg hk, if_neg hk, if_neg (by omega), if_neg (by omega)]
      rw [h88, Nat.mod_eq_of_lt (show x < 256 ^ 8 from by omega), Nat.mod_eq_of_lt (show y < 256 ^ 8 from by omega)]
  · have := lead_more h
    rw [if_neg (by omega), if_pos this.1, cmpN, if_neg (by omega), if_pos this.2]
end Go.Fl
