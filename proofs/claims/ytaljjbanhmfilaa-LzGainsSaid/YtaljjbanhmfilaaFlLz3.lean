/- Layer 7, plain law: of bytes that are one stretch again and again the tokens are few. No program is named here. -/
import Derived.Test.YtaljjbanhmfilaaFlLz2
namespace Go.Fl

/-- Bytes that repeat each L. -/
def Per (b : List UInt8) (L : Nat) : Prop := ∀ i, L ≤ i → i < b.length → b[i - L]? = b[i]?
theorem per_alike {b : List UInt8} {L : Nat} (h : Per b L) : ∀ {f p : Nat}, L ≤ p → p ≤ b.length → alikeF b f (p - L) p = min f (b.length - p)
  | 0, p, _, _ => by simp [alikeF]
  | f + 1, p, hp, hl => by
    unfold alikeF
    by_cases hlt : p < b.length
    · rw [if_pos ⟨hlt, h p hp hlt⟩, show p - L + 1 = p + 1 - L from by omega, per_alike h (by omega) (by omega)]
      omega
    · rw [if_neg fun hc => hlt hc.1]
      omega
theorem per_long {b : List UInt8} {L p : Nat} (h : Per b L) (hL : 1 ≤ L) (hL' : L ≤ 60) (hp : L ≤ p) (hl : p ≤ b.length) : (longS b p).2 = min 66 (b.length - p) := by
  have h1 := longS_max (b := b) (p := p) (k := L) hL (by omega)
  rw [per_alike h hp hl] at h1
  have h2 := longS_fits hl
  omega
theorem short_end (b : List UInt8) (f : Nat) : (shortF b f b.length b.length).length = 0 := by
  cases f with
  | zero => rfl
  | succ f => rw [shortF, if_neg (by omega), List.drop_length, plainS_nil]; rfl
/-- Fewer than three are left: they stand as they are. -/
theorem gain_tail {b : List UInt8} {L : Nat} (h : Per b L) (hL : 1 ≤ L) (hL' : L ≤ 60) {lo : Nat} (hm : b.length - lo ≤ 128) : ∀ (f p : Nat), b.length + 1 ≤ f + p → L ≤ p → p ≤ b.length → b.length - p < 3 → (shortF b f lo p).length ≤ b.length - lo + 1
  | 0, p, hf, _, hl, _ => by omega
  | f + 1, p, hf, hp, hl, hr => by
    rw [shortF]
    have hlong := per_long h hL hL' hp hl
    split
    · rw [if_pos (by omega)]
      exact gain_tail h hL hL' hm f (p + 1) (by omega) (by omega) (by omega) (by omega)
    · have := (plain_len _ (b.drop lo) (Nat.le_refl _)).2 (by rw [List.length_drop]; omega)
      rwa [List.length_drop] at this
theorem gain_zero {b : List UInt8} {L : Nat} (h : Per b L) (hL : 1 ≤ L) (hL' : L ≤ 60) : ∀ (f p : Nat), b.length + 1 ≤ f + p → L ≤ p → p ≤ b.length → (shortF b f p p).length ≤ 3 * ((b.length - p) / 66 + 1)
  | 0, p, hf, _, hl => by omega
  | f + 1, p, hf, hp, hl => by
    by_cases hr : b.length - p < 3
    · have := gain_tail h hL hL' (lo := p) (by omega) (f + 1) p hf hp hl hr
      by_cases h0 : b.length = p
      · rw [← h0, short_end]; omega
      · omega
    · rw [shortF]
      have hfit := longS_fits hl
      have hlong := per_long h hL hL' hp hl
      rw [if_pos (by omega), if_neg (by omega)]
      have hn : (plainS ((b.take p).drop p)).length = 0 := by
        have : (b.take p).drop p = [] := by rw [List.drop_eq_nil_iff, List.length_take]; omega
        rw [this, plainS_nil]; rfl
      have hb := numB_two (x := (longS b p).1) (by omega)
      rw [List.length_append, List.length_cons, List.length_append, hn]
      by_cases h66 : b.length - p ≥ 66
      · have ih := gain_zero h hL hL' f (p + (longS b p).2) (by omega) (by omega) (by omega)
        have e : (longS b p).2 = 66 := by omega
        rw [e] at ih ⊢
        omega
      · have e : p + (longS b p).2 = b.length := by omega
        rw [e, short_end]
        omega
/-- Behind the first stretch, some bytes still to be told. -/
theorem gain_some {b : List UInt8} {L : Nat} (h : Per b L) (hL : 1 ≤ L) (hL' : L ≤ 60) {f lo p : Nat} (hf : b.length + 1 ≤ f + p) (hlo : lo ≤ p) (hm : p - lo ≤ 60) (hp : L ≤ p) (hl : p ≤ b.length) :
    (shortF b f lo p).length ≤ (p - lo) + 1 + 3 * ((b.length - p) / 66 + 1) := by
  by_cases hr : b.length - p < 3
  · have := gain_tail h hL hL' (lo := lo) (by omega) f p hf hp hl hr
    omega
  · cases f with
    | zero => omega
    | succ f =>
      rw [shortF]
      have hfit := longS_fits hl
      have hlong := per_long h hL hL' hp hl
      have hdl : ((b.take p).drop lo).length = p - lo := by rw [List.length_drop, List.length_take]; omega
      rw [if_pos (by omega), if_neg (by omega)]
      have hpl := (plain_len _ ((b.take p).drop lo) (Nat.le_refl _)).2 (by omega)
      rw [hdl] at hpl
      have hb := numB_two (x := (longS b p).1) (by omega)
      rw [List.length_append, List.length_cons, List.length_append]
      by_cases h66 : b.length - p ≥ 66
      · have ih := gain_zero h hL hL' f (p + (longS b p).2) (by omega) (by omega) (by omega)
        have e : (longS b p).2 = 66 := by omega
        rw [e] at ih ⊢
        omega
      · have e : p + (longS b p).2 = b.length := by omega
        rw [e, short_end]
        omega
theorem gain_first {b : List UInt8} {L : Nat} (h : Per b L) (hL : 1 ≤ L) (hL' : L ≤ 60) (hLb : L ≤ b.length) : ∀ (f lo p : Nat), b.length + 1 ≤ f + p → lo ≤ p → p < L →
    (shortF b f lo p).length ≤ (L - lo) + 1 + 3 * (b.length / 66 + 2)
  | 0, lo, p, hf, _, _ => by omega
  | f + 1, lo, p, hf, hlo, hp => by
    rw [shortF]
    have hfit := longS_fits (b := b) (p := p) (by omega)
    have hdl : ((b.take p).drop lo).length = p - lo := by rw [List.length_drop, List.length_take]; omega
    rw [if_pos (by omega)]
    split
    · by_cases e : p + 1 = L
      · have := gain_some h hL hL' (f := f) (lo := lo) (p := p + 1) (by omega) (by omega) (by omega) (by omega) (by omega)
        have hd : (b.length - (p + 1)) / 66 ≤ b.length / 66 := Nat.div_le_div_right (by omega)
        omega
      · exact gain_first h hL hL' hLb f lo (p + 1) (by omega) (by omega) (by omega)
    · have hpl := (plain_len _ ((b.take p).drop lo) (Nat.le_refl _)).2 (by omega)
      rw [hdl] at hpl
      have hb := numB_one (x := (longS b p).1) (by omega)
      rw [List.length_append, List.length_cons, List.length_append, hb]
      by_cases e : p + (longS b p).2 < L
      · have := gain_first h hL hL' hLb f (p + (longS b p).2) (p + (longS b p).2) (by omega) (Nat.le_refl _) e
        omega
      · have := gain_zero h hL hL' f (p + (longS b p).2) (by omega) (by omega) (by omega)
        have hd : (b.length - (p + (longS b p).2)) / 66 ≤ b.length / 66 := Nat.div_le_div_right (by omega)
        omega
/-- The law. -/
theorem short_gains {b : List UInt8} {L : Nat} (h : Per b L) (hL : 1 ≤ L) (hL' : L ≤ 60) (hb : b = [] ∨ L ≤ b.length) : (shortS b).length ≤ L + 1 + 3 * (b.length / 66 + 2) := by
  rcases hb with rfl | hb
  · have : shortS [] = [] := rfl
    rw [this]; simp
  · have := gain_first h hL hL' hb (b.length + 1) 0 0 (by omega) (Nat.le_refl _) (by omega)
    unfold shortS
    omega
/-- A part, so many times. -/
def repS (part : List UInt8) : Nat → List UInt8
  | 0 => []
  | n + 1 => part ++ repS part n
theorem repS_length (part : List UInt8) : ∀ n, (repS part n).length = part.length * n
  | 0 => rfl
  | n + 1 => by rw [repS, List.length_append, repS_length part n, Nat.mul_succ]; omega
theorem repS_get (part : List UInt8) : ∀ {n i : Nat}, i < part.length * n → (repS part n)[i]? = part[i % part.length]?
  | 0, i, h => by simp at h
  | n + 1, i, h => by
    rw [repS]
    by_cases hi : i < part.length
    · rw [List.getElem?_append_left hi, Nat.mod_eq_of_lt hi]
    · rw [Nat.mul_succ] at h
      rw [List.getElem?_append_right (by omega), repS_get part (by omega), ← Nat.mod_eq_sub_mod (by omega)]
theorem repS_per (part : List UInt8) (n : Nat) : Per (repS part n) part.length := fun i h1 h2 => by
  rw [repS_length] at h2
  rw [repS_get part (by omega), repS_get part h2, ← Nat.mod_eq_sub_mod h1]
end Go.Fl
