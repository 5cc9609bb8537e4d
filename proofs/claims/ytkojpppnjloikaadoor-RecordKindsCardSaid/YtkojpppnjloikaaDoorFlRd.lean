/- What a reader reads, over lists of bytes: texts, flags, numbers within bounds; what was put is read. No program is named here. -/
import Derived.Test.YtkojpppnjloikaaDoorFlNum
namespace Go.Fl

theorem lookS_le (l : List UInt8) : (lookS l).2.1 ≤ l.length := by
  cases l with
  | nil => simp [lookS]
  | cons b t =>
    rw [lookS_cons]
    generalize beN (if ones b.toNat < 8 then b.toNat % 2 ^ (7 - ones b.toNat) else 0) (t.take (ones b.toNat)) = X
    split
    · simp
    · split
      · simp
      · split
        · simp
        · simp; omega
theorem look_err {l : List UInt8} (h : (lookS l).2.2 ≠ 0) : (lookS l).1 = 0 ∧ (lookS l).2.1 = 0 := by
  cases l with
  | nil => simp [lookS]
  | cons b t =>
    rw [lookS_cons] at h ⊢
    generalize beN (if ones b.toNat < 8 then b.toNat % 2 ^ (7 - ones b.toNat) else 0) (t.take (ones b.toNat)) = X at *
    split
    · simp
    · split
      · simp
      · split
        · simp
        · rename_i h1 h2 h3
          rw [if_neg h1, if_neg h2, if_neg h3] at h
          simp at h
theorem look_short {x j : Nat} (hj : j < (numB x).length) : lookS ((numB x).take j) = (0, 0, 2) := by
  cases j with
  | zero => rfl
  | succ j =>
    rw [numB_length] at hj
    have hsp := (moreF_spec (f := 8) (x := x)).1
    change moreN x < 8 → x < 128 ^ (moreN x + 1) at hsp
    have hlt := leadB_lt hsp (moreN_le x)
    have hb : (UInt8.ofNat (leadB x (moreN x))).toNat = leadB x (moreN x) := by simp; omega
    rw [numB, List.take_succ_cons, lookS_cons, hb, ones_lead, if_pos (by simp [lowB_length]; omega)]
/-- The next byte; its error; how many bytes are read. -/
def rdByte : List UInt8 → Nat × Nat × Nat
  | [] => (0, 2, 0)
  | b :: _ => (b.toNat, 0, 1)
/-- The next number from lo to hi; its error; how many bytes are read. -/
def rdWithin (l : List UInt8) (lo hi : Int) : Int × Int × Nat :=
  if (lookS l).2.2 ≠ 0 then (0, (lookS l).2.2, 0) else if ((lookS l).1 : Int) < lo ∨ ((lookS l).1 : Int) > hi then (0, 5, 0) else ((lookS l).1, 0, (lookS l).2.1)
/-- The next yes or no. -/
def rdFlag (l : List UInt8) : Bool × Nat × Nat :=
  if (lookS l).2.2 ≠ 0 then (false, (lookS l).2.2, 0) else if (lookS l).1 > 1 then (false, 20, 0) else (decide ((lookS l).1 = 1), 0, (lookS l).2.1)
/-- The next text; its error; how many bytes are read. -/
def rdText (l : List UInt8) (most : Int) : List UInt8 × Nat × Nat :=
  if (lookS l).2.2 ≠ 0 then ([], (lookS l).2.2, 0) else if ((lookS l).1 : Int) > max most 0 then ([], 4, 0) else
  if (lookS l).1 > l.length - (lookS l).2.1 then ([], 2, 0) else ((l.drop (lookS l).2.1).take (lookS l).1, 0, (lookS l).2.1 + (lookS l).1)
theorem rdText_le (l : List UInt8) (most : Int) : (rdText l most).2.2 ≤ l.length := by
  have := lookS_le l
  unfold rdText
  repeat' split
  all_goals simp
  omega
theorem rdFlag_le (l : List UInt8) : (rdFlag l).2.2 ≤ l.length := by
  have := lookS_le l
  unfold rdFlag
  repeat' split
  all_goals simp
  omega
theorem rdWithin_le (l : List UInt8) (lo hi : Int) : (rdWithin l lo hi).2.2 ≤ l.length := by
  have := lookS_le l
  unfold rdWithin
  repeat' split
  all_goals simp
  omega
theorem rdByte_le (l : List UInt8) : (rdByte l).2.2 ≤ l.length := by cases l <;> simp [rdByte]
theorem rdText_err {l : List UInt8} {most : Int} (h : (rdText l most).2.1 ≠ 0) : (rdText l most).2.2 = 0 ∧ (rdText l most).1 = [] := by
  unfold rdText at h ⊢
  split
  · simp
  · split
    · simp
    · split
      · simp
      · rename_i h1 h2 h3
        rw [if_neg h1, if_neg h2, if_neg h3] at h
        simp at h
/-- A text that was put is read. -/
theorem rdText_put {m : List UInt8} {most : Int} (hm : m.length ≤ 9223372036854775807) (hh : (m.length : Int) ≤ max most 0) (rest : List UInt8) : rdText (numB m.length ++ (m ++ rest)) most = (m, 0, (numB m.length).length + m.length) := by
  unfold rdText
  rw [look_num hm]
  simp only [numB_length]
  rw [if_neg (by simp), if_neg (by omega), if_neg (by simp [numB_length])]
  have : (numB m.length ++ (m ++ rest)).drop (moreN m.length + 1) = m ++ rest := by rw [← numB_length, List.drop_left]
  rw [this, List.take_left]
theorem rdFlag_put (y : Bool) (rest : List UInt8) : rdFlag (numB (bif y then 1 else 0) ++ rest) = (y, 0, (numB (bif y then 1 else 0)).length) := by
  unfold rdFlag
  have h : (bif y then 1 else 0) ≤ 1 := by cases y <;> decide
  rw [look_num (by omega)]
  simp only [numB_length]
  rw [if_neg (by simp), if_neg (by omega)]
  cases y <;> simp
/-- A text's beginning is too short. -/
theorem rdText_short {m : List UInt8} {most : Int} (hm : m.length ≤ 9223372036854775807) (hh : (m.length : Int) ≤ max most 0) {j : Nat} (hj : j < (numB m.length).length + m.length) : (rdText ((numB m.length ++ m).take j) most).2.1 = 2 := by
  rcases Nat.lt_or_ge j (numB m.length).length with h | h
  · rw [List.take_append_of_le_length (by omega)]
    unfold rdText
    rw [look_short h]
    simp
  · rw [List.take_append, List.take_of_length_le h]
    unfold rdText
    rw [look_num hm]
    simp only [List.length_append, List.length_take]
    rw [if_neg (by simp), if_neg (by omega), if_pos (by rw [numB_length] at *; omega)]
/-- What is read, put again, is what was read. -/
theorem rdText_back {l : List UInt8} {most : Int} (h : (rdText l most).2.1 = 0) : l.take (rdText l most).2.2 = numB (rdText l most).1.length ++ (rdText l most).1 := by
  unfold rdText at h ⊢
  have hle := lookS_le l
  split
  · rename_i h1; rw [if_pos h1] at h; exact absurd h h1
  · rename_i h1
    rw [if_neg h1] at h
    split
    · rename_i h2; rw [if_pos h2] at h; simp at h
    · rename_i h2
      rw [if_neg h2] at h
      split
      · rename_i h3; rw [if_pos h3] at h; simp at h
      · rename_i h3
        obtain ⟨n, k, e, hl⟩ : ∃ n k e, lookS l = (n, k, e) := ⟨_, _, _, rfl⟩
        rw [hl] at h1 h2 h3 hle ⊢
        have h1 := Decidable.not_not.1 h1
        dsimp only at h1 h2 h3 hle ⊢
        subst h1
        obtain ⟨hk, hkl, ht, hn⟩ := look_back hl
        rw [List.length_take, List.length_drop, Nat.min_eq_left (by omega), List.take_add, ht]
end Go.Fl
