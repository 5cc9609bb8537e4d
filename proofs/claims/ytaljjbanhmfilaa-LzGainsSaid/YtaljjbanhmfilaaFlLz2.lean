/- Layer 7, plain laws: what was shortened is restored; how long tokens are; tokens behind tokens; room. No program is named here. -/
import Derived.Test.YtaljjbanhmfilaaFlLz
namespace Go.Fl

theorem alikeF_is {b : List UInt8} : ∀ {f i j m : Nat}, m < alikeF b f i j → j + m < b.length ∧ b[i + m]? = b[j + m]?
  | 0, _, _, m, h => by simp [alikeF] at h
  | f + 1, i, j, m, h => by
    unfold alikeF at h
    split at h
    · rename_i hc
      cases m with
      | zero => exact hc
      | succ m =>
        have := alikeF_is (b := b) (f := f) (i := i + 1) (j := j + 1) (m := m) (by omega)
        rw [show i + 1 + m = i + (m + 1) from by omega, show j + 1 + m = j + (m + 1) from by omega] at this
        exact this
    · omega
theorem longF_alike {b : List UInt8} {p : Nat} : ∀ {f back : Nat} {s : Nat × Nat}, (s.2 ≤ alikeF b 66 (p - s.1) p) → (longF b p f back s).2 ≤ alikeF b 66 (p - (longF b p f back s).1) p
  | 0, _, _, h => h
  | f + 1, back, s, h => by
    rw [longF]
    refine longF_alike ?_
    split
    · exact Nat.le_refl _
    · exact h
theorem longF_max {b : List UInt8} {p : Nat} : ∀ {f back : Nat} {s : Nat × Nat}, s.2 ≤ (longF b p f back s).2 ∧ ∀ k, back ≤ k → k < back + f → alikeF b 66 (p - k) p ≤ (longF b p f back s).2
  | 0, _, _ => ⟨Nat.le_refl _, fun k h1 h2 => by omega⟩
  | f + 1, back, s => by
    rw [longF]
    obtain ⟨h1, h2⟩ := longF_max (b := b) (p := p) (f := f) (back := back + 1) (s := if s.2 < alikeF b 66 (p - back) p then (back, alikeF b 66 (p - back) p) else s)
    have h3 : s.2 ≤ (if s.2 < alikeF b 66 (p - back) p then (back, alikeF b 66 (p - back) p) else s).2 ∧ alikeF b 66 (p - back) p ≤ (if s.2 < alikeF b 66 (p - back) p then (back, alikeF b 66 (p - back) p) else s).2 := by
      split
      · exact ⟨by dsimp only; omega, Nat.le_refl _⟩
      · exact ⟨Nat.le_refl _, by omega⟩
    refine ⟨by omega, fun k hk hk' => ?_⟩
    by_cases e : k = back
    · subst e; omega
    · exact h2 k (by omega) (by omega)
theorem longS_is {b : List UInt8} {p m : Nat} (h : m < (longS b p).2) : p + m < b.length ∧ b[p - (longS b p).1 + m]? = b[p + m]? :=
  alikeF_is (Nat.lt_of_lt_of_le h (longF_alike (Nat.zero_le _)))
theorem longS_max {b : List UInt8} {p k : Nat} (h1 : 1 ≤ k) (h2 : k ≤ min 512 p) : alikeF b 66 (p - k) p ≤ (longS b p).2 := longF_max.2 k h1 (by omega)

/-- A stretch back gives what stands there. -/
theorem again_take {b pre : List UInt8} {p back : Nat} (hb : 1 ≤ back) (hbp : back ≤ p) : ∀ {n : Nat}, p + n ≤ b.length → (∀ m, m < n → b[p - back + m]? = b[p + m]?) → againF back n (pre ++ b.take p) = pre ++ b.take (p + n)
  | 0, _, _ => rfl
  | n + 1, hl, h => by
    rw [againF_snoc, again_take hb hbp (by omega) (fun m hm => h m (by omega))]
    have hget : (pre ++ b.take (p + n)).getD ((pre ++ b.take (p + n)).length - back) 0 = b[p + n]'(by omega) := by
      rw [List.length_append, List.length_take, Nat.min_eq_left (by omega), List.getD_eq_getElem?_getD, List.getElem?_append_right (by omega), List.getElem?_take, if_pos (by omega)]
      have := h n (by omega)
      rw [List.getElem?_eq_getElem (by omega), List.getElem?_eq_getElem (by omega), Option.some.injEq] at this
      rw [show pre.length + (p + n) - back - pre.length = p - back + n from by omega, List.getElem?_eq_getElem (by omega), Option.getD_some]
      exact this
    rw [hget, List.append_assoc, ← List.take_succ_eq_append_getElem (by omega)]
    rfl
/-- Fuel does not matter. -/
abbrev restR (most : Int) (l out : List UInt8) : List UInt8 × Nat := restF most l.length l out
theorem restR_cons (most : Int) (c : UInt8) (t out : List UInt8) : restR most (c :: t) out =
    if (stepS out c t).2.2 ≠ 0 then ([], (stepS out c t).2.2) else if ((stepS out c t).1.length : Int) > most - out.length then ([], 71)
    else restR most ((c :: t).drop (stepS out c t).2.1) (out ++ (stepS out c t).1) := by
  unfold restR
  rw [List.length_cons, restF_step]
  by_cases h : (stepS out c t).2.2 ≠ 0
  · rw [if_pos h, if_pos h]
  · rw [if_neg h, if_neg h]
    have := (stepS_le out c t).2 (by omega)
    rw [restF_any (f := t.length) (g := ((c :: t).drop (stepS out c t).2.1).length) (by rw [List.length_drop, List.length_cons]; omega) (Nat.le_refl _)]
theorem rest_plain {most : Int} (rest : List UInt8) : ∀ (n : Nat) (l out : List UInt8), l.length ≤ n → (out.length : Int) + l.length ≤ most → restR most (plainS l ++ rest) out = restR most rest (out ++ l)
  | n, [], out, _, _ => by rw [plainS_nil, List.nil_append, List.append_nil]
  | 0, c :: l, out, h, _ => by simp at h
  | n + 1, c :: l, out, h, hm => by
    rw [plainS_step (by simp), List.cons_append, restR_cons]
    generalize hL : c :: l = L at *
    have hLl : 1 ≤ L.length := by rw [← hL]; simp
    have hc : (UInt8.ofNat (min 128 L.length - 1)).toNat = min 128 L.length - 1 := by simp; omega
    have hs : stepS out (UInt8.ofNat (min 128 L.length - 1)) (L.take 128 ++ plainS (L.drop 128) ++ rest) = (L.take 128, min 128 L.length + 1, 0) := by
      unfold stepS
      rw [hc, if_pos (by omega), if_neg (by simp; omega)]
      congr 1
      · rw [List.append_assoc, List.take_append_of_le_length (by rw [List.length_take]; omega), List.take_of_length_le (by rw [List.length_take]; omega)]
      · congr 1; omega
    rw [hs]
    simp only [ne_eq, not_true_eq_false, if_false]
    rw [if_neg (by rw [List.length_take]; omega), List.drop_succ_cons, List.append_assoc]
    have hd : ((L.take 128 ++ (plainS (L.drop 128) ++ rest)).drop (min 128 L.length)) = plainS (L.drop 128) ++ rest := by
      rw [List.drop_append_of_le_length (by rw [List.length_take]; omega), List.drop_eq_nil_of_le (by rw [List.length_take]; omega), List.nil_append]
    rw [hd, rest_plain rest n (L.drop 128) (out ++ L.take 128) (by rw [List.length_drop]; omega) (by rw [List.length_append, List.length_take, List.length_drop]; omega), List.append_assoc, List.take_append_drop]
theorem moreN_two {x : Nat} (h : x < 16384) : moreN x ≤ 1 := by
  unfold moreN moreF
  split
  · omega
  · unfold moreF
    rw [if_pos (by omega)]
    omega
theorem numB_two {x : Nat} (h : x ≤ 512) : (numB x).length ≤ 2 := by rw [numB_length]; have := moreN_two (x := x) (by omega); omega
theorem numB_one {x : Nat} (h : x < 128) : (numB x).length = 1 := by rw [numB_length]; unfold moreN moreF; rw [if_pos h]
theorem lookS_app {l rest : List UInt8} (h : (lookS l).2.2 = 0) : lookS (l ++ rest) = lookS l ∧ (lookS l).2.1 ≤ l.length := by
  obtain ⟨n, k, e, hL⟩ : ∃ n k e, lookS l = (n, k, e) := ⟨_, _, _, rfl⟩
  rw [hL] at h ⊢
  obtain rfl : e = 0 := h
  obtain ⟨h1, h2, h3, h4⟩ := look_back hL
  refine ⟨?_, h2⟩
  rw [← List.take_append_drop k l, List.append_assoc, h3, look_num h4, h1]
theorem step_match {out rest : List UInt8} {n back : Nat} (hn : 3 ≤ n) (hn' : n ≤ 66) (hb : 1 ≤ back) (hb' : back ≤ 512) (ho : back ≤ out.length) :
    stepS out (UInt8.ofNat (n + 125)) (numB back ++ rest) = (addF back n out, (numB back).length + 1, 0) := by
  have hc : (UInt8.ofNat (n + 125)).toNat = n + 125 := by simp; omega
  unfold stepS
  rw [hc, if_neg (by omega), look_num (by omega)]
  simp only
  rw [if_neg (by decide), if_neg (by omega), numB_length, Nat.add_sub_cancel]
/-- What was shortened is restored, behind whatever stood there. -/
theorem rest_short {most : Int} {b : List UInt8} (pre rest : List UInt8) (hm : (pre.length : Int) + b.length ≤ most) : ∀ (f lo p : Nat), b.length + 1 ≤ f + p → lo ≤ p → p ≤ b.length →
    restR most (shortF b f lo p ++ rest) (pre ++ b.take lo) = restR most rest (pre ++ b)
  | 0, lo, p, hf, _, hp => by omega
  | f + 1, lo, p, hf, hlo, hp => by
    rw [shortF]
    have hfit := longS_fits hp
    split
    · split
      · exact rest_short pre rest hm f lo (p + 1) (by omega) (by omega) (by omega)
      · rename_i hpl h3
        have hdl : ((b.take p).drop lo).length = p - lo := by rw [List.length_drop, List.length_take]; omega
        rw [List.append_assoc, rest_plain _ _ _ _ (Nat.le_refl _) (by rw [hdl, List.length_append, List.length_take]; omega)]
        have e : pre ++ b.take lo ++ (b.take p).drop lo = pre ++ b.take p := by
          have h := List.take_append_drop lo (b.take p)
          rw [List.take_take, Nat.min_eq_left hlo] at h
          rw [List.append_assoc, h]
        rw [e, List.cons_append, restR_cons, List.append_assoc, step_match (by omega) hfit.2.1 (hfit.2.2.2 (by omega)) (by omega) (by rw [List.length_append, List.length_take]; omega)]
        simp only [ne_eq, not_true_eq_false, if_false]
        rw [if_neg (by rw [addF_length, List.length_append, List.length_take]; omega), ← addF_spec, List.drop_succ_cons, List.drop_left,
          again_take (hfit.2.2.2 (by omega)) (by omega) (by omega) (fun m hm => (longS_is hm).2)]
        exact rest_short pre rest hm f _ _ (by omega) (Nat.le_refl _) (by omega)
    · obtain rfl : p = b.length := by omega
      rw [rest_plain _ _ _ _ (Nat.le_refl _) (by rw [List.length_drop, List.length_append, List.length_take]; omega), List.append_assoc, List.take_append_drop]
theorem rest_back (b : List UInt8) : restS (shortS b) b.length = (b, 0) := by
  have := rest_short (most := b.length) (b := b) [] [] (by simp) (b.length + 1) 0 0 (by omega) (Nat.le_refl _) (Nat.zero_le _)
  rw [List.append_nil] at this
  exact this
theorem rest_twice (a b : List UInt8) : restS (shortS a ++ shortS b) ((a.length : Int) + b.length) = (a ++ b, 0) := by
  have h1 := rest_short (most := (a.length : Int) + b.length) (b := a) [] (shortS b) (by simp; omega) (a.length + 1) 0 0 (by omega) (Nat.le_refl _) (Nat.zero_le _)
  have h2 := rest_short (most := (a.length : Int) + b.length) (b := b) a [] (by omega) (b.length + 1) 0 0 (by omega) (Nat.le_refl _) (Nat.zero_le _)
  rw [List.append_nil, List.take_zero, List.append_nil] at h2
  exact h1.trans h2

/-- How long bytes are as they are. -/
theorem plain_len : ∀ (n : Nat) (l : List UInt8), l.length ≤ n → 3 * (plainS l).length ≤ 4 * l.length + 3 ∧ (l.length ≤ 128 → (plainS l).length ≤ l.length + 1)
  | n, [], _ => by simp [plainS_nil]
  | 0, c :: l, h => by simp at h
  | n + 1, c :: l, h => by
    rw [plainS_step (by simp)]
    generalize hL : c :: l = L at *
    have hLl : 1 ≤ L.length := by rw [← hL]; simp
    obtain ⟨h1, h2⟩ := plain_len n (L.drop 128) (by rw [List.length_drop]; omega)
    rw [List.length_cons, List.length_append, List.length_take]
    rw [List.length_drop] at h1 h2
    refine ⟨?_, fun h => ?_⟩
    · by_cases h128 : L.length ≤ 128
      · have : plainS (L.drop 128) = [] := by rw [List.drop_eq_nil_of_le h128, plainS_nil]
        rw [this]
        simp
        omega
      · omega
    · have : plainS (L.drop 128) = [] := by rw [List.drop_eq_nil_of_le h, plainS_nil]
      rw [this]
      simp
      omega
theorem short_len {b : List UInt8} : ∀ (f lo p : Nat), b.length + 1 ≤ f + p → lo ≤ p → p ≤ b.length → 3 * (shortF b f lo p).length ≤ 4 * (b.length - lo) + 3
  | 0, lo, p, hf, _, hp => by omega
  | f + 1, lo, p, hf, hlo, hp => by
    rw [shortF]
    have hfit := longS_fits hp
    split
    · split
      · exact short_len f lo (p + 1) (by omega) (by omega) (by omega)
      · have hdl : ((b.take p).drop lo).length = p - lo := by rw [List.length_drop, List.length_take]; omega
        have h1 := plain_len _ ((b.take p).drop lo) (Nat.le_refl _)
        have h2 := short_len (b := b) f (p + (longS b p).2) (p + (longS b p).2) (by omega) (Nat.le_refl _) (by omega)
        have h3 := numB_two (x := (longS b p).1) (by omega)
        rw [List.length_append, List.length_cons, List.length_append]
        rw [hdl] at h1
        omega
    · have h1 := plain_len _ (b.drop lo) (Nat.le_refl _)
      rw [List.length_drop] at h1
      omega
theorem shortS_len (b : List UInt8) : (shortS b).length ≤ b.length + b.length / 3 + 1 := by
  have := short_len (b := b) (b.length + 1) 0 0 (by omega) (Nat.le_refl _) (Nat.zero_le _)
  unfold shortS
  omega
/-- A token is the same with others behind. -/
theorem step_app {out t rest : List UInt8} {c : UInt8} (h : (stepS out c t).2.2 = 0) : stepS out c (t ++ rest) = stepS out c t ∧ (stepS out c t).2.1 ≤ t.length + 1 := by
  refine ⟨?_, (stepS_le out c t).1⟩
  unfold stepS at h ⊢
  by_cases h1 : c.toNat < 128
  · simp only [h1, if_true] at h ⊢
    by_cases h2 : t.length < c.toNat + 1
    · simp only [h2, if_true] at h; exact absurd h (by decide)
    · rw [if_neg h2, if_neg (by rw [List.length_append]; omega), List.take_append_of_le_length (by omega)]
  · simp only [h1, if_false] at h ⊢
    by_cases h2 : (lookS t).2.2 = 2
    · rw [if_pos h2] at h; exact absurd h (by decide)
    · rw [if_neg h2] at h
      by_cases h3 : (lookS t).2.2 ≠ 0 ∨ c.toNat > 191 ∨ (lookS t).1 < 1 ∨ (lookS t).1 > 512 ∨ (lookS t).1 > out.length
      · rw [if_pos h3] at h; exact absurd h (by decide)
      · rw [(lookS_app (rest := rest) (by omega)).1]
theorem rest_app {most : Int} (rest : List UInt8) : ∀ (n : Nat) {l out x : List UInt8}, l.length ≤ n → restR most l out = (x, 0) → restR most (l ++ rest) out = restR most rest x
  | n, [], out, x, _, h => by
    have : x = out := by have := congrArg Prod.fst h; exact this.symm
    rw [this]; rfl
  | 0, c :: t, out, x, hn, _ => by simp at hn
  | n + 1, c :: t, out, x, hn, h => by
    rw [restR_cons] at h
    by_cases h1 : (stepS out c t).2.2 ≠ 0
    · rw [if_pos h1] at h
      have := congrArg Prod.snd h
      exact absurd this h1
    · rw [if_neg h1] at h
      by_cases h2 : ((stepS out c t).1.length : Int) > most - out.length
      · rw [if_pos h2] at h
        cases h
      · rw [if_neg h2] at h
        obtain ⟨e1, e2⟩ := step_app (rest := rest) (show (stepS out c t).2.2 = 0 by omega)
        have h3 := (stepS_le out c t).2 (by omega)
        rw [List.cons_append, restR_cons, e1, if_neg h1, if_neg h2]
        rw [← rest_app rest n (l := (c :: t).drop (stepS out c t).2.1) (by rw [List.length_drop, List.length_cons]; simp at hn; omega) h]
        rw [← List.cons_append, List.drop_append_of_le_length (by rw [List.length_cons]; omega)]
theorem rest_pre {most : Int} : ∀ (n : Nat) {l out x : List UInt8}, l.length ≤ n → restR most l out = (x, 0) → ∃ y, x = out ++ y
  | n, [], out, x, _, h => ⟨[], by have := congrArg Prod.fst h; simpa [restR, restF] using this.symm⟩
  | 0, c :: t, out, x, hn, _ => by simp at hn
  | n + 1, c :: t, out, x, hn, h => by
    rw [restR_cons] at h
    split at h
    · rename_i h1; exact absurd (congrArg Prod.snd h) h1
    · rename_i h1
      split at h
      · cases h
      · have h3 := (stepS_le out c t).2 (by omega)
        obtain ⟨y, hy⟩ := rest_pre n (l := (c :: t).drop (stepS out c t).2.1) (by rw [List.length_drop, List.length_cons]; simp at hn; omega) h
        exact ⟨(stepS out c t).1 ++ y, by rw [hy, List.append_assoc]⟩
theorem step_adds {out t : List UInt8} {c : UInt8} (h : (stepS out c t).2.2 = 0) : 1 ≤ (stepS out c t).1.length := by
  unfold stepS at h ⊢
  by_cases h1 : c.toNat < 128
  · simp only [h1, if_true] at h ⊢
    by_cases h2 : t.length < c.toNat + 1
    · simp only [h2, if_true] at h; exact absurd h (by decide)
    · rw [if_neg h2, List.length_take]; omega
  · simp only [h1, if_false] at h ⊢
    by_cases h2 : (lookS t).2.2 = 2
    · rw [if_pos h2] at h; exact absurd h (by decide)
    · rw [if_neg h2] at h ⊢
      by_cases h3 : (lookS t).2.2 ≠ 0 ∨ c.toNat > 191 ∨ (lookS t).1 < 1 ∨ (lookS t).1 > 512 ∨ (lookS t).1 > out.length
      · rw [if_pos h3] at h; exact absurd h (by decide)
      · rw [if_neg h3, addF_length]; omega
/-- What can be restored needs just its own room. -/
theorem rest_room {most most' : Int} : ∀ (n : Nat) {l out x : List UInt8}, l.length ≤ n → (out.length : Int) ≤ max most' 0 → restR most l out = (x, 0) →
    restR most' l out = if (x.length : Int) ≤ max most' 0 then (x, 0) else ([], 71)
  | n, [], out, x, _, ho, h => by
    have e : x = out := (congrArg Prod.fst h).symm
    subst e
    rw [if_pos ho]; rfl
  | 0, c :: t, out, x, hn, _, _ => by simp at hn
  | n + 1, c :: t, out, x, hn, ho, h => by
    rw [restR_cons] at h ⊢
    by_cases h1 : (stepS out c t).2.2 ≠ 0
    · rw [if_pos h1] at h
      exact absurd (congrArg Prod.snd h) h1
    · rw [if_neg h1] at h ⊢
      by_cases h2 : ((stepS out c t).1.length : Int) > most - out.length
      · rw [if_pos h2] at h
        cases h
      · rw [if_neg h2] at h
        have h3 := (stepS_le out c t).2 (by omega)
        have h4 := step_adds (out := out) (c := c) (t := t) (by omega)
        have hl : ((c :: t).drop (stepS out c t).2.1).length ≤ n := by rw [List.length_drop, List.length_cons]; simp at hn; omega
        obtain ⟨y, hy⟩ := rest_pre n hl h
        have hxl := congrArg List.length hy
        rw [List.length_append, List.length_append] at hxl
        by_cases h5 : ((stepS out c t).1.length : Int) > most' - out.length
        · rw [if_pos h5, if_neg (by omega)]
        · rw [if_neg h5]
          exact rest_room n hl (by rw [List.length_append]; omega) h
end Go.Fl
