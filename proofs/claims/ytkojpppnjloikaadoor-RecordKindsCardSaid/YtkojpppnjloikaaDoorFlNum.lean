/- Plain laws of layer 2's numbers: how many bytes, which. No Go, no memory. -/
namespace Go.Fl

def moreF : Nat → Nat → Nat
  | 0, _ => 0
  | f + 1, x => if x < 128 then 0 else moreF f (x / 128) + 1
/-- How many bytes follow a number's first one. -/
def moreN (x : Nat) : Nat := moreF 8 x
theorem moreF_le : ∀ f x, moreF f x ≤ f
  | 0, _ => Nat.le_refl _
  | f + 1, x => by unfold moreF; split; omega; have := moreF_le f (x / 128); omega
theorem moreN_le (x : Nat) : moreN x ≤ 8 := moreF_le 8 x
theorem moreF_of : ∀ {f k x : Nat}, k < f → x < 128 ^ (k + 1) → (∀ j, j < k → 128 ^ (j + 1) ≤ x) → moreF f x = k
  | f + 1, 0, x, _, h, _ => by unfold moreF; rw [if_pos (by simpa using h)]
  | f + 1, k + 1, x, hk, h, hl => by
    have h0 : 128 ≤ x := by simpa using hl 0 (by omega)
    unfold moreF
    rw [if_neg (by omega), moreF_of (k := k) (by omega) (by rw [Nat.div_lt_iff_lt_mul (by decide)]; simpa [Nat.pow_succ] using h)
      (fun j hj => by rw [Nat.le_div_iff_mul_le (by decide)]; have := hl (j + 1) (by omega); simpa [Nat.pow_succ] using this)]
theorem moreF_top : ∀ {f x : Nat}, (∀ j, j < f → 128 ^ (j + 1) ≤ x) → moreF f x = f
  | 0, _, _ => rfl
  | f + 1, x, hl => by
    have h0 : 128 ≤ x := by simpa using hl 0 (by omega)
    unfold moreF
    rw [if_neg (by omega), moreF_top (fun j hj => by rw [Nat.le_div_iff_mul_le (by decide)]; have := hl (j + 1) (by omega); simpa [Nat.pow_succ] using this)]
/-- Where it stops, and what stands ahead. -/
theorem moreF_spec : ∀ {f x : Nat}, (moreF f x < f → x < 128 ^ (moreF f x + 1)) ∧ ∀ j, j < moreF f x → 128 ^ (j + 1) ≤ x
  | 0, x => ⟨fun h => by simp [moreF] at h, fun j h => by simp [moreF] at h⟩
  | f + 1, x => by
    unfold moreF
    split
    · rename_i h; exact ⟨fun _ => by simpa using h, fun j hj => by omega⟩
    · rename_i h
      obtain ⟨h1, h2⟩ := moreF_spec (f := f) (x := x / 128)
      refine ⟨fun hlt => ?_, fun j hj => ?_⟩
      · have := h1 (by omega)
        rw [Nat.div_lt_iff_lt_mul (by decide)] at this
        rw [Nat.pow_succ]; exact this
      · cases j with
        | zero => simp; omega
        | succ j =>
          have := h2 j (by omega)
          rw [Nat.le_div_iff_mul_le (by decide)] at this
          rw [Nat.pow_succ]; exact this

/-- The k lowest bytes of a number, the highest one first. -/
def lowB (x : Nat) : Nat → List UInt8
  | 0 => []
  | k + 1 => UInt8.ofNat (x / 256 ^ k) :: lowB x k
theorem lowB_length (x : Nat) : ∀ k, (lowB x k).length = k
  | 0 => rfl
  | k + 1 => by simp [lowB, lowB_length x k]
/-- What stands in the first byte: as many ones as bytes follow, and what is left of the number. -/
def leadB (x k : Nat) : Nat := 256 - 2 ^ (8 - k) + if k < 8 then x / 256 ^ k else 0
def numB (x : Nat) : List UInt8 := UInt8.ofNat (leadB x (moreN x)) :: lowB x (moreN x)
theorem numB_length (x : Nat) : (numB x).length = moreN x + 1 := by simp [numB, lowB_length]

theorem lowB_succ (x k : Nat) : lowB x (k + 1) = UInt8.ofNat (x / 256 ^ k) :: lowB x k := rfl
/-- Laid from the highest one on: the first m of k. -/
theorem lowB_take {x : Nat} : ∀ {k m : Nat}, m < k → (lowB x k).take (m + 1) = (lowB x k).take m ++ [UInt8.ofNat (x / 256 ^ (k - 1 - m))]
  | k + 1, 0, _ => by simp [lowB]
  | k + 1, m + 1, h => by
    simp only [lowB, List.take_succ_cons, List.cons_append]
    rw [lowB_take (by omega), show k + 1 - 1 - (m + 1) = k - 1 - m from by omega]

theorem lead_small {x k : Nat} (hk : k < 8) (hx : x < 128 ^ (k + 1)) : x / 256 ^ k < 2 ^ (7 - k) := by
  rw [Nat.div_lt_iff_lt_mul (Nat.pow_pos (by decide))]
  refine Nat.lt_of_lt_of_le hx (Nat.le_of_eq ?_)
  match k, hk with
  | 0, _ => rfl
  | 1, _ => rfl
  | 2, _ => rfl
  | 3, _ => rfl
  | 4, _ => rfl
  | 5, _ => rfl
  | 6, _ => rfl
  | 7, _ => rfl
theorem ones_eq {k : Nat} (hk : k ≤ 8) : 255 * 2 ^ (8 - k) % 256 = 256 - 2 ^ (8 - k) := by
  match k, hk with
  | 0, _ => rfl
  | 1, _ => rfl
  | 2, _ => rfl
  | 3, _ => rfl
  | 4, _ => rfl
  | 5, _ => rfl
  | 6, _ => rfl
  | 7, _ => rfl
  | 8, _ => rfl
theorem leadB_lt {x k : Nat} (hx : k < 8 → x < 128 ^ (k + 1)) (hk : k ≤ 8) : leadB x k < 256 := by
  unfold leadB
  by_cases h : k < 8
  · rw [if_pos h]
    have := lead_small h (hx h)
    have h2 : 2 ^ (8 - k) = 2 * 2 ^ (7 - k) := by rw [show 8 - k = 7 - k + 1 from by omega, Nat.pow_succ, Nat.mul_comm]
    have h3 : 2 ^ (8 - k) ≤ 2 ^ 8 := Nat.pow_le_pow_right (by decide) (by omega)
    have h4 : 0 < 2 ^ (7 - k) := Nat.pow_pos (by decide)
    omega
  · rw [if_neg h]
    have : 0 < 2 ^ (8 - k) := Nat.pow_pos (by decide)
    omega
theorem or_lead {x k : Nat} (hk : k < 8) (hx : x < 128 ^ (k + 1)) : (255 * 2 ^ (8 - k) % 256) ||| (x / 256 ^ k) = leadB x k := by
  have hs := lead_small hk hx
  rw [ones_eq (by omega), leadB, if_pos hk]
  have h2 : 2 ^ (8 - k) = 2 * 2 ^ (7 - k) := by rw [show 8 - k = 7 - k + 1 from by omega, Nat.pow_succ, Nat.mul_comm]
  have hd : 256 - 2 ^ (8 - k) = 2 ^ (7 - k) * (2 ^ (k + 1) - 2) := by
    rw [Nat.mul_sub, ← Nat.pow_add, show 7 - k + (k + 1) = 8 from by omega]
    omega
  rw [hd, ← Nat.two_pow_add_eq_or_of_lt hs]

/-! ### Reading -/
/-- How many ones a byte begins with. -/
def ones (b : Nat) : Nat := if b < 128 then 0 else if b < 192 then 1 else if b < 224 then 2 else if b < 240 then 3 else if b < 248 then 4 else if b < 252 then 5 else if b < 254 then 6 else if b < 255 then 7 else 8
theorem ones_le (b : Nat) : ones b ≤ 8 := by unfold ones; (repeat' split) <;> omega
theorem ones_of {b k : Nat} (hk : k < 8) (h1 : 256 - 2 ^ (8 - k) ≤ b) (h2 : b < 256 - 2 ^ (7 - k)) : ones b = k := by
  match k, hk with
  | 0, _ | 1, _ | 2, _ | 3, _ | 4, _ | 5, _ | 6, _ | 7, _ => simp at h1 h2; unfold ones; (repeat' split) <;> omega
theorem ones_spec {b : Nat} (hb : b < 256) : 256 - 2 ^ (8 - ones b) ≤ b ∧ (ones b < 8 → b < 256 - 2 ^ (7 - ones b)) := by
  unfold ones
  (repeat' split) <;> simp <;> omega

/-- Digits to the base 256 behind a first one. -/
def beN (a : Nat) (l : List UInt8) : Nat := l.foldl (fun x c => x * 256 + c.toNat) a
theorem beN_cons (a : Nat) (c : UInt8) (l : List UInt8) : beN a (c :: l) = beN (a * 256 + c.toNat) l := rfl
theorem beN_append (a : Nat) (l m : List UInt8) : beN a (l ++ m) = beN (beN a l) m := by simp [beN]
theorem beN_lt {a B : Nat} : ∀ {l : List UInt8}, a < B → beN a l < B * 256 ^ l.length
  | [], h => by simpa [beN] using h
  | c :: l, h => by
    rw [beN_cons]
    have hc := c.toNat_lt
    have := beN_lt (a := a * 256 + c.toNat) (B := B * 256) (l := l) (by omega)
    rwa [Nat.mul_assoc, ← Nat.pow_succ'] at this
theorem beN_ge (a : Nat) : ∀ l : List UInt8, a ≤ beN a l
  | [] => Nat.le_refl _
  | c :: l => by rw [beN_cons]; have := beN_ge (a * 256 + c.toNat) l; omega
/-- The digits of a number, put together again. -/
theorem beN_low (x : Nat) : ∀ k, beN (x / 256 ^ k) (lowB x k) = x
  | 0 => by simp [lowB, beN]
  | k + 1 => by
    rw [lowB_succ, beN_cons]
    have : x / 256 ^ (k + 1) * 256 + (UInt8.ofNat (x / 256 ^ k)).toNat = x / 256 ^ k := by
      rw [Nat.pow_succ, ← Nat.div_div_eq_div_mul]
      simp
      omega
    rw [this, beN_low x k]
theorem low_beN : ∀ {k : Nat} {a : Nat} {l : List UInt8}, l.length = k → lowB (beN a l) k = l ∧ beN a l / 256 ^ k = a
  | 0, a, l, h => by
    have : l = [] := List.eq_nil_of_length_eq_zero h
    subst this; simp [lowB, beN]
  | k + 1, a, c :: l, h => by
    obtain ⟨h1, h2⟩ := low_beN (k := k) (a := a * 256 + c.toNat) (l := l) (by simpa using h)
    have hc := c.toNat_lt
    rw [beN_cons, lowB_succ, h2, h1]
    refine ⟨?_, ?_⟩
    · congr 1
      apply UInt8.toNat_inj.1
      simp
    · rw [Nat.pow_succ, ← Nat.div_div_eq_div_mul, h2]; omega

/-- The number with which bytes begin, how many it has, and the error. -/
def lookS : List UInt8 → Nat × Nat × Nat
  | [] => (0, 0, 2)
  | b :: t =>
    if t.length < ones b.toNat then (0, 0, 2) else
    let x := beN (if ones b.toNat < 8 then b.toNat % 2 ^ (7 - ones b.toNat) else 0) (t.take (ones b.toNat))
    if x > 9223372036854775807 then (0, 0, 5) else if moreN x ≠ ones b.toNat then (0, 0, 20) else (x, ones b.toNat + 1, 0)

theorem lookS_cons (b : UInt8) (t : List UInt8) : lookS (b :: t) = if t.length < ones b.toNat then (0, 0, 2) else
    if beN (if ones b.toNat < 8 then b.toNat % 2 ^ (7 - ones b.toNat) else 0) (t.take (ones b.toNat)) > 9223372036854775807 then (0, 0, 5) else
    if moreN (beN (if ones b.toNat < 8 then b.toNat % 2 ^ (7 - ones b.toNat) else 0) (t.take (ones b.toNat))) ≠ ones b.toNat then (0, 0, 20) else (beN (if ones b.toNat < 8 then b.toNat % 2 ^ (7 - ones b.toNat) else 0) (t.take (ones b.toNat)), ones b.toNat + 1, 0) := rfl

theorem ones_lead {x : Nat} : ones (leadB x (moreN x)) = moreN x := by
  have hsp := (moreF_spec (f := 8) (x := x)).1
  change moreN x < 8 → x < 128 ^ (moreN x + 1) at hsp
  have hk8 := moreN_le x
  by_cases h : moreN x < 8
  · have hs := lead_small h (hsp h)
    have h2 : 2 ^ (8 - moreN x) = 2 * 2 ^ (7 - moreN x) := by rw [show 8 - moreN x = 7 - moreN x + 1 from by omega, Nat.pow_succ, Nat.mul_comm]
    have h3 : 2 ^ (8 - moreN x) ≤ 2 ^ 8 := Nat.pow_le_pow_right (by decide) (by omega)
    generalize hq : x / 256 ^ moreN x = q at hs
    refine ones_of h ?_ ?_ <;> unfold leadB <;> rw [if_pos h, hq] <;> omega
  · have : moreN x = 8 := by omega
    rw [this]; rfl

/-- What was put is read, whatever stands behind. -/
theorem look_num {x : Nat} (hx : x ≤ 9223372036854775807) (rest : List UInt8) : lookS (numB x ++ rest) = (x, moreN x + 1, 0) := by
  have hsp := (moreF_spec (f := 8) (x := x)).1
  change moreN x < 8 → x < 128 ^ (moreN x + 1) at hsp
  have hk8 := moreN_le x
  have hlt := leadB_lt hsp hk8
  have hb : (UInt8.ofNat (leadB x (moreN x))).toNat = leadB x (moreN x) := by simp; omega
  have hx' : beN (if moreN x < 8 then leadB x (moreN x) % 2 ^ (7 - moreN x) else 0) (lowB x (moreN x)) = x := by
    have : (if moreN x < 8 then leadB x (moreN x) % 2 ^ (7 - moreN x) else 0) = x / 256 ^ moreN x := by
      split
      · rename_i h
        have hs := lead_small h (hsp h)
        unfold leadB
        rw [if_pos h]
        have h2 : 2 ^ (8 - moreN x) = 2 * 2 ^ (7 - moreN x) := by rw [show 8 - moreN x = 7 - moreN x + 1 from by omega, Nat.pow_succ, Nat.mul_comm]
        have hd : 256 - 2 ^ (8 - moreN x) = 2 ^ (7 - moreN x) * (2 ^ (moreN x + 1) - 2) := by
          rw [Nat.mul_sub, ← Nat.pow_add, show 7 - moreN x + (moreN x + 1) = 8 from by omega]
          omega
        rw [hd, Nat.mul_add_mod]
        exact Nat.mod_eq_of_lt hs
      · rename_i h
        have : moreN x = 8 := by omega
        rw [this]
        exact (Nat.div_eq_of_lt (by omega)).symm
    rw [this, beN_low]
  rw [numB, List.cons_append, lookS, hb, ones_lead, if_neg (by simp [lowB_length]), List.take_append_of_le_length (by simp [lowB_length]), List.take_of_length_le (by simp [lowB_length])]
  simp only [hx']
  rw [if_neg (by omega), if_neg (by simp)]

theorem lead_mod {b k : Nat} (hk : k < 8) (h1 : 256 - 2 ^ (8 - k) ≤ b) (h2 : b < 256 - 2 ^ (7 - k)) : b % 2 ^ (7 - k) = b - (256 - 2 ^ (8 - k)) := by
  have e2 : 2 ^ (8 - k) = 2 * 2 ^ (7 - k) := by rw [show 8 - k = 7 - k + 1 from by omega, Nat.pow_succ, Nat.mul_comm]
  have e3 : 2 ^ (8 - k) ≤ 2 ^ 8 := Nat.pow_le_pow_right (by decide) (by omega)
  have hd : 256 - 2 ^ (8 - k) = 2 ^ (7 - k) * (2 ^ (k + 1) - 2) := by
    rw [Nat.mul_sub, ← Nat.pow_add, show 7 - k + (k + 1) = 8 from by omega]
    omega
  obtain ⟨r, rfl⟩ : ∃ r, b = (256 - 2 ^ (8 - k)) + r := ⟨b - (256 - 2 ^ (8 - k)), by omega⟩
  conv => lhs; rw [hd, Nat.mul_add_mod]
  rw [Nat.add_sub_cancel_left]
  exact Nat.mod_eq_of_lt (by omega)

/-- What is read, put again, is the bytes that were read. -/
theorem look_back {l : List UInt8} {n k : Nat} (h : lookS l = (n, k, 0)) : k = moreN n + 1 ∧ k ≤ l.length ∧ l.take k = numB n ∧ n ≤ 9223372036854775807 := by
  cases l with
  | nil => simp [lookS] at h
  | cons b t =>
    rw [lookS_cons] at h
    split at h
    · simp at h
    · rename_i hlen
      generalize hX : beN (if ones b.toNat < 8 then b.toNat % 2 ^ (7 - ones b.toNat) else 0) (t.take (ones b.toNat)) = X at h
      split at h
      · simp at h
      · rename_i hbig
        split at h
        · simp at h
        · rename_i hmore
          simp only [Prod.mk.injEq] at h
          obtain ⟨rfl, rfl, _⟩ := h
          have hmore : moreN X = ones b.toNat := Decidable.not_not.1 hmore
          have hb := b.toNat_lt
          have hsp := ones_spec (b := b.toNat) hb
          have ho8 := ones_le b.toNat
          obtain ⟨h1, h2⟩ := low_beN (k := ones b.toNat) (a := if ones b.toNat < 8 then b.toNat % 2 ^ (7 - ones b.toNat) else 0) (l := t.take (ones b.toNat)) (by rw [List.length_take]; omega)
          rw [hX] at h1 h2
          refine ⟨by omega, by simp; omega, ?_, by omega⟩
          rw [List.take_succ_cons, numB, hmore, h1]
          congr 1
          apply UInt8.toNat_inj.1
          have hl : leadB X (ones b.toNat) = b.toNat := by
            unfold leadB
            split
            · rename_i h
              rw [h2, if_pos h]
              obtain ⟨g1, g2⟩ := hsp
              have g2 := g2 h
              have e2 : 2 ^ (8 - ones b.toNat) = 2 * 2 ^ (7 - ones b.toNat) := by rw [show 8 - ones b.toNat = 7 - ones b.toNat + 1 from by omega, Nat.pow_succ, Nat.mul_comm]
              have e3 : 2 ^ (8 - ones b.toNat) ≤ 2 ^ 8 := Nat.pow_le_pow_right (by decide) (by omega)
              have hd : 256 - 2 ^ (8 - ones b.toNat) = 2 ^ (7 - ones b.toNat) * (2 ^ (ones b.toNat + 1) - 2) := by
                rw [Nat.mul_sub, ← Nat.pow_add, show 7 - ones b.toNat + (ones b.toNat + 1) = 8 from by omega]
                omega
              have e5 := lead_mod h g1 g2
              omega
            · rename_i h
              have h8 : ones b.toNat = 8 := by omega
              rw [h8] at hsp ⊢
              simp at hsp ⊢
              omega
          rw [hl]
          simp
/-- Numbers, one behind the other. -/
def numsB (ns : List Int) : List UInt8 := ns.flatMap fun n => numB n.toNat
theorem numsB_nil : numsB [] = [] := rfl
theorem numsB_cons (n : Int) (ns : List Int) : numsB (n :: ns) = numB n.toNat ++ numsB ns := by simp [numsB]
theorem numsB_append (a b : List Int) : numsB (a ++ b) = numsB a ++ numsB b := by simp [numsB]
theorem numB_le (x : Nat) : (numB x).length ≤ 9 := by rw [numB_length]; have := moreN_le x; omega
theorem numsB_le : ∀ ns : List Int, (numsB ns).length ≤ 9 * ns.length
  | [] => by simp [numsB]
  | n :: ns => by
    rw [numsB_cons, List.length_append, List.length_cons]
    have := numsB_le ns
    have := numB_le n.toNat
    omega
theorem numsB_take {ns : List Int} {k : Nat} (hk : k < ns.length) : numsB (ns.take (k + 1)) = numsB (ns.take k) ++ numB (ns[k]).toNat := by
  rw [List.take_succ_eq_append_getElem hk, numsB_append]
  simp [numsB]
theorem ones_y {b : Nat} (hb : b < 256) : (if ones b < 8 then b % 2 ^ (7 - ones b) else 0) = b - (256 - 2 ^ (8 - ones b)) := by
  obtain ⟨h1, h2⟩ := ones_spec hb
  split
  · rename_i h; exact lead_mod h h1 (h2 h)
  · rename_i h
    have := ones_le b
    have h8 : ones b = 8 := by omega
    rw [h8] at h1 ⊢
    simp at h1 ⊢
    omega
/-- The bytes of a number just if it has as many as its first byte tells. -/
theorem num_iff {b : UInt8} {t : List UInt8} {X : Nat} (hX : X = beN (b.toNat - (256 - 2 ^ (8 - ones b.toNat))) (t.take (ones b.toNat))) (hl : ones b.toNat ≤ t.length) (h63 : X ≤ 9223372036854775807) :
    numB X = b :: t.take (ones b.toNat) ↔ moreN X = ones b.toNat := by
  constructor
  · intro h
    have := congrArg List.length h
    rw [numB_length, List.length_cons, List.length_take, Nat.min_eq_left hl] at this
    omega
  · intro h
    have hk : lookS (b :: t) = (X, ones b.toNat + 1, 0) := by
      rw [lookS_cons, ones_y b.toNat_lt, ← hX, if_neg (by omega), if_neg (by omega), if_neg (by omega)]
    obtain ⟨_, _, ht, _⟩ := look_back hk
    rw [← ht, List.take_succ_cons]
theorem beN_far {a : Nat} {l : List UInt8} {k : Nat} (h : a ≥ 36028797018963968) (hk : k < l.length) : beN a (l.drop k) > 9223372036854775807 := by
  have hl : (l.drop k).length = l.length - k := List.length_drop
  cases hd : l.drop k with
  | nil => rw [hd] at hl; simp at hl; omega
  | cons c m =>
    rw [beN_cons]
    have := beN_ge (a * 256 + c.toNat) m
    omega
end Go.Fl
