/- Layer 7 over lists of bytes: the longest stretch ahead of a place, literals in pieces, tokens of bytes, bytes of tokens. No program is named here. -/
import Derived.Test.YtkojpppnjloikaaDoorFlRd
namespace Go.Fl

/-- How many bytes from two places on are the same, at most f. -/
def alikeF (b : List UInt8) : Nat → Nat → Nat → Nat
  | 0, _, _ => 0
  | f + 1, i, j => if j < b.length ∧ b[i]? = b[j]? then alikeF b f (i + 1) (j + 1) + 1 else 0
theorem alikeF_le (b : List UInt8) : ∀ f i j, alikeF b f i j ≤ f
  | 0, _, _ => Nat.le_refl _
  | f + 1, i, j => by unfold alikeF; split <;> have := alikeF_le b f (i + 1) (j + 1) <;> omega
/-- The loop that counts them: k are the same already. -/
theorem alikeF_step {b : List UInt8} : ∀ {f i j k : Nat}, k ≤ f → (∀ m, m < k → j + m < b.length ∧ b[i + m]? = b[j + m]?) → (k = f ∨ ¬(j + k < b.length ∧ b[i + k]? = b[j + k]?)) → alikeF b f i j = k
  | 0, i, j, k, hk, _, _ => by simp [alikeF]; omega
  | f + 1, i, j, k, hk, h, hs => by
    unfold alikeF
    cases k with
    | zero =>
      rcases hs with hs | hs
      · omega
      · exact if_neg hs
    | succ k =>
      rw [if_pos (by simpa using h 0 (by omega))]
      congr 1
      refine alikeF_step (by omega) (fun m hm => ?_) ?_
      · have := h (m + 1) (by omega)
        rw [show i + 1 + m = i + (m + 1) from by omega, show j + 1 + m = j + (m + 1) from by omega]
        exact this
      · rw [show i + 1 + k = i + (k + 1) from by omega, show j + 1 + k = j + (k + 1) from by omega]
        exact hs.imp (by omega) id
/-- Of the places back, back + 1, .. the first with the longest stretch, if it is longer than what is known. -/
def longF (b : List UInt8) (at' : Nat) : Nat → Nat → Nat × Nat → Nat × Nat
  | 0, _, s => s
  | f + 1, back, s => longF b at' f (back + 1) (if s.2 < alikeF b 66 (at' - back) at' then (back, alikeF b 66 (at' - back) at') else s)
/-- The longest stretch ahead of a place: how far back, how long. -/
def longS (b : List UInt8) (at' : Nat) : Nat × Nat := longF b at' (min 512 at') 1 (0, 0)
/-- Bytes as they are, in pieces. -/
def plainF : Nat → List UInt8 → List UInt8
  | 0, _ => []
  | _ + 1, [] => []
  | f + 1, c :: l => UInt8.ofNat (min 128 (c :: l).length - 1) :: ((c :: l).take 128 ++ plainF f ((c :: l).drop 128))
def plainS (l : List UInt8) : List UInt8 := plainF l.length l
/-- The tokens of bytes from a place on; what stands from 'lo' on is told as it is. -/
def shortF (b : List UInt8) : Nat → Nat → Nat → List UInt8
  | 0, _, _ => []
  | f + 1, lo, at' => if at' < b.length then
      if (longS b at').2 < 3 then shortF b f lo (at' + 1)
      else plainS ((b.take at').drop lo) ++ (UInt8.ofNat ((longS b at').2 + 125) :: (numB (longS b at').1 ++ shortF b f (at' + (longS b at').2) (at' + (longS b at').2)))
    else plainS (b.drop lo)
def shortS (b : List UInt8) : List UInt8 := shortF b (b.length + 1) 0 0
/-- Some bytes of what is there, again. -/
def againF (back : Nat) : Nat → List UInt8 → List UInt8
  | 0, out => out
  | n + 1, out => againF back n (out ++ [out.getD (out.length - back) 0])
/-- The bytes of tokens, at most so many, or why there are none. -/
def restF (most : Int) : Nat → List UInt8 → List UInt8 → List UInt8 × Nat
  | _, [], out => (out, 0)
  | 0, _ :: _, _ => ([], 0)
  | f + 1, c :: t, out =>
    if c.toNat < 128 then
      if t.length < c.toNat + 1 then ([], 2) else if (c.toNat : Int) + 1 > most - out.length then ([], 71) else restF most f (t.drop (c.toNat + 1)) (out ++ t.take (c.toNat + 1))
    else if (lookS t).2.2 = 2 then ([], 2)
    else if (lookS t).2.2 ≠ 0 ∨ c.toNat > 191 ∨ (lookS t).1 < 1 ∨ (lookS t).1 > 512 ∨ (lookS t).1 > out.length then ([], 70)
    else if (c.toNat : Int) - 125 > most - out.length then ([], 71)
    else restF most f (t.drop (lookS t).2.1) (againF (lookS t).1 (c.toNat - 125) out)
def restS (b : List UInt8) (most : Int) : List UInt8 × Nat := restF most b.length b []
theorem plainF_any : ∀ {f g : Nat} {l : List UInt8}, l.length ≤ f → l.length ≤ g → plainF f l = plainF g l
  | 0, 0, _, _, _ => rfl
  | 0, g + 1, l, h, _ => by rw [List.eq_nil_of_length_eq_zero (Nat.le_zero.1 h)]; rfl
  | f + 1, 0, l, _, h => by rw [List.eq_nil_of_length_eq_zero (Nat.le_zero.1 h)]; rfl
  | f + 1, g + 1, [], _, _ => rfl
  | f + 1, g + 1, c :: l, hf, hg => by
    rw [plainF, plainF]
    congr 2
    have : ((c :: l).drop 128).length ≤ l.length := by rw [List.length_drop, List.length_cons]; omega
    simp only [List.length_cons] at hf hg
    exact plainF_any (by omega) (by omega)
theorem plainS_step {l : List UInt8} (h : l ≠ []) : plainS l = UInt8.ofNat (min 128 l.length - 1) :: (l.take 128 ++ plainS (l.drop 128)) := by
  cases l with
  | nil => exact absurd rfl h
  | cons c t =>
    unfold plainS
    rw [List.length_cons, plainF, List.length_cons]
    congr 2
    exact plainF_any (by rw [List.length_drop, List.length_cons]; omega) (Nat.le_refl _)
theorem plainS_nil : plainS [] = [] := rfl
theorem plainF_len : ∀ {f : Nat} {l : List UInt8}, (plainF f l).length ≤ 2 * l.length
  | 0, l => by simp [plainF]
  | f + 1, [] => by simp [plainF]
  | f + 1, c :: l => by
    rw [plainF, List.length_cons, List.length_append, List.length_take]
    have := plainF_len (f := f) (l := (c :: l).drop 128)
    rw [List.length_drop, List.length_cons] at this
    rw [List.length_cons]
    omega
theorem plainS_len (l : List UInt8) : (plainS l).length ≤ 2 * l.length := plainF_len
theorem alikeF_fits {b : List UInt8} : ∀ {f i j : Nat}, j ≤ b.length → j + alikeF b f i j ≤ b.length
  | 0, i, j, h => by simpa [alikeF] using h
  | f + 1, i, j, h => by
    unfold alikeF
    split
    · rename_i hc
      have := alikeF_fits (f := f) (i := i + 1) (j := j + 1) (show j + 1 ≤ b.length by omega)
      omega
    · omega
/-- What holds of the best stretch: it is within its bounds. -/
theorem longF_fits {b : List UInt8} {p : Nat} (hp : p ≤ b.length) : ∀ {f back : Nat} {s : Nat × Nat}, 1 ≤ back → back + f ≤ min 512 p + 1 → p + s.2 ≤ b.length → s.2 ≤ 66 → s.1 ≤ min 512 p → (0 < s.2 → 1 ≤ s.1) →
    p + (longF b p f back s).2 ≤ b.length ∧ (longF b p f back s).2 ≤ 66 ∧ (longF b p f back s).1 ≤ min 512 p ∧ (0 < (longF b p f back s).2 → 1 ≤ (longF b p f back s).1)
  | 0, _, _, _, _, h1, h2, h3, h4 => ⟨h1, h2, h3, h4⟩
  | f + 1, back, s, hb, hf, h1, h2, h3, h4 => by
    rw [longF]
    split
    · exact longF_fits hp (by omega) (by omega) (alikeF_fits hp) (alikeF_le _ _ _ _) (by dsimp only; omega) (fun _ => hb)
    · exact longF_fits hp (by omega) (by omega) h1 h2 h3 h4
theorem longS_fits {b : List UInt8} {p : Nat} (hp : p ≤ b.length) : p + (longS b p).2 ≤ b.length ∧ (longS b p).2 ≤ 66 ∧ (longS b p).1 ≤ min 512 p ∧ (0 < (longS b p).2 → 1 ≤ (longS b p).1) :=
  longF_fits hp (Nat.le_refl _) (by omega) (by simpa using hp) (by decide) (Nat.zero_le _) (fun h => by cases h)
theorem shortF_any {b : List UInt8} : ∀ {f g lo p : Nat}, b.length + 1 ≤ f + p → b.length + 1 ≤ g + p → p ≤ b.length → shortF b f lo p = shortF b g lo p
  | 0, g, lo, p, hf, _, hp => by omega
  | f + 1, 0, lo, p, _, hg, hp => by omega
  | f + 1, g + 1, lo, p, hf, hg, hp => by
    rw [shortF, shortF]
    have hfit := longS_fits hp
    split
    · split
      · exact shortF_any (by omega) (by omega) (by omega)
      · congr 3
        exact shortF_any (by omega) (by omega) (by omega)
    · rfl
theorem againF_length (back : Nat) : ∀ (n : Nat) (out : List UInt8), (againF back n out).length = out.length + n
  | 0, out => rfl
  | n + 1, out => by rw [againF, againF_length back n]; simp; omega
theorem restF_any {most : Int} : ∀ {f g : Nat} {l out : List UInt8}, l.length ≤ f → l.length ≤ g → restF most f l out = restF most g l out
  | f, g, [], out, _, _ => by cases f <;> cases g <;> rfl
  | 0, _, c :: t, _, h, _ => by simp at h
  | _ + 1, 0, c :: t, _, _, h => by simp at h
  | f + 1, g + 1, c :: t, out, hf, hg => by
    simp only [List.length_cons] at hf hg
    rw [restF, restF]
    rw [restF_any (f := f) (g := g) (l := t.drop (c.toNat + 1)) (by rw [List.length_drop]; omega) (by rw [List.length_drop]; omega),
      restF_any (f := f) (g := g) (l := t.drop (lookS t).2.1) (by rw [List.length_drop]; omega) (by rw [List.length_drop]; omega)]
theorem againF_snoc (back : Nat) : ∀ (n : Nat) (out : List UInt8), againF back (n + 1) out = againF back n out ++ [(againF back n out).getD ((againF back n out).length - back) 0]
  | 0, out => rfl
  | n + 1, out => by rw [againF, againF_snoc back n]; rfl
theorem againF_pre (back : Nat) : ∀ (n : Nat) (out : List UInt8), ∃ add, againF back n out = out ++ add ∧ add.length = n
  | 0, out => ⟨[], by simp [againF]⟩
  | n + 1, out => by
    obtain ⟨add, h, hl⟩ := againF_pre back n (out ++ [out.getD (out.length - back) 0])
    exact ⟨[out.getD (out.length - back) 0] ++ add, by rw [againF, h, List.append_assoc], by simp [hl]⟩
/-- What bytes are added by n steps back. -/
def addF (back n : Nat) (out : List UInt8) : List UInt8 := (againF back n out).drop out.length
theorem addF_spec (back n : Nat) (out : List UInt8) : againF back n out = out ++ addF back n out := by
  obtain ⟨add, h, _⟩ := againF_pre back n out
  unfold addF
  rw [h]; simp
theorem addF_length (back n : Nat) (out : List UInt8) : (addF back n out).length = n := by
  obtain ⟨add, h, hl⟩ := againF_pre back n out
  unfold addF
  rw [h]; simpa using hl
theorem addF_snoc {back : Nat} (n : Nat) (out : List UInt8) : addF back (n + 1) out = addF back n out ++ [(out ++ addF back n out).getD (out.length + n - back) 0] := by
  have h := againF_snoc back n out
  rw [addF_spec, addF_spec back n, List.append_assoc] at h
  have h := List.append_cancel_left h
  rw [h, List.length_append, addF_length]
/-- A token: what it adds, how many bytes it has, or why there is none. -/
def stepS (out : List UInt8) (c : UInt8) (t : List UInt8) : List UInt8 × Nat × Nat :=
  if c.toNat < 128 then if t.length < c.toNat + 1 then ([], 0, 2) else (t.take (c.toNat + 1), c.toNat + 2, 0)
  else if (lookS t).2.2 = 2 then ([], 0, 2)
  else if (lookS t).2.2 ≠ 0 ∨ c.toNat > 191 ∨ (lookS t).1 < 1 ∨ (lookS t).1 > 512 ∨ (lookS t).1 > out.length then ([], 0, 70)
  else (addF (lookS t).1 (c.toNat - 125) out, (lookS t).2.1 + 1, 0)
theorem restF_step (most : Int) (f : Nat) (c : UInt8) (t out : List UInt8) : restF most (f + 1) (c :: t) out =
    if (stepS out c t).2.2 ≠ 0 then ([], (stepS out c t).2.2) else if ((stepS out c t).1.length : Int) > most - out.length then ([], 71)
    else restF most f ((c :: t).drop (stepS out c t).2.1) (out ++ (stepS out c t).1) := by
  rw [restF]
  unfold stepS
  split
  · split
    · rfl
    · rename_i h1 h2
      simp only [ne_eq, not_true_eq_false, if_false, List.length_take, List.drop_succ_cons]
      rw [Nat.min_eq_left (by omega)]
      rfl
  · split
    · rfl
    · split
      · rfl
      · simp only [ne_eq, not_true_eq_false, if_false, List.drop_succ_cons, addF_length, ← addF_spec]
        rw [show (((c.toNat - 125 : Nat) : Int)) = (c.toNat : Int) - 125 from by omega]
theorem stepS_le (out : List UInt8) (c : UInt8) (t : List UInt8) : (stepS out c t).2.1 ≤ t.length + 1 ∧ ((stepS out c t).2.2 = 0 → 1 ≤ (stepS out c t).2.1) := by
  have := lookS_le t
  unfold stepS
  repeat' split
  all_goals simp
  all_goals omega
theorem stepS_err {out : List UInt8} {c : UInt8} {t : List UInt8} (h : (stepS out c t).2.2 ≠ 0) : stepS out c t = ([], 0, (stepS out c t).2.2) := by
  unfold stepS at h ⊢
  by_cases h1 : c.toNat < 128
  · simp only [h1, if_true] at h ⊢
    by_cases h2 : t.length < c.toNat + 1
    · simp only [h2, if_true]
    · simp only [h2, if_false] at h; exact absurd rfl h
  · simp only [h1, if_false] at h ⊢
    by_cases h2 : (lookS t).2.2 = 2
    · rw [if_pos h2]
    · rw [if_neg h2] at h ⊢
      by_cases h3 : (lookS t).2.2 ≠ 0 ∨ c.toNat > 191 ∨ (lookS t).1 < 1 ∨ (lookS t).1 > 512 ∨ (lookS t).1 > out.length
      · rw [if_pos h3]
      · rw [if_neg h3] at h; exact absurd rfl h
theorem restF_err {most : Int} : ∀ {f : Nat} {l out : List UInt8}, (restF most f l out).2 ≠ 0 → (restF most f l out).1 = []
  | f, [], out, h => by cases f <;> simp [restF] at h
  | 0, c :: t, out, _ => rfl
  | f + 1, c :: t, out, h => by
    rw [restF_step] at h ⊢
    split
    · rfl
    · split
      · rfl
      · rename_i h1 h2
        rw [if_neg h1, if_neg h2] at h
        exact restF_err h
theorem restF_most {most : Int} : ∀ {f : Nat} {l out : List UInt8}, (out.length : Int) ≤ max most 0 → ((restF most f l out).1.length : Int) ≤ max most 0
  | f, [], out, h => by cases f <;> simpa [restF] using h
  | 0, c :: t, out, _ => by simp [restF]; omega
  | f + 1, c :: t, out, h => by
    rw [restF_step]
    split
    · simp; omega
    · split
      · simp; omega
      · exact restF_most (by simp; omega)
theorem restS_most (b : List UInt8) (most : Int) : ((restS b most).1.length : Int) ≤ max most 0 := restF_most (by simp; omega)
theorem stepS_len (out : List UInt8) (c : UInt8) (t : List UInt8) : (stepS out c t).1.length ≤ 66 * (stepS out c t).2.1 := by
  unfold stepS
  repeat' split
  all_goals simp only [List.length_nil, List.length_take, addF_length]
  all_goals omega
/-- Three bytes. -/
def t3 (b : List UInt8) (i : Nat) : List UInt8 := (b.drop i).take 3
/-- The last place ahead of i where three bytes stand, and 1; or 0. -/
def lastP (b k : List UInt8) : Nat → Nat
  | 0 => 0
  | i + 1 => if i + 3 ≤ b.length ∧ t3 b i = k then i + 1 else lastP b k i
theorem lastP_le (b k : List UInt8) : ∀ i, lastP b k i ≤ i
  | 0 => Nat.le_refl _
  | i + 1 => by unfold lastP; split; exact Nat.le_refl _; exact Nat.le_succ_of_le (lastP_le b k i)
theorem lastP_is {b k : List UInt8} : ∀ {i}, 0 < lastP b k i → t3 b (lastP b k i - 1) = k ∧ lastP b k i - 1 + 3 ≤ b.length
  | 0, h => by simp [lastP] at h
  | i + 1, h => by
    unfold lastP at h ⊢
    split
    · rename_i hc; exact ⟨hc.2, hc.1⟩
    · rename_i hc; rw [if_neg hc] at h; exact lastP_is h
theorem lastP_none {b k : List UInt8} : ∀ {i q : Nat}, lastP b k i ≤ q → q < i → q + 3 ≤ b.length → t3 b q ≠ k
  | 0, q, _, h, _ => by omega
  | i + 1, q, h, hq, hl => by
    unfold lastP at h
    split at h
    · omega
    · rename_i hc
      by_cases e : q = i
      · subst e; exact fun ht => hc ⟨hl, ht⟩
      · exact lastP_none h (by omega) hl
theorem t3_get {b : List UInt8} {i : Nat} (h : i + 3 ≤ b.length) : t3 b i = [b[i], b[i + 1], b[i + 2]] := by
  unfold t3
  rw [List.drop_eq_getElem_cons (by omega), List.drop_eq_getElem_cons (by omega), List.drop_eq_getElem_cons (by omega)]
  rfl
/-- Three same bytes are a stretch of three. -/
theorem alike_three {b : List UInt8} {i j f : Nat} (hi : i + 3 ≤ b.length) (hj : j + 3 ≤ b.length) : 3 ≤ alikeF b (f + 3) i j ↔ t3 b i = t3 b j := by
  rw [t3_get hi, t3_get hj]
  have e : ∀ m, (hm : m < 3) → ((j + m < b.length ∧ b[i + m]? = b[j + m]?) ↔ b[i + m]'(by omega) = b[j + m]'(by omega)) := fun m hm => by
    rw [List.getElem?_eq_getElem (by omega), List.getElem?_eq_getElem (by omega), Option.some.injEq]
    exact ⟨And.right, fun h => ⟨by omega, h⟩⟩
  have e0 := e 0 (by decide)
  have e1 := e 1 (by decide)
  have e2 : (j + 1 + 1 < b.length ∧ b[i + 1 + 1]? = b[j + 1 + 1]?) ↔ b[i + 2] = b[j + 2] := e 2 (by decide)
  simp only [Nat.add_zero] at e0
  rw [show f + 3 = f + 1 + 1 + 1 from rfl, alikeF, alikeF, alikeF]
  simp only [e0, e1, e2, List.cons.injEq, and_true]
  by_cases h0 : b[i] = b[j]
  · by_cases h1 : b[i + 1] = b[j + 1]
    · by_cases h2 : b[i + 2] = b[j + 2]
      · simp [h0, h1, h2]
      · simp [h0, h1, h2]
    · simp [h0, h1]
  · simp [h0]
/-- What a stretch is worth: nothing below three. -/
def filt (s : Nat × Nat) : Nat × Nat := if s.2 < 3 then (0, 0) else s
theorem longF_skip {b : List UInt8} {p : Nat} : ∀ {n f B : Nat} {s : Nat × Nat}, (∀ k, B ≤ k → k < B + n → alikeF b 66 (p - k) p < 3) → ∃ s', filt s' = filt s ∧ longF b p (f + n) B s = longF b p f (B + n) s'
  | 0, f, B, s, _ => ⟨s, rfl, rfl⟩
  | n + 1, f, B, s, h => by
    have h0 := h B (Nat.le_refl _) (by omega)
    obtain ⟨s', h1, h2⟩ := longF_skip (b := b) (p := p) (n := n) (f := f) (B := B + 1) (s := if s.2 < alikeF b 66 (p - B) p then (B, alikeF b 66 (p - B) p) else s) (fun k hk hk' => h k (by omega) (by omega))
    refine ⟨s', ?_, ?_⟩
    · rw [h1]
      unfold filt
      split
      · rename_i hlt
        rw [if_pos (by omega)]
      · rfl
    · rw [show f + (n + 1) = (f + n) + 1 from by omega, longF, h2, show B + 1 + n = B + (n + 1) from by omega]
/-- What lz finds. -/
def bestS (b : List UInt8) (i : Nat) : Nat × Nat := filt (longS b i)
/-- The chain's walk: what is known when place q - 1 comes next. -/
def Cand (b : List UInt8) (i q : Nat) (st : Nat × Nat) : Prop :=
  q ≤ i ∧ (0 < q → t3 b (q - 1) = t3 b i ∧ q - 1 + 3 ≤ b.length) ∧ ∃ (B : Nat) (s : Nat × Nat), filt s = st ∧ 1 ≤ B ∧ B ≤ min 512 i + 1 ∧ q + B ≤ i + 1 ∧ longS b i = longF b i (min 512 i + 1 - B) B s ∧ ∀ m, q ≤ m → m + B ≤ i → t3 b m ≠ t3 b i
theorem alike_few {b : List UInt8} {i m : Nat} (hi : i + 3 ≤ b.length) (hm : m ≤ i) (h : t3 b m ≠ t3 b i) : alikeF b 66 m i < 3 := by
  have : ¬3 ≤ alikeF b 66 m i := fun h3 => h ((alike_three (b := b) (i := m) (j := i) (f := 63) (by omega) hi).1 h3)
  omega
theorem cand_init {b : List UInt8} {i : Nat} (h : i + 3 ≤ b.length) : Cand b i (lastP b (t3 b i) i) (0, 0) :=
  ⟨lastP_le _ _ _, lastP_is, 1, (0, 0), rfl, Nat.le_refl _, by omega, by have := lastP_le b (t3 b i) i; omega, by rw [show min 512 i + 1 - 1 = min 512 i from by omega]; rfl, fun m h1 h2 => lastP_none h1 (by omega) (by omega)⟩
theorem cand_end {b : List UInt8} {i q : Nat} {st : Nat × Nat} (hi : i + 3 ≤ b.length) (h : Cand b i q st) (hq : q = 0 ∨ 512 < i + 1 - q) : bestS b i = st := by
  obtain ⟨h1, h2, B, s, h3, h4, h5, h6, h7, h8⟩ := h
  obtain ⟨s', h9, h10⟩ := longF_skip (b := b) (p := i) (n := min 512 i + 1 - B) (f := 0) (B := B) (s := s) (fun k hk hk' => alike_few hi (by omega) (h8 _ (by omega) (by omega)))
  rw [Nat.zero_add] at h10
  unfold bestS
  rw [h7, h10, ← h3, ← h9]
  rfl
theorem cand_step {b : List UInt8} {i q : Nat} {st : Nat × Nat} (hi : i + 3 ≤ b.length) (h : Cand b i q st) (hq : 0 < q) (h512 : i + 1 - q ≤ 512) :
    Cand b i (lastP b (t3 b (q - 1)) (q - 1)) (if st.2 < alikeF b 66 (q - 1) i then (i + 1 - q, alikeF b 66 (q - 1) i) else st) := by
  obtain ⟨h1, h2, B, s, h3, h4, h5, h6, h7, h8⟩ := h
  obtain ⟨h2a, h2b⟩ := h2 hq
  obtain ⟨s', h9, h10⟩ := longF_skip (b := b) (p := i) (n := i + 1 - q - B) (f := min 512 i + 1 - (i + 1 - q)) (B := B) (s := s) (fun k hk hk' => alike_few hi (by omega) (h8 _ (by omega) (by omega)))
  rw [show min 512 i + 1 - (i + 1 - q) + (i + 1 - q - B) = min 512 i + 1 - B from by omega, show B + (i + 1 - q - B) = i + 1 - q from by omega] at h10
  have h3' : 3 ≤ alikeF b 66 (q - 1) i := (alike_three (f := 63) h2b hi).2 h2a
  have hle := lastP_le b (t3 b (q - 1)) (q - 1)
  refine ⟨by omega, fun hp => ?_, i + 1 - q + 1, if s'.2 < alikeF b 66 (q - 1) i then (i + 1 - q, alikeF b 66 (q - 1) i) else s', ?_, by omega, by omega, by omega, ?_, fun m hm hm' => ?_⟩
  · obtain ⟨e1, e2⟩ := lastP_is hp
    exact ⟨by rw [e1, h2a], e2⟩
  · have hf : filt s' = st := h9.trans h3
    rw [← hf]
    unfold filt
    by_cases hs : s'.2 < 3
    · rw [if_pos (show s'.2 < alikeF b 66 (q - 1) i by omega), if_pos hs]
      simp only
      rw [if_neg (by omega), if_pos (by omega)]
    · rw [if_neg hs]
      split
      · simp only
        rw [if_neg (by omega)]
      · rfl
  · rw [h7, h10, show min 512 i + 1 - (i + 1 - q) = (min 512 i + 1 - (i + 1 - q + 1)) + 1 from by omega, longF, show i - (i + 1 - q) = q - 1 from by omega]
  · rw [← h2a]
    exact lastP_none hm (by omega) (by omega)
theorem best_none {b : List UInt8} {i : Nat} (h : b.length < i + 3) (hi : i ≤ b.length) : bestS b i = (0, 0) := by
  have := longS_fits hi
  unfold bestS filt
  rw [if_pos (by omega)]
theorem bestS_fits {b : List UInt8} {i : Nat} (hi : i ≤ b.length) : i + (bestS b i).2 ≤ b.length ∧ (bestS b i).2 ≤ 66 ∧ (bestS b i).1 ≤ min 512 i ∧ (0 < (bestS b i).2 → 1 ≤ (bestS b i).1 ∧ 3 ≤ (bestS b i).2) := by
  have := longS_fits hi
  unfold bestS filt
  split
  · simp; omega
  · exact ⟨this.1, this.2.1, this.2.2.1, fun h => ⟨this.2.2.2 h, by omega⟩⟩
theorem lastP_over {b k : List UInt8} {i : Nat} (h : b.length < i + 3) : lastP b k (i + 1) = lastP b k i := by
  rw [lastP, if_neg fun hc => by omega]
/-- The token of one piece. -/
def tokF (b : List UInt8) (k : Nat) : List UInt8 := UInt8.ofNat (min 128 (b.length - 128 * k) - 1) :: (b.drop (128 * k)).take 128
theorem plainS_tok {b : List UInt8} {k : Nat} (h : 128 * k < b.length) : plainS (b.drop (128 * k)) = tokF b k ++ plainS (b.drop (128 * (k + 1))) := by
  rw [plainS_step (by intro e; have := congrArg List.length e; rw [List.length_drop, List.length_nil] at this; omega), List.length_drop, List.drop_drop]
  rfl
end Go.Fl
