/- Contracts and plain laws that the claims of this seat lean on, put together. -/
import Derived.Test.YtkojpppnjloikaaDoorM1
import Derived.Laws.OwnMore
import Derived.Stop.BytesEq
import Derived.MapKept
import Derived.RangeFuncNested
import Derived.RangeFuncBound
import Derived.RangeFuncCalls
import Derived.RangeFuncLeaves
import Derived.RangeFuncFrom
import Derived.Shelf.Abstract
import Derived.ControlIn
import Derived.TacticsIn
import Derived.OrdersIn
namespace Go.Fl

/-- How many bytes from two places on are the same, at most f. -/
def alikeF (b : List UInt8) : Nat → Nat → Nat → Nat
  | 0, _, _ => 0
  | f + 1, i, j => if j < b.length ∧ b[i]? = b[j]? then alikeF b f (i + 1) (j + 1) + 1 else 0
theorem alikeF_le (b : List UInt8) : ∀ f i j, alikeF b f i j ≤ f
  | 0, _, _ => Nat.le_refl _
  | f + 1, i, j => by unfold alikeF; split <;> have := alikeF_le b f (i + 1) (j + 1) <;> omega
/-- The loop that counts them: k are the same already. -/
theorem alikeF_step {b : List UInt8} : ∀ {f i j k : Nat}, k ≤ f → (∀ m, m < k → j + m < b.length ∧ b[i + m]? = b[j + m]?) → (k = f ∨ ¬(j + k < b.length ∧ b[i + k]? = b[j + k]?)) → alikeF b f i j = k
  | 0, i, j, k, hk, _, _ => by simp [alikeF]; omega
  | f + 1, i, j, k, hk, h, hs => by
    unfold alikeF
    cases k with
    | zero =>
      rcases hs with hs | hs
      · omega
      · exact if_neg hs
    | succ k =>
      rw [if_pos (by simpa using h 0 (by omega))]
      congr 1
      refine alikeF_step (by omega) (fun m hm => ?_) ?_
      · have := h (m + 1) (by omega)
        rw [show i + 1 + m = i + (m + 1) from by omega, show j + 1 + m = j + (m + 1) from by omega]
        exact this
      · rw [show i + 1 + k = i + (k + 1) from by omega, show j + 1 + k = j + (k + 1) from by omega]
        exact hs.imp (by omega) id
/-- Of the places back, back + 1, .. the first with the longest stretch, if it is longer than what is known. -/
def longF (b : List UInt8) (at' : Nat) : Nat → Nat → Nat × Nat → Nat × Nat
  | 0, _, s => s
  | f + 1, back, s => longF b at' f (back + 1) (if s.2 < alikeF b 66 (at' - back) at' then (back, alikeF b 66 (at' - back) at') else s)
/-- The longest stretch ahead of a place: how far back, how long. -/
def longS (b : List UInt8) (at' : Nat) : Nat × Nat := longF b at' (min 512 at') 1 (0, 0)
/-- Bytes as they are, in pieces. -/
def plainF : Nat → List UInt8 → List UInt8
  | 0, _ => []
  | _ + 1, [] => []
  | f + 1, c :: l => UInt8.ofNat (min 128 (c :: l).length - 1) :: ((c :: l).take 128 ++ plainF f ((c :: l).drop 128))
def plainS (l : List UInt8) : List UInt8 := plainF l.length l
/-- The tokens of bytes from a place on; what stands from 'lo' on is told as it is. -/
def shortF (b : List UInt8) : Nat → Nat → Nat → List UInt8
  | 0, _, _ => []
  | f + 1, lo, at' => if at' < b.length then
      if (longS b at').2 < 3 then shortF b f lo (at' + 1)
      else plainS ((b.take at').drop lo) ++ (UInt8.ofNat ((longS b at').2 + 125) :: (numB (longS b at').1 ++ shortF b f (at' + (longS b at').2) (at' + (longS b at').2)))
    else plainS (b.drop lo)
def shortS (b : List UInt8) : List UInt8 := shortF b (b.length + 1) 0 0
/-- Some bytes of what is there, again. -/
def againF (back : Nat) : Nat → List UInt8 → List UInt8
  | 0, out => out
  | n + 1, out => againF back n (out ++ [out.getD (out.length - back) 0])
/-- The bytes of tokens, at most so many, or why there are none. -/
def restF (most : Int) : Nat → List UInt8 → List UInt8 → List UInt8 × Nat
  | _, [], out => (out, 0)
  | 0, _ :: _, _ => ([], 0)
  | f + 1, c :: t, out =>
    if c.toNat < 128 then
      if t.length < c.toNat + 1 then ([], 2) else if (c.toNat : Int) + 1 > most - out.length then ([], 71) else restF most f (t.drop (c.toNat + 1)) (out ++ t.take (c.toNat + 1))
    else if (lookS t).2.2 = 2 then ([], 2)
    else if (lookS t).2.2 ≠ 0 ∨ c.toNat > 191 ∨ (lookS t).1 < 1 ∨ (lookS t).1 > 512 ∨ (lookS t).1 > out.length then ([], 70)
    else if (c.toNat : Int) - 125 > most - out.length then ([], 71)
    else restF most f (t.drop (lookS t).2.1) (againF (lookS t).1 (c.toNat - 125) out)
def restS (b : List UInt8) (most : Int) : List UInt8 × Nat := restF most b.length b []
theorem plainF_any : ∀ {f g : Nat} {l : List UInt8}, l.length ≤ f → l.length ≤ g → plainF f l = plainF g l
  | 0, 0, _, _, _ => rfl
  | 0, g + 1, l, h, _ => by rw [List.eq_nil_of_length_eq_zero (Nat.le_zero.1 h)]; rfl
  | f + 1, 0, l, _, h => by rw [List.eq_nil_of_length_eq_zero (Nat.le_zero.1 h)]; rfl
  | f + 1, g + 1, [], _, _ => rfl
  | f + 1, g + 1, c :: l, hf, hg => by
    rw [plainF, plainF]
    congr 2
    have : ((c :: l).drop 128).length ≤ l.length := by rw [List.length_drop, List.length_cons]; omega
    simp only [List.length_cons] at hf hg
    exact plainF_any (by omega) (by omega)
theorem plainS_step {l : List UInt8} (h : l ≠ []) : plainS l = UInt8.ofNat (min 128 l.length - 1) :: (l.take 128 ++ plainS (l.drop 128)) := by
  cases l with
  | nil => exact absurd rfl h
  | cons c t =>
    unfold plainS
    rw [List.length_cons, plainF, List.length_cons]
    congr 2
    exact plainF_any (by rw [List.length_drop, List.length_cons]; omega) (Nat.le_refl _)
theorem plainS_nil : plainS [] = [] := rfl
theorem plainF_len : ∀ {f : Nat} {l : List UInt8}, (plainF f l).length ≤ 2 * l.length
  | 0, l => by simp [plainF]
  | f + 1, [] => by simp [plainF]
  | f + 1, c :: l => by
    rw [plainF, List.length_cons, List.length_append, List.length_take]
    have := plainF_len (f := f) (l := (c :: l).drop 128)
    rw [List.length_drop, List.length_cons] at this
    rw [List.length_cons]
    omega
theorem plainS_len (l : List UInt8) : (plainS l).length ≤ 2 * l.length := plainF_len
theorem alikeF_fits {b : List UInt8} : ∀ {f i j : Nat}, j ≤ b.length → j + alikeF b f i j ≤ b.length
  | 0, i, j, h => by simpa [alikeF] using h
  | f + 1, i, j, h => by
    unfold alikeF
    split
    · rename_i hc
      have := alikeF_fits (f := f) (i := i + 1) (j := j + 1) (show j + 1 ≤ b.length by omega)
      omega
    · omega
/-- What holds of the best stretch: it is within its bounds. -/
theorem longF_fits {b : List UInt8} {p : Nat} (hp : p ≤ b.length) : ∀ {f back : Nat} {s : Nat × Nat}, 1 ≤ back → back + f ≤ min 512 p + 1 → p + s.2 ≤ b.length → s.2 ≤ 66 → s.1 ≤ min 512 p → (0 < s.2 → 1 ≤ s.1) →
    p + (longF b p f back s).2 ≤ b.length ∧ (longF b p f back s).2 ≤ 66 ∧ (longF b p f back s).1 ≤ min 512 p ∧ (0 < (longF b p f back s).2 → 1 ≤ (longF b p f back s).1)
  | 0, _, _, _, _, h1, h2, h3, h4 => ⟨h1, h2, h3, h4⟩
  | f + 1, back, s, hb, hf, h1, h2, h3, h4 => by
    rw [longF]
    split
    · exact longF_fits hp (by omega) (by omega) (alikeF_fits hp) (alikeF_le _ _ _ _) (by dsimp only; omega) (fun _ => hb)
    · exact longF_fits hp (by omega) (by omega) h1 h2 h3 h4
theorem longS_fits {b : List UInt8} {p : Nat} (hp : p ≤ b.length) : p + (longS b p).2 ≤ b.length ∧ (longS b p).2 ≤ 66 ∧ (longS b p).1 ≤ min 512 p ∧ (0 < (longS b p).2 → 1 ≤ (longS b p).1) :=
  longF_fits hp (Nat.le_refl _) (by omega) (by simpa using hp) (by decide) (Nat.zero_le _) (fun h => by cases h)
theorem shortF_any {b : List UInt8} : ∀ {f g lo p : Nat}, b.length + 1 ≤ f + p → b.length + 1 ≤ g + p → p ≤ b.length → shortF b f lo p = shortF b g lo p
  | 0, g, lo, p, hf, _, hp => by omega
  | f + 1, 0, lo, p, _, hg, hp => by omega
  | f + 1, g + 1, lo, p, hf, hg, hp => by
    rw [shortF, shortF]
    have hfit := longS_fits hp
    split
    · split
      · exact shortF_any (by omega) (by omega) (by omega)
      · congr 3
        exact shortF_any (by omega) (by omega) (by omega)
    · rfl
theorem againF_length (back : Nat) : ∀ (n : Nat) (out : List UInt8), (againF back n out).length = out.length + n
  | 0, out => rfl
  | n + 1, out => by rw [againF, againF_length back n]; simp; omega
theorem restF_any {most : Int} : ∀ {f g : Nat} {l out : List UInt8}, l.length ≤ f → l.length ≤ g → restF most f l out = restF most g l out
  | f, g, [], out, _, _ => by cases f <;> cases g <;> rfl
  | 0, _, c :: t, _, h, _ => by simp at h
  | _ + 1, 0, c :: t, _, _, h => by simp at h
  | f + 1, g + 1, c :: t, out, hf, hg => by
    simp only [List.length_cons] at hf hg
    rw [restF, restF]
    rw [restF_any (f := f) (g := g) (l := t.drop (c.toNat + 1)) (by rw [List.length_drop]; omega) (by rw [List.length_drop]; omega),
      restF_any (f := f) (g := g) (l := t.drop (lookS t).2.1) (by rw [List.length_drop]; omega) (by rw [List.length_drop]; omega)]
theorem againF_snoc (back : Nat) : ∀ (n : Nat) (out : List UInt8), againF back (n + 1) out = againF back n out ++ [(againF back n out).getD ((againF back n out).length - back) 0]
  | 0, out => rfl
  | n + 1, out => by rw [againF, againF_snoc back n]; rfl
theorem againF_pre (back : Nat) : ∀ (n : Nat) (out : List UInt8), ∃ add, againF back n out = out ++ add ∧ add.length = n
  | 0, out => ⟨[], by simp [againF]⟩
  | n + 1, out => by
    obtain ⟨add, h, hl⟩ := againF_pre back n (out ++ [out.getD (out.length - back) 0])
    exact ⟨[out.getD (out.length - back) 0] ++ add, by rw [againF, h, List.append_assoc], by simp [hl]⟩
/-- What bytes are added by n steps back. -/
def addF (back n : Nat) (out : List UInt8) : List UInt8 := (againF back n out).drop out.length
theorem addF_spec (back n : Nat) (out : List UInt8) : againF back n out = out ++ addF back n out := by
  obtain ⟨add, h, _⟩ := againF_pre back n out
  unfold addF
  rw [h]; simp
theorem addF_length (back n : Nat) (out : List UInt8) : (addF back n out).length = n := by
  obtain ⟨add, h, hl⟩ := againF_pre back n out
  unfold addF
  rw [h]; simpa using hl
theorem addF_snoc {back : Nat} (n : Nat) (out : List UInt8) : addF back (n + 1) out = addF back n out ++ [(out ++ addF back n out).getD (out.length + n - back) 0] := by
  have h := againF_snoc back n out
  rw [addF_spec, addF_spec back n, List.append_assoc] at h
  have h := List.append_cancel_left h
  rw [h, List.length_append, addF_length]
/-- A token: what it adds, how many bytes it has, or why there is none. -/
def stepS (out : List UInt8) (c : UInt8) (t : List UInt8) : List UInt8 × Nat × Nat :=
  if c.toNat < 128 then if t.length < c.toNat + 1 then ([], 0, 2) else (t.take (c.toNat + 1), c.toNat + 2, 0)
  else if (lookS t).2.2 = 2 then ([], 0, 2)
  else if (lookS t).2.2 ≠ 0 ∨ c.toNat > 191 ∨ (lookS t).1 < 1 ∨ (lookS t).1 > 512 ∨ (lookS t).1 > out.length then ([], 0, 70)
  else (addF (lookS t).1 (c.toNat - 125) out, (lookS t).2.1 + 1, 0)
theorem restF_step (most : Int) (f : Nat) (c : UInt8) (t out : List UInt8) : restF most (f + 1) (c :: t) out =
    if (stepS out c t).2.2 ≠ 0 then ([], (stepS out c t).2.2) else if ((stepS out c t).1.length : Int) > most - out.length then ([], 71)
    else restF most f ((c :: t).drop (stepS out c t).2.1) (out ++ (stepS out c t).1) := by
  rw [restF]
  unfold stepS
  split
  · split
    · rfl
    · rename_i h1 h2
      simp only [ne_eq, not_true_eq_false, if_false, List.length_take, List.drop_succ_cons]
      rw [Nat.min_eq_left (by omega)]
      rfl
  · split
    · rfl
    · split
      · rfl
      · simp only [ne_eq, not_true_eq_false, if_false, List.drop_succ_cons, addF_length, ← addF_spec]
        rw [show (((c.toNat - 125 : Nat) : Int)) = (c.toNat : Int) - 125 from by omega]
theorem stepS_le (out : List UInt8) (c : UInt8) (t : List UInt8) : (stepS out c t).2.1 ≤ t.length + 1 ∧ ((stepS out c t).2.2 = 0 → 1 ≤ (stepS out c t).2.1) := by
  have := lookS_le t
  unfold stepS
  repeat' split
  all_goals simp
  all_goals omega
theorem stepS_err {out : List UInt8} {c : UInt8} {t : List UInt8} (h : (stepS out c t).2.2 ≠ 0) : stepS out c t = ([], 0, (stepS out c t).2.2) := by
  unfold stepS at h ⊢
  by_cases h1 : c.toNat < 128
  · simp only [h1, if_true] at h ⊢
    by_cases h2 : t.length < c.toNat + 1
    · simp only [h2, if_true]
    · simp only [h2, if_false] at h; exact absurd rfl h
  · simp only [h1, if_false] at h ⊢
    by_cases h2 : (lookS t).2.2 = 2
    · rw [if_pos h2]
    · rw [if_neg h2] at h ⊢
      by_cases h3 : (lookS t).2.2 ≠ 0 ∨ c.toNat > 191 ∨ (lookS t).1 < 1 ∨ (lookS t).1 > 512 ∨ (lookS t).1 > out.length
      · rw [if_pos h3]
      · rw [if_neg h3] at h; exact absurd rfl h
theorem restF_err {most : Int} : ∀ {f : Nat} {l out : List UInt8}, (restF most f l out).2 ≠ 0 → (restF most f l out).1 = []
  | f, [], out, h => by cases f <;> simp [restF] at h
  | 0, c :: t, out, _ => rfl
  | f + 1, c :: t, out, h => by
    rw [restF_step] at h ⊢
    split
    · rfl
    · split
      · rfl
      · rename_i h1 h2
        rw [if_neg h1, if_neg h2] at h
        exact restF_err h
theorem restF_most {most : Int} : ∀ {f : Nat} {l out : List UInt8}, (out.length : Int) ≤ max most 0 → ((restF most f l out).1.length : Int) ≤ max most 0
  | f, [], out, h => by cases f <;> simpa [restF] using h
  | 0, c :: t, out, _ => by simp [restF]; omega
  | f + 1, c :: t, out, h => by
    rw [restF_step]
    split
    · simp; omega
    · split
      · simp; omega
      · exact restF_most (by simp; omega)
theorem restS_most (b : List UInt8) (most : Int) : ((restS b most).1.length : Int) ≤ max most 0 := restF_most (by simp; omega)
theorem stepS_len (out : List UInt8) (c : UInt8) (t : List UInt8) : (stepS out c t).1.length ≤ 66 * (stepS out c t).2.1 := by
  unfold stepS
  repeat' split
  all_goals simp only [List.length_nil, List.length_take, addF_length]
  all_goals omega
/-- Three bytes. -/
def t3 (b : List UInt8) (i : Nat) : List UInt8 := (b.drop i).take 3
/-- The last place ahead of i where three bytes stand, and 1; or 0. -/
def lastP (b k : List UInt8) : Nat → Nat
  | 0 => 0
  | i + 1 => if i + 3 ≤ b.length ∧ t3 b i = k then i + 1 else lastP b k i
theorem lastP_le (b k : List UInt8) : ∀ i, lastP b k i ≤ i
  | 0 => Nat.le_refl _
  | i + 1 => by unfold lastP; split; exact Nat.le_refl _; exact Nat.le_succ_of_le (lastP_le b k i)
theorem lastP_is {b k : List UInt8} : ∀ {i}, 0 < lastP b k i → t3 b (lastP b k i - 1) = k ∧ lastP b k i - 1 + 3 ≤ b.length
  | 0, h => by simp [lastP] at h
  | i + 1, h => by
    unfold lastP at h ⊢
    split
    · rename_i hc; exact ⟨hc.2, hc.1⟩
    · rename_i hc; rw [if_neg hc] at h; exact lastP_is h
theorem lastP_none {b k : List UInt8} : ∀ {i q : Nat}, lastP b k i ≤ q → q < i → q + 3 ≤ b.length → t3 b q ≠ k
  | 0, q, _, h, _ => by omega
  | i + 1, q, h, hq, hl => by
    unfold lastP at h
    split at h
    · omega
    · rename_i hc
      by_cases e : q = i
      · subst e; exact fun ht => hc ⟨hl, ht⟩
      · exact lastP_none h (by omega) hl
theorem t3_get {b : List UInt8} {i : Nat} (h : i + 3 ≤ b.length) : t3 b i = [b[i], b[i + 1], b[i + 2]] := by
  unfold t3
  rw [List.drop_eq_getElem_cons (by omega), List.drop_eq_getElem_cons (by omega), List.drop_eq_getElem_cons (by omega)]
  rfl
/-- Three same bytes are a stretch of three. -/
theorem alike_three {b : List UInt8} {i j f : Nat} (hi : i + 3 ≤ b.length) (hj : j + 3 ≤ b.length) : 3 ≤ alikeF b (f + 3) i j ↔ t3 b i = t3 b j := by
  rw [t3_get hi, t3_get hj]
  have e : ∀ m, (hm : m < 3) → ((j + m < b.length ∧ b[i + m]? = b[j + m]?) ↔ b[i + m]'(by omega) = b[j + m]'(by omega)) := fun m hm => by
    rw [List.getElem?_eq_getElem (by omega), List.getElem?_eq_getElem (by omega), Option.some.injEq]
    exact ⟨And.right, fun h => ⟨by omega, h⟩⟩
  have e0 := e 0 (by decide)
  have e1 := e 1 (by decide)
  have e2 : (j + 1 + 1 < b.length ∧ b[i + 1 + 1]? = b[j + 1 + 1]?) ↔ b[i + 2] = b[j + 2] := e 2 (by decide)
  simp only [Nat.add_zero] at e0
  rw [show f + 3 = f + 1 + 1 + 1 from rfl, alikeF, alikeF, alikeF]
  simp only [e0, e1, e2, List.cons.injEq, and_true]
  by_cases h0 : b[i] = b[j]
  · by_cases h1 : b[i + 1] = b[j + 1]
    · by_cases h2 : b[i + 2] = b[j + 2]
      · simp [h0, h1, h2]
      · simp [h0, h1, h2]
    · simp [h0, h1]
  · simp [h0]
/-- What a stretch is worth: nothing below three. -/
def filt (s : Nat × Nat) : Nat × Nat := if s.2 < 3 then (0, 0) else s
theorem longF_skip {b : List UInt8} {p : Nat} : ∀ {n f B : Nat} {s : Nat × Nat}, (∀ k, B ≤ k → k < B + n → alikeF b 66 (p - k) p < 3) → ∃ s', filt s' = filt s ∧ longF b p (f + n) B s = longF b p f (B + n) s'
  | 0, f, B, s, _ => ⟨s, rfl, rfl⟩
  | n + 1, f, B, s, h => by
    have h0 := h B (Nat.le_refl _) (by omega)
    obtain ⟨s', h1, h2⟩ := longF_skip (b := b) (p := p) (n := n) (f := f) (B := B + 1) (s := if s.2 < alikeF b 66 (p - B) p then (B, alikeF b 66 (p - B) p) else s) (fun k hk hk' => h k (by omega) (by omega))
    refine ⟨s', ?_, ?_⟩
    · rw [h1]
      unfold filt
      split
      · rename_i hlt
        rw [if_pos (by omega)]
      · rfl
    · rw [show f + (n + 1) = (f + n) + 1 from by omega, longF, h2, show B + 1 + n = B + (n + 1) from by omega]
/-- What lz finds. -/
def bestS (b : List UInt8) (i : Nat) : Nat × Nat := filt (longS b i)
/-- The chain's walk: what is known when place q - 1 comes next. -/
def Cand (b : List UInt8) (i q : Nat) (st : Nat × Nat) : Prop :=
  q ≤ i ∧ (0 < q → t3 b (q - 1) = t3 b i ∧ q - 1 + 3 ≤ b.length) ∧ ∃ (B : Nat) (s : Nat × Nat), filt s = st ∧ 1 ≤ B ∧ B ≤ min 512 i + 1 ∧ q + B ≤ i + 1 ∧ longS b i = longF b i (min 512 i + 1 - B) B s ∧ ∀ m, q ≤ m → m + B ≤ i → t3 b m ≠ t3 b i
theorem alike_few {b : List UInt8} {i m : Nat} (hi : i + 3 ≤ b.length) (hm : m ≤ i) (h : t3 b m ≠ t3 b i) : alikeF b 66 m i < 3 := by
  have : ¬3 ≤ alikeF b 66 m i := fun h3 => h ((alike_three (b := b) (i := m) (j := i) (f := 63) (by omega) hi).1 h3)
  omega
theorem cand_init {b : List UInt8} {i : Nat} (h : i + 3 ≤ b.length) : Cand b i (lastP b (t3 b i) i) (0, 0) :=
  ⟨lastP_le _ _ _, lastP_is, 1, (0, 0), rfl, Nat.le_refl _, by omega, by have := lastP_le b (t3 b i) i; omega, by rw [show min 512 i + 1 - 1 = min 512 i from by omega]; rfl, fun m h1 h2 => lastP_none h1 (by omega) (by omega)⟩
theorem cand_end {b : List UInt8} {i q : Nat} {st : Nat × Nat} (hi : i + 3 ≤ b.length) (h : Cand b i q st) (hq : q = 0 ∨ 512 < i + 1 - q) : bestS b i = st := by
  obtain ⟨h1, h2, B, s, h3, h4, h5, h6, h7, h8⟩ := h
  obtain ⟨s', h9, h10⟩ := longF_skip (b := b) (p := i) (n := min 512 i + 1 - B) (f := 0) (B := B) (s := s) (fun k hk hk' => alike_few hi (by omega) (h8 _ (by omega) (by omega)))
  rw [Nat.zero_add] at h10
  unfold bestS
  rw [h7, h10, ← h3, ← h9]
  rfl
theorem cand_step {b : List UInt8} {i q : Nat} {st : Nat × Nat} (hi : i + 3 ≤ b.length) (h : Cand b i q st) (hq : 0 < q) (h512 : i + 1 - q ≤ 512) :
    Cand b i (lastP b (t3 b (q - 1)) (q - 1)) (if st.2 < alikeF b 66 (q - 1) i then (i + 1 - q, alikeF b 66 (q - 1) i) else st) := by
  obtain ⟨h1, h2, B, s, h3, h4, h5, h6, h7, h8⟩ := h
  obtain ⟨h2a, h2b⟩ := h2 hq
  obtain ⟨s', h9, h10⟩ := longF_skip (b := b) (p := i) (n := i + 1 - q - B) (f := min 512 i + 1 - (i + 1 - q)) (B := B) (s := s) (fun k hk hk' => alike_few hi (by omega) (h8 _ (by omega) (by omega)))
  rw [show min 512 i + 1 - (i + 1 - q) + (i + 1 - q - B) = min 512 i + 1 - B from by omega, show B + (i + 1 - q - B) = i + 1 - q from by omega] at h10
  have h3' : 3 ≤ alikeF b 66 (q - 1) i := (alike_three (f := 63) h2b hi).2 h2a
  have hle := lastP_le b (t3 b (q - 1)) (q - 1)
  refine ⟨by omega, fun hp => ?_, i + 1 - q + 1, if s'.2 < alikeF b 66 (q - 1) i then (i + 1 - q, alikeF b 66 (q - 1) i) else s', ?_, by omega, by omega, by omega, ?_, fun m hm hm' => ?_⟩
  · obtain ⟨e1, e2⟩ := lastP_is hp
    exact ⟨by rw [e1, h2a], e2⟩
  · have hf : filt s' = st := h9.trans h3
    rw [← hf]
    unfold filt
    by_cases hs : s'.2 < 3
    · rw [if_pos (show s'.2 < alikeF b 66 (q - 1) i by omega), if_pos hs]
      simp only
      rw [if_neg (by omega), if_pos (by omega)]
    · rw [if_neg hs]
      split
      · simp only
        rw [if_neg (by omega)]
      · rfl
  · rw [h7, h10, show min 512 i + 1 - (i + 1 - q) = (min 512 i + 1 - (i + 1 - q + 1)) + 1 from by omega, longF, show i - (i + 1 - q) = q - 1 from by omega]
  · rw [← h2a]
    exact lastP_none hm (by omega) (by omega)
theorem best_none {b : List UInt8} {i : Nat} (h : b.length < i + 3) (hi : i ≤ b.length) : bestS b i = (0, 0) := by
  have := longS_fits hi
  unfold bestS filt
  rw [if_pos (by omega)]
theorem bestS_fits {b : List UInt8} {i : Nat} (hi : i ≤ b.length) : i + (bestS b i).2 ≤ b.length ∧ (bestS b i).2 ≤ 66 ∧ (bestS b i).1 ≤ min 512 i ∧ (0 < (bestS b i).2 → 1 ≤ (bestS b i).1 ∧ 3 ≤ (bestS b i).2) := by
  have := longS_fits hi
  unfold bestS filt
  split
  · simp; omega
  · exact ⟨this.1, this.2.1, this.2.2.1, fun h => ⟨this.2.2.2 h, by omega⟩⟩
theorem lastP_over {b k : List UInt8} {i : Nat} (h : b.length < i + 3) : lastP b k (i + 1) = lastP b k i := by
  rw [lastP, if_neg fun hc => by omega]
/-- The token of one piece. -/
def tokF (b : List UInt8) (k : Nat) : List UInt8 := UInt8.ofNat (min 128 (b.length - 128 * k) - 1) :: (b.drop (128 * k)).take 128
theorem plainS_tok {b : List UInt8} {k : Nat} (h : 128 * k < b.length) : plainS (b.drop (128 * k)) = tokF b k ++ plainS (b.drop (128 * (k + 1))) := by
  rw [plainS_step (by intro e; have := congrArg List.length e; rw [List.length_drop, List.length_nil] at this; omega), List.length_drop, List.drop_drop]
  rfl
end Go.Fl
namespace Go.Proofs.YtkojpppnjloikaaDoor
open Go.RowKit Go.Fl

theorem ref_Longest_ok {s : Sl} {b : List UInt8} {w : World} {p : Nat} (hs : Bs w s b) (hl : b.length ≤ 1099511627776) (hp : p < b.length) :
    cl Tryd.prog n_flumeref07_Longest #[.slice s.a s.n s.c, .int .i64 (p : Int)] (.tup (.pair (.I .i64) (.pair (.I .i64) .nil))) w fun (r : Int × Int × Unit) w' => r = (((longS b p).1 : Int), ((longS b p).2 : Int), ()) ∧ Fr w w' := by
  refine flumeref07_Longest.cl ?_
  unfold flumeref07_Longest
  have hn := hs.len
  refine lpI (fun s' w' => Fr w w' ∧ ∃ back far long : Nat, 1 ≤ back ∧ back ≤ min 512 p + 1 ∧ s'.2.2.1 = back ∧ s'.1 = far ∧ s'.2.1 = long ∧ longS b p = longF b p (min 512 p + 1 - back) back (far, long)) (fun s' _ => (513 - s'.2.2.1).toNat)
    ⟨Fr.refl w, 1, 0, 0, by omega, by omega, rfl, rfl, rfl, rfl⟩ ?_
  rintro _ ⟨far, long, back, ⟨⟩⟩ w2 ⟨hf2, back, far, long, h1, hb, rfl, rfl, rfl, hL⟩
  dsimp -zeta only
  have done : ¬(back ≤ min 512 p) → longS b p = (far, long) := fun h => by
    rw [hL, show min 512 p + 1 - back = 0 from by omega]; rfl
  refine bD ?_ ?_ <;> intro h512
  · refine bD ?_ ?_ <;> intro hbp
    · intro j1
      have hj : ∀ (k : Nat) (w' : World), Fr w w' → k ≤ 66 → (∀ m, m < k → p + m < b.length ∧ b[p - back + m]? = b[p + m]?) → (k = 66 ∨ ¬(p + k < b.length ∧ b[p - back + k]? = b[p + k]?)) →
          bif decide ((k : Int) > (long : Int)) then j1 (back : Int) (k : Int) w' else j1 (far : Int) (long : Int) w' := by
        intro k w' hf' hk hm hstop
        have ha := alikeF_step hk hm hstop
        rw [show min 512 p + 1 - back = (min 512 p + 1 - (back + 1)) + 1 from by omega, longF, ha] at hL
        refine bD ?_ ?_ <;> intro hgt
        · rw [if_pos (show long < k by omega)] at hL
          refine ⟨⟨hf', back + 1, back, k, by omega, by omega, ?_, rfl, rfl, hL⟩, ?_⟩
          · exact (i64w (by omega) (by omega)).trans (by simp)
          · show (513 - IntKind.i64.wrap ((back : Int) + 1)).toNat < _
            rw [i64w (by omega) (by omega)]; omega
        · rw [if_neg (show ¬long < k by omega)] at hL
          refine ⟨⟨hf', back + 1, far, long, by omega, by omega, ?_, rfl, rfl, hL⟩, ?_⟩
          · exact (i64w (by omega) (by omega)).trans (by simp)
          · show (513 - IntKind.i64.wrap ((back : Int) + 1)).toNat < _
            rw [i64w (by omega) (by omega)]; omega
      clear_value j1
      refine lpI (fun s' w' => Fr w w' ∧ ∃ k : Nat, k ≤ 66 ∧ s'.1 = k ∧ ∀ m, m < k → p + m < b.length ∧ b[p - back + m]? = b[p + m]?) (fun s' _ => (66 - s'.1).toNat) ⟨hf2, 0, by omega, rfl, fun m h => by omega⟩ ?_
      rintro _ ⟨k, ⟨⟩⟩ w6 ⟨hf6, k, hk, rfl, hm⟩
      dsimp only
      refine bD ?_ ?_ <;> intro h66
      · rw [i64w (n := (p : Int) + k) (by omega) (by omega)]
        refine bD ?_ ?_ <;> intro hlt
        · refine ixB hs.rd hs.len (by omega) (by omega) hf6 ?_
          rw [i64w (n := (p : Int) - back) (by omega) (by omega), i64w (by omega) (by omega)]
          refine ixB hs.rd hs.len (by omega) (by omega) hf6 ?_
          intro n
          have hf13 := hf6.trans (Fr.drewN w6 n)
          have e1 : ((p : Int) + k).toNat = p + k := by omega
          have e2 : ((p : Int) - back + k).toNat = p - back + k := by omega
          have g1 : b[p + k]? = some (b[p + k]'(by omega)) := List.getElem?_eq_getElem _
          have g2 : b[p - back + k]? = some (b[p - back + k]'(by omega)) := List.getElem?_eq_getElem _
          simp only [e1, e2]
          refine bE ?_ ?_ <;> intro he
          · rw [i64w (by omega) (by omega)]
            refine ⟨⟨hf13, k + 1, by omega, rfl, fun m hmk => ?_⟩, by omega⟩
            by_cases hme : m = k
            · subst hme
              refine ⟨by omega, ?_⟩
              rw [g1, g2]
              congr 1
              exact (UInt8.toNat_inj.1 (by omega)).symm
            · exact hm m (by omega)
          · refine hj k _ hf13 hk hm (.inr fun h => he ?_)
            rw [g1, g2] at h
            rw [Option.some.inj h.2]
        · intro n
          exact hj k _ (hf6.trans (Fr.drewN w6 n)) hk hm (.inr fun h => by omega)
      · intro n
        exact hj k _ (hf6.trans (Fr.drewN w6 n)) hk hm (.inl (by omega))
    · rw [done (by omega)]; exact ⟨rfl, hf2⟩
  · rw [done (by omega)]; exact ⟨rfl, hf2⟩
theorem ref_plain_ok {s : Sl} {l : List UInt8} {w : World} (hs : Bs w s l) (hl : l.length ≤ 1099511627776) :
    cl Tryd.prog n_flumeref07_plain #[.slice s.a s.n s.c] .L w fun (r : Sl) w' => OwB w' w.heap.size t_uint8 r (plainS l) ∧ Fr w w' := by
  refine flumeref07_plain.cl ?_
  unfold flumeref07_plain
  have hll := plainS_len l
  refine lpI (fun s' w' => Fr w w' ∧ ∃ rest o : List UInt8, Bs w' s'.1 rest ∧ OwB w' w.heap.size t_uint8 s'.2.1 o ∧ o ++ plainS rest = plainS l ∧ rest.length ≤ l.length ∧ (rest ≠ [] → ∀ ad, s'.1.a = some ad → ad.block < w.heap.size)) (fun s' _ => s'.1.n)
    ⟨Fr.refl w, l, [], hs, OwB.nil _ _ _, rfl, Nat.le_refl _, fun h => hs.lt h⟩ ?_
  rintro _ ⟨x, out, ⟨⟩⟩ w2 ⟨hf, rest, o, hx, ho, heq, hrl, hold⟩
  dsimp only at hx ho hold ⊢
  have hn := hx.len
  have holen := congrArg List.length heq
  rw [List.length_append] at holen
  refine bD ?_ ?_ <;> intro hpos
  · have hne : rest ≠ [] := fun h => by rw [h] at hn; simp at hn; omega
    intro n
    have hx := hx.fr (Fr.drewN w2 n)
    have ho := ho.fr (Fr.drewN w2 n)
    have hf := hf.trans (Fr.drewN w2 n)
    generalize w2.drewN n = w5 at *
    have hm : min 128 (x.n : Int) = ((min 128 rest.length : Nat) : Int) := by omega
    rw [hm]
    have hm1 : 1 ≤ min 128 rest.length := by omega
    have hpl := plainS_step hne
    rw [hpl] at heq holen
    rw [List.length_cons, List.length_append, List.length_take] at holen
    refine slsB hx (by decide) (by omega) (by omega) fun r6 h6 hblk6 _ => ?_
    rw [Int.toNat_zero, Int.toNat_natCast, List.drop_zero] at h6
    have hc : IntKind.u8.wrap (IntKind.i64.wrap (((min 128 rest.length : Nat) : Int) - 1)) = ((UInt8.ofNat (min 128 rest.length - 1)).toNat : Int) := by
      rw [i64w (by omega) (by omega), u8w, u8_ofNat]
      omega
    rw [hc]
    refine nwI fun b w8 hb hsz hf8 hblk hrd => ?_
    have hh := hf.size
    have hh8 := hf8.size
    refine app_B slB (base := w.heap.size) (m := [UInt8.ofNat (min 128 rest.length - 1)]) (ho.fr hf8) hrd rfl (by simp; omega) (by omega) fun r9 w10 h9 hb9 _ _ => ?_
    have hf10 : Fr w w10 := (hf.trans hf8).on hb9
    have hK : Kp (fun k => k < w.heap.size) w5 w10 := fun k _ hk => (hb9.block k hk).trans (hf8.block k (by omega))
    have ht : rest.take (min 128 rest.length) = rest.take 128 := by rw [List.take_eq_take_iff]; omega
    have h6' : Bs w10 r6 (rest.take 128) := by
      rw [← ht]
      exact h6.kpn hK fun _ ad had => by
        obtain ⟨ad', h1, h2⟩ := hblk6 ad had
        rw [h2]
        exact hold hne ad' h1
    refine app_B slB (base := w.heap.size) h9 h6'.rd h6'.len.symm (by simp; omega) hf10.size fun r11 w12 h11 hb11 _ _ => ?_
    have hf12 : Fr w w12 := hf10.on hb11
    have hK2 : Kp (fun k => k < w.heap.size) w5 w12 := fun k hk5 hk => (hb11.block k hk).trans (hK k hk5 hk)
    have hx12 : Bs w12 x rest := hx.kpn hK2 fun h ad had => hold h ad had
    refine slsB hx12 (by omega) (by omega) (by omega) fun r13 h13 hblk13 _ => ?_
    have hd : (rest.take (x.n : Int).toNat).drop (((min 128 rest.length : Nat) : Int)).toNat = rest.drop 128 := by
      rw [Int.toNat_natCast, Int.toNat_natCast, List.take_of_length_le (by omega)]
      by_cases h : rest.length ≤ 128
      · rw [List.drop_eq_nil_of_le (by omega), List.drop_eq_nil_of_le (by omega)]
      · rw [Nat.min_eq_left (by omega)]
    rw [hd] at h13
    have h13l := h13.len
    rw [List.length_drop] at h13l
    refine ⟨⟨hf12, rest.drop 128, _, h13, h11, ?_, by rw [List.length_drop]; omega, fun _ ad had => ?_⟩, by omega⟩
    · rw [← heq]; simp
    · obtain ⟨ad', h1, h2⟩ := hblk13 ad had
      rw [h2]
      exact hold hne ad' h1
  · have : rest = [] := List.eq_nil_of_length_eq_zero (by omega)
    subst this
    rw [plainS_nil, List.append_nil] at heq
    exact ⟨heq ▸ ho, hf⟩
theorem ref_Shorten_own {s : Sl} {b : List UInt8} {w : World} (hs : Bs w s b) (hl : b.length ≤ 1048576) :
    cl Tryd.prog n_flumeref07_Shorten #[.slice s.a s.n s.c] .L w fun (r : Sl) w' => OwB w' w.heap.size t_uint8 r (shortS b) ∧ Fr w w' := by
  refine flumeref07_Shorten.cl ?_
  unfold flumeref07_Shorten
  have hn := hs.len
  refine lpI (fun s' w' => Fr w w' ∧ ∃ (lo p : Nat) (o : List UInt8), lo ≤ p ∧ p ≤ b.length ∧ s'.2.2.1 = p ∧ o.length ≤ 20 * lo ∧ OwB w' w.heap.size t_uint8 s'.1 o ∧ OwB w' w.heap.size t_uint8 s'.2.1 ((b.take p).drop lo) ∧ (∀ k, (Value.slice s'.1.a s'.1.n s'.1.c).ownBlock = some k → (Value.slice s'.2.1.a s'.2.1.n s'.2.1.c).ownBlock ≠ some k) ∧ o ++ shortF b (b.length + 1 - p) lo p = shortS b) (fun s' _ => (b.length - s'.2.2.1).toNat)
    ⟨Fr.refl w, 0, 0, [], Nat.le_refl _, Nat.zero_le _, rfl, by simp, OwB.nil _ _ _, by simpa using OwB.nil _ _ _, (fun k h => by cases h), rfl⟩ ?_
  rintro _ ⟨out, some', p', ⟨⟩⟩ w2 ⟨hf, lo, p, o, hlo, hp, rfl, hol, ho, hso, hsep, heq⟩
  dsimp only at ho hso hsep ⊢
  have hfit := longS_fits hp
  refine bD ?_ ?_ <;> intro hlt
  · have hpl : p < b.length := by omega
    rw [show b.length + 1 - p = (b.length - p) + 1 from by omega, shortF, if_pos hpl] at heq
    refine (ref_Longest_ok (hs.fr hf) (by omega) hpl).mono ?_
    rintro _ w6 ⟨rfl, hf6⟩
    dsimp only
    have ho := ho.fr hf6
    have hso := hso.fr hf6
    have hf := hf.trans hf6
    have hh := hf.size
    refine bD ?_ ?_ <;> intro h3
    · rw [if_pos (by omega)] at heq
      refine ixB hs.rd hs.len (by omega) (by simpa using hpl) hf ?_
      simp only [Int.toNat_natCast]
      refine nwI fun a9 w10 hb hsz hf10 hblk hrd => ?_
      refine app_B slB (base := w.heap.size) (m := [b[p]]) (hso.fr hf10) hrd rfl (by simp; omega) (by omega) fun r11 w12 h11 hb11 hk11 hat11 => ?_
      rw [i64w (by omega) (by omega)]
      have hob := (ho.fr hf10).block
      refine ⟨⟨(hf.trans hf10).on hb11, lo, p + 1, o, by omega, by omega, rfl, by omega, ?_, ?_, ?_, ?_⟩, by omega⟩
      · exact (ho.fr hf10).kp (S := fun k => (Value.slice some'.a some'.n some'.c).ownBlock ≠ some k) hk11 fun ad had => hsep _ (by rw [had]; rfl)
      · rw [List.take_succ_eq_append_getElem hpl, List.drop_append_of_le_length (by rw [List.length_take]; omega)]
        exact h11
      · intro k hk
        rcases hat11 with h | h
        · rw [h]; exact hsep k hk
        · rw [h]
          have := (hob k hk).2
          intro e
          have := Option.some.inj e
          omega
      · rw [← heq, show b.length + 1 - (p + 1) = b.length - p from by omega]
    · rw [if_neg (by omega)] at heq
      generalize (longS b p).2 = n at *
      generalize (longS b p).1 = back at *
      have hpl2 := plainS_len ((b.take p).drop lo)
      rw [List.length_drop, List.length_take] at hpl2
      refine (ref_plain_ok hso.bs (by simp; omega)).mono ?_
      rintro x13 w14 ⟨h13, hf14⟩
      have hf14' := hf.trans hf14
      refine app_B slB (base := w.heap.size) (ho.fr hf14) h13.rd h13.len.symm (by omega) hf14'.size fun r15 w16 h15 hb15 _ _ => ?_
      have hf16 := hf14'.on hb15
      have hc : IntKind.u8.wrap (IntKind.i64.wrap ((n : Int) + 125)) = ((UInt8.ofNat (n + 125)).toNat : Int) := by
        rw [i64w (by omega) (by omega), u8w, u8_ofNat]; omega
      rw [hc]
      refine nwI fun b17 w18 hb17 hsz18 hf18 hblk18 hrd18 => ?_
      have hh16 := hf16.size
      refine app_B slB (base := w.heap.size) (m := [UInt8.ofNat (n + 125)]) (h15.fr hf18) hrd18 rfl (by simp; omega) (by omega) fun r19 w20 h19 hb19 _ _ => ?_
      have hf20 : Fr w w20 := (hf16.trans hf18).on hb19
      refine (ref_Number_ok h19.bs (by simp; omega) (by omega)).mono ?_
      rintro x21 w22 ⟨h21, hf22⟩
      rw [Int.toNat_natCast] at h21
      have h9 := numB_le back
      rw [i64w (by omega) (by omega)]
      refine ⟨⟨hf20.trans hf22, p + n, p + n, _, Nat.le_refl _, by omega, by simp, ?_, h21.mono hf20.size, ?_, (fun k _ h => by cases h), ?_⟩, by omega⟩
      · simp; omega
      · have : (b.take (p + n)).drop (p + n) = [] := by rw [List.drop_eq_nil_iff, List.length_take]; omega
        rw [this]; exact OwB.nil _ _ _
      · rw [← heq, shortF_any (f := b.length + 1 - (p + n)) (g := b.length - p) (by omega) (by omega) (by omega)]
        simp
  · obtain rfl : p = b.length := by omega
    rw [show b.length + 1 - b.length = 0 + 1 from by omega, shortF, if_neg (by omega)] at heq
    rw [List.take_length] at hso
    have hh := hf.size
    have hpl2 := plainS_len (b.drop lo)
    rw [List.length_drop] at hpl2
    refine (ref_plain_ok hso.bs (by simp; omega)).mono ?_
    rintro x23 w24 ⟨h23, hf24⟩
    refine app_B slB (base := w.heap.size) (ho.fr hf24) h23.rd h23.len.symm (by omega) (hf.trans hf24).size fun r25 w26 h25 hb25 _ _ => ⟨?_, (hf.trans hf24).on hb25⟩
    rw [heq] at h25
    exact h25
theorem ref_Shorten_ok {s : Sl} {b : List UInt8} {w : World} (hs : Bs w s b) (hl : b.length ≤ 1048576) :
    cl Tryd.prog n_flumeref07_Shorten #[.slice s.a s.n s.c] .L w fun (r : Sl) w' => Bs w' r (shortS b) ∧ Fr w w' :=
  (ref_Shorten_own hs hl).mono fun _ _ h => ⟨h.1.bs, h.2⟩
end Go.Proofs.YtkojpppnjloikaaDoor
namespace Go.Fl
open Go.RowKit

/-- A byte of a slice is read, by its value. -/
theorem ixBc {w w' : World} {s : Sl} {l : List UInt8} {i : Int} {c : UInt8} {K : Int → Prop} (hs : Rd w s.a (u8s l)) (hl : s.n = l.length) (h0 : 0 ≤ i) (hc : l[i.toNat]? = some c) (hw : Fr w w')
    (h : K (c.toNat)) : ixa s.a s.n i 1 fun a => ld (.I .u8) w' a K := by
  obtain ⟨hi, rfl⟩ := List.getElem?_eq_some_iff.1 hc
  exact ixB hs hl h0 hi hw h
/-- make([]T, n): a row of n zeros, T of one cell. -/
theorem mksN {P : Program} {t e : TypeId} {bytes : Nat} {z : Value} (hu : P.underlying t = some (.slice e)) (hinfo : (P.info? e).map (fun i => (i.zero, i.size, i.bytes)) = some (some z, 1, bytes)) (hz1 : z.cells = #[z]) (base : Nat) {C : Int} {w : World} {K : Sl → World → Prop} (n : Nat) (hC : C = (n : Int)) (hb : bytes * n ≤ 140737488355328) (h63 : n ≤ 140737488355328) (hbase : base ≤ w.heap.size)
    (h : ∀ w', w'.ownsRow base e 1 (.slice (some ⟨w.heap.size, 0, none⟩) n n) n (List.replicate n z) → w'.heap[w.heap.size]? = some (.cells (List.replicate n z).toArray e (0, 0)) → w'.heap.size = w.heap.size + 1 → Fr w w' → K ⟨some ⟨w.heap.size, 0, none⟩, n, n⟩ w') : mks P t C C w K := by
  subst hC
  have hrun := run_make_row' (P := P) t e z bytes hu hinfo hz1 .i64 .i64 n (by omega) (by omega) w
  have hm : madeCells #[z] n = (List.replicate n z).toArray := by
    apply Array.toList_inj.1
    rw [toList_madeCells_one]
  rw [hm] at hrun
  refine ⟨⟨some ⟨w.heap.size, 0, none⟩, n, n⟩, _, hrun, h _ ?_ (heap_alloc_new w _) (by simp) (Fr.alloc _ _)⟩
  exact World.ownsRow_lit w (List.replicate n z).toArray n hbase (by simp only [maxLen]; omega) (by simp)
/-- A slice of a slice with a bound of its room. -/
theorem run_sls3 {P : Program} {t e : TypeId} (hT : SlT P t e 1 1) (w : World) (s : Sl) {lo : Option Value} {l h : Int} (hlo : (lo = none ∧ l = 0) ∨ lo = some (.int .i64 l)) (h0 : 0 ≤ l) (h1 : l ≤ h) (h2 : h ≤ s.c) :
    (Instr.sliceAt t (.slice s.a s.n s.c) lo (some (.int .i64 h)) (some (.int .i64 h))).run P w = .ok (.slice (if h.toNat = l.toNat then s.a else s.a.map (·.add l.toNat)) (h.toNat - l.toNat) (h.toNat - l.toNat)) w := by
  obtain ⟨i, z, hi, hz, hsize, hby, hzs⟩ := hT.info
  have em : (h.toNat : Int) = h := Int.toNat_of_nonneg (by omega)
  have h03 : (0 : Int) ≤ h := by omega
  rcases hlo with ⟨rfl, rfl⟩ | rfl <;>
    simp [Instr.sliceAt, Instr.slice, Instr.sliceBounds, Instr.sliceBound, run_underlying hT.under, sizeOf, typeInfo, hi, asIntOf, h0, h1, h2, em, h03, hsize]
theorem sls3B {P : Program} {t e : TypeId} (hT : SlT P t e 1 1) {w : World} {s : Sl} {l : List UInt8} {lo : Option Value} {i j : Int} {K : Sl → Prop} (h : Bs w s l) (hlo : (lo = none ∧ i = 0) ∨ lo = some (.int .i64 i)) (h0 : 0 ≤ i) (hij : i ≤ j) (hj : j ≤ l.length)
    (hk : ∀ r : Sl, Bs w r ((l.take j.toNat).drop i.toNat) → (∀ ad, r.a = some ad → ∃ ad', s.a = some ad' ∧ ad.block = ad'.block) → (i = 0 → 0 < j → r = ⟨s.a, j.toNat, j.toNat⟩) → K r) :
    qn P (Instr.sliceAt t (.slice s.a s.n s.c) lo (some (.int .i64 j)) (some (.int .i64 j))) .L w K := by
  have hl := h.len
  have hc := h.cap
  refine ⟨⟨if j.toNat = i.toNat then s.a else s.a.map (·.add i.toNat), j.toNat - i.toNat, j.toNat - i.toNat⟩, fun w' _ => run_sls3 hT w' s hlo h0 hij (by omega), hk _ ?_ ?_ ?_⟩
  · have hcut := h.cut (i := i.toNat) (j := j.toNat) (by omega) (by omega)
    by_cases he : j.toNat = i.toNat
    · have : (l.take j.toNat).drop i.toNat = [] := by rw [List.drop_eq_nil_iff, List.length_take]; omega
      rw [this]
      exact ⟨Rd.nil _ _, by simp; omega, Nat.le_refl _⟩
    · rw [if_neg he]
      obtain ⟨hr, hcl, _⟩ := hcut
      refine ⟨?_, hcl, Nat.le_refl _⟩
      unfold Fl.cut at hr
      rw [if_neg (by omega)] at hr
      exact hr
  · intro ad ha
    dsimp only at ha
    split at ha
    · exact ⟨ad, ha, rfl⟩
    · cases hs : s.a with
      | none => rw [hs] at ha; cases ha
      | some ad' =>
        rw [hs] at ha
        simp only [Option.map_some, Option.some.injEq] at ha
        exact ⟨ad', rfl, by rw [← ha, add_block]⟩
  · rintro rfl hj0
    rw [if_neg (by omega)]
    cases s.a <;> simp [Addr.add]
theorem Addr.add0 (a : Addr) : a.add 0 = a := by simp [Addr.add]
/-- []byte of a new row of bytes: the row is marked, and reads as it did. -/
theorem nwConv {P : Program} {t e : TypeId} {cs : List Value} {n : Nat} {l : List UInt8} {w : World} {K : Sl → World → Prop} (ht : P.underlying t = some (.slice e)) (he : P.underlying e = some (.int .u8)) (hcs : cs = u8s l) (hn : n = l.length)
    (h : ∀ r w', Bs w' r l → Fr w w' → K r w') : nw w cs e fun a w2 => rn P (convert t t (.slice (some a) n n)) .L w2 K := by
  subst hcs hn
  refine nwI fun b w2 hb hsz hf hblk hrd => ?_
  have hrun : (convert t t (.slice (some ⟨b, 0, none⟩) l.length l.length)).run P w2 = .ok (.slice (some ⟨b, 0, none⟩) l.length l.length) (w2.freeze ⟨b, (u8s l).toArray.size, none⟩ 1) := by
    simp [convert, run_underlying ht, run_underlying he, markStringish, World.shape?, hblk]
  refine ⟨⟨some ⟨b, 0, none⟩, l.length, l.length⟩, _, hrun, h _ _ ?_ ?_⟩
  · refine ⟨fun j u hu => ?_, rfl, Nat.le_refl _⟩
    obtain ⟨ad, ha, hc⟩ := hrd j u hu
    refine ⟨ad, ha, ?_⟩
    rw [← hc]
    cases ha
    have e1 : ((⟨b, 0, none⟩ : Addr).add j).block = b := add_block _ _
    unfold World.cell? World.freeze
    simp only [Nat.one_ne_zero, if_false, Array.getElem?_modify, e1, hblk, if_true, Option.map_some]
  · have hs := hf.size
    refine ⟨hf.os, hf.tape, hf.output, by simpa [World.freeze] using hs, fun k hk => ?_⟩
    rw [← hf.block k hk]
    simp only [World.freeze, Nat.one_ne_zero, if_false, Array.getElem?_modify]
    rw [if_neg (by omega)]
theorem addOff (g i j : Nat) : (⟨g, i, none⟩ : Addr).add j = ⟨g, i + j, none⟩ := by unfold Addr.add; split <;> simp_all
/-- A row is stored. -/
theorem stL_row {g : Nat} {t : TypeId} : ∀ {vs : List Value} {cs : List Value} {i : Nat} {w : World} {K : World → Prop}, w.heap[g]? = some (.cells cs.toArray t (0, 0)) → i + vs.length ≤ cs.length → (∀ v ∈ vs, v.oneCell' = true) →
    (∀ w', w'.heap[g]? = some (.cells (cs.take i ++ vs ++ cs.drop (i + vs.length)).toArray t (0, 0)) → w.grownBy w' (some g) → w'.heap.size = w.heap.size → K w') → stL ⟨g, 0, none⟩ w i vs K
  | [], cs, i, w, K, h, _, _, hk => by
    refine hk w ?_ (World.grownBy.refl _ _) rfl
    simpa using h
  | v :: vs, cs, i, w, K, h, hi, h1, hk => by
    simp only [List.length_cons] at hi
    refine ⟨h1 v (by simp), ?_⟩
    rw [addOff, Nat.zero_add]
    refine st0 h (by simp; omega) fun w' hb hg hs => ?_
    refine stL_row (cs := cs.set i v) (i := i + 1) (by simpa using hb) (by simp; omega) (fun u hu => h1 u (by simp [hu])) fun w2 hb2 hg2 hs2 => hk w2 ?_ (hg.trans hg2) (hs2.trans hs)
    have e : (cs.set i v).take (i + 1) ++ vs ++ (cs.set i v).drop (i + 1 + vs.length) = cs.take i ++ (v :: vs) ++ cs.drop (i + (v :: vs).length) := by
      rw [List.take_set, List.drop_set_of_lt (by omega), List.take_succ_eq_append_getElem (by omega), List.set_append_right _ _ (by simp; omega), List.length_take, List.length_cons, Nat.min_eq_left (by omega), Nat.sub_self]
      simp [Nat.add_assoc, Nat.add_comm 1]
    rw [hb2, e]
theorem ldR0 {w : World} {g n : Nat} {vs : List Value} {t : TypeId} {f : Nat × Nat} {K : {l : List Value // l.length = n} → Prop} (h : w.heap[g]? = some (.cells vs.toArray t f)) (hn : vs.length = n) (k : K ⟨vs, hn⟩) : ld (.row n) w ⟨g, 0, none⟩ K := by
  refine ⟨⟨vs, hn⟩, fun i hi => ?_, k⟩
  rw [addOff, Nat.zero_add]
  exact (cell_of_row w g i vs.toArray t f h).trans (by simp [List.getElem?_eq_getElem hi])
theorem ldRd {w : World} {A : Option Addr} {n : Nat} {vs : List Value} {K : {l : List Value // l.length = n} → Prop} (h : Rd w A vs) (hn : vs.length = n) (hp : 0 < n) (k : K ⟨vs, hn⟩) : nz A fun a => ld (.row n) w a K := by
  obtain ⟨ad, ha, _⟩ := h.at 0 (by omega)
  rw [ha]
  refine ⟨⟨vs, hn⟩, fun i hi => ?_, k⟩
  obtain ⟨ad', ha', hc⟩ := h.at i hi
  rw [ha] at ha'
  cases ha'
  exact hc
theorem ldM0 {w : World} {g i : Nat} {cs : Array Value} {t : TypeId} {f : Nat × Nat} {r : Option Nat} {K : Option Nat → Prop} (h : w.heap[g]? = some (.cells cs t f)) (hi : cs[i]? = some (.map r)) (k : K r) : ld .M w ⟨g, i, none⟩ K :=
  ⟨r, (cell_of_row w g i cs t f h).trans hi, k⟩
/-- A slice as an array. -/
theorem qnArr {P : Program} {t e : TypeId} {n : Nat} (ht : P.underlying t = some (.array n e)) {w : World} {s : Sl} (hn : n ≤ s.n) {K : Option Addr → Prop} (k : K s.a) : qn P (Instr.arrayAt t (.slice s.a s.n s.c)) .P w K :=
  ⟨s.a, fun w' _ => by
    have : ¬s.n < n := by omega
    simp [Instr.arrayAt, run_underlying ht, this]
    rfl, k⟩
theorem atH (g : Nat) (i : Int) : atOff ⟨g, 0, none⟩ i 1 = ⟨g, i.toNat, none⟩ := by
  show Addr.add _ _ = _
  rw [addOff, Nat.zero_add]
/-- A number of a known block is read; one is written. -/
theorem ixH {w : World} {g n : Nat} {cs : List Value} {t : TypeId} {f : Nat × Nat} {i : Int} {kd : IntKind} {v : Int} {K : Int → Prop} (h : w.heap[g]? = some (.cells cs.toArray t f)) (h0 : 0 ≤ i) (hn : i < n) (hi : cs[i.toNat]? = some (.int kd v)) (k : K v) :
    ixa (some ⟨g, 0, none⟩) n i 1 fun a => ld (.I kd) w a K := by
  refine ⟨h0, hn, ?_⟩
  show ld (.I kd) w (atOff ⟨g, 0, none⟩ i 1) K
  rw [atH]
  exact ldI0 h (by simpa using hi) k
theorem ixSt {w : World} {g n : Nat} {cs : List Value} {t : TypeId} {i : Int} {v : Value} {K : World → Prop} (h : w.heap[g]? = some (.cells cs.toArray t (0, 0))) (h0 : 0 ≤ i) (hn : i < n) (hi : i.toNat < cs.length)
    (hk : ∀ w', w'.heap[g]? = some (.cells (cs.set i.toNat v).toArray t (0, 0)) → w.grownBy w' (some g) → w'.heap.size = w.heap.size → K w') : ixa (some ⟨g, 0, none⟩) n i 1 fun a => st1 w a v K := by
  refine ⟨h0, hn, ?_⟩
  show st1 w (atOff ⟨g, 0, none⟩ i 1) v K
  rw [atH]
  exact st0 h (by simpa using hi) fun w' hb hg hs => hk w' (by simpa using hb) hg hs
theorem run_zeroV {P : Program} {e : TypeId} {z : Value} (h : (P.info? e).map (·.zero) = some (some z)) (w : World) : (zeroValue e).run P w = .ok z w := by
  obtain ⟨i, hi, hz⟩ := Option.map_eq_some_iff.1 h
  simp [zeroValue, typeInfo, hi, hz]
end Go.Fl
namespace Go.Proofs.YtkojpppnjloikaaDoor
open Go.RowKit Go.Fl

set_option maxRecDepth 4000 in
theorem ref_Restore_ok {s : Sl} {b : List UInt8} {most : Int} {w : World} (hs : Bs w s b) (hl : b.length ≤ 1099511627776) (hm : -9223372036854775808 ≤ most ∧ most ≤ 9223372036854775807) :
    cl Tryd.prog n_flumeref07_Restore #[.slice s.a s.n s.c, .int .i64 most] (.tup (.pair .L (.pair (.I .i64) .nil))) w fun (r : Sl × Int × Unit) w' => OwB w' w.heap.size t_uint8 r.1 (restS b most).1 ∧ r.2 = (((restS b most).2 : Int), ()) ∧ Fr w w' := by
  refine flumeref07_Restore.cl ?_
  unfold flumeref07_Restore
  have hn := hs.len
  refine lpI (fun s' w' => Fr w w' ∧ ∃ (p : Nat) (o : List UInt8), p ≤ b.length ∧ s'.2.1 = p ∧ OwB w' w.heap.size t_uint8 s'.1 o ∧ o.length ≤ 66 * p ∧ restF most (b.length - p) (b.drop p) o = restS b most) (fun s' _ => (b.length - s'.2.1).toNat)
    ⟨Fr.refl w, 0, [], Nat.zero_le _, rfl, OwB.nil _ _ _, Nat.zero_le _, rfl⟩ ?_
  rintro _ ⟨out, p', ⟨⟩⟩ w2 ⟨hf, p, o, hp, rfl, ho, hol, heq⟩
  dsimp only at ho ⊢
  have hon := ho.len
  refine bD ?_ ?_ <;> intro hlt
  · have hpl : p < b.length := by omega
    have hbp := hs.fr hf
    obtain ⟨c, hc⟩ : ∃ c, b[p] = c := ⟨_, rfl⟩
    refine ixBc (c := c) hs.rd hs.len (by omega) (by rw [Int.toNat_natCast, List.getElem?_eq_getElem hpl, hc]) hf ?_
    have hdrop : b.drop p = c :: b.drop (p + 1) := hc ▸ List.drop_eq_getElem_cons hpl
    rw [show b.length - p = (b.length - p - 1) + 1 from by omega, hdrop, restF] at heq
    clear hdrop hc
    have hc := c.toNat_lt
    rw [i64w (n := (c.toNat : Int)) (by omega) (by omega), i64w (n := (p : Int) + 1) (by omega) (by omega)]
    rw [List.length_drop] at heq
    refine bD ?_ ?_ <;> intro h128
    · rw [if_pos (by omega)] at heq
      rw [i64w (n := (s.n : Int) - _) (by omega) (by omega), i64w (n := (c.toNat : Int) + 1) (by omega) (by omega)]
      refine bD ?_ ?_ <;> intro h1
      · rw [if_pos (by omega)] at heq
        rw [← heq]; exact ⟨OwB.nil _ _ _, rfl, hf⟩
      · rw [if_neg (by omega)] at heq
        refine bD ?_ ?_ <;> intro h2
        · rw [if_pos (by omega)] at heq
          rw [← heq]; exact ⟨OwB.nil _ _ _, rfl, hf⟩
        · rw [i64w (n := most - _) (by omega) (by omega), i64w (n := most - _ - 1) (by omega) (by omega)]
          refine bD ?_ ?_ <;> intro h3
          · rw [if_pos (by omega)] at heq
            rw [← heq]; exact ⟨OwB.nil _ _ _, rfl, hf⟩
          · rw [if_neg (by omega)] at heq
            rw [i64w (n := (p : Int) + 1 + c.toNat) (by omega) (by omega), i64w (n := (p : Int) + 1 + c.toNat + 1) (by omega) (by omega), i64w (n := (p : Int) + 1 + (c.toNat + 1)) (by omega) (by omega)]
            refine slsB hbp (by omega) (by omega) (by omega) fun r h _ _ => ?_
            have hr : (b.take ((p : Int) + 1 + c.toNat + 1).toNat).drop ((p : Int) + 1).toNat = (b.drop (p + 1)).take (c.toNat + 1) := by
              rw [show ((p : Int) + 1 + c.toNat + 1).toNat = p + 1 + (c.toNat + 1) from by omega, show ((p : Int) + 1).toNat = p + 1 from by omega, List.drop_take]
              congr 1
              omega
            rw [hr] at h
            have hhl : ((b.drop (p + 1)).take (c.toNat + 1)).length = c.toNat + 1 := by rw [List.length_take, List.length_drop]; omega
            refine app_B slB (base := w.heap.size) ho h.rd h.len.symm (by omega) hf.size fun r8 w9 h9 hb9 _ _ => ?_
            refine ⟨⟨hf.on hb9, p + 1 + (c.toNat + 1), _, by omega, by omega, h9, by rw [List.length_append]; omega, ?_⟩, by omega⟩
            rw [← heq, List.drop_drop]
            exact restF_any (by rw [List.length_drop]; omega) (by rw [List.length_drop]; omega)
    · rw [if_neg (by omega)] at heq
      refine slsB hbp (by omega) (by omega) (by omega) fun r h _ _ => ?_
      have hr : (b.take (s.n : Int).toNat).drop ((p : Int) + 1).toNat = b.drop (p + 1) := by
        rw [List.take_of_length_le (by omega), show ((p : Int) + 1).toNat = p + 1 from by omega]
      rw [hr] at h
      refine (ref_Look_ok h (by rw [List.length_drop]; omega)).mono ?_
      rintro _ w12 ⟨rfl, hf12⟩
      dsimp only
      have hle := lookS_le (b.drop (p + 1))
      rw [List.length_drop] at hle
      have hf' := hf.trans hf12
      generalize hL : lookS (b.drop (p + 1)) = L at *
      obtain ⟨back, k, e⟩ := L
      dsimp only at heq hle ⊢
      refine bE ?_ ?_ <;> intro he
      · rw [if_pos (by omega)] at heq
        rw [← heq]; exact ⟨OwB.nil _ _ _, rfl, hf'⟩
      rw [if_neg (by omega)] at heq
      have bad : (e ≠ 0 ∨ c.toNat > 191 ∨ back < 1 ∨ back > 512 ∨ back > o.length) → OwB w12 w.heap.size t_uint8 ⟨none, 0, 0⟩ (restS b most).1 ∧ ((70 : Int), ()) = (((restS b most).2 : Int), ()) ∧ Fr w w12 := by
        intro h
        rw [if_pos h] at heq
        rw [← heq]; exact ⟨OwB.nil _ _ _, rfl, hf'⟩
      refine bNe ?_ ?_ <;> intro h0
      · exact bad (by omega)
      refine bD ?_ ?_ <;> intro h1
      · exact bad (by omega)
      refine bD ?_ ?_ <;> intro h2
      · exact bad (by omega)
      refine bD ?_ ?_ <;> intro h3
      · exact bad (by omega)
      refine bD ?_ ?_ <;> intro h4
      · exact bad (by omega)
      rw [if_neg (by omega)] at heq
      have he0 : e = 0 := by omega
      subst he0
      rw [i64w (n := (c.toNat : Int) - 125) (by omega) (by omega)]
      have cap : (c.toNat : Int) - 125 > most - o.length → OwB w12 w.heap.size t_uint8 ⟨none, 0, 0⟩ (restS b most).1 ∧ ((71 : Int), ()) = (((restS b most).2 : Int), ()) ∧ Fr w w12 := by
        intro h
        rw [if_pos h] at heq
        rw [← heq]; exact ⟨OwB.nil _ _ _, rfl, hf'⟩
      refine bD ?_ ?_ <;> intro h5
      · exact cap (by omega)
      rw [i64w (n := most - _) (by omega) (by omega)]
      refine bD ?_ ?_ <;> intro h6
      · exact cap (by omega)
      rw [if_neg (by omega)] at heq
      clear bad cap
      refine lpI (fun s' w' => Fr w w' ∧ ∃ i : Nat, i ≤ c.toNat - 125 ∧ s'.2.1 = i ∧ OwB w' w.heap.size t_uint8 s'.1 (againF back i o)) (fun s' _ => (c.toNat - 125 - s'.2.1).toNat) ⟨hf', 0, Nat.zero_le _, rfl, ho.fr hf12⟩ ?_
      rintro _ ⟨x, i', ⟨⟩⟩ w14 ⟨hf14, i, hi, rfl, hx⟩
      dsimp only at hx ⊢
      have hxl := againF_length back i o
      have hxn := hx.len
      refine bD ?_ ?_ <;> intro hlt2
      · rw [i64w (n := (x.n : Int) - back) (by omega) (by omega)]
        refine ixB hx.rd hx.len (by omega) (by omega) (Fr.refl _) ?_
        refine nwI fun b17 w18 hb17 hsz18 hf18 hblk18 hrd18 => ?_
        have hget : (againF back i o)[((x.n : Int) - back).toNat]'(by omega) = (againF back i o).getD ((againF back i o).length - back) 0 := by
          rw [List.getD_eq_getElem?_getD, List.getElem?_eq_getElem (by omega), Option.getD_some]
          congr 1
          omega
        refine app_B slB (base := w.heap.size) (m := [(againF back i o)[((x.n : Int) - back).toNat]'(by omega)]) (hx.fr hf18) hrd18 rfl (by simp; omega) (hf14.trans hf18).size fun r21 w22 h21 hb21 _ _ => ?_
        rw [hget, ← againF_snoc] at h21
        rw [i64w (n := (i : Int) + 1) (by omega) (by omega)]
        exact ⟨⟨(hf14.trans hf18).on hb21, i + 1, by omega, rfl, h21⟩, by omega⟩
      · have hi2 : i = c.toNat - 125 := by omega
        subst hi2
        rw [i64w (by omega) (by omega)]
        refine ⟨⟨hf14, p + 1 + k, _, by omega, by omega, hx, by omega, ?_⟩, by omega⟩
        rw [← heq, List.drop_drop]
        exact restF_any (by rw [List.length_drop]; omega) (by rw [List.length_drop]; omega)
  · obtain rfl : p = b.length := by omega
    rw [List.drop_length] at heq
    have : restS b most = (o, 0) := by rw [← heq]; cases b.length - b.length <;> rfl
    rw [this]; exact ⟨ho, rfl, hf⟩
set_option maxRecDepth 4000 in
theorem step_ok {so sb : Sl} {out t : List UInt8} {c : UInt8} {w : World} (hso : Bs w so out) (hsb : Bs w sb (c :: t)) (hl : t.length ≤ 1099511627776) (hlo : out.length ≤ 140737488355328) :
    cl Tryd.prog n_lz_step #[.slice so.a so.n so.c, .slice sb.a sb.n sb.c] (.tup (.pair .L (.pair (.I .i64) (.pair (.I .i64) .nil)))) w fun (r : Sl × Int × Int × Unit) w' => Bs w' r.1 (stepS out c t).1 ∧ r.2 = (((stepS out c t).2.1 : Int), ((stepS out c t).2.2 : Int), ()) ∧ Fr w w' := by
  refine lz_step.cl ?_
  unfold lz_step
  have hn := hsb.len
  have hno := hso.len
  rw [List.length_cons] at hn
  have hc := c.toNat_lt
  refine ixBc (c := c) hsb.rd hsb.len (by decide) rfl (Fr.refl w) ?_
  dsimp -zeta only
  refine bD ?_ ?_ <;> intro h128
  · refine ixBc (c := c) hsb.rd hsb.len (by decide) rfl (Fr.refl w) ?_
    rw [i64w (n := (c.toNat : Int)) (by omega) (by omega), i64w (n := (c.toNat : Int) + 1) (by omega) (by omega), i64w (n := (c.toNat : Int) + 1 + 1) (by omega) (by omega)]
    refine bD ?_ ?_ <;> intro h1
    · have : stepS out c t = ([], 0, 2) := by unfold stepS; rw [if_pos (by omega), if_pos (by omega)]
      rw [this]; exact ⟨Bs.nil _ _, rfl, Fr.refl w⟩
    · have : stepS out c t = (t.take (c.toNat + 1), c.toNat + 2, 0) := by unfold stepS; rw [if_pos (by omega), if_neg (by omega)]
      rw [this]
      refine sls3B slB hsb (.inr rfl) (by decide) (by omega) (by simp; omega) fun r h _ _ => ?_
      have e : ((c :: t).take ((c.toNat : Int) + 1 + 1).toNat).drop (1 : Int).toNat = t.take (c.toNat + 1) := by
        rw [show ((c.toNat : Int) + 1 + 1).toNat = c.toNat + 1 + 1 from by omega]
        simp only [Int.toNat_one, List.take_succ_cons, List.drop_succ_cons, List.drop_zero]
      rw [e] at h
      exact ⟨h, by simp only [Prod.mk.injEq, and_true]; exact ⟨by omega, rfl⟩, Fr.refl w⟩
  · refine ixBc (c := c) hsb.rd hsb.len (by decide) rfl (Fr.refl w) ?_
    refine slsB hsb (by decide) (by omega) (by simp; omega) fun r8 h8 _ _ => ?_
    have e : ((c :: t).take (sb.n : Int).toNat).drop (1 : Int).toNat = t := by
      rw [List.take_of_length_le (by simp; omega)]
      simp only [Int.toNat_one, List.drop_succ_cons, List.drop_zero]
    rw [e] at h8
    refine (Read_ok h8 hl).mono ?_
    rintro x9 w10 ⟨g, rfl, hg, hrdr, hf10⟩
    refine (Within_ok hrdr).mono ?_
    rintro _ w12 ⟨rfl, hrdr12, hgr12⟩
    have hs10 := hf10.size
    have hf12 : Fr w w12 := hf10.on (grown_below hgr12 hg hs10)
    have hlook := lookS_le t
    generalize hW : rdWithin t 1 (min 512 (so.n : Int)) = W at *
    obtain ⟨back, e, k⟩ := W
    dsimp only at hrdr12 ⊢
    have hst : stepS out c t = if e = 2 then ([], 0, 2) else if e ≠ 0 ∨ c.toNat > 191 then ([], 0, 70) else (addF back.toNat (c.toNat - 125) out, k + 1, 0) := by
      unfold stepS
      rw [if_neg (by omega)]
      unfold rdWithin at hW
      generalize lookS t = L at *
      obtain ⟨b', k', e'⟩ := L
      dsimp only at hW ⊢
      by_cases he' : e' ≠ 0
      · rw [if_pos he'] at hW
        simp only [Prod.mk.injEq] at hW
        obtain ⟨rfl, rfl, rfl⟩ := hW
        by_cases h2 : e' = 2
        · rw [if_pos h2, if_pos (show (e' : Int) = 2 by omega)]
        · rw [if_neg h2, if_neg (show ¬(e' : Int) = 2 by omega), if_pos (Or.inl he'), if_pos (Or.inl (show (e' : Int) ≠ 0 by omega))]
      · rw [if_neg he'] at hW
        obtain rfl : e' = 0 := by omega
        rw [if_neg (show ¬(0 : Nat) = 2 by decide)]
        by_cases hr : (b' : Int) < 1 ∨ (b' : Int) > min 512 (so.n : Int)
        · rw [if_pos hr] at hW
          simp only [Prod.mk.injEq] at hW
          obtain ⟨rfl, rfl, rfl⟩ := hW
          rw [if_neg (show ¬(5 : Int) = 2 by decide), if_pos (Or.inl (show (5 : Int) ≠ 0 by decide)), if_pos (show (0 : Nat) ≠ 0 ∨ c.toNat > 191 ∨ b' < 1 ∨ b' > 512 ∨ b' > out.length by omega)]
        · rw [if_neg hr] at hW
          simp only [Prod.mk.injEq] at hW
          obtain ⟨rfl, rfl, rfl⟩ := hW
          rw [if_neg (show ¬((0 : Int) = 2) by decide)]
          by_cases hq : c.toNat > 191
          · rw [if_pos (show (0 : Nat) ≠ 0 ∨ c.toNat > 191 ∨ b' < 1 ∨ b' > 512 ∨ b' > out.length by omega), if_pos (Or.inr hq)]
          · rw [if_neg (show ¬((0 : Nat) ≠ 0 ∨ c.toNat > 191 ∨ b' < 1 ∨ b' > 512 ∨ b' > out.length) by omega), if_neg (show ¬((0 : Int) ≠ 0 ∨ c.toNat > 191) by omega), Int.toNat_natCast]
    have hbk : e = 0 → 1 ≤ back ∧ back ≤ out.length ∧ k ≤ t.length := by
      rintro rfl
      unfold rdWithin at hW
      split at hW
      · rename_i h; simp only [Prod.mk.injEq] at hW; omega
      · split at hW
        · simp at hW
        · simp only [Prod.mk.injEq] at hW
          omega
    rw [hst]
    refine bE ?_ ?_ <;> intro he
    · rw [if_pos he]; exact ⟨Bs.nil _ _, by rw [he]; rfl, hf12⟩
    rw [if_neg he]
    refine bNe ?_ ?_ <;> intro h0
    · rw [if_pos (by omega)]; exact ⟨Bs.nil _ _, rfl, hf12⟩
    rw [i64w (n := (c.toNat : Int)) (by omega) (by omega), i64w (n := (c.toNat : Int) - 128) (by omega) (by omega), i64w (n := (c.toNat : Int) - 128 + 3) (by omega) (by omega)]
    refine bD ?_ ?_ <;> intro h66
    · rw [if_pos (by omega)]; exact ⟨Bs.nil _ _, rfl, hf12⟩
    rw [if_neg (by omega)]
    obtain ⟨hb1, hb2, hk⟩ := hbk (by omega)
    clear hst hbk hW
    obtain ⟨bk, rfl⟩ := Int.eq_ofNat_of_zero_le (show 0 ≤ back by omega)
    rw [Int.toNat_natCast]
    refine mksN slB.under (z := .int .u8 0) (bytes := 1) (by kernel_rfl) rfl w12.heap.size (c.toNat - 125) (by omega) (by omega) (by omega) (Nat.le_refl _) fun w14 ho14 _ _ hf14 => ?_
    refine lpI (fun s' w' => Below w12.heap.size w14 w' ∧ ∃ (i : Nat) (r : List UInt8), i + r.length = c.toNat - 125 ∧ s'.1 = i ∧ OwB w' w12.heap.size t_uint8 ⟨some ⟨w12.heap.size, 0, none⟩, c.toNat - 125, c.toNat - 125⟩ (addF bk i out ++ r)) (fun s' _ => (c.toNat - 125 - s'.1).toNat)
      ⟨Below.refl _ _, 0, List.replicate (c.toNat - 125) 0, by simp, rfl, ?_⟩ ?_
    · have h0 : addF bk 0 out = [] := List.eq_nil_of_length_eq_zero (addF_length _ _ _)
      rw [h0, List.nil_append]
      unfold OwB
      have : u8s (List.replicate (c.toNat - 125) 0) = List.replicate (c.toNat - 125) (Value.int .u8 0) := by simp [u8s]
      rw [this]
      exact ho14
    rintro _ ⟨i', ⟨⟩⟩ w16 ⟨hb16, i, r, hir, rfl, ho⟩
    dsimp only at ho ⊢
    have hal := addF_length bk i out
    have hsl := ho.len
    have hf16 : Fr w w16 := hf12.trans (hf14.on hb16)
    have hr16 : Rdr w16 w.heap.size g (t.drop k) := hrdr12.fr (hf14.on hb16)
    refine bD ?_ ?_ <;> intro hlt
    · have fin : ∀ (v : UInt8) (K : World → Prop), (out ++ addF bk i out)[out.length + i - bk]? = some v → (∀ w', OwB w' w12.heap.size t_uint8 ⟨some ⟨w12.heap.size, 0, none⟩, c.toNat - 125, c.toNat - 125⟩ (addF bk (i + 1) out ++ r.tail) → Below w12.heap.size w16 w' → K w') →
          ixa (some ⟨w12.heap.size, 0, none⟩) (c.toNat - 125) (i : Int) 1 fun a => st1 w16 a (.int .u8 v.toNat) K := by
        intro v K hv hK
        refine stB ho (by omega) (by simp; omega) v rfl fun w' ho' hb' _ _ => hK w' ?_ hb'
        rw [addF_snoc, List.getD_eq_getElem?_getD, hv, Option.getD_some]
        rw [Int.toNat_natCast, List.set_append_right _ _ (by omega), hal, Nat.sub_self] at ho'
        cases r with
        | nil => simp at hir; omega
        | cons x r' => simpa using ho'
      have hi1 : IntKind.i64.wrap ((i : Int) + 1) = ((i + 1 : Nat) : Int) := by rw [i64w (by omega) (by omega)]; omega
      have go : ∀ w', OwB w' w12.heap.size t_uint8 ⟨some ⟨w12.heap.size, 0, none⟩, c.toNat - 125, c.toNat - 125⟩ (addF bk (i + 1) out ++ r.tail) → Below w12.heap.size w16 w' →
          Below w12.heap.size w14 w' ∧ ∃ (i' : Nat) (r : List UInt8), i' + r.length = c.toNat - 125 ∧ IntKind.i64.wrap ((i : Int) + 1) = i' ∧ OwB w' w12.heap.size t_uint8 ⟨some ⟨w12.heap.size, 0, none⟩, c.toNat - 125, c.toNat - 125⟩ (addF bk i' out ++ r) :=
        fun w' ho' hb' => ⟨hb16.trans hb', i + 1, r.tail, by rw [List.length_tail]; omega, hi1, ho'⟩
      have dec : ((c.toNat : Int) - 125 - IntKind.i64.wrap ((i : Int) + 1)).toNat < ((c.toNat : Int) - 125 - i).toNat := by rw [hi1]; omega
      refine bD ?_ ?_ <;> intro hib
      · rw [i64w (n := (so.n : Int) - bk) (by omega) (by omega), i64w (n := (so.n : Int) - bk + i) (by omega) (by omega)]
        have hget : out[((so.n : Int) - bk + i).toNat]? = some (out[((so.n : Int) - bk + i).toNat]'(by omega)) := List.getElem?_eq_getElem _
        refine ixBc hso.rd hso.len (by omega) hget hf16 ?_
        refine fin _ _ ?_ fun w' ho' hb' => ⟨go w' ho' hb', dec⟩
        rw [← hget, List.getElem?_append_left (by omega)]
        congr 1
        omega
      · rw [i64w (n := (i : Int) - bk) (by omega) (by omega)]
        have hget : (addF bk i out ++ r)[((i : Int) - bk).toNat]? = some ((addF bk i out ++ r)[((i : Int) - bk).toNat]'(by rw [List.length_append]; omega)) := List.getElem?_eq_getElem _
        refine ixBc ho.rd ho.len (by omega) hget (Fr.refl _) ?_
        refine fin _ _ ?_ fun w' ho' hb' => ⟨go w' ho' hb', dec⟩
        have e1 : (addF bk i out ++ r)[((i : Int) - bk).toNat]? = (addF bk i out)[((i : Int) - bk).toNat]? := List.getElem?_append_left (by omega)
        have e2 : (out ++ addF bk i out)[out.length + i - bk]? = (addF bk i out)[out.length + i - bk - out.length]? := List.getElem?_append_right (by omega)
        rw [← hget, e1, e2]
        congr 1
        omega
    · refine (Left_ok hr16).mono ?_
      rintro _ w28 ⟨rfl, rfl⟩
      rw [List.length_drop]
      have hi2 : i = c.toNat - 125 := by omega
      have hr0 : r = [] := List.eq_nil_of_length_eq_zero (by omega)
      rw [hr0, List.append_nil, hi2] at ho
      refine ⟨ho.bs, ?_, hf16⟩
      rw [i64w (by omega) (by omega)]
      simp only [Prod.mk.injEq, and_true]
      exact ⟨by omega, rfl⟩
theorem Restore_ok {s : Sl} {b : List UInt8} {most : Int} {w : World} (hs : Bs w s b) (hl : b.length ≤ 1099511627776) (hm : -9223372036854775808 ≤ most ∧ most ≤ 9223372036854775807) :
    cl Tryd.prog n_lz_Restore #[.slice s.a s.n s.c, .int .i64 most] (.tup (.pair .L (.pair (.I .i64) .nil))) w fun (r : Sl × Int × Unit) w' => OwB w' w.heap.size t_uint8 r.1 (restS b most).1 ∧ r.2 = (((restS b most).2 : Int), ()) ∧ Fr w w' := by
  refine lz_Restore.cl ?_
  unfold lz_Restore
  refine lpI (fun s' w' => Fr w w' ∧ ∃ (l o : List UInt8), Bs w' s'.1 l ∧ (l ≠ [] → ∀ ad, s'.1.a = some ad → ad.block < w.heap.size) ∧ OwB w' w.heap.size t_uint8 s'.2.1 o ∧ (o.length : Int) ≤ max most 0 ∧ o.length + 66 * l.length ≤ 66 * b.length ∧ restF most l.length l o = restS b most) (fun s' _ => s'.1.n)
    ⟨Fr.refl w, b, [], hs, hs.lt, OwB.nil _ _ _, by simp; omega, by simp, rfl⟩ ?_
  rintro _ ⟨x, out, ⟨⟩⟩ w2 ⟨hf, l, o, hx, hold, ho, hom, hol, heq⟩
  dsimp only at hx hold ho ⊢
  have hn := hx.len
  have hno := ho.len
  refine bD ?_ ?_ <;> intro hpos
  · cases l with
    | nil => simp at hn; omega
    | cons c t =>
      rw [List.length_cons] at hn hol heq
      refine (step_ok ho.bs hx (by omega) (by omega)).mono ?_
      rintro ⟨add, r2⟩ w6 ⟨hadd, hr2, hf6⟩
      dsimp only at hadd hr2
      subst hr2
      rw [restF_step] at heq
      have hle := stepS_le o c t
      have hsl := stepS_len o c t
      have hal := hadd.len
      generalize hS : stepS o c t = S at *
      obtain ⟨ad, k, e⟩ := S
      dsimp only at heq hadd hal hle hsl ⊢
      have hf' := hf.trans hf6
      refine bNe ?_ ?_ <;> intro he
      · rw [if_pos (by omega)] at heq
        rw [← heq]; exact ⟨OwB.nil _ _ _, rfl, hf'⟩
      · rw [if_neg (by omega)] at heq
        rw [i64w (n := most - out.n) (by omega) (by omega)]
        refine bD ?_ ?_ <;> intro hm2
        · rw [if_pos (by omega)] at heq
          rw [← heq]; exact ⟨OwB.nil _ _ _, rfl, hf'⟩
        · rw [if_neg (by omega)] at heq
          refine app_B slB (base := w.heap.size) (ho.fr hf6) hadd.rd hadd.len.symm (by omega) hf'.size fun r7 w8 h8 hb8 _ _ => ?_
          have hK : Kp (fun k => k < w.heap.size) w2 w8 := fun k hk2 hk => (hb8.block k hk).trans (hf6.block k hk2)
          have hx8 : Bs w8 x (c :: t) := hx.kpn hK fun h => hold h
          refine slsB hx8 (by omega) (by omega) (by simp; omega) fun r9 h9 hblk9 _ => ?_
          have e9 : ((c :: t).take (x.n : Int).toNat).drop (k : Int).toNat = (c :: t).drop k := by
            rw [List.take_of_length_le (by simp; omega), Int.toNat_natCast]
          rw [e9] at h9
          have h9l := h9.len
          rw [List.length_drop, List.length_cons] at h9l
          have h1k := hle.2 (by omega)
          refine ⟨⟨hf'.on hb8, (c :: t).drop k, o ++ ad, h9, fun _ a ha => ?_, h8, ?_, ?_, ?_⟩, by omega⟩
          · obtain ⟨a', h1, h2⟩ := hblk9 a ha
            rw [h2]
            exact hold (by simp) a' h1
          · rw [List.length_append]; omega
          · rw [List.length_append, List.length_drop, List.length_cons]; omega
          · rw [← heq]
            exact restF_any (by rw [List.length_drop]; omega) (by rw [List.length_drop, List.length_cons]; omega)
  · have hl0 : l = [] := List.eq_nil_of_length_eq_zero (by omega)
    subst hl0
    rw [← heq]; exact ⟨ho, rfl, hf⟩
end Go.Proofs.YtkojpppnjloikaaDoor
namespace Go.Fl
open Go.RowKit

/-- What is asked of a type of keys. -/
structure KeyM (P : Program) (kt : TypeId) {κ : Type} (key : κ → Value) : Prop where
  inj : ∀ a b, key a = key b → a = b
  check : ∀ em w k, (Instr.checkKey em 10000 kt (key k)).run P w = .ok () w
  find : ∀ w k (es : List MapEntry), (∀ e ∈ es, ∃ k', e.key = key k') →
    ((Instr.findKey kt (key k) es).run P w = .ok none w ∧ ∀ e ∈ es, e.key ≠ key k) ∨ ∃ j e, (Instr.findKey kt (key k) es).run P w = .ok (some (j, e.val)) w ∧ es[j]? = some e ∧ e.key = key k
  same : ∀ k, Instr.sameBits 10000 (key k) (key k) = true

theorem findAsking_of {P : Program} {kt : TypeId} {κ : Type} {key : κ → Value} (w : World) (heq : ∀ a b, ∃ r : Bool, (Op.equal kt (key a) (key b)).run P w = .ok r w ∧ (r = true ↔ a = b)) (k : κ) :
    ∀ (es : List MapEntry) (i : Nat), (∀ e ∈ es, ∃ k', e.key = key k') →
      ((Instr.findAsking kt (key k) es i).run P w = .ok none w ∧ ∀ e ∈ es, ∀ k', e.key = key k' → k ≠ k') ∨
      ∃ j e, (Instr.findAsking kt (key k) es i).run P w = .ok (some (i + j, e.val)) w ∧ es[j]? = some e ∧ e.key = key k
  | [], i, _ => Or.inl ⟨by simp [Instr.findAsking], by simp⟩
  | e :: es, i, hall => by
    obtain ⟨k', hk'⟩ := hall e (by simp)
    obtain ⟨r, hr, hiff⟩ := heq k k'
    rw [← hk'] at hr
    cases r
    · rcases findAsking_of w heq k es (i + 1) (fun y hy => hall y (by simp [hy])) with ⟨h1, h2⟩ | ⟨j, e', h1, h2, h3⟩
      · left
        refine ⟨by simp [Instr.findAsking, hr, h1], fun y hy k2 hk2 he => ?_⟩
        rcases List.mem_cons.1 hy with rfl | hy
        · obtain ⟨r2, hr2, hiff2⟩ := heq k k2
          rw [hk2, hr2] at hr
          cases hr
          exact absurd (hiff2.2 he) (by decide)
        · exact h2 y hy k2 hk2 he
      · right
        exact ⟨j + 1, e', by simp [Instr.findAsking, hr, h1, Nat.add_assoc, Nat.add_comm 1 j], by simpa using h2, h3⟩
    · right
      exact ⟨0, e, by simp [Instr.findAsking, hr], rfl, by rw [hk', hiff.1 rfl]⟩

/-- Rows of bytes as keys. -/
def keyB {n : Nat} (l : {l : List UInt8 // l.length = n}) : Value := .agg (u8s l.1).toArray
theorem u8s_inj : ∀ {a b : List UInt8}, u8s a = u8s b → a = b
  | [], [], _ => rfl
  | [], _ :: _, h => by simp [u8s] at h
  | _ :: _, [], h => by simp [u8s] at h
  | x :: a, y :: b, h => by
    simp only [u8s, List.map_cons, List.cons.injEq, Value.int.injEq, true_and] at h
    have := u8s_inj (a := a) (b := b) h.2
    have e : x = y := UInt8.toNat_inj.1 (by omega)
    rw [this, e]
theorem sameBits_u8s (n : Nat) : ∀ l : List UInt8, ((u8s l).zip (u8s l)).all (fun (x, y) => Instr.sameBits n x y) = true
  | [] => rfl
  | x :: l => by
    have := sameBits_u8s n l
    simp only [u8s, List.map_cons, List.zip_cons_cons, List.all_cons, Bool.and_eq_true] at this ⊢
    exact ⟨by cases n <;> simp [Instr.sameBits], this⟩
theorem run_checkKey_bytes {P : Program} (em : Bool) (d : Nat) (t e : TypeId) (n : Nat) (ht : P.underlying t = some (.array n e)) (he : P.underlying e = some (.int .u8)) (hsz : ∀ w, (sizeOf e).run P w = .ok 1 w) (xs : List UInt8) (hx : xs.length = n) (w : World) :
    (Instr.checkKey em (d + 2) t (.agg (u8s xs).toArray)).run P w = .ok () w := by
  rw [Instr.checkKey]
  simp only [Sem.run_bind, run_underlying ht, Result.andThen_ok, Std.Legacy.Range.forIn_eq_forIn_range', Std.Legacy.Range.size, Nat.sub_zero, Nat.add_sub_cancel, Nat.div_one]
  have hl : ∀ i ∈ List.range' 0 n 1, i < n := fun i hi => by simpa using (List.mem_range'_1.1 hi).2
  generalize List.range' 0 n 1 = l at hl ⊢
  induction l with
  | nil => simp
  | cons i l ih =>
    have hi : i < n := hl i (by simp)
    have px : (part e (u8s xs).toArray (i * 1)).run P w = .ok (.int .u8 (xs.getD i 0).toNat) w := by
      simp [part, isAgg, run_underlying he, u8s, List.getD, List.getElem?_eq_getElem (show i < xs.length by omega)]
    have pc : (Instr.checkKey em (d + 1) e (.int .u8 (xs.getD i 0).toNat)).run P w = .ok () w := by
      rw [Instr.checkKey]
      simp [run_underlying he]
    simp only [List.forIn_cons, Sem.run_bind, hsz, px, pc, Result.andThen_ok, Sem.run_pure] at ih ⊢
    exact ih fun j hj => hl j (by simp [hj])
theorem keyM_bytes {P : Program} {t e : TypeId} {n : Nat} (ht : P.underlying t = some (.array n e)) (he : P.underlying e = some (.int .u8)) (hsz : ∀ w, (sizeOf e).run P w = .ok 1 w) : KeyM P t (keyB (n := n)) where
  inj a b h := by
    unfold keyB at h
    rw [Value.agg.injEq] at h
    exact Subtype.ext (u8s_inj (by simpa using h))
  check em w k := run_checkKey_bytes em 9998 t e n ht he hsz k.1 k.2 w
  find w k es hes := by
    have heq : ∀ a b : {l : List UInt8 // l.length = n}, ∃ r : Bool, (Op.equal t (keyB a) (keyB b)).run P w = .ok r w ∧ (r = true ↔ a = b) := fun a b =>
      ⟨a.1 == b.1, run_equalIn_bytes w 9998 t e n ht he hsz a.1 b.1 a.2 b.2, by rw [beq_iff_eq]; exact Subtype.ext_iff.symm⟩
    have hfind : (Instr.findKey t (keyB k) es).run P w = (Instr.findAsking t (keyB k) es 0).run P w := by
      cases es with
      | nil => simp [Instr.findKey, run_underlying ht, Instr.findNow, Instr.findAsking]
      | cons x es => simp [Instr.findKey, run_underlying ht, Instr.findNow, Instr.sameNow]
    rw [hfind]
    rcases findAsking_of w heq k es 0 hes with ⟨h1, h2⟩ | ⟨j, x, h1, h2, h3⟩
    · exact .inl ⟨h1, fun x hx h => h2 x hx k h rfl⟩
    · exact .inr ⟨j, x, by simpa using h1, h2, h3⟩
  same k := by
    unfold keyB
    simp only [Instr.sameBits, BEq.rfl, Bool.true_and]
    exact sameBits_u8s _ _
/-- Integers as keys. -/
theorem keyM_int {P : Program} {t : TypeId} {q : IntKind} (ht : P.underlying t = some (.int q)) : KeyM P t (Value.int q) where
  inj a b h := by injection h
  check em w k := by rw [Instr.checkKey]; simp [run_underlying ht]
  find w k es hes := by
    have key : ∀ (es : List MapEntry) (i : Nat), (∀ e ∈ es, ∃ k', e.key = Value.int q k') →
        (Instr.findNow (.int q) (.int q k) es i = some none ∧ ∀ e ∈ es, e.key ≠ .int q k) ∨ ∃ j e, Instr.findNow (.int q) (.int q k) es i = some (some (i + j, e.val)) ∧ es[j]? = some e ∧ e.key = .int q k := by
      intro es
      induction es with
      | nil => exact fun i _ => .inl ⟨rfl, by simp⟩
      | cons e es ih =>
        intro i hall
        obtain ⟨k', hk'⟩ := hall e (by simp)
        by_cases h : k = k'
        · exact .inr ⟨0, e, by simp [Instr.findNow, Instr.sameNow, hk', h], rfl, by rw [hk', h]⟩
        · have hb : (k == k') = false := by simpa using h
          rcases ih (i + 1) (fun y hy => hall y (by simp [hy])) with ⟨h1, h2⟩ | ⟨j, e', h1, h2, h3⟩
          · refine .inl ⟨by simp only [Instr.findNow, Instr.sameNow, hk', if_true, hb]; exact h1, fun y hy => ?_⟩
            rcases List.mem_cons.1 hy with rfl | hy
            · rw [hk']; intro e; injection e with _ e; exact h e.symm
            · exact h2 y hy
          · exact .inr ⟨j + 1, e', by simp only [Instr.findNow, Instr.sameNow, hk', if_true, hb]; rw [h1]; simp [Nat.add_assoc, Nat.add_comm 1 j], by simpa using h2, h3⟩
    rcases key es 0 hes with ⟨h1, h2⟩ | ⟨j, x, h1, h2, h3⟩
    · exact .inl ⟨by simp [Instr.findKey, run_underlying ht, h1], h2⟩
    · exact .inr ⟨j, x, by simp [Instr.findKey, run_underlying ht, h1], h2, h3⟩
  same k := by simp [Instr.sameBits]

/-- A map's block, as a function. -/
structure MapF {κ : Type} (key : κ → Value) (w : World) (r : Nat) (f : κ → Option Value) : Prop where
  mk ::
  ex : ∃ es clock, w.heap[r]? = some (.map es clock) ∧ (∀ e ∈ es.toList, ∃ k, e.key = key k ∧ f k = some e.val) ∧ (es.toList.map (·.key)).Nodup ∧ ∀ k v, f k = some v → ∃ e ∈ es.toList, e.key = key k ∧ e.val = v
section
variable {κ : Type} {key : κ → Value} {w : World} {r : Nat} {f : κ → Option Value} {P : Program} {t kt et : TypeId}
theorem MapF.sub {w' : World} (h : MapF key w r f) (hb : w'.heap[r]? = w.heap[r]?) : MapF key w' r f := by
  obtain ⟨es, clock, h1, h2⟩ := h.ex
  exact ⟨es, clock, hb.trans h1, h2⟩
theorem MapF.lt (h : MapF key w r f) : r < w.heap.size := by
  obtain ⟨es, clock, h1, _⟩ := h.ex
  exact (Array.getElem?_eq_some_iff.1 h1).1
theorem MapF.new (w : World) (key : κ → Value) : MapF key (w.alloc (.map #[] 0)) w.heap.size (fun _ => none) :=
  ⟨#[], 0, heap_alloc_new w _, by simp, by simp, by simp⟩
theorem run_lookM (K : KeyM P kt key) (ht : P.underlying t = some (.map kt et)) {z : Value} (hz : ∀ w, (zeroValue et).run P w = .ok z w) (h : MapF key w r f) (k : κ) (ok : Bool) :
    (Instr.lookup t (.map (some r)) (key k) ok).run P w = .ok (if ok then .tuple #[(f k).getD z, .bool (f k).isSome] else (f k).getD z) w := by
  obtain ⟨es, clock, h1, h2, h3, h4⟩ := h.ex
  rcases K.find w k es.toList (fun e he => (h2 e he).imp fun k h => h.1) with ⟨hf, hn⟩ | ⟨j, e, hf, hj, hk⟩
  · have hfk : f k = none := by
      cases hfk : f k with
      | none => rfl
      | some v =>
        obtain ⟨e, he, hek, _⟩ := h4 k v hfk
        exact absurd hek (hn e he)
    cases ok <;> simp [Instr.lookup, run_underlying ht, Go.MapKept.run_getObj_map h1, K.check, hf, hz, hfk]
  · have hfk : f k = some e.val := by
      obtain ⟨k', hk', hv⟩ := h2 e (List.mem_of_getElem? hj)
      rw [hk] at hk'
      rw [K.inj _ _ hk']; exact hv
    cases ok <;> simp [Instr.lookup, run_underlying ht, Go.MapKept.run_getObj_map h1, K.check, hf, hfk]
/-- A key is looked up. -/
theorem qnM (K : KeyM P kt key) (ht : P.underlying t = some (.map kt et)) {z : Value} (hz : ∀ w, (zeroValue et).run P w = .ok z w) (h : MapF key w r f) (k : κ) {ok : Bool} {kd : Kd} {Q : kd.T → Prop} (x : kd.T)
    (hx : (kd.av x).val = if ok then .tuple #[(f k).getD z, .bool (f k).isSome] else (f k).getD z) (hQ : Q x) : qn P (Instr.lookup t (.map (some r)) (key k) ok) kd w Q :=
  ⟨x, fun w' hw' => by rw [hx]; exact run_lookM K ht hz (h.sub (hw' r h.lt)) k ok, hQ⟩
/-- A key is put. -/
theorem ruM [DecidableEq κ] (K : KeyM P kt key) (ht : P.underlying t = some (.map kt et)) (h : MapF key w r f) (k : κ) (v : Value) {Q : World → Prop}
    (hQ : ∀ w', MapF key w' r (fun k' => if k' = k then some v else f k') → w.grownBy w' (some r) → w'.heap.size = w.heap.size → Q w') : ru P (Instr.mapUpdate t (.map (some r)) (key k) v) w Q := by
  obtain ⟨es, clock, h1, h2, h3, h4⟩ := h.ex
  have hr := h.lt
  have hgrow : ∀ o : Obj, w.grownBy { w with heap := w.heap.setIfInBounds r o } (some r) := fun o =>
    ⟨rfl, rfl, rfl, by simp, fun k _ hk => by
      have : r ≠ k := fun e => hk (by rw [e])
      simp [this]⟩
  rcases K.find w k es.toList (fun e he => (h2 e he).imp fun k h => h.1) with ⟨hf, hn⟩ | ⟨j, e, hf, hj, hk⟩
  · refine ⟨{ w with heap := w.heap.setIfInBounds r (.map (es.push { key := key k, val := v, born := clock }) (clock + 1)) }, ?_, hQ _ ⟨es.push { key := key k, val := v, born := clock }, clock + 1, ?_, ?_, ?_, ?_⟩ (hgrow _) (by simp)⟩
    · simp [Instr.mapUpdate, run_underlying ht, Go.MapKept.run_getObj_map h1, K.check, hf, Go.MapKept.run_setObj_map _ h1]
    · simp [hr]
    · intro x hx
      rw [Array.toList_push, List.mem_append, List.mem_singleton] at hx
      rcases hx with hx | rfl
      · obtain ⟨k', hk', hv⟩ := h2 x hx
        refine ⟨k', hk', ?_⟩
        rw [if_neg fun e => hn x hx (by rw [hk', e])]; exact hv
      · exact ⟨k, rfl, if_pos rfl⟩
    · rw [Array.toList_push, List.map_append, List.nodup_append]
      refine ⟨h3, by simp, ?_⟩
      intro a ha b hb
      simp only [List.map_cons, List.map_nil, List.mem_singleton] at hb
      obtain ⟨x, hx, rfl⟩ := List.mem_map.1 ha
      rw [hb]; exact hn x hx
    · intro k' v' hv'
      rw [Array.toList_push]
      by_cases e : k' = k
      · rw [if_pos e] at hv'
        exact ⟨_, List.mem_append_right _ (List.mem_singleton.2 rfl), by rw [e], Option.some.inj hv'⟩
      · rw [if_neg e] at hv'
        obtain ⟨x, hx, h5⟩ := h4 k' v' hv'
        exact ⟨x, List.mem_append_left _ hx, h5⟩
  · have hjl : j < es.toList.length := (List.getElem?_eq_some_iff.1 hj).1
    have hjs : j < es.size := by simpa using hjl
    have hj' : es[j]? = some e := by simpa using hj
    refine ⟨{ w with heap := w.heap.setIfInBounds r (.map (es.modify j fun x => { x with key := key k, val := v }) clock) }, ?_, hQ _ ⟨es.modify j fun x => { x with key := key k, val := v }, clock, ?_, ?_, ?_, ?_⟩ (hgrow _) (by simp)⟩
    · have hs : (Instr.keyThatStays e.key (key k)).run P w = .ok (key k) w := by
        rw [hk]; simp [Instr.keyThatStays, K.same]
      simp [Instr.mapUpdate, run_underlying ht, Go.MapKept.run_getObj_map h1, K.check, hf, hj', hs, Go.MapKept.run_setObj_map _ h1]
    · simp [hr]
    all_goals rw [show (es.modify j fun x => { x with key := key k, val := v }).toList = es.toList.set j { e with key := key k, val := v } from by
      apply List.ext_getElem?
      intro i
      rw [Array.toList_modify, List.getElem?_modify, List.getElem?_set]
      by_cases h : j = i
      · subst h
        rw [hj]
        simp only [if_true]
        rw [if_pos hjl]
        rfl
      · simp [h]]
    · intro x hx
      obtain ⟨i, hi⟩ := List.mem_iff_getElem?.1 hx
      rw [List.getElem?_set] at hi
      by_cases h : j = i
      · subst h
        rw [if_pos rfl, if_pos hjl, Option.some.injEq] at hi
        subst hi
        exact ⟨k, rfl, if_pos rfl⟩
      · rw [if_neg h] at hi
        obtain ⟨k', hk', hv⟩ := h2 x (List.mem_of_getElem? hi)
        refine ⟨k', hk', ?_⟩
        rw [if_neg]
        · exact hv
        · rintro rfl
          have e1 : (es.toList.map (·.key))[i]? = some (key k') := by rw [List.getElem?_map, hi]; simp [hk']
          have e2 : (es.toList.map (·.key))[j]? = some (key k') := by rw [List.getElem?_map, hj]; simp [hk]
          have hil : i < (es.toList.map (·.key)).length := (List.getElem?_eq_some_iff.1 e1).1
          exact h (((List.getElem?_inj hil h3).1 (e1.trans e2.symm)).symm)
    · rw [List.map_set]
      have : (es.toList.map (·.key)).set j (key k) = es.toList.map (·.key) := by
        apply List.ext_getElem?
        intro i
        rw [List.getElem?_set]
        split
        · rename_i h
          subst h
          rw [List.getElem?_map, hj]
          simp [hk, hjs]
        · rfl
      rw [this]; exact h3
    · intro k' v' hv'
      by_cases hkk : k' = k
      · rw [if_pos hkk] at hv'
        exact ⟨_, List.mem_iff_getElem?.2 ⟨j, by rw [List.getElem?_set, if_pos rfl, if_pos hjl]⟩, by rw [hkk], Option.some.inj hv'⟩
      · rw [if_neg hkk] at hv'
        obtain ⟨x, hx, h5, h6⟩ := h4 k' v' hv'
        obtain ⟨i, hi⟩ := List.mem_iff_getElem?.1 hx
        refine ⟨x, List.mem_iff_getElem?.2 ⟨i, ?_⟩, h5, h6⟩
        rw [List.getElem?_set, if_neg]
        · exact hi
        · rintro rfl
          rw [hj] at hi
          cases hi
          exact hkk (K.inj _ _ (h5.symm.trans hk))
end
end Go.Fl
set_option linter.unusedVariables false
set_option maxHeartbeats 4000000
namespace Go.Proofs.YtkojpppnjloikaaDoor
open Go.Fl
theorem u_int : type_of% @Tryd.underlying3 := @Tryd.underlying3
theorem u_uint8 : type_of% @Tryd.underlying5 := @Tryd.underlying5
theorem u_api_Sum : type_of% @Tryd.underlying23 := @Tryd.underlying23
theorem u_s_uint8 : type_of% @Tryd.underlying24 := @Tryd.underlying24
theorem u_api_Record : type_of% @Tryd.underlying26 := @Tryd.underlying26
theorem u_api_Note : type_of% @Tryd.underlying28 := @Tryd.underlying28
theorem u_p_int : type_of% @Tryd.underlying56 := @Tryd.underlying56
theorem u_s_int : type_of% @Tryd.underlying57 := @Tryd.underlying57
theorem u_map_3_uint8_int : type_of% @Tryd.underlying70 := @Tryd.underlying70
theorem u_lz_chains : type_of% @Tryd.underlying72 := @Tryd.underlying72
theorem u_flumeref02_Reader : type_of% @Tryd.underlying84 := @Tryd.underlying84
theorem u_uint32 : type_of% @Tryd.underlying90 := @Tryd.underlying90
theorem u_digest_state : type_of% @Tryd.underlying92 := @Tryd.underlying92
theorem u_digest_Hash : type_of% @Tryd.underlying94 := @Tryd.underlying94
theorem u_s_uint32 : type_of% @Tryd.underlying96 := @Tryd.underlying96
theorem u_3_uint8 : type_of% @Tryd.underlying104 := @Tryd.underlying104
theorem u_octet_Reader : type_of% @Tryd.underlying111 := @Tryd.underlying111
theorem u_64_uint32 : type_of% @Tryd.underlying115 := @Tryd.underlying115
abbrev t_bool : TypeId := 4
theorem u_bool : type_of% @Tryd.underlying4 := @Tryd.underlying4
end Go.Proofs.YtkojpppnjloikaaDoor
namespace Go.Proofs.YtkojpppnjloikaaDoor
open Go.RowKit Go.Fl

theorem u8_key : KeyM Tryd.prog t_3_uint8 (keyB (n := 3)) := keyM_bytes u_3_uint8 u_uint8 (fun w => by
  obtain ⟨i, z, hi, hz, hsize, hby, hzs⟩ := slB.info
  simp [sizeOf, typeInfo, hi, hsize])
/-- What the map holds when the places ahead of i are noted. -/
def headF (b : List UInt8) (i : Nat) (k : {l : List UInt8 // l.length = 3}) : Option Value := if lastP b k.1 i = 0 then none else some (.int .i64 (lastP b k.1 i))
/-- What the row holds. -/
def prevL (b : List UInt8) (i : Nat) : List Value := (List.range b.length).map fun p => .int .i64 ((if p < i ∧ p + 3 ≤ b.length then lastP b (t3 b p) p else 0 : Nat) : Int)
structure Chn (w : World) (c : Nat) (sb : Sl) (b : List UInt8) (r g i : Nat) : Prop where
  st : w.heap[c]? = some (.cells #[.slice sb.a sb.n sb.c, .map (some r), .slice (some ⟨g, 0, none⟩) b.length b.length] t_lz_chains (0, 0))
  bs : Bs w sb b
  old : b ≠ [] → ∀ ad, sb.a = some ad → ad.block < r
  mp : MapF keyB w r (headF b i)
  pv : w.heap[g]? = some (.cells (prevL b i).toArray t_int (0, 0))
  rg : r < g
  gc : g < c
section
variable {w : World} {c r g i : Nat} {sb : Sl} {b : List UInt8}
theorem Chn.fr {w' : World} (h : Chn w c sb b r g i) (hf : Fr w w') : Chn w' c sb b r g i :=
  ⟨hf.heap h.st, h.bs.fr hf, h.old, h.mp.sub (hf.block r h.mp.lt), hf.heap h.pv, h.rg, h.gc⟩
theorem Chn.lt (h : Chn w c sb b r g i) : c < w.heap.size := (Array.getElem?_eq_some_iff.1 h.st).1
theorem Chn.low {w' : World} (h : Chn w c sb b r g i) (hf : Below (c + 1) w w') : Chn w' c sb b r g i := by
  have h1 := h.rg
  have h2 := h.gc
  have hk : Kp (fun k => k < c + 1) w w' := fun k _ hk => hf.block k hk
  exact ⟨(hf.block c (by omega)).trans h.st, h.bs.kpn hk fun hb ad ha => by have := h.old hb ad ha; omega, h.old, h.mp.sub (hf.block r (by omega)), (hf.block g (by omega)).trans h.pv, h1, h2⟩
theorem at_ok (h : Chn w c sb b r g i) {p : Nat} (hp : p + 3 ≤ b.length) (hl : b.length ≤ 1099511627776) :
    cl Tryd.prog n_lz_chains_at #[.pointer (some ⟨c, 0, none⟩), .int .i64 (p : Int)] (.row 3) w fun (x : {l : List Value // l.length = 3}) w' => x.1 = u8s (t3 b p) ∧ Fr w w' := by
  refine lz_chains_at.cl ?_
  unfold lz_chains_at
  have ht3 : (u8s (t3 b p)).length = 3 := by rw [u8s_length, t3_get hp]; rfl
  refine nwI fun a w2 ha hsz hf hblk _ => ?_
  have h2 := h.fr hf
  show ld .L w2 ⟨c, 0, none⟩ _
  refine ldL0 h2.st rfl ?_
  rw [i64w (by omega) (by omega)]
  refine slsB h2.bs (by omega) (by omega) (by omega) fun r5 h5 _ _ => ?_
  have e5 : (b.take ((p : Int) + 3).toNat).drop (p : Int).toNat = t3 b p := by
    unfold t3
    rw [show ((p : Int) + 3).toNat = p + 3 from by omega, Int.toNat_natCast, List.drop_take]
    congr 1
    omega
  rw [e5] at h5
  have h5n := h5.len
  refine qnArr u_3_uint8 (by rw [h5n, ← u8s_length, ht3]; exact Nat.le_refl _) ?_
  refine ldRd h5.rd ht3 (by decide) ?_
  refine stL_row (cs := (zrow 3 (.int .u8 0)).1) hblk (by rw [ht3]; decide) (u8s_one _) fun w9 hb9 hg9 hs9 => ?_
  have e9 : (zrow 3 (.int .u8 0)).1.take 0 ++ u8s (t3 b p) ++ (zrow 3 (.int .u8 0)).1.drop (0 + (u8s (t3 b p)).length) = u8s (t3 b p) := by rw [ht3]; simp [zrow]
  rw [e9] at hb9
  refine ldR0 hb9 ht3 ⟨rfl, ?_⟩
  exact hf.on (grown_below hg9 (by omega) hf.size)
theorem alike_ok (h : Chn w c sb b r g i) {p q : Nat} (hpq : p < q) (hq : q ≤ b.length) (hl : b.length ≤ 1099511627776) :
    cl Tryd.prog n_lz_chains_alike #[.pointer (some ⟨c, 0, none⟩), .int .i64 (p : Int), .int .i64 (q : Int)] (.I .i64) w fun (x : Int) w' => x = alikeF b 66 p q ∧ Fr w w' := by
  refine lz_chains_alike.cl ?_
  unfold lz_chains_alike
  have hn := h.bs.len
  refine lpI (fun s' w' => Fr w w' ∧ ∃ k : Nat, k ≤ 66 ∧ s'.1 = k ∧ ∀ m, m < k → q + m < b.length ∧ b[p + m]? = b[q + m]?) (fun s' _ => (66 - s'.1).toNat) ⟨Fr.refl w, 0, by omega, rfl, fun m h => by omega⟩ ?_
  rintro _ ⟨k, ⟨⟩⟩ w2 ⟨hf, k, hk, rfl, hm⟩
  dsimp -zeta only
  have h2 := h.fr hf
  refine bD ?_ ?_ <;> intro h66
  · show ld .L w2 ⟨c, 0, none⟩ _
    refine ldL0 h2.st rfl ?_
    rw [i64w (n := (q : Int) + k) (by omega) (by omega), i64w (n := (p : Int) + k) (by omega) (by omega)]
    refine bD ?_ ?_ <;> intro hlt
    · show ld .L w2 ⟨c, 0, none⟩ _
      refine ldL0 h2.st rfl ?_
      have g1 : b[((p : Int) + k).toNat]? = some (b[p + k]'(by omega)) := by rw [show ((p : Int) + k).toNat = p + k from by omega]; exact List.getElem?_eq_getElem _
      have g2 : b[((q : Int) + k).toNat]? = some (b[q + k]'(by omega)) := by rw [show ((q : Int) + k).toNat = q + k from by omega]; exact List.getElem?_eq_getElem _
      refine ixBc h2.bs.rd h2.bs.len (by omega) g1 (Fr.refl _) ?_
      show ld .L w2 ⟨c, 0, none⟩ _
      refine ldL0 h2.st rfl ?_
      refine ixBc h2.bs.rd h2.bs.len (by omega) g2 (Fr.refl _) ?_
      intro n
      have hf' := hf.trans (Fr.drewN w2 n)
      refine bE ?_ ?_ <;> intro he
      · rw [i64w (by omega) (by omega)]
        refine ⟨⟨hf', k + 1, by omega, by simp, fun m hmk => ?_⟩, by omega⟩
        by_cases hme : m = k
        · subst hme
          refine ⟨by omega, ?_⟩
          rw [List.getElem?_eq_getElem (by omega), List.getElem?_eq_getElem (by omega)]
          congr 1
          exact UInt8.toNat_inj.1 (by omega)
        · exact hm m (by omega)
      · refine ⟨?_, hf'⟩
        rw [alikeF_step hk hm (.inr fun hx => he ?_)]
        rw [List.getElem?_eq_getElem (by omega), List.getElem?_eq_getElem (by omega)] at hx
        rw [Option.some.inj hx.2]
    · intro n
      refine ⟨?_, hf.trans (Fr.drewN w2 n)⟩
      rw [alikeF_step hk hm (.inr fun hx => by omega)]
  · intro n
    refine ⟨?_, hf.trans (Fr.drewN w2 n)⟩
    rw [alikeF_step hk hm (.inl (by omega))]
theorem zero_int (w : World) : (zeroValue t_int).run Tryd.prog w = .ok (.int .i64 0) w := run_zeroV (by kernel_rfl) w
theorem headF_get (b : List UInt8) (i : Nat) (k : {l : List UInt8 // l.length = 3}) : (headF b i k).getD (.int .i64 0) = .int .i64 (lastP b k.1 i) := by
  unfold headF
  split
  · rename_i h; rw [h]; rfl
  · rfl
theorem prevL_get {b : List UInt8} {i p : Nat} (hp : p < i) (hl : p + 3 ≤ b.length) : (prevL b i)[p]? = some (.int .i64 (lastP b (t3 b p) p)) := by
  unfold prevL
  rw [List.getElem?_map, List.getElem?_range (by omega)]
  simp [hp, hl]
theorem prevL_over {b : List UInt8} {i : Nat} (h : b.length < i + 3) : prevL b (i + 1) = prevL b i := by
  unfold prevL
  refine List.map_congr_left fun p _ => ?_
  by_cases hp : p < i ∧ p + 3 ≤ b.length
  · rw [if_pos hp, if_pos (by omega)]
  · rw [if_neg hp, if_neg (by omega)]
theorem prevL_put {b : List UInt8} {i : Nat} (h : i + 3 ≤ b.length) : (prevL b i).set i (.int .i64 (lastP b (t3 b i) i)) = prevL b (i + 1) := by
  apply List.ext_getElem?
  intro p
  rw [List.getElem?_set]
  unfold prevL
  rw [List.length_map, List.length_range, List.getElem?_map, List.getElem?_map]
  by_cases hp : p < b.length
  · rw [List.getElem?_range hp]
    by_cases e : i = p
    · subst e
      simp [h, hp]
    · rw [if_neg e]
      simp only [Option.map_some]
      by_cases hc : p < i ∧ p + 3 ≤ b.length
      · rw [if_pos hc, if_pos (by omega)]
      · rw [if_neg hc, if_neg (by omega)]
  · rw [if_neg (by omega)]
    simp [List.getElem?_eq_none (l := List.range b.length) (i := p) (by simp; omega)]
theorem headF_over {b : List UInt8} {i : Nat} (h : b.length < i + 3) : headF b (i + 1) = headF b i := by
  funext k
  unfold headF
  rw [lastP_over h]
theorem headF_put {b : List UInt8} {i : Nat} (h : i + 3 ≤ b.length) {h3 : (t3 b i).length = 3} : (fun k' => if k' = (⟨t3 b i, h3⟩ : {l : List UInt8 // l.length = 3}) then some (.int .i64 ((i : Int) + 1)) else headF b i k') = headF b (i + 1) := by
  funext k
  unfold headF
  by_cases e : k = ⟨t3 b i, h3⟩
  · subst e
    have hP : lastP b (t3 b i) (i + 1) = i + 1 := by rw [lastP, if_pos ⟨h, rfl⟩]
    simp only [if_true, hP]
    rfl
  · have hP : lastP b k.1 (i + 1) = lastP b k.1 i := by rw [lastP, if_neg fun hc => e (Subtype.ext hc.2.symm)]
    rw [if_neg e, hP]
theorem best_ok (h : Chn w c sb b r g i) (hi : i ≤ b.length) (hl : b.length ≤ 1099511627776) :
    cl Tryd.prog n_lz_chains_best #[.pointer (some ⟨c, 0, none⟩), .int .i64 (i : Int)] (.tup (.pair (.I .i64) (.pair (.I .i64) .nil))) w fun (x : Int × Int × Unit) w' => x = (((bestS b i).1 : Int), ((bestS b i).2 : Int), ()) ∧ Fr w w' := by
  refine lz_chains_best.cl ?_
  unfold lz_chains_best
  have hn := h.bs.len
  show ld .L w ⟨c, 0, none⟩ _
  refine ldL0 h.st rfl ?_
  rw [i64w (n := (i : Int) + 3) (by omega) (by omega)]
  refine bD ?_ ?_ <;> intro h3
  · rw [best_none (by omega) hi]; exact ⟨rfl, Fr.refl w⟩
  have hi3 : i + 3 ≤ b.length := by omega
  intro n
  have hf3 := Fr.drewN w n
  have h' := h.fr hf3
  generalize w.drewN n = w3 at *
  show ld .M w3 ⟨c, 1, none⟩ _
  refine ldM0 h'.st rfl ?_
  refine (at_ok h' hi3 hl).mono ?_
  rintro ⟨x6, hx6⟩ w7 ⟨hx, hf7⟩
  dsimp only at hx
  subst hx
  refine ⟨hf7, ?_⟩
  have h7 := h'.fr hf7
  have ht3 : (t3 b i).length = 3 := by rw [t3_get hi3]; rfl
  refine qnM u8_key u_map_3_uint8_int zero_int h7.mp ⟨t3 b i, ht3⟩ (kd := .I .i64) ((lastP b (t3 b i) i : Nat) : Int) (by rw [headF_get]; rfl) ?_
  refine lpI (fun s' w' => Fr w w' ∧ ∃ (q : Nat) (st : Nat × Nat), s'.1 = st.1 ∧ s'.2.1 = st.2 ∧ s'.2.2.1 = q ∧ Cand b i q st) (fun s' _ => s'.2.2.1.toNat) ⟨hf3.trans hf7, _, (0, 0), rfl, rfl, rfl, cand_init hi3⟩ ?_
  rintro _ ⟨bk, sz, p, ⟨⟩⟩ w10 ⟨hf10, q, ⟨bk', sz'⟩, rfl, rfl, rfl, hc⟩
  dsimp -zeta only
  have hqi := hc.1
  refine bD ?_ ?_ <;> intro hq0
  · have hq1 : (q : Int) - 1 = ((q - 1 : Nat) : Int) := by omega
    rw [i64w (n := (q : Int) - 1) (by omega) (by omega), i64w (n := (i : Int) - ((q : Int) - 1)) (by omega) (by omega), hq1]
    have h10 := h.fr hf10
    refine bD ?_ ?_ <;> intro h512
    · refine (alike_ok h10 (show q - 1 < i by omega) hi hl).mono ?_
      rintro _ w14 ⟨rfl, hf14⟩
      have h14 := h10.fr hf14
      have hstep := cand_step hi3 hc (by omega) (by omega)
      have hpl : q - 1 + 3 ≤ b.length := (hc.2.1 (by omega)).2
      have hle := lastP_le b (t3 b (q - 1)) (q - 1)
      have fin : ∀ (K : Int → Prop), K ((lastP b (t3 b (q - 1)) (q - 1) : Nat) : Int) → nz (some ⟨c, 0, none⟩) fun a => ld .L w14 (a.add 2) fun (x : Sl) => ixa x.a x.n ((q - 1 : Nat) : Int) 1 fun a' => ld (.I .i64) w14 a' K := by
        intro K hK
        show ld .L w14 ⟨c, 2, none⟩ _
        refine ldL0 (s := ⟨some ⟨g, 0, none⟩, b.length, b.length⟩) h14.st rfl ?_
        exact ixH h14.pv (by omega) (by dsimp only; omega) (by rw [Int.toNat_natCast]; exact prevL_get (by omega) hpl) hK
      refine bD ?_ ?_ <;> intro hgt
      · refine fin _ ?_
        rw [if_pos (by omega)] at hstep
        refine ⟨⟨hf10.trans hf14, _, _, ?_, rfl, rfl, hstep⟩, by omega⟩
        simp only
        omega
      · refine fin _ ?_
        rw [if_neg (by omega)] at hstep
        exact ⟨⟨hf10.trans hf14, _, _, rfl, rfl, rfl, hstep⟩, by omega⟩
    · rw [cand_end hi3 hc (by omega)]; exact ⟨rfl, hf10⟩
  · rw [cand_end hi3 hc (by omega)]; exact ⟨rfl, hf10⟩
theorem put_ok (h : Chn w c sb b r g i) (hi : i ≤ b.length) (hl : b.length ≤ 1099511627776) :
    cl Tryd.prog n_lz_chains_put #[.pointer (some ⟨c, 0, none⟩), .int .i64 (i : Int)] (.tup .nil) w fun (_ : Unit) w' => Chn w' c sb b r g (i + 1) ∧ Below r w w' ∧ Kp (fun k => k ≠ r ∧ k ≠ g) w w' := by
  refine lz_chains_put.cl ?_
  unfold lz_chains_put
  have hn := h.bs.len
  have hrg := h.rg
  have hgc := h.gc
  have hclt := h.lt
  show ld .L w ⟨c, 0, none⟩ _
  refine ldL0 h.st rfl ?_
  rw [i64w (n := (i : Int) + 3) (by omega) (by omega)]
  refine bD ?_ ?_ <;> intro h3
  rotate_left
  · refine ⟨⟨h.st, h.bs, h.old, ?_, ?_, hrg, hgc⟩, Below.refl _ _, fun _ _ _ => rfl⟩
    · rw [headF_over (by omega)]; exact h.mp
    · rw [prevL_over (by omega)]; exact h.pv
  have hi3 : i + 3 ≤ b.length := by omega
  have ht3 : (t3 b i).length = 3 := by rw [t3_get hi3]; rfl
  refine (at_ok h hi3 hl).mono ?_
  rintro ⟨x6, hx6⟩ w4 ⟨hx, hf4⟩
  dsimp only at hx
  subst hx
  refine nwI fun a w6 ha hsz hf6 hblk _ => ?_
  have hs4 := hf4.size
  refine stL_row (cs := (zrow 3 (.int .u8 0)).1) hblk (by rw [hx6]; decide) (u8s_one _) fun w7 hb7 hg7 hs7 => ?_
  have e7 : (zrow 3 (.int .u8 0)).1.take 0 ++ u8s (t3 b i) ++ (zrow 3 (.int .u8 0)).1.drop (0 + (u8s (t3 b i)).length) = u8s (t3 b i) := by rw [hx6]; simp [zrow]
  rw [e7] at hb7
  intro n
  have hf7 : Fr w w7 := (hf4.trans hf6).on (grown_below hg7 (by omega) (hf4.trans hf6).size)
  have hf8 := hf7.trans (Fr.drewN w7 n)
  have hb8 := (Fr.drewN w7 n).heap hb7
  generalize w7.drewN n = w8 at *
  have h8 := h.fr hf8
  show ld .L w8 ⟨c, 2, none⟩ _
  refine ldL0 (s := ⟨some ⟨g, 0, none⟩, b.length, b.length⟩) h8.st rfl ?_
  show ld .M w8 ⟨c, 1, none⟩ _
  refine ldM0 h8.st rfl ?_
  refine ldR0 hb8 hx6 ?_
  refine qnM u8_key u_map_3_uint8_int zero_int h8.mp ⟨t3 b i, ht3⟩ (kd := .I .i64) ((lastP b (t3 b i) i : Nat) : Int) (by rw [headF_get]; rfl) ?_
  refine ixSt h8.pv (by omega) (by dsimp only; omega) (by rw [Int.toNat_natCast]; simp [prevL]; omega) fun w16 hb16 hg16 hs16 => ?_
  rw [Int.toNat_natCast, prevL_put hi3] at hb16
  intro n2
  have hf17 := Fr.drewN w16 n2
  have hb17 := hf17.heap hb16
  have hs17 : (w16.drewN n2).heap.size = w16.heap.size := rfl
  have hK17 : ∀ k : Nat, (w16.drewN n2).heap[k]? = w16.heap[k]? := fun _ => rfl
  generalize w16.drewN n2 = w17 at *
  have hs8 := hf8.size
  have hst17 : w17.heap[c]? = some (.cells #[.slice sb.a sb.n sb.c, .map (some r), .slice (some ⟨g, 0, none⟩) b.length b.length] t_lz_chains (0, 0)) := by
    rw [hK17, hg16.block c (by omega) (by simp; omega)]; exact h8.st
  have ha17 : w17.heap[a]? = some (.cells (u8s (t3 b i)).toArray t_3_uint8 (0, 0)) := by
    have hal := (Array.getElem?_eq_some_iff.1 hb8).1
    rw [hK17, hg16.block a hal (by simp; omega)]; exact hb8
  have hm17 : MapF keyB w17 r (headF b i) := h8.mp.sub (by rw [hK17, hg16.block r (by omega) (by simp; omega)])
  show ld .M w17 ⟨c, 1, none⟩ _
  refine ldM0 hst17 rfl ?_
  refine ldR0 ha17 hx6 ?_
  refine ruM u8_key u_map_3_uint8_int hm17 ⟨t3 b i, ht3⟩ _ fun w21 hm21 hg21 hs21 => ?_
  rw [i64w (by omega) (by omega)] at hm21
  have hB : Below r w w21 := by
    have b1 : Below r w8 w16 := grown_below hg16 (by omega) (by omega)
    have b2 : Below r w17 w21 := grown_below hg21 (Nat.le_refl _) (by omega)
    exact (((hf8.mono (by omega)).trans b1).trans (hf17.mono (by omega))).trans b2
  have hKp : Kp (fun k => k ≠ r ∧ k ≠ g) w w21 := fun k hk hne => by
    rw [hg21.block k (by omega) (by simp; omega), hK17, hg16.block k (by omega) (by simp; omega), hf8.block k hk]
  refine ⟨⟨?_, ?_, h.old, ?_, ?_, hrg, hgc⟩, hB, hKp⟩
  · rw [hKp c hclt (by omega)]; exact h.st
  · exact h.bs.kpn (S := fun k => k < r) (fun k _ hk => hB.block k hk) h.old
  · rw [← headF_put hi3 (h3 := ht3)]; exact hm21
  · rw [hg21.block g (by omega) (by simp; omega)]; exact hb17
end
end Go.Proofs.YtkojpppnjloikaaDoor
namespace Go.Fl
open Go.RowKit

/-- The wide fence, within a round or without. -/
def wr (r : Option Nat) : Fence := { Fence.wide with round := r }
theorem opIn {P : Program} {r : Option Nat} {n : Nat} {o : Oper} {a : Act} {w : World} {next : Act → World → Prop} {Q : Exit → Act → World → Prop} (ho : ∀ c, o.op ≠ .defer c) (h : o.wp P a w next Q) : o.wpIn (wr r) n P a w next Q := by
  refine ⟨fun _ _ => trivial, ?_⟩
  rw [Oper.semAt_eq _ _ _ ho]
  unfold Oper.wp at h
  generalize (execOp a.eval o).run P w = rr at *
  have hd : ∀ m, (wr r).depth.isSome = true → 1 ≤ m := fun m h => by simp [wr, Fence.wide] at h
  cases rr with
  | ok x w' =>
    cases x with
    | value v => exact h
    | skip => exact h
    | defer d => exact h
    | enter f args => exact ⟨hd n, callsIn_wide.2 h⟩
    | row row args =>
      refine ⟨hd n, fun c cs _ => ?_⟩
      obtain ⟨v, w2, h1, h2⟩ := h c cs
      exact ⟨v, w2, h1, stepsIn_wide.2 h2⟩
    | _ => exact h.elim
  | halt x w' =>
    cases x with
    | panic v => exact h
    | _ => exact h.elim
theorem opIn_then {F : Fence} {n : Nat} {P : Program} {o : Oper} {a : Act} {w : World} {K K' : Act → World → Prop} {Q : Exit → Act → World → Prop} (h : o.wpIn F n P a w K (Exit.then K' Q)) : o.wpIn F n P a w K Q := by
  refine ⟨h.1, ?_⟩
  have h := h.2
  generalize (o.semAt F.round a.eval).run P w = r at *
  cases r with
  | ok x w' => cases x <;> exact h
  | halt x w' => cases x <;> exact h
theorem listIn {P : Program} {r : Option Nat} {n : Nat} {ops : Array Oper} {Q : Exit → Act → World → Prop} (hQ : ¬LetsOut Q) : ∀ {L : List Oper} {a : Act} {w : World}, (∀ o ∈ L, ∀ c, o.op ≠ .defer c) → wpList P ops Q L a w → wpListIn (wr r) n P ops Q L a w
  | [], a, w, _, h => h
  | o :: L, a, w, hd, h => by
    have hd' : ∀ o ∈ L, ∀ c, o.op ≠ .defer c := fun p hp => hd p (List.mem_cons_of_mem _ hp)
    rw [wpList] at h
    rw [wpListIn]
    split
    · rename_i hw
      rw [if_pos hw] at h
      rcases h with h | h
      · exact Oper.wpIn_mono (fun a w h => listIn hQ hd' h) (opIn (hd o (List.mem_cons_self ..)) h)
      · exact absurd h.2 hQ
    · rename_i hw
      rw [if_neg hw] at h
      exact ⟨fun _ _ => trivial, listIn hQ hd' h⟩
theorem wpListIn_app {F : Fence} {n : Nat} {P : Program} {ops : Array Oper} {Q : Exit → Act → World → Prop} {L2 : List Oper} : ∀ {L1 : List Oper} {a : Act} {w : World},
    wpListIn F n P ops (Exit.then (wpListIn F n P ops Q L2) Q) L1 a w → wpListIn F n P ops Q (L1 ++ L2) a w
  | [], a, w, h => h
  | o :: L1, a, w, h => by
    rw [List.cons_append]
    rw [wpListIn] at h ⊢
    split
    · rename_i hw
      rw [if_pos hw] at h
      exact Oper.wpIn_mono (fun a w h => wpListIn_app h) (opIn_then h)
    · rename_i hw
      rw [if_neg hw] at h
      exact ⟨h.1, wpListIn_app h.2⟩
/-- Code that is shown in the plain walk, without a round. -/
theorem inW {P : Program} {an : Nat → LA} {c : Code} {n : Nat} {Q : Exit → Act → World → Prop} {E : List AV} {w : World} (hc : (codeFns c).all (callable P) = true) (h : vc P an c (fun e E' w' => Q e (acts E') w') E w) : c.wpIn Fence.wide n P Q (acts E) w := by
  refine wpIn_wide.2 (wp_mono (code_sound (fun f hf => List.all_eq_true.1 hc f hf) h) ?_)
  rintro e a w' ⟨E', rfl, _, hq⟩
  exact hq
/-- Operations that are shown in the plain walk. -/
theorem opsW {P : Program} {r : Option Nat} {n : Nat} {all L : List Oper} {Q : Exit → Act → World → Prop} {E : List AV} {w : World} (hc : (L.flatMap opFns).all (callable P) = true) (hd : ∀ o ∈ L, ∀ c, o.op ≠ .defer c) (hQ : ¬LetsOut Q) (h : opsVC P all (fun E' w' => Q .normal (acts E') w') L E w) :
    wpListIn (wr r) n P all.toArray Q L (acts E) w := by
  refine listIn hQ hd (ops_sound (fun o ho f hf => List.all_eq_true.1 hc f (List.mem_flatMap.2 ⟨o, ho, hf⟩)) h ?_)
  exact fun E' w' _ _ hq => hq
/-- A region within a round. -/
theorem inR {P : Program} {l n id : Nat} {L : List Oper} {Q : Exit → Act → World → Prop} {E : List AV} {w : World} (hc : (L.flatMap opFns).all (callable P) = true) (hd : ∀ o ∈ L, ∀ c, o.op ≠ .defer c) (hQ : ¬LetsOut Q) (h : opsVC P L (fun E' w' => Q .normal (acts E') w') L E w) :
    (Code.region id L.toArray false).wpIn (Fence.wide.inRound l) n P Q (acts E) w := wpIn_region_lit (opsW (r := some l) hc hd hQ h)
/-- The same act with more deferred calls behind. -/
def more (ds : List Deferred) (a : Act) : Act := { a with defers := a.defers ++ ds }
theorem more_put (ds : List Deferred) (a : Act) (d : Option Tmp) (v : Value) : more ds (a.put d v) = (more ds a).put d v := by cases d <;> rfl
theorem more_eval (ds : List Deferred) (a : Act) : (more ds a).eval = a.eval := by funext x; cases x <;> rfl
theorem opIn_more {F : Fence} {n : Nat} {P : Program} {ds : List Deferred} {o : Oper} {a : Act} {w : World} {K K' : Act → World → Prop} {Q : Exit → Act → World → Prop} (hK : ∀ a w, K a w → K' (more ds a) w)
    (h : o.wpIn F n P a w K (fun e a w => Q e (more ds a) w)) : o.wpIn F n P (more ds a) w K' Q := by
  unfold Oper.wpIn at h ⊢
  rw [more_eval]
  refine ⟨h.1, ?_⟩
  have h := h.2
  have hL : LetsOut (fun e a w => Q e (more ds a) w) → LetsOut Q := fun ⟨a, w, h⟩ => ⟨_, w, h⟩
  generalize (o.semAt F.round a.eval).run P w = r at *
  cases r with
  | ok x w' =>
    cases x with
    | value v => have := hK _ _ h; rw [more_put] at this; exact this
    | skip => have := hK _ _ h; rw [more_put] at this; exact this
    | defer d => have := hK _ _ h; rw [more_put] at this; exact this
    | enter f args =>
      refine ⟨h.1, CallsIn.mono h.2 ?_⟩
      rintro (v | c | _) w2 h
      · have := hK _ _ h; rw [more_put] at this; exact this
      · exact h
      · exact hL h
    | row row args =>
      refine ⟨h.1, RowsIn.mono h.2 fun v w2 h => ?_⟩
      have := hK _ _ h; rw [more_put] at this; exact this
    | round l f tmps assign body =>
      refine ⟨h.1, RoundIn.mono h.2 ?_⟩
      rintro (v | c | _) w2 h
      · have := hK _ _ h; rw [more_put] at this; exact this
      · exact h
      · exact hL h
    | _ => exact h.elim
  | halt x w' =>
    cases x with
    | panic v => exact h
    | _ => exact h.elim
theorem listIn_more {F : Fence} {n : Nat} {P : Program} {ds : List Deferred} {ops : Array Oper} {Q : Exit → Act → World → Prop} : ∀ {L : List Oper} {a : Act} {w : World},
    wpListIn F n P ops (fun e a w => Q e (more ds a) w) L a w → wpListIn F n P ops Q L (more ds a) w
  | [], a, w, h => h
  | o :: L, a, w, h => by
    rw [wpListIn] at h ⊢
    have ht : (more ds a).tmps = a.tmps := rfl
    rw [ht]
    split
    · rename_i hw
      rw [if_pos hw] at h
      exact opIn_more (fun a w h => listIn_more h) h
    · rename_i hw
      rw [if_neg hw] at h
      rw [more_eval, ← more_put]
      exact ⟨h.1, listIn_more h.2⟩
def noDefer (L : List Oper) : Bool := L.all fun o => match o.op with | .defer _ => false | _ => true
theorem noDefer_of {L : List Oper} (h : noDefer L = true) {o : Oper} (ho : o ∈ L) (c : Call) : o.op ≠ .defer c := fun e => by
  have := List.all_eq_true.1 h o ho
  rw [e] at this
  cases this
theorem run_yieldOp {P : Program} {o : Oper} {a : Act} {t : TypeId} {x y : Operand} {l : Nat} {v : Value} (h : o.op = .call { callee := .value x, args := #[y], argTypes := #[t] }) (hx : a.eval x = .func (.yield l) #[] #[]) (hy : a.eval y = v) (w : World) :
    (execOp a.eval o).run P w = (Instr.yield l #[v]).run P w := by
  unfold execOp
  rw [h]
  simp [resolve, hx, hy, invoke, Deferred.ofValue]
/-- Changes of variables. -/
def up (e : Nat → AV) : List (Nat × AV) → Nat → AV
  | [], m => e m
  | (k, v) :: l, m => bif k == m then v else up e l m
end Go.Fl
namespace Go.Proofs.YtkojpppnjloikaaDoor
open Go.RowKit Go.Fl

def cA : Code → Code
  | .seq a _ => a
  | c => c
def cB : Code → Code
  | .seq _ b => b
  | c => c
def cK : Code → Code
  | .block _ c => c
  | .loop c => c
  | .rangeFunc _ _ _ c => c
  | c => c
def cAsg : Code → Code
  | .rangeFunc _ _ c _ => c
  | c => c
noncomputable def code24 : Code := Tryd.f46.body.getD .skip
noncomputable def code45 : Code := Tryd.f76.body.getD .skip
abbrev na : Nat → LA := fun _ => []
abbrev uU : AV := .v undef

theorem lit0 (out b : Sl) (Q : Exit → List AV → World → Prop) (w : World) :
    vc Tryd.prog na (cA code24) Q [.v (.slice out.a out.n out.c), .v (.slice b.a b.n b.c), uU, uU, uU, uU, uU, uU, uU, uU, uU, uU, uU, uU, uU, uU, uU, uU, uU] w =
    nw w [.slice out.a out.n out.c] t_s_uint8 fun a2 w' => Q .normal [.v (.slice out.a out.n out.c), .v (.slice b.a b.n b.c), .v (.pointer (some a2)), uU, .v (.slice none 0 0), uU, uU, uU, uU, uU, uU, uU, uU, uU, uU, uU, uU, uU, uU] w' := by kernel_rfl
theorem lit1 (out b : Sl) (a2 : Addr) (Q : Exit → List AV → World → Prop) (w : World) :
    vc Tryd.prog na (cA (cA (cB code24))) Q [.v (.slice out.a out.n out.c), .v (.slice b.a b.n b.c), .v (.pointer (some a2)), uU, .v (.slice none 0 0), uU, uU, uU, uU, uU, uU, uU, uU, uU, uU, uU, uU, uU, uU] w =
    cl Tryd.prog n_slices_Chunk_byte_byte #[.slice b.a b.n b.c, .int .i64 128] .U w fun x7 w' => Q .normal [.v (.slice out.a out.n out.c), .v (.slice b.a b.n b.c), .v (.pointer (some a2)), uU, .v (.slice none 0 0), uU, .v (.slice b.a b.n b.c), .v x7, uU, uU, uU, uU, uU, uU, uU, uU, uU, uU, uU] w' := by kernel_rfl
noncomputable def rf24 : Code := cK (cB (cA (cB code24)))
noncomputable def opsL : Code → List Oper
  | .region _ ops _ => ops.toList
  | _ => []
noncomputable def opsB : List Oper := opsL (cK (cK rf24))
noncomputable def opsA : List Oper := opsL (cAsg rf24)
noncomputable def opsE : List Oper := opsL (cA (cB (cB code24)))
theorem k24 : Tryd.f46.body = some code24 := by kernel_rfl
theorem k24a : code24 = .seq (cA code24) (.seq (.seq (cA (cA (cB code24))) (.block 0 (.rangeFunc (.tmp 7) #[8] (.region 2 opsA.toArray false) (.block 1 (.region 3 opsB.toArray false))))) (.seq (.region 4 opsE.toArray false) .ret)) := by kernel_rfl
theorem nd24B : noDefer opsB = true := by kernel_rfl
theorem nd24A : noDefer opsA = true := by kernel_rfl
theorem res24 : Tryd.f46.results = #[.tmp 4] := by kernel_rfl
/-- The body of a round. -/
theorem litB (a2 : Addr) (p : Sl) (e0 e1 e3 e4 e6 e7 e8 e9 e10 e11 e12 e13 e14 e15 e16 e17 e18 : AV) (Q : World → Prop) (w : World) :
    opsVC Tryd.prog opsB (fun _ w' => Q w') opsB [e0, e1, .v (.pointer (some a2)), e3, e4, .v (.slice p.a p.n p.c), e6, e7, e8, e9, e10, e11, e12, e13, e14, e15, e16, e17, e18] w =
    ld .L w a2 fun (x9 : Sl) => nw w [.int .u8 (IntKind.u8.wrap (IntKind.i64.wrap ((p.n : Int) - 1)))] t_uint8 fun a14 w1 => app Tryd.prog t_s_uint8 t_s_uint8 x9 ⟨some a14, 1, 1⟩ w1 fun r15 w2 => app Tryd.prog t_s_uint8 t_s_uint8 r15 p w2 fun r17 w3 => st1 w3 a2 (.slice r17.a r17.n r17.c) fun w4 => Q w4 := by kernel_rfl
/-- The variables at a round. -/
def t24 (out b : Sl) (a2 : Addr) (f : Value) (p p8 : AV) : List AV := [.v (.slice out.a out.n out.c), .v (.slice b.a b.n b.c), .v (.pointer (some a2)), uU, .v (.slice none 0 0), p, .v (.slice b.a b.n b.c), .v f, p8, uU, uU, uU, uU, uU, uU, uU, uU, uU, uU]
theorem litA (out b : Sl) (a2 : Addr) (f : Value) (p : Sl) (Q : List AV → World → Prop) (w : World) :
    opsVC Tryd.prog opsA Q opsA (t24 out b a2 f uU (.v (.slice p.a p.n p.c))) w = Q (t24 out b a2 f (.v (.slice p.a p.n p.c)) (.v (.slice p.a p.n p.c))) w := by kernel_rfl
theorem actA (out b : Sl) (a2 : Addr) (f v : Value) : ({ tmps := ((#[8] : Array Tmp).zip #[v]).foldl (fun t (p, v) => t.setIfInBounds p v) (acts [.v (.slice out.a out.n out.c), .v (.slice b.a b.n b.c), .v (.pointer (some a2)), uU, .v (.slice none 0 0), uU, .v (.slice b.a b.n b.c), .v f, uU, uU, uU, uU, uU, uU, uU, uU, uU, uU, uU]).tmps, defers := [] } : Act) =
    acts (t24 out b a2 f uU (.v v)) := by kernel_rfl
theorem ndE : noDefer opsE = true := by kernel_rfl
theorem litE (out b : Sl) (a2 : Addr) (f : Value) (Q : List AV → World → Prop) (w : World) :
    opsVC Tryd.prog opsE Q opsE [.v (.slice out.a out.n out.c), .v (.slice b.a b.n b.c), .v (.pointer (some a2)), uU, .v (.slice none 0 0), uU, .v (.slice b.a b.n b.c), .v f, uU, uU, uU, uU, uU, uU, uU, uU, uU, uU, uU] w =
    ld .L w a2 fun (x : Sl) => Q [.v (.slice out.a out.n out.c), .v (.slice b.a b.n b.c), .v (.pointer (some a2)), uU, .v (.slice x.a x.n x.c), uU, .v (.slice b.a b.n b.c), .v f, uU, uU, uU, uU, uU, uU, uU, uU, uU, uU, .v (.slice x.a x.n x.c)] w := by kernel_rfl
theorem act24 (out b : Value) : ({ tmps := #[out, b] ++ Array.replicate (Tryd.f46.ntmps - #[out, b].size) undef, defers := [] } : Act) = acts [.v out, .v b, uU, uU, uU, uU, uU, uU, uU, uU, uU, uU, uU, uU, uU, uU, uU, uU, uU] := by kernel_rfl
theorem ch0 (y a1 a3 : AV) (Q : Exit → List AV → World → Prop) (w : World) :
    vc Tryd.prog na (cA code45) Q [y, a1, a3, uU, uU, uU, uU, uU, uU, uU, uU, uU, uU, uU, uU, uU, uU, uU, uU, uU, uU, uU, uU, uU, uU, uU, uU, uU, uU, uU, uU] w =
    Q .normal [y, a1, a3, uU, .v (.int .i64 0), uU, uU, uU, uU, uU, uU, uU, uU, uU, uU, uU, uU, uU, uU, uU, uU, uU, uU, uU, uU, uU, uU, uU, uU, uU, uU] w := by kernel_rfl
/-- The closure's variables. -/
def t45 (y : AV) (a1 a3 : Addr) (i : Int) (e : Nat → AV) : List AV := [y, .v (.pointer (some a1)), .v (.pointer (some a3)), e 3, .v (.int .i64 i), e 5, e 6, e 7, e 8, e 9, e 10, e 11, e 12, e 13, e 14, e 15, e 16, e 17, e 18, e 19, e 20, e 21, e 22, e 23, e 24, e 25, e 26, e 27, e 28, e 29, e 30]
noncomputable def loop45 : Code := cK (cK (cB code45))
theorem ch1 (y : AV) (a1 a3 : Addr) (i : Int) (e : Nat → AV) (Q : Exit → List AV → World → Prop) (w : World) :
    vc Tryd.prog na (cA (cA loop45)) Q (t45 y a1 a3 i e) w = ld .L w a1 fun (x7 : Sl) => Q .normal (t45 y a1 a3 i (up e [(6, .v (.int .i64 i)), (7, .v (.slice x7.a x7.n x7.c)), (8, .v (.int .i64 (x7.n : Int))), (9, .v (.bool (decide (i < (x7.n : Int)))))])) w := by kernel_rfl
theorem ch3 (y : AV) (a1 a3 : Addr) (i : Int) (e : Nat → AV) (Q : Exit → List AV → World → Prop) (w : World) :
    vc Tryd.prog na (cA (cK (cA (cB loop45)))) Q (t45 y a1 a3 i e) w = ld (.I .i64) w a3 fun (x13 : Int) => ld .L w a1 fun (x14 : Sl) => sls x14 i x14.n 1 fun r16 => dr w fun w2 => Q .normal (t45 y a1 a3 i (up e [(5, .v (.int .i64 (min x13 (r16.n : Int)))), (13, .v (.int .i64 x13)), (14, .v (.slice x14.a x14.n x14.c)), (15, .v (.int .i64 i)), (16, .v (.slice r16.a r16.n r16.c)), (17, .v (.int .i64 (r16.n : Int))), (18, .v (.int .i64 (min x13 (r16.n : Int))))])) w2 := by kernel_rfl
noncomputable def ops45 : List Oper := match cA (cB (cK (cA (cB loop45)))) with | .region _ ops _ => ops.toList | _ => []
theorem ch4 (y : AV) (a1 a3 : Addr) (i j : Int) (e : Nat → AV) (Q : List AV → World → Prop) (w : World) :
    opsVC Tryd.prog ops45 Q (ops45.take 10) (t45 y a1 a3 i (up e [(5, .v (.int .i64 j))])) w = ld .L w a1 fun (x20 : Sl) => qn Tryd.prog (Instr.sliceAt t_s_uint8 (.slice x20.a x20.n x20.c) (some (.int .i64 i)) (some (.int .i64 (IntKind.i64.wrap (i + j)))) (some (.int .i64 (IntKind.i64.wrap (i + j))))) .L w fun (r28 : Sl) => Q (t45 y a1 a3 i (up e [(5, .v (.int .i64 j)), (19, y), (20, .v (.slice x20.a x20.n x20.c)), (21, .v (.int .i64 i)), (22, .v (.int .i64 i)), (23, .v (.int .i64 j)), (24, .v (.int .i64 (IntKind.i64.wrap (i + j)))), (25, .v (.int .i64 i)), (26, .v (.int .i64 j)), (27, .v (.int .i64 (IntKind.i64.wrap (i + j)))), (28, .v (.slice r28.a r28.n r28.c))])) w := by kernel_rfl
theorem ch5 (y : AV) (a1 a3 : Addr) (i j : Int) (e : Nat → AV) (x20 r28 : Sl) (b : Bool) (Q : List AV → World → Prop) (w : World) :
    opsVC Tryd.prog ops45 Q (ops45.drop 11) (t45 y a1 a3 i (up e [(5, .v (.int .i64 j)), (19, y), (20, .v (.slice x20.a x20.n x20.c)), (21, .v (.int .i64 i)), (22, .v (.int .i64 i)), (23, .v (.int .i64 j)), (24, .v (.int .i64 (IntKind.i64.wrap (i + j)))), (25, .v (.int .i64 i)), (26, .v (.int .i64 j)), (27, .v (.int .i64 (IntKind.i64.wrap (i + j)))), (28, .v (.slice r28.a r28.n r28.c)), (29, .v (.bool b))])) w = Q (t45 y a1 a3 i (up e [(5, .v (.int .i64 j)), (19, y), (20, .v (.slice x20.a x20.n x20.c)), (21, .v (.int .i64 i)), (22, .v (.int .i64 i)), (23, .v (.int .i64 j)), (24, .v (.int .i64 (IntKind.i64.wrap (i + j)))), (25, .v (.int .i64 i)), (26, .v (.int .i64 j)), (27, .v (.int .i64 (IntKind.i64.wrap (i + j)))), (28, .v (.slice r28.a r28.n r28.c)), (29, .v (.bool b)), (30, .v (.bool (!b)))])) w := by kernel_rfl
theorem chP (y : AV) (a1 a3 : Addr) (i j : Int) (e : Nat → AV) (x20 r28 : Sl) (b : Bool) : (acts (t45 y a1 a3 i (up e [(5, .v (.int .i64 j)), (19, y), (20, .v (.slice x20.a x20.n x20.c)), (21, .v (.int .i64 i)), (22, .v (.int .i64 i)), (23, .v (.int .i64 j)), (24, .v (.int .i64 (IntKind.i64.wrap (i + j)))), (25, .v (.int .i64 i)), (26, .v (.int .i64 j)), (27, .v (.int .i64 (IntKind.i64.wrap (i + j)))), (28, .v (.slice r28.a r28.n r28.c))]))).put (some 29) (.bool b) = acts (t45 y a1 a3 i (up e [(5, .v (.int .i64 j)), (19, y), (20, .v (.slice x20.a x20.n x20.c)), (21, .v (.int .i64 i)), (22, .v (.int .i64 i)), (23, .v (.int .i64 j)), (24, .v (.int .i64 (IntKind.i64.wrap (i + j)))), (25, .v (.int .i64 i)), (26, .v (.int .i64 j)), (27, .v (.int .i64 (IntKind.i64.wrap (i + j)))), (28, .v (.slice r28.a r28.n r28.c)), (29, .v (.bool b))])) := by kernel_rfl
theorem ch2 (y : AV) (a1 a3 : Addr) (i : Int) (e : Nat → AV) (Q : Exit → List AV → World → Prop) (w : World) :
    vc Tryd.prog na (cB (cB loop45)) Q (t45 y a1 a3 i e) w = ld (.I .i64) w a3 fun (x11 : Int) => Q .normal (t45 y a1 a3 (IntKind.i64.wrap (i + x11)) (up e [(10, .v (.int .i64 i)), (11, .v (.int .i64 x11)), (12, .v (.int .i64 (IntKind.i64.wrap (i + x11))))])) w := by kernel_rfl
/- END OF FORMS -/
/-- The pieces' places. -/
abbrev Al (sn : Nat) := {k : Nat // 128 * k < sn}
def chk (s : Sl) (k : Nat) : Sl := ⟨s.a.map (·.add (128 * k)), min 128 (s.n - 128 * k), min 128 (s.n - 128 * k)⟩
def upto (sn : Nat) : Nat → List (Al sn)
  | 0 => []
  | k + 1 => upto sn k ++ (if h : 128 * k < sn then [⟨k, h⟩] else [])
theorem upto_le (sn : Nat) : ∀ k, (upto sn k).length ≤ k
  | 0 => Nat.le_refl _
  | k + 1 => by have := upto_le sn k; unfold upto; split <;> simp <;> omega
theorem t45_5 {y : AV} {a1 a3 : Addr} {i : Int} {e : Nat → AV} {v : AV} (h : e 5 = v) : t45 y a1 a3 i e = t45 y a1 a3 i (up e [(5, v)]) := by subst h; rfl
def enc1 (s : Sl) (x : Al s.n) : Array Value := #[.slice (chk s x.1).a (chk s x.1).n (chk s x.1).c]
noncomputable def blk45 : Code := cK (cA (cB loop45))
theorem k45 : Tryd.f76.body = some code45 := by kernel_rfl
theorem k45a : code45 = .seq (cA code45) (.block 0 (.loop loop45)) := by kernel_rfl
theorem k45b : loop45 = .seq (.seq (cA (cA loop45)) (.cond (.tmp 9) .skip (.exit 0))) (.seq (.block 1 blk45) (cB (cB loop45))) := by kernel_rfl
theorem k45c : blk45 = .seq (cA blk45) (.seq (.region 4 ops45.toArray false) (.cond (.tmp 30) .ret .skip)) := by kernel_rfl
noncomputable def yop : Oper := ops45[10]?.getD { dst := none, op := .move (.tmp 0), type := 0, pos := "", after := #[], guard := none }
theorem k45d : ops45.drop 10 = yop :: ops45.drop 11 := by kernel_rfl
theorem yop_op : yop.op = .call { callee := .value (.tmp 19), args := #[.tmp 28], argTypes := #[t_s_uint8] } := by kernel_rfl
theorem res45 : Tryd.f76.results = #[] := by kernel_rfl
theorem yop_guard : yop.guard = none := by kernel_rfl
theorem yop_dst : yop.dst = some 29 := by kernel_rfl
theorem nd45 : (ops45.all fun o => match o.op with | .defer _ => false | _ => true) = true := by kernel_rfl
theorem nd45' {o : Oper} (h : o ∈ ops45) (c : Call) : o.op ≠ .defer c := fun e => by
  have := List.all_eq_true.1 nd45 o h
  rw [e] at this
  cases this

theorem act45 (y : Value) (a1 a3 : Addr) : ({ tmps := (#[y] ++ #[.pointer (some a1), .pointer (some a3)]) ++ Array.replicate (Tryd.f76.ntmps - (#[y] ++ #[Value.pointer (some a1), .pointer (some a3)]).size) undef, defers := [] } : Act) =
    acts [.v y, .v (.pointer (some a1)), .v (.pointer (some a3)), uU, uU, uU, uU, uU, uU, uU, uU, uU, uU, uU, uU, uU, uU, uU, uU, uU, uU, uU, uU, uU, uU, uU, uU, uU, uU, uU, uU] := by kernel_rfl
def mu45 (sn : Nat) (a : Act) (_ : World) : Nat := match a.tmps[4]? with
  | some (Value.int _ i) => ((sn : Int) + 256 - i).toNat
  | _ => 0
theorem chunk_stops {n : Nat} (s : Sl) (hcap : s.n ≤ s.c) (hlen : s.n ≤ 1099511627776) {a1 a3 : Nat} {w0 : World} (h1 : w0.heap[a1]? = some (.cells #[.slice s.a s.n s.c] t_s_uint8 (0, 0))) (h3 : w0.heap[a3]? = some (.cells #[.int .i64 128] t_int (0, 0))) :
    SeqStopsK Fence.wide n Tryd.prog n_slices_Chunk_byte_byte_1 #[.pointer (some ⟨a1, 0, none⟩), .pointer (some ⟨a3, 0, none⟩)] (enc1 s) (fun W W' => W'.heap[a1]? = W.heap[a1]? ∧ W'.heap[a3]? = W.heap[a3]?)
      (fun xs => ∃ m, s.n ≤ 128 * m ∧ xs = upto s.n m) (fun _ => True) (s.n + 1) w0 := by
  intro l J Jx W hW hJ hJx hY h0
  have c1 : W.heap[a1]? = some (.cells #[.slice s.a s.n s.c] t_s_uint8 (0, 0)) := (hW.block a1 (Array.getElem?_eq_some_iff.1 h1).1).trans h1
  have c3 : W.heap[a3]? = some (.cells #[.int .i64 128] t_int (0, 0)) := (hW.block a3 (Array.getElem?_eq_some_iff.1 h3).1).trans h3
  refine callsIn_of_wp (c := code45) Tryd.func76 k45 trivial ?_ rfl
  rw [k45a]
  rw [act45]
  refine wpIn_seq (inW (an := na) (by kernel_rfl) ?_)
  rw [ch0]
  show (Code.block 0 (.loop loop45)).wpIn _ _ _ _ (acts (t45 (.v (.func (.yield l) #[] #[])) ⟨a1, 0, none⟩ ⟨a3, 0, none⟩ 0 fun _ => uU)) W
  refine wpIn_block (wpIn_loop (fun a W' => ∃ (k : Nat) (e : Nat → AV), a = acts (t45 (.v (.func (.yield l) #[] #[])) ⟨a1, 0, none⟩ ⟨a3, 0, none⟩ ((128 * k : Nat) : Int) e) ∧ 128 * k ≤ s.n + 128 ∧ J (upto s.n k) W' ∧ W'.heap[a1]? = W.heap[a1]? ∧ W'.heap[a3]? = W.heap[a3]?)
    (mu45 s.n) ⟨0, _, rfl, by omega, h0, rfl, rfl⟩ ?_)
  rintro _ W1 ⟨k, e, rfl, hk, hJ1, k1, k3⟩
  have c1 := k1.trans c1
  have c3 := k3.trans c3
  rw [k45b]
  refine wpIn_seq (wpIn_seq (inW (an := na) (by kernel_rfl) ?_))
  rw [ch1]
  refine ldL0 c1 rfl ?_
  generalize hE : up e _ = E
  have hE9 : E 9 = .v (.bool (decide (((128 * k : Nat) : Int) < (s.n : Int)))) := by rw [← hE]; rfl
  have ev9 : (acts (t45 (.v (.func (.yield l) #[] #[])) ⟨a1, 0, none⟩ ⟨a3, 0, none⟩ ((128 * k : Nat) : Int) E)).eval (.tmp 9) = .bool (decide (((128 * k : Nat) : Int) < (s.n : Int))) := by
    show (E 9).val = _
    rw [hE9]
    rfl
  by_cases hlt : ((128 * k : Nat) : Int) < (s.n : Int)
  · rw [decide_eq_true hlt] at ev9
    refine wpIn_cond_true ev9 (wpIn_skip ?_)
    have hks : 128 * k < s.n := by omega
    refine wpIn_seq (wpIn_block ?_)
    rw [k45c]
    clear hE hE9 ev9
    refine wpIn_seq (inW (an := na) (by kernel_rfl) ?_)
    show vc Tryd.prog na (cA (cK (cA (cB loop45)))) _ _ _
    rw [ch3]
    refine ldI0 c3 rfl ?_
    refine ldL0 c1 rfl ?_
    refine ⟨by omega, by omega, by omega, ?_⟩
    intro n2
    have hJ2 : J (upto s.n k) (W1.drewN n2) := hJ _ _ _ none hJ1 ⟨rfl, rfl, rfl, Nat.le_refl _, fun _ _ _ => rfl⟩ (fun r h => by cases h)
    have c1 : (W1.drewN n2).heap[a1]? = some (.cells #[.slice s.a s.n s.c] t_s_uint8 (0, 0)) := c1
    have c3 : (W1.drewN n2).heap[a3]? = some (.cells #[.int .i64 128] t_int (0, 0)) := c3
    have k1 : (W1.drewN n2).heap[a1]? = W.heap[a1]? := k1
    have k3 : (W1.drewN n2).heap[a3]? = W.heap[a3]? := k3
    generalize W1.drewN n2 = W2 at *
    generalize hE3 : up E _ = E3
    have hj : (min 128 ((cut s ((128 * k : Nat) : Int).toNat (s.n : Int).toNat 1).n : Int)) = ((min 128 (s.n - 128 * k) : Nat) : Int) := by
      show min 128 (((s.n : Int).toNat - ((128 * k : Nat) : Int).toNat : Nat) : Int) = _
      omega
    have h5 : E3 5 = .v (.int .i64 ((min 128 (s.n - 128 * k) : Nat) : Int)) := by
      rw [← hj, ← hE3]
      rfl
    clear hE3
    rw [t45_5 h5]
    refine wpIn_seq (wpIn_region_lit ?_)
    suffices h : wpListIn (wr none) n Tryd.prog ops45.toArray _ (ops45.take 10 ++ ops45.drop 10) _ _ by
      rw [List.take_append_drop] at h
      exact h
    refine wpListIn_app (opsW (by kernel_rfl) (fun o ho c => nd45' (List.mem_of_mem_take ho) c) (by rintro ⟨a, w, ⟨v, hv⟩, _⟩; cases hv) ?_)
    rw [ch4]
    refine ldL0 c1 rfl ?_
    have hw : IntKind.i64.wrap (((128 * k : Nat) : Int) + ((min 128 (s.n - 128 * k) : Nat) : Int)) = ((128 * k + min 128 (s.n - 128 * k) : Nat) : Int) := by
      rw [i64w (by omega) (by omega)]; omega
    refine ⟨chk s k, fun w' _ => ?_, ?_⟩
    · rw [hw]
      have := run_sls3 slB w' s (lo := some (.int .i64 ((128 * k : Nat) : Int))) (l := ((128 * k : Nat) : Int)) (h := ((128 * k + min 128 (s.n - 128 * k) : Nat) : Int)) (.inr rfl) (by omega) (by omega) (by omega)
      rw [Int.toNat_natCast, Int.toNat_natCast, if_neg (by omega), Nat.add_sub_cancel_left] at this
      exact this
    obtain ⟨fn, tmps, assign, body, hy, hR⟩ := hY (upto s.n k) ⟨k, hks⟩ W2 hJ2 (by have := upto_le s.n k; omega)
    show wpListIn (wr none) n Tryd.prog ops45.toArray _ (ops45.drop 10) _ W2
    rw [k45d, wpListIn, if_pos (by rw [Region.wanted, yop_guard])]
    refine ⟨fun _ _ => trivial, ?_⟩
    show yop.uponIn _ _ _ _ _ _ ((yop.semAt none _).run Tryd.prog W2)
    rw [Oper.semAt_none, run_yieldOp yop_op (l := l) (v := .slice (chk s k).a (chk s k).n (chk s k).c) rfl rfl]
    have hy' : (Instr.yield l #[.slice (chk s k).a (chk s k).n (chk s k).c]).run Tryd.prog W2 = _ := hy
    rw [hy', Oper.uponIn_round]
    refine ⟨fun h => by simp [wr, Fence.wide] at h, RoundIn.mono hR ?_⟩
    rintro e1 W3 (⟨rfl, hJ3, q1, q3⟩ | ⟨rfl, hJx3⟩)
    · show wpListIn (wr none) n Tryd.prog ops45.toArray _ (ops45.drop 11) ((acts _).put yop.dst (.bool true)) W3
      rw [yop_dst, chP]
      refine opsW (by kernel_rfl) (fun o ho c => nd45' (List.mem_of_mem_drop ho) c) (by rintro ⟨a, w, ⟨v, hv⟩, _⟩; cases hv) ?_
      rw [ch5]
      refine wpIn_cond_false rfl (wpIn_skip ?_)
      show (cB (cB loop45)).wpIn _ _ _ _ _ _
      refine inW (an := na) (by kernel_rfl) ?_
      rw [ch2]
      refine ldI0 (q3.trans c3) rfl ?_
      have hw2 : IntKind.i64.wrap (((128 * k : Nat) : Int) + 128) = ((128 * (k + 1) : Nat) : Int) := by
        rw [i64w (by omega) (by omega)]; omega
      rw [hw2]
      refine ⟨⟨k + 1, _, rfl, by omega, ?_, q1.trans k1, q3.trans k3⟩, ?_⟩
      · rw [upto, dif_pos hks]; exact hJ3
      · show ((s.n : Int) + 256 - ((128 * (k + 1) : Nat) : Int)).toNat < ((s.n : Int) + 256 - ((128 * k : Nat) : Int)).toNat
        omega
    · show wpListIn (wr none) n Tryd.prog ops45.toArray _ (ops45.drop 11) ((acts _).put yop.dst (.bool false)) W3
      rw [yop_dst, chP]
      refine opsW (by kernel_rfl) (fun o ho c => nd45' (List.mem_of_mem_drop ho) c) (by rintro ⟨a, w, ⟨v, hv⟩, _⟩; cases hv) ?_
      rw [ch5]
      refine wpIn_cond_true rfl (wpIn_ret ?_)
      simp only [Exit.inBlock, Exit.then]
      exact bodyPost_ret (results_none res45 _ _ _) rfl ⟨⟨_, rfl⟩, .inr ⟨_, trivial, hJx3⟩⟩
  · rw [decide_eq_false hlt] at ev9
    refine wpIn_cond_false ev9 (wpIn_exit ?_)
    simp only [Exit.inBlock, Exit.then, if_true]
    exact bodyPost_end (results_none res45 _ _ _) rfl ⟨⟨_, rfl⟩, .inl ⟨_, ⟨k, by omega, rfl⟩, hJ1⟩⟩
theorem Chunk_ok {s : Sl} {w : World} : cl Tryd.prog n_slices_Chunk_byte_byte #[.slice s.a s.n s.c, .int .i64 128] .U w fun (x : Value) w' =>
    ∃ a1 a3, x = .func (.func n_slices_Chunk_byte_byte_1) #[] #[.pointer (some ⟨a1, 0, none⟩), .pointer (some ⟨a3, 0, none⟩)] ∧ w'.heap[a1]? = some (.cells #[.slice s.a s.n s.c] t_s_uint8 (0, 0)) ∧ w'.heap[a3]? = some (.cells #[.int .i64 128] t_int (0, 0)) ∧ w.heap.size ≤ a1 ∧ w.heap.size ≤ a3 ∧ Fr w w' := by
  refine slices_Chunk_byte_byte.cl ?_
  unfold slices_Chunk_byte_byte
  refine nwI fun a1 w2 ha1 hs1 hf1 hb1 _ => ?_
  refine nwI fun a3 w4 ha3 hs3 hf3 hb3 _ => ?_
  have hf := hf1.trans hf3
  refine ldI0 hb3 rfl ?_
  exact bN (by decide) ⟨a1, a3, rfl, hf3.heap hb1, hb3, by omega, by omega, hf⟩
def toks {sn : Nat} (b : List UInt8) (xs : List (Al sn)) : List UInt8 := xs.flatMap fun x => tokF b x.1
theorem toks_upto {sn : Nat} {b : List UInt8} (hn : sn = b.length) : ∀ k, toks b (upto sn k) ++ plainS (b.drop (128 * k)) = plainS b
  | 0 => rfl
  | k + 1 => by
    subst hn
    rw [upto]
    by_cases h : 128 * k < b.length
    · rw [dif_pos h]
      have ih := toks_upto (b := b) rfl k
      rw [plainS_tok h] at ih
      unfold toks at ih ⊢
      rw [List.flatMap_append, List.append_assoc]
      simpa using ih
    · rw [dif_neg h, List.append_nil]
      have ih := toks_upto (b := b) rfl k
      rw [List.drop_eq_nil_of_le (by omega)] at ih ⊢
      exact ih
theorem toks_len {sn : Nat} (b : List UInt8) : ∀ xs : List (Al sn), (toks b xs).length ≤ 129 * xs.length
  | [] => Nat.le_refl _
  | x :: xs => by
    have := toks_len b xs
    unfold toks at this ⊢
    rw [List.flatMap_cons, List.length_append, List.length_cons]
    have h1 : (tokF b x.1).length ≤ 129 := by unfold tokF; rw [List.length_cons, List.length_take]; omega
    omega
/-- What holds between two rounds. -/
def litI (w0 : World) (base Bx a1 a3 : Nat) (o b : List UInt8) (sb : Sl) {sn : Nat} (pre : List (Al sn)) (W : World) : Prop :=
  ∃ r : Sl, W.heap[Bx]? = some (.cells #[.slice r.a r.n r.c] t_s_uint8 (0, 0)) ∧ OwB W base t_uint8 r (o ++ toks b pre) ∧ (∀ k, (Value.slice r.a r.n r.c).ownBlock = some k → k ≠ Bx ∧ k ≠ a1 ∧ k ≠ a3) ∧ Bs W sb b ∧ Below base w0 W
theorem litI_own {w0 : World} {base Bx a1 a3 B : Nat} {o b : List UInt8} {sb : Sl} (hB : base ≤ B) (h0 : base ≤ w0.heap.size) (hold : b ≠ [] → ∀ ad, sb.a = some ad → ad.block < base) : OwnFrom B (litI w0 base Bx a1 a3 o b sb (sn := sb.n)) := by
  rintro s W W' row ⟨r, h1, h2, h3, h4, h5⟩ hg hr
  have keep : ∀ (k : Nat) (cs : Array Value) (t : TypeId) (f : Nat × Nat), W.heap[k]? = some (.cells cs t f) → W'.heap[k]? = W.heap[k]? := fun k cs t f hk =>
    hg.block k (Array.getElem?_eq_some_iff.1 hk).1 fun e => by
      obtain ⟨_, ob, hob, hc⟩ := hr k e.symm
      rw [hk] at hob
      cases hob
      cases hc
  refine ⟨r, (keep _ _ _ _ h1).trans h1, ?_, h3, ?_, ?_⟩
  · refine h2.kp (S := fun k => W'.heap[k]? = W.heap[k]?) (fun k _ hk => hk) fun ad had => ?_
    rcases h2.2 with ⟨hv, _⟩ | ⟨g, cap, cur, hv, _, hgg, _⟩
    · rw [had] at hv; cases hv
    · rw [had] at hv; injection hv with hv; cases hv; exact keep _ _ _ _ hgg
  · refine h4.kpn (S := fun k => k < base) (fun k hk hkb => hg.block k hk fun e => ?_) hold
    have := (hr k e.symm).1
    omega
  · exact h5.grown hg (Nat.le_trans h0 h5.size) (fun k hk => by have := (hr k hk).1; omega)
theorem chunk_bs {w : World} {sb : Sl} {b : List UInt8} (h : Bs w sb b) {k : Nat} (hk : 128 * k < b.length) : Bs w (chk sb k) ((b.drop (128 * k)).take 128) := by
  have hn := h.len
  have hc := h.cap
  obtain ⟨hr, hl, _⟩ := h.cut (i := 128 * k) (j := 128 * k + min 128 (b.length - 128 * k)) (by omega) (by omega)
  have e : (b.take (128 * k + min 128 (b.length - 128 * k))).drop (128 * k) = (b.drop (128 * k)).take 128 := by
    rw [List.drop_take, Nat.add_sub_cancel_left]
    apply List.take_eq_take_iff.2
    rw [List.length_drop]
    omega
  rw [e] at hr
  unfold chk
  refine ⟨?_, by show min 128 (sb.n - 128 * k) = _; rw [List.length_take, List.length_drop]; omega, Nat.le_refl _⟩
  unfold Fl.cut at hr
  rw [if_neg (by omega)] at hr
  exact hr
theorem literals_ok {so sb : Sl} {base : Nat} {o b : List UInt8} {w : World} (ho : OwB w base t_uint8 so o) (hb : Bs w sb b) (hold : b ≠ [] → ∀ ad, sb.a = some ad → ad.block < base) (hbase : base ≤ w.heap.size) (hlb : b.length ≤ 137438953472) (hlo : o.length ≤ 35184372088832) :
    cl Tryd.prog n_lz_literals #[.slice so.a so.n so.c, .slice sb.a sb.n sb.c] .L w fun (r : Sl) w' => OwB w' base t_uint8 r (o ++ plainS b) ∧ Below base w w' := by
  have hn := hb.len
  refine (callsIn_wide (n := 3)).1 ?_
  refine callsIn_of_wp_marks (c := code24) Tryd.func46 k24 trivial ?_ rfl
  rw [k24a, act24]
  refine wpIn_seq (inW (an := na) (by kernel_rfl) ?_)
  rw [lit0]
  refine nwI fun Bx w1 hBx hs1 hf1 hblk1 _ => ?_
  refine wpIn_seq (wpIn_seq (inW (an := na) (by kernel_rfl) ?_))
  rw [lit1]
  refine (Chunk_ok (s := sb) (w := w1)).mono ?_
  rintro x7 w2 ⟨a1, a3, rfl, c1, c3, g1, g3, hf2⟩
  have hf := hf1.trans hf2
  have hh := hf.size
  have hBx2 := hf2.heap hblk1
  have l1 := (Array.getElem?_eq_some_iff.1 c1).1
  have l3 := (Array.getElem?_eq_some_iff.1 c3).1
  refine wpIn_block ?_
  refine wpIn_rangeFunc_ownF rfl (by decide) (gf := n_slices_Chunk_byte_byte_1) (lb := #[.pointer (some ⟨a1, 0, none⟩), .pointer (some ⟨a3, 0, none⟩)]) rfl trivial (enters_of Tryd.func76 (by kernel_rfl) k45)
    (chunk_stops sb hb.cap (by omega) c1 c3) (fun h k => ⟨k.1.trans h.1, k.2.trans h.2⟩) ?_ (Below.refl _ _) (fun _ => rfl)
    (litI w2 base Bx a1 a3 o b sb) (fun _ _ _ => False) (litI_own (by omega) (by omega) hold) (fun _ _ _ _ _ h _ _ => h) ?_
    (fun x => acts (t24 so sb ⟨Bx, 0, none⟩ (.func (.func n_slices_Chunk_byte_byte_1) #[] #[.pointer (some ⟨a1, 0, none⟩), .pointer (some ⟨a3, 0, none⟩)]) (.v (.slice (chk sb x.1).a (chk sb x.1).n (chk sb x.1).c)) (.v (.slice (chk sb x.1).a (chk sb x.1).n (chk sb x.1).c)))) ?assign ?body ?done ?stop
  · intro W l ob ob' hl _ _ _
    have e1 : l ≠ a1 := by omega
    have e3 : l ≠ a3 := by omega
    exact ⟨World.putObj_heap_other (Ne.symm e1), World.putObj_heap_other (Ne.symm e3)⟩
  · refine ⟨so, hBx2, ?_, fun k hk => ?_, hb.fr hf, Below.refl _ _⟩
    · have := ho.fr hf
      simpa [toks] using this
    · have := (ho.block k hk).2
      omega
  case assign =>
    intro l x W K hK
    rw [show enc1 sb x = #[.slice (chk sb x.1).a (chk sb x.1).n (chk sb x.1).c] from rfl, actA]
    refine inR (by kernel_rfl) (fun o ho c => noDefer_of nd24A ho c) (by rintro ⟨a, w, h⟩; exact h) ?_
    rw [litA]
    exact hK
  case body =>
    rintro l pre x W ⟨r, hB, hr, hne, hb', hlow⟩ hlen
    refine wpIn_block ?_
    refine inR (by kernel_rfl) (fun o ho c => noDefer_of nd24B ho c) (by rintro ⟨a, w, h⟩; exact h) ?_
    have hx : 128 * x.1 < b.length := by have := x.2; omega
    have htl := toks_len b pre
    have hch := chunk_bs hb' hx
    have hcl := hch.len
    rw [List.length_take, List.length_drop] at hcl
    show opsVC Tryd.prog opsB (fun _ w' => KeepsOthers W w' ∧ (w'.heap[a1]? = W.heap[a1]? ∧ w'.heap[a3]? = W.heap[a3]?) ∧ litI w2 base Bx a1 a3 o b sb (pre ++ [x]) w') opsB _ W
    unfold t24
    rw [litB]
    refine ldL0 hB rfl ?_
    have hsz := hlow.size
    have hlW := hb'.lt
    refine nwI fun a14 w3 ha14 hs14 hf14 hblk14 hrd14 => ?_
    have hc14 : IntKind.u8.wrap (IntKind.i64.wrap (((chk sb x.1).n : Int) - 1)) = ((UInt8.ofNat (min 128 (b.length - 128 * x.1) - 1)).toNat : Int) := by
      rw [i64w (by omega) (by omega), u8w, u8_ofNat]
      omega
    rw [hc14] at hrd14 hblk14
    refine app_B slB (base := base) (m := [UInt8.ofNat (min 128 (b.length - 128 * x.1) - 1)]) (hr.fr hf14) hrd14 rfl (by rw [List.length_append]; simp; omega) (by have := hf14.size; omega) fun r15 w4 h15 hb15 hk15 hat15 => ?_
    have hch4 : Bs w4 (chk sb x.1) ((b.drop (128 * x.1)).take 128) := by
      refine hch.kpn (S := fun k => k < base) (fun k hk hkb => (hb15.block k hkb).trans (hf14.block k hk)) fun hne' ad had => ?_
      unfold chk at had
      cases hsa : sb.a with
      | none => rw [hsa] at had; cases had
      | some ad' =>
        rw [hsa] at had
        simp only [Option.map_some, Option.some.injEq] at had
        rw [← had, add_block]
        exact hold (fun e => by rw [e] at hx; simp at hx) ad' hsa
    have hs15 := hb15.size
    refine app_B slB (base := base) h15 hch4.rd hch4.len.symm (by simp only [List.length_append, List.length_cons, List.length_nil, List.length_take, List.length_drop]; omega) (by have := hf14.size; omega) fun r17 w5 h17 hb17 hk17 hat17 => ?_
    have hlt14 := hf14.size
    have hs17 := hb17.size
    have own_lt : ∀ k, (Value.slice r.a r.n r.c).ownBlock = some k → k < W.heap.size := fun k hk => (hr.block k hk).2
    have ne15 : ∀ k, k < W.heap.size → (Value.slice r.a r.n r.c).ownBlock ≠ some k → (Value.slice r15.a r15.n r15.c).ownBlock ≠ some k := fun k hk hne e => by
      rcases hat15 with h | h
      · rw [h] at e; exact hne e
      · rw [h] at e; cases e; omega
    have kk : ∀ k, k < W.heap.size → (Value.slice r.a r.n r.c).ownBlock ≠ some k → w5.heap[k]? = W.heap[k]? := fun k hk hne => by
      rw [hk17 k (by omega) (ne15 k hk hne), hk15 k (by omega) hne, hf14.block k hk]
    have hBl := (Array.getElem?_eq_some_iff.1 hB).1
    have hBne : (Value.slice r.a r.n r.c).ownBlock ≠ some Bx := fun e => (hne Bx e).1 rfl
    refine st0 ((kk Bx hBl hBne).trans hB) (by simp) fun w6 hb6 hg6 hs6 => ?_
    have k6 : ∀ k, k < W.heap.size → k ≠ Bx → (Value.slice r.a r.n r.c).ownBlock ≠ some k → w6.heap[k]? = W.heap[k]? := fun k hk hB' hne => by
      rw [hg6.block k (by omega) (by simp; omega)]; exact kk k hk hne
    have hL6 : Below base W w6 := (((hf14.mono (by omega)).trans hb15).trans hb17).grown hg6 (by omega) (fun k hk => by cases hk; omega)
    have hne17 : ∀ k, (Value.slice r17.a r17.n r17.c).ownBlock = some k → k ≠ Bx ∧ k ≠ a1 ∧ k ≠ a3 := fun k hk => by
      rcases hat17 with h | h
      · rw [h] at hk
        rcases hat15 with h' | h'
        · rw [h'] at hk; exact hne k hk
        · rw [h'] at hk; cases hk; omega
      · rw [h] at hk; cases hk; omega
    refine ⟨⟨by omega, fun k ob hk ho' => ?_⟩, ⟨k6 a1 (by omega) (by omega) fun e => (hne a1 e).2.1 rfl, k6 a3 (by omega) (by omega) fun e => (hne a3 e).2.2 rfl⟩, ⟨r17, ?_, ?_, hne17, ?_, hlow.trans hL6⟩⟩
    · rw [k6 k (Array.getElem?_eq_some_iff.1 hk).1 (fun e => by rw [e, hB] at hk; cases hk; cases ho') (fun e => ?_)]
      · exact hk
      · rcases hr.2 with ⟨hv, _⟩ | ⟨g, cap, cur, hv, _, hgg, _⟩
        · rw [hv] at e; cases e
        · rw [hv] at e; cases e; rw [hgg] at hk; cases hk; cases ho'
    · simpa using hb6
    · have ht : o ++ toks b (pre ++ [x]) = o ++ toks b pre ++ [UInt8.ofNat (min 128 (b.length - 128 * x.1) - 1)] ++ (b.drop (128 * x.1)).take 128 := by
        unfold toks
        rw [List.flatMap_append]
        simp [tokF]
      rw [ht]
      exact h17.kp (S := fun k => k ≠ Bx) (fun k hk hkB => hg6.block k hk (by simp; omega)) fun ad had => (hne17 ad.block (by rw [had]; rfl)).1
    · exact hb'.kpn (S := fun k => k < base) (fun k _ hk => hL6.block k hk) hold
  case done =>
    rintro D ys W hD ⟨m, hm, rfl⟩ hI hK
    obtain ⟨r', hB', hr', hne', hb'', hlow'⟩ := (litI_own (w0 := w2) (base := base) (Bx := Bx) (a1 := a1) (a3 := a3) (B := w2.heap.size) (o := o) (b := b) (sb := sb) (by omega) (by omega) hold).putObj (.deferred none) hI hD hK rfl
    obtain ⟨r, hB, hr, hne, hb', hlow⟩ := hI
    have hrr : r' = r := by
      have e : (W.putObj D (.deferred none)).heap[Bx]? = W.heap[Bx]? := World.putObj_heap_other (by have := (Array.getElem?_eq_some_iff.1 hBx2).1; omega)
      rw [e, hB] at hB'
      simp only [Option.some.injEq, Obj.cells.injEq, Array.mk.injEq, List.cons.injEq, Value.slice.injEq, and_true] at hB'
      obtain ⟨e1, e2, e3⟩ := hB'
      cases r; cases r'; simp_all
    subst hrr
    simp only [Exit.inBlock, Exit.then]
    show (Code.seq (.region 4 opsE.toArray false) .ret).wpIn _ _ _ _ (more [{ target := .collected D, args := #[] }] (acts _)) W
    refine wpIn_seq (wpIn_region_lit (listIn_more (opsW (r := none) (by kernel_rfl) (fun o ho c => noDefer_of ndE ho c) ?_ ?_)))
    · rintro ⟨a, w, x, hx, _⟩
      cases hx
    · rw [litE]
      refine ldL0 hB rfl ?_
      refine wpIn_ret ?_
      refine ⟨by simp, .inl ⟨_, _, rfl, run_takeDeferred hK, ?_⟩⟩
      refine ⟨_, results_tmp res24 _ _ _, r', rfl, ?_, (hf.mono hbase).trans hlow'⟩
      have e := toks_upto (b := b) hn m
      rw [List.drop_eq_nil_of_le (by omega), plainS_nil, List.append_nil] at e
      rw [← e]
      exact hr'
  case stop =>
    rintro D c pre W _ _ h _
    exact h.elim
end Go.Proofs.YtkojpppnjloikaaDoor
namespace Go.Proofs.YtkojpppnjloikaaDoor
open Go.RowKit Go.Fl

theorem bestS_lt {b : List UInt8} {p : Nat} : (bestS b p).2 < 3 ↔ (longS b p).2 < 3 := by
  unfold bestS filt
  split
  · rename_i h; exact ⟨fun _ => h, fun _ => by decide⟩
  · exact Iff.rfl
theorem bestS_eq {b : List UInt8} {p : Nat} (h : ¬(longS b p).2 < 3) : bestS b p = longS b p := by unfold bestS filt; rw [if_neg h]
theorem chn_new {sb : Sl} {b : List UInt8} {w0 w1 w2 w3 : World} {r g c : Nat} (hb : Bs w0 sb b) (h1 : w1 = w0.alloc (.map #[] 0)) (hr : r = w0.heap.size) (hg : w2.heap[g]? = some (.cells (List.replicate b.length (Value.int .i64 0)).toArray t_int (0, 0))) (hgr : g = w1.heap.size) (hf2 : Fr w1 w2)
    (hc : w3.heap[c]? = some (.cells #[.slice sb.a sb.n sb.c, .map (some r), .slice (some ⟨g, 0, none⟩) b.length b.length] t_lz_chains (0, 0))) (hcw : c = w2.heap.size) (hf3 : Fr w2 w3) : Chn w3 c sb b r g 0 := by
  subst h1 hr
  have hf1 : Fr w0 (w0.alloc (.map #[] 0)) := Fr.alloc _ _
  have hs1 : (w0.alloc (.map #[] 0)).heap.size = w0.heap.size + 1 := by simp
  have hm := MapF.new w0 (keyB (n := 3))
  have hgl := (Array.getElem?_eq_some_iff.1 hg).1
  refine ⟨hc, ((hb.fr hf1).fr hf2).fr hf3, hb.lt, ?_, ?_, by omega, by omega⟩
  · have : headF b 0 = fun _ => none := by funext k; unfold headF lastP; rfl
    rw [this]
    exact hm.sub ((hf3.block _ (by omega)).trans (hf2.block _ (by omega)))
  · have : prevL b 0 = List.replicate b.length (Value.int .i64 0) := by
      unfold prevL
      apply List.ext_getElem?
      intro i
      rw [List.getElem?_map, List.getElem?_replicate]
      by_cases hi : i < b.length
      · rw [List.getElem?_range hi, if_pos hi]; simp
      · rw [List.getElem?_eq_none (by simp; omega), if_neg hi]; rfl
    rw [this]
    exact (hf3.block g hgl).trans hg
theorem Shorten_ok {s : Sl} {b : List UInt8} {w : World} (hs : Bs w s b) (hl : b.length ≤ 1073741824) :
    cl Tryd.prog n_lz_Shorten #[.slice s.a s.n s.c] .L w fun (r : Sl) w' => OwB w' w.heap.size t_uint8 r (shortS b) ∧ Fr w w' := by
  refine lz_Shorten.cl ?_
  unfold lz_Shorten
  have hn := hs.len
  refine ⟨some w.heap.size, w.alloc (.map #[] 0), run_makeMap _ _, ?_⟩
  have hf1 : Fr w (w.alloc (.map #[] 0)) := Fr.alloc _ _
  refine mksN (z := .int .i64 0) (bytes := 8) u_s_int (by kernel_rfl) rfl w.heap.size b.length (by omega) (by omega) (by omega) hf1.size fun w4 ho4 hg4 hs4 hf4 => ?_
  refine nwI fun c w6 hc hs6 hf6 hc6 _ => ?_
  have hC := chn_new (sb := s) (b := b) (w0 := w) hs rfl rfl hg4 rfl hf4 hc6 hc hf6
  have hf : Fr w w6 := (hf1.trans hf4).trans hf6
  have hcw : w.heap.size ≤ c := by have := (hf1.trans hf4).size; omega
  have hold := hC.old
  have hrg := hC.rg
  have hgc := hC.gc
  generalize (w.alloc (.map #[] 0)).heap.size = g at *
  clear hg4 hs4 hs6 ho4
  have sub : ∀ {w' : World} {r : Sl}, (∀ ad, r.a = some ad → ∃ ad', s.a = some ad' ∧ ad.block = ad'.block) → ∀ {l : List UInt8}, (l ≠ [] → b ≠ []) → l ≠ [] → ∀ ad, r.a = some ad → ad.block < c + 1 := fun {w' r} h {l} hlb hl0 ad ha => by
    obtain ⟨ad', h1, h2⟩ := h ad ha
    have := hold (hlb hl0) ad' h1
    omega
  refine lpI (fun s' w' => Fr w w' ∧ ∃ (lo p : Nat) (o : List UInt8), lo ≤ p ∧ p ≤ b.length ∧ s'.2.1 = lo ∧ s'.2.2.1 = p ∧ o.length ≤ 20 * lo ∧ OwB w' (c + 1) t_uint8 s'.1 o ∧ Chn w' c s b w.heap.size g p ∧ o ++ shortF b (b.length + 1 - p) lo p = shortS b) (fun s' _ => (b.length - s'.2.2.1).toNat)
    ⟨hf, 0, 0, [], Nat.le_refl _, Nat.zero_le _, rfl, rfl, by simp, OwB.nil _ _ _, hC, rfl⟩ ?_
  clear hC hc6 hf6 hf4 hf1 hf
  rintro _ ⟨out, from', p', ⟨⟩⟩ w8 ⟨hf8, lo, p, o, hlo, hp, rfl, rfl, hol, ho, hC, heq⟩
  dsimp only at ho ⊢
  have hfit := bestS_fits hp
  have hclt := hC.lt
  refine bD ?_ ?_ <;> intro hlt
  · have hpl : p < b.length := by omega
    rw [show b.length + 1 - p = (b.length - p) + 1 from by omega, shortF, if_pos hpl] at heq
    refine (best_ok hC hp (by omega)).mono ?_
    rintro _ w12 ⟨rfl, hf12⟩
    dsimp only
    have ho := ho.fr hf12
    have hC := hC.fr hf12
    have hf12' := hf8.trans hf12
    have hsz := hf12'.size
    refine bD ?_ ?_ <;> intro h3
    · rw [if_pos (bestS_lt.1 (by omega))] at heq
      refine (put_ok hC hp (by omega)).mono ?_
      rintro _ w14 ⟨hC14, hB14, hK14⟩
      rw [i64w (by omega) (by omega)]
      refine ⟨⟨hf12'.on hB14, lo, p + 1, o, by omega, by omega, rfl, by simp, hol, ho.kp hK14 (fun ad had => by have := (ho.own ad had).1; omega), hC14, ?_⟩, by omega⟩
      rw [← heq, show b.length + 1 - (p + 1) = b.length - p from by omega]
    · have hl3 : ¬(longS b p).2 < 3 := fun h => h3 (by have := bestS_lt.2 h; omega)
      rw [if_neg hl3, ← bestS_eq hl3] at heq
      generalize (bestS b p).2 = n at *
      generalize (bestS b p).1 = back at *
      have hpl2 := plainS_len ((b.take p).drop lo)
      rw [List.length_drop, List.length_take] at hpl2
      refine slsB hC.bs (by omega) (by omega) (by omega) fun r15 h15 hblk15 _ => ?_
      rw [Int.toNat_natCast, Int.toNat_natCast] at h15
      refine (literals_ok ho h15 (sub (w' := w12) hblk15 (fun h e => h (by rw [e]; simp))) (by have := hC.lt; omega) (by simp; omega) (by omega)).mono ?_
      rintro x16 w17 ⟨h16, hb16⟩
      have hC17 := hC.low hb16
      have hf17 : Fr w w17 := hf12'.on (hb16.mono (by omega))
      have hc : IntKind.u8.wrap (IntKind.i64.wrap (IntKind.i64.wrap (128 + (n : Int)) - 3)) = ((UInt8.ofNat (n + 125)).toNat : Int) := by
        rw [i64w (n := 128 + (n : Int)) (by omega) (by omega), i64w (by omega) (by omega), u8w, u8_ofNat]; omega
      rw [hc]
      refine nwI fun b18 w19 hb18 hs18 hf19 hblk19 hrd19 => ?_
      have hs17 := hf17.size
      have hc17 := hC17.lt
      refine app_B slB (base := c + 1) (m := [UInt8.ofNat (n + 125)]) (h16.fr hf19) hrd19 rfl (by simp; omega) (by omega) fun r20 w21 h20 hb20 _ _ => ?_
      have hC21 := (hC17.fr hf19).low hb20
      have hf21 : Fr w w21 := (hf17.trans hf19).on (hb20.mono (by omega))
      refine (octet_Number_ok h20.bs (by simp; omega) (by omega)).mono ?_
      rintro x22 w23 ⟨h22, hf23⟩
      rw [Int.toNat_natCast] at h22
      have h22 := h22.mono (show c + 1 ≤ w21.heap.size from hC21.lt)
      have h9 := numB_le back
      refine lpI (fun s' w' => Fr w w' ∧ ∃ m : Nat, m ≤ n ∧ s'.1 = ((p + m : Nat) : Int) ∧ s'.2.1 = m ∧ OwB w' (c + 1) t_uint8 x22 (o ++ plainS ((b.take p).drop lo) ++ [UInt8.ofNat (n + 125)] ++ numB back) ∧ Chn w' c s b w.heap.size g (p + m)) (fun s' _ => (n - s'.2.1).toNat)
        ⟨hf21.trans hf23, 0, Nat.zero_le _, rfl, rfl, h22, hC21.fr hf23⟩ ?_
      rintro _ ⟨i', m', ⟨⟩⟩ w25 ⟨hf25, m, hm, rfl, rfl, h25, hC25⟩
      dsimp only at h25 ⊢
      refine bD ?_ ?_ <;> intro hmn
      · refine (put_ok hC25 (by omega) (by omega)).mono ?_
        rintro _ w29 ⟨hC29, hB29, hK29⟩
        rw [i64w (n := ((p + m : Nat) : Int) + 1) (by omega) (by omega), i64w (n := (m : Int) + 1) (by omega) (by omega)]
        exact ⟨⟨hf25.on hB29, m + 1, by omega, by omega, by simp, h25.kp hK29 (fun ad had => by have := (h25.own ad had).1; omega), hC29⟩, by omega⟩
      · obtain rfl : m = n := by omega
        refine ⟨⟨hf25, p + m, p + m, _, Nat.le_refl _, by omega, rfl, rfl, ?_, h25, hC25, ?_⟩, by omega⟩
        · simp; omega
        · rw [← heq, shortF_any (f := b.length + 1 - (p + m)) (g := b.length - p) (by omega) (by omega) (by omega)]
          simp
  · obtain rfl : p = b.length := by omega
    rw [show b.length + 1 - b.length = 0 + 1 from by omega, shortF, if_neg (by omega)] at heq
    have hpl2 := plainS_len (b.drop lo)
    rw [List.length_drop] at hpl2
    refine slsB hC.bs (by omega) (by omega) (by omega) fun r30 h30 hblk30 _ => ?_
    have e30 : (b.take (s.n : Int).toNat).drop (lo : Int).toNat = b.drop lo := by rw [List.take_of_length_le (by omega), Int.toNat_natCast]
    rw [e30] at h30
    refine (literals_ok ho h30 (sub (w' := w8) hblk30 (fun h e => h (by rw [e]; simp))) (by omega) (by simp; omega) (by omega)).mono ?_
    rintro x31 w32 ⟨h31, hb31⟩
    rw [heq] at h31
    exact ⟨h31.mono (by omega), hf8.on (hb31.mono (by omega))⟩
end Go.Proofs.YtkojpppnjloikaaDoor
namespace Go.Fl

abbrev w32 (n : Int) : Int := IntKind.u32.wrap n
/-- A word turned to the right. -/
def rotS (x : Int) (k : Nat) : Int := bits .or .u32 (w32 (x * 2 ^ (32 - k))) (x / 2 ^ k)
def byteS (b : List UInt8) (i : Nat) : Int := ((b.getD i 0).toNat : Int)
def w16S (b : List UInt8) (i : Nat) : Int :=
  bits .or .u32 (bits .or .u32 (bits .or .u32 (w32 (w32 (byteS b (4 * i)) * 2 ^ 24)) (w32 (w32 (byteS b (4 * i + 1)) * 2 ^ 16))) (w32 (w32 (byteS b (4 * i + 2)) * 2 ^ 8))) (w32 (byteS b (4 * i + 3)))
def nextS (l : List Int) (n : Nat) : Int :=
  w32 (w32 (w32 (l.getD (n - 16) 0 + bits .xor .u32 (bits .xor .u32 (rotS (l.getD (n - 15) 0) 7) (rotS (l.getD (n - 15) 0) 18)) (l.getD (n - 15) 0 / 2 ^ 3)) + l.getD (n - 7) 0)
    + bits .xor .u32 (bits .xor .u32 (rotS (l.getD (n - 2) 0) 17) (rotS (l.getD (n - 2) 0) 19)) (l.getD (n - 2) 0 / 2 ^ 10))
/-- The words of a block, so many of them. -/
def spreadS (b : List UInt8) : Nat → List Int
  | 0 => []
  | n + 1 => spreadS b n ++ [if n < 16 then w16S b n else nextS (spreadS b n) n]
theorem spreadS_length (b : List UInt8) : ∀ n, (spreadS b n).length = n
  | 0 => rfl
  | n + 1 => by rw [spreadS, List.length_append, spreadS_length b n]; rfl
def tS (x : List Int) (k w : Int) : Int :=
  w32 (w32 (w32 (w32 (x.getD 7 0 + bits .xor .u32 (bits .xor .u32 (rotS (x.getD 4 0) 6) (rotS (x.getD 4 0) 11)) (rotS (x.getD 4 0) 25))
    + bits .xor .u32 (bits .and .u32 (x.getD 4 0) (x.getD 5 0)) (bits .and .u32 (bits .xor .u32 4294967295 (x.getD 4 0)) (x.getD 6 0))) + k) + w)
def uS (x : List Int) : Int :=
  w32 (bits .xor .u32 (bits .xor .u32 (rotS (x.getD 0 0) 2) (rotS (x.getD 0 0) 13)) (rotS (x.getD 0 0) 22)
    + bits .xor .u32 (bits .xor .u32 (bits .and .u32 (x.getD 0 0) (x.getD 1 0)) (bits .and .u32 (x.getD 0 0) (x.getD 2 0))) (bits .and .u32 (x.getD 1 0) (x.getD 2 0)))
def roundS (x : List Int) (k w : Int) : List Int :=
  [w32 (tS x k w + uS x), x.getD 0 0, x.getD 1 0, x.getD 2 0, w32 (x.getD 3 0 + tS x k w), x.getD 4 0, x.getD 5 0, x.getD 6 0]
def roundsS (K ws : List Int) (h : List Int) : Nat → List Int
  | 0 => h
  | n + 1 => roundS (roundsS K ws h n) (K.getD n 0) (ws.getD n 0)
theorem roundsS_length {K ws h : List Int} (hh : h.length = 8) : ∀ n, (roundsS K ws h n).length = 8
  | 0 => hh
  | _n + 1 => rfl
/-- A block is taken in. -/
def stirS (K h : List Int) (b : List UInt8) : List Int := (List.range 8).map fun i => w32 (h.getD i 0 + (roundsS K (spreadS b 64) h 64).getD i 0)
theorem stirS_length (K h : List Int) (b : List UInt8) : (stirS K h b).length = 8 := by simp [stirS]
/-- All whole blocks are taken in: the state, and what is left. -/
def allS (K : List Int) : Nat → List Int → List UInt8 → List Int × List UInt8
  | 0, h, l => (h, l)
  | f + 1, h, l => if l.length < 64 then (h, l) else allS K f (stirS K h (l.take 64)) (l.drop 64)
def zerosS : Nat → List UInt8 → List UInt8
  | 0, l => l
  | f + 1, l => if l.length % 64 = 56 then l else zerosS f (l ++ [0])
def lenS (n : Nat) : List UInt8 := (List.range 8).map fun i => UInt8.ofNat (n * 8 / 2 ^ (56 - 8 * i))
def outS (h : List Int) : List UInt8 := (List.range 32).map fun i => UInt8.ofNat ((h.getD (i / 4) 0).toNat / 2 ^ (24 - 8 * (i % 4)))
/-- The digest of bytes. -/
def digS (F K : List Int) (b : List UInt8) : List UInt8 :=
  let s := allS K (b.length + 1) F b
  let e := zerosS 64 (s.2 ++ [128]) ++ lenS b.length
  outS (allS K (e.length + 1) s.1 e).1
/-- A row of words that is there. -/
def Glob (w : World) (g : Nat) (l : List Int) : Prop := ∀ i (h : i < l.length), w.cell? ⟨g, i, none⟩ = some (.int .u32 l[i])
theorem Glob.fr {w w' : World} {g : Nat} {l : List Int} (h : Glob w g l) (hf : Fr w w') : Glob w' g l := fun i hi => by
  have hb := World.block_lt_of_cell? w _ (h i hi)
  have e : w'.heap[g]? = w.heap[g]? := hf.block g hb
  exact (World.cell?_of_block (w := w) (by exact e)).trans (h i hi)
theorem Glob.grown {w w' : World} {g q : Nat} {l : List Int} (h : Glob w q l) (hg : w.grownBy w' (some g)) (hne : g ≠ q) : Glob w' q l := fun i hi => by
  have hb := World.block_lt_of_cell? w _ (h i hi)
  have e : w'.heap[q]? = w.heap[q]? := hg.block q hb (by simp; omega)
  exact (World.cell?_of_block (w := w) (by exact e)).trans (h i hi)
theorem nzI {a : Addr} {K : Addr → Prop} (h : K a) : nz (some a) K := h
def ints (l : List Int) : List Value := l.map (Value.int .u32)
theorem ints_length (l : List Int) : (ints l).length = l.length := by simp [ints]
/-- A row in a known block. -/
theorem ldRow {w : World} {g i n : Nat} {cs vs : List Value} {t : TypeId} {f : Nat × Nat} {K : {l : List Value // l.length = n} → Prop} (h : w.heap[g]? = some (.cells cs.toArray t f)) (hv : (cs.drop i).take n = vs) (hn : vs.length = n) (k : K ⟨vs, hn⟩) : ld (.row n) w ⟨g, i, none⟩ K := by
  refine ⟨⟨vs, hn⟩, fun j hj => ?_, k⟩
  rw [addOff, cell_of_row w g (i + j) cs.toArray t f h]
  have e : (cs.drop i)[j]? = some vs[j] := by
    have : ((cs.drop i).take n)[j]? = some vs[j] := by rw [hv]; exact List.getElem?_eq_getElem hj
    rw [List.getElem?_take] at this
    split at this
    · exact this
    · cases this
  rw [List.getElem?_drop] at e
  simpa using e
theorem ldGlob {w : World} {g n : Nat} {l : List Int} {K : {l : List Value // l.length = n} → Prop} (h : Glob w g l) (hn : l.length = n) (k : K ⟨ints l, by rw [ints_length, hn]⟩) : ld (.row n) w ⟨g, 0, none⟩ K := by
  refine ⟨⟨ints l, by rw [ints_length, hn]⟩, fun j hj => ?_, k⟩
  rw [addOff, Nat.zero_add]
  have := h j (by rw [← ints_length]; exact hj)
  simpa [ints] using this
theorem ixGlob {w : World} {g n : Nat} {l : List Int} {i : Nat} {K : Int → Prop} (h : Glob w g l) (hi : i < l.length) (hn : l.length = n) (k : K (l.getD i 0)) : ixa (some ⟨g, 0, none⟩) n (i : Int) 1 fun a => ld (.I .u32) w a K := by
  refine ⟨by omega, by omega, ?_⟩
  show ld (.I .u32) w (atOff ⟨g, 0, none⟩ (i : Int) 1) K
  rw [atH, Int.toNat_natCast]
  refine ⟨_, h i hi, ?_⟩
  rw [List.getD_eq_getElem?_getD, List.getElem?_eq_getElem hi, Option.getD_some] at k
  exact k
/-- A word of a row of a known block. -/
theorem ixW {w : World} {g n : Nat} {l : List Int} {t : TypeId} {f : Nat × Nat} {i : Nat} {K : Int → Prop} (h : w.heap[g]? = some (.cells (ints l).toArray t f)) (hi : i < l.length) (hn : i < n) (k : K (l.getD i 0)) : ixa (some ⟨g, 0, none⟩) n (i : Int) 1 fun a => ld (.I .u32) w a K :=
  ixH h (by omega) (by omega) (by
    rw [Int.toNat_natCast, ints, List.getElem?_map, List.getElem?_eq_getElem hi]
    simp [List.getD_eq_getElem?_getD, List.getElem?_eq_getElem hi]) k
def F0 : List Int := [1779033703, 3144134277, 1013904242, 2773480762, 1359893119, 2600822924, 528734635, 1541459225]
def K0 : List Int := [1116352408, 1899447441, 3049323471, 3921009573, 961987163, 1508970993, 2453635748, 2870763221, 3624381080, 310598401, 607225278, 1426881987, 1925078388, 2162078206, 2614888103, 3248222580, 3835390401, 4022224774, 264347078, 604807628, 770255983, 1249150122, 1555081692, 1996064986, 2554220882, 2821834349, 2952996808, 3210313671, 3336571891, 3584528711, 113926993, 338241895, 666307205, 773529912, 1294757372, 1396182291, 1695183700, 1986661051, 2177026350, 2456956037, 2730485921, 2820302411, 3259730800, 3345764771, 3516065817, 3600352804, 4094571909, 275423344, 430227734, 506948616, 659060556, 883997877, 958139571, 1322822218, 1537002063, 1747873779, 1955562222, 2024104815, 2227730452, 2361852424, 2428436474, 2756734187, 3204031479, 3329325298]
abbrev dig (b : List UInt8) : List UInt8 := digS F0 K0 b
theorem w32_nn (n : Int) : 0 ≤ w32 n := by unfold w32; rw [u32w]; omega
theorem stirS_nn (K h : List Int) (b : List UInt8) : ∀ x ∈ stirS K h b, 0 ≤ x := fun x hx => by
  obtain ⟨i, _, rfl⟩ := List.mem_map.1 hx
  exact w32_nn _
theorem allS_nn {K : List Int} : ∀ {f : Nat} {h : List Int} {l : List UInt8}, (∀ x ∈ h, 0 ≤ x) → ∀ x ∈ (allS K f h l).1, 0 ≤ x
  | 0, h, l, hh => hh
  | f + 1, h, l, hh => by
    unfold allS
    split
    · exact hh
    · exact allS_nn (stirS_nn _ _ _)
theorem allS_length {K : List Int} : ∀ {f : Nat} {h : List Int} {l : List UInt8}, h.length = 8 → (allS K f h l).1.length = 8
  | 0, h, l, hh => hh
  | f + 1, h, l, hh => by
    unfold allS
    split
    · exact hh
    · exact allS_length (stirS_length _ _ _)
theorem allS_any {K : List Int} : ∀ {f g : Nat} {h : List Int} {l : List UInt8}, l.length < f → l.length < g → allS K f h l = allS K g h l
  | 0, g, h, l, hf, _ => by omega
  | f + 1, 0, h, l, _, hg => by omega
  | f + 1, g + 1, h, l, hf, hg => by
    rw [allS, allS]
    split
    · rfl
    · exact allS_any (by rw [List.length_drop]; omega) (by rw [List.length_drop]; omega)
theorem allS_rest {K : List Int} : ∀ {f : Nat} {h : List Int} {l : List UInt8}, l.length < f → (allS K f h l).2.length < 64 ∧ (allS K f h l).2.length ≤ l.length
  | 0, h, l, hf => by omega
  | f + 1, h, l, hf => by
    rw [allS]
    split
    · exact ⟨by assumption, Nat.le_refl _⟩
    · have := allS_rest (K := K) (f := f) (h := stirS K h (l.take 64)) (l := l.drop 64) (by rw [List.length_drop]; omega)
      rw [List.length_drop] at this
      omega
theorem zerosS_len : ∀ {f : Nat} {l : List UInt8}, (120 - l.length % 64) % 64 ≤ f → (zerosS f l).length = l.length + (120 - l.length % 64) % 64
  | 0, l, h => by unfold zerosS; omega
  | f + 1, l, h => by
    unfold zerosS
    split
    · omega
    · have e : (l ++ [(0 : UInt8)]).length = l.length + 1 := by simp
      have := zerosS_len (f := f) (l := l ++ [0]) (by rw [e]; omega)
      rw [this, e]
      omega
theorem lenS_length (n : Nat) : (lenS n).length = 8 := by simp [lenS]
theorem outS_length (h : List Int) : (outS h).length = 32 := by simp [outS]
theorem dig_length (b : List UInt8) : (dig b).length = 32 := outS_length _
end Go.Fl
namespace Go.Proofs.YtkojpppnjloikaaDoor
open Go.RowKit Go.Fl

theorem Rot_ok {x : Int} {k : Int} (n : Nat) (h1 : bits .and .u64 (IntKind.u64.wrap k) 31 = ((32 - n : Nat) : Int)) (hn : 1 ≤ n) (hn2 : n ≤ 31) {w : World} : cl Tryd.prog n_math_bits_RotateLeft32 #[.int .u32 x, .int .i64 k] (.I .u32) w fun (r : Int) w' => r = rotS x n ∧ w = w' := by
  refine math_bits_RotateLeft32.cl ?_
  unfold math_bits_RotateLeft32
  rw [h1]
  refine bP (by omega) ?_
  have h2 : IntKind.u64.wrap (32 - ((32 - n : Nat) : Int)) = (n : Int) := by rw [u64w (by omega) (by omega)]; omega
  rw [h2]
  refine bP (by omega) ⟨?_, rfl⟩
  rw [show min ((32 - n : Nat) : Int).toNat 32 = 32 - n from by omega, show min ((n : Nat) : Int).toNat 32 = n from by omega]
  rfl
theorem spread_ok {s : Sl} {b : List UInt8} {w : World} (hs : Bs w s b) (hl : b.length = 64) : cl Tryd.prog n_digest_spread #[.slice s.a s.n s.c] (.row 64) w fun (r : {l : List Value // l.length = 64}) w' => r.1 = ints (spreadS b 64) ∧ Fr w w' := by
  refine digest_spread.cl ?_
  unfold digest_spread
  have hn := hs.len
  refine nwI fun a1 w2 ha1 hs2 hf2 hb2 _ => ?_
  refine nwI fun a3 w4 ha3 hs4 hf4 hb4 _ => ?_
  have hz : (zrow 64 (.int .u32 0)).1 = ints (spreadS b 0 ++ List.replicate 64 0) := by simp [zrow, ints, spreadS]
  rw [hz] at hb4
  have hfa := hf2.trans hf4
  have step : ∀ {w' w'' : World}, Fr w w' → w'.grownBy w'' (some a3) → Fr w w'' := fun hf hg => hf.on (grown_below hg (by omega) hf.size)
  have byt : ∀ (w' : World) (i : Nat) (K : Int → Prop), Fr w w' → i < 64 → K (byteS b i) → ixa s.a s.n (i : Int) 1 fun a => ld (.I .u8) w' a K := by
    intro w' i K hf hi hK
    refine ixBc (c := b.getD i 0) hs.rd hs.len (by omega) ?_ hf hK
    rw [Int.toNat_natCast, List.getD_eq_getElem?_getD, List.getElem?_eq_getElem (by omega)]
    rfl
  refine lpI (fun s' w' => Fr w w' ∧ ∃ i : Nat, i ≤ 16 ∧ s'.1 = i ∧ w'.heap[a3]? = some (.cells (ints (spreadS b i ++ List.replicate (64 - i) 0)).toArray t_64_uint32 (0, 0)) ∧ w'.heap[a1]? = some (.cells (zrow 64 (.int .u32 0)).1.toArray t_64_uint32 (0, 0))) (fun s' _ => (16 - s'.1).toNat)
    ⟨hfa, 0, by decide, rfl, hb4, hf4.heap hb2⟩ ?_
  rintro _ ⟨i', ⟨⟩⟩ w6 ⟨hf6, i, hi, rfl, hb6, hc6⟩
  dsimp only
  have hsl := spreadS_length b i
  have put : ∀ (n : Nat) (v : Int) (w' : World) (K : World → Prop), n < 64 → Fr w w' → v = (if n < 16 then w16S b n else nextS (spreadS b n) n) → w'.heap[a3]? = some (.cells (ints (spreadS b n ++ List.replicate (64 - n) 0)).toArray t_64_uint32 (0, 0)) → w'.heap[a1]? = some (.cells (zrow 64 (.int .u32 0)).1.toArray t_64_uint32 (0, 0)) →
      (∀ w'', Fr w w'' → w''.heap[a3]? = some (.cells (ints (spreadS b (n + 1) ++ List.replicate (64 - (n + 1)) 0)).toArray t_64_uint32 (0, 0)) → w''.heap[a1]? = some (.cells (zrow 64 (.int .u32 0)).1.toArray t_64_uint32 (0, 0)) → K w'') → ixa (some ⟨a3, 0, none⟩) 64 (n : Int) 1 fun a => st1 w' a (.int .u32 v) K := by
    intro n v w' K hn hf hv h3 h1 hK
    have hln := spreadS_length b n
    refine ixSt h3 (by omega) (by omega) (by rw [ints_length, List.length_append, hln, List.length_replicate]; omega) fun w'' hb hg hsz => hK w'' (step hf hg) ?_ ?_
    · rw [hb]
      congr 4
      rw [spreadS, ← hv, Int.toNat_natCast]
      simp only [ints, List.map_append, List.map_cons, List.map_nil, List.map_replicate]
      rw [List.set_append_right _ _ (by rw [List.length_map]; omega), List.length_map, hln, Nat.sub_self, show 64 - n = (64 - (n + 1)) + 1 from by omega, List.replicate_succ]
      simp
    · rw [hg.block a1 (Array.getElem?_eq_some_iff.1 h1).1 (by simp; omega)]; exact h1
  refine bD ?_ ?_ <;> intro hlt
  · intro n2
    have hf9 := hf6.trans (Fr.drewN w6 n2)
    have hb9 : (w6.drewN n2).heap[a3]? = _ := hb6
    have hc9 : (w6.drewN n2).heap[a1]? = _ := hc6
    generalize w6.drewN n2 = w9 at *
    have e0 : IntKind.i64.wrap (4 * (i : Int)) = ((4 * i : Nat) : Int) := by rw [i64w (by omega) (by omega)]; omega
    have e1 : IntKind.i64.wrap (((4 * i : Nat) : Int) + 1) = ((4 * i + 1 : Nat) : Int) := by rw [i64w (by omega) (by omega)]; omega
    have e2 : IntKind.i64.wrap (((4 * i : Nat) : Int) + 2) = ((4 * i + 2 : Nat) : Int) := by rw [i64w (by omega) (by omega)]; omega
    have e3 : IntKind.i64.wrap (((4 * i : Nat) : Int) + 3) = ((4 * i + 3 : Nat) : Int) := by rw [i64w (by omega) (by omega)]; omega
    rw [e0, e1, e2, e3]
    refine byt w9 _ _ hf9 (by omega) (byt w9 _ _ hf9 (by omega) (byt w9 _ _ hf9 (by omega) (byt w9 _ _ hf9 (by omega) ?_)))
    refine put i _ w9 _ (by omega) hf9 (by rw [if_pos (by omega)]; rfl) hb9 hc9 fun w19 hf19 hb19 hc19 => ?_
    rw [i64w (by omega) (by omega)]
    exact ⟨⟨hf19, i + 1, by omega, rfl, hb19, hc19⟩, by omega⟩
  obtain rfl : i = 16 := by omega
  refine lpI (fun s' w' => Fr w w' ∧ ∃ i : Nat, 16 ≤ i ∧ i ≤ 64 ∧ s'.1 = i ∧ w'.heap[a3]? = some (.cells (ints (spreadS b i ++ List.replicate (64 - i) 0)).toArray t_64_uint32 (0, 0)) ∧ w'.heap[a1]? = some (.cells (zrow 64 (.int .u32 0)).1.toArray t_64_uint32 (0, 0))) (fun s' _ => (64 - s'.1).toNat)
    ⟨hf6, 16, by decide, by decide, rfl, hb6, hc6⟩ ?_
  rintro _ ⟨i', ⟨⟩⟩ w21 ⟨hf21, i, hi16, hi64, rfl, hb21, hc21⟩
  dsimp only
  have hln := spreadS_length b i
  have wrd : ∀ (w' : World) (k : Nat) (K : Int → Prop), w'.heap[a3]? = some (.cells (ints (spreadS b i ++ List.replicate (64 - i) 0)).toArray t_64_uint32 (0, 0)) → 1 ≤ k → k ≤ 16 → K ((spreadS b i).getD (i - k) 0) → ixa (some ⟨a3, 0, none⟩) 64 (IntKind.i64.wrap ((i : Int) - (k : Int))) 1 fun a => ld (.I .u32) w' a K := by
    intro w' k K hb hk hk2 hK
    rw [i64w (by omega) (by omega), show (i : Int) - (k : Int) = ((i - k : Nat) : Int) from by omega]
    refine ixW hb (by rw [List.length_append, hln, List.length_replicate]; omega) (by omega) ?_
    rw [List.getD_eq_getElem?_getD, List.getElem?_append_left (by omega), ← List.getD_eq_getElem?_getD]
    exact hK
  refine bD ?_ ?_ <;> intro hlt2
  · refine wrd w21 15 _ hb21 (by decide) (by decide) (wrd w21 2 _ hb21 (by decide) (by decide) ?_)
    intro n2
    have hf28 := hf21.trans (Fr.drewN w21 n2)
    have hb28 : (w21.drewN n2).heap[a3]? = _ := hb21
    have hc28 : (w21.drewN n2).heap[a1]? = _ := hc21
    generalize w21.drewN n2 = w28 at *
    refine (Rot_ok 7 (by decide) (by decide) (by decide)).mono ?_
    rintro _ _ ⟨rfl, rfl⟩
    refine (Rot_ok 18 (by decide) (by decide) (by decide)).mono ?_
    rintro _ _ ⟨rfl, rfl⟩
    refine (Rot_ok 17 (by decide) (by decide) (by decide)).mono ?_
    rintro _ _ ⟨rfl, rfl⟩
    refine (Rot_ok 19 (by decide) (by decide) (by decide)).mono ?_
    rintro _ _ ⟨rfl, rfl⟩
    intro n3
    have hf37 := hf28.trans (Fr.drewN w28 n3)
    have hb37 : (w28.drewN n3).heap[a3]? = _ := hb28
    have hc37 : (w28.drewN n3).heap[a1]? = _ := hc28
    generalize w28.drewN n3 = w37 at *
    refine wrd w37 16 _ hb37 (by decide) (by decide) (wrd w37 7 _ hb37 (by decide) (by decide) ?_)
    refine put i _ w37 _ (by omega) hf37 (by rw [if_neg (by omega)]; rfl) hb37 hc37 fun w43 hf43 hb43 hc43 => ?_
    rw [i64w (by omega) (by omega)]
    exact ⟨⟨hf43, i + 1, by omega, by omega, rfl, hb43, hc43⟩, by omega⟩
  · obtain rfl : i = 64 := by omega
    rw [Nat.sub_self, List.replicate_zero, List.append_nil] at hb21
    have h64 : (zrow 64 (.int .u32 0)).1.length = 64 := (zrow 64 (.int .u32 0)).2
    generalize (zrow 64 (.int .u32 0)).1 = z at *
    have hw64 : (ints (spreadS b 64)).length = 64 := by rw [ints_length, hln]
    have hone : ∀ v ∈ ints (spreadS b 64), v.oneCell' = true := fun v hv => by
      obtain ⟨x, _, rfl⟩ := List.mem_map.1 hv
      rfl
    generalize ints (spreadS b 64) = ws at *
    refine ldR0 hb21 hw64 ?_
    refine stL_row (cs := z) hc21 (by show 0 + ws.length ≤ z.length; omega) (fun v hv => by
      exact hone v hv) fun w45 hb45 hg45 hs45 => ?_
    have e : z.take 0 ++ ws ++ z.drop (0 + ws.length) = ws := by rw [List.drop_eq_nil_of_le (by omega)]; simp
    rw [e] at hb45
    exact ldR0 hb45 hw64 ⟨rfl, hf21.on (grown_below hg45 (by omega) hf21.size)⟩
theorem zero_state (w : World) : (zeroValue t_digest_state).run Tryd.prog w = .ok (.agg #[.int .u32 0, .int .u32 0, .int .u32 0, .int .u32 0, .int .u32 0, .int .u32 0, .int .u32 0, .int .u32 0]) w := run_zeroV (by kernel_rfl) w
theorem size_u32 (w : World) : (sizeOf t_uint32).run Tryd.prog w = .ok 1 w := by
  have h : (Tryd.prog.info? t_uint32).map (·.size) = some 1 := by kernel_rfl
  obtain ⟨i, hi, hs⟩ := Option.map_eq_some_iff.1 h
  simp [sizeOf, typeInfo, hi, hs]
theorem build_state (v0 v1 v2 v3 v4 v5 v6 v7 : Int) (w : World) : (Instr.build t_digest_state #[(0, .int .u32 v0), (1, .int .u32 v1), (2, .int .u32 v2), (3, .int .u32 v3), (4, .int .u32 v4), (5, .int .u32 v5), (6, .int .u32 v6), (7, .int .u32 v7)]).run Tryd.prog w = .ok (.agg (ints [v0, v1, v2, v3, v4, v5, v6, v7]).toArray) w := by
  simp [Instr.build, run_underlying u_digest_state, Instr.fill, Value.cells, ints]
theorem ints_one (l : List Int) : ∀ v ∈ ints l, v.oneCell' = true := fun v hv => by
  obtain ⟨x, _, rfl⟩ := List.mem_map.1 hv
  rfl
/-- A row of words is put into a new block. -/
theorem newRow {n : Nat} {l : List Int} {t : TypeId} {w : World} {K : Addr → World → Prop} (z : {l : List Value // l.length = n}) (hl : l.length = n)
    (h : ∀ a w', w.heap.size ≤ a → Fr w w' → a < w'.heap.size → w'.heap[a]? = some (.cells (ints l).toArray t (0, 0)) → K ⟨a, 0, none⟩ w') : nw w z.1 t fun a w2 => stL a w2 0 (ints l) fun w3 => K a w3 := by
  refine nwI fun a w2 ha hs hf hb _ => ?_
  refine stL_row (cs := z.1) hb (by rw [ints_length, hl, z.2]; omega) (ints_one l) fun w3 hb3 hg3 hs3 => h a w3 (by omega) (hf.on (grown_below hg3 (by omega) hf.size)) (by omega) ?_
  have e : z.1.take 0 ++ ints l ++ z.1.drop (0 + (ints l).length) = ints l := by rw [List.drop_eq_nil_of_le (by rw [ints_length, hl, z.2]; omega)]; simp
  rw [e] at hb3
  exact hb3
set_option maxHeartbeats 1000000 in
theorem stir_ok {s : Sl} {b : List UInt8} {w : World} {g : Nat} {h : List Int} {rest : List Value} {t : TypeId} {R : List Int} (hs : Bs w s b) (hl : b.length = 64) (hh : h.length = 8) (hg : w.heap[g]? = some (.cells (ints h ++ rest).toArray t (0, 0))) (hR : Glob w g_digest_rounds R) (hRl : R.length = 64) :
    cl Tryd.prog n_digest_state_stir #[.pointer (some ⟨g, 0, none⟩), .slice s.a s.n s.c] (.tup .nil) w fun (_ : Unit) w' => w'.heap[g]? = some (.cells (ints (stirS R h b) ++ rest).toArray t (0, 0)) ∧ w.grownBy w' (some g) := by
  refine digest_state_stir.cl ?_
  unfold digest_state_stir
  have hgl := (Array.getElem?_eq_some_iff.1 hg).1
  refine (spread_ok hs hl).mono ?_
  rintro ⟨x1, hx1⟩ w2 ⟨hx, hf2⟩
  dsimp only at hx
  have hwl := spreadS_length b 64
  obtain ⟨ws, hws⟩ : ∃ ws, spreadS b 64 = ws := ⟨_, rfl⟩
  rw [hws] at hx hwl
  subst hx
  refine newRow (l := ws) (zrow 64 (.int .u32 0)) hwl fun a3 w5 ha3 hf5 hl5 hb5 => ?_
  have hf5' := hf2.trans hf5
  show ld (.row 8) w5 ⟨g, 0, none⟩ _
  refine ldRow (vs := ints h) (hf5'.heap hg) (by rw [List.drop_zero, List.take_left' (by rw [ints_length, hh])]) (by rw [ints_length, hh]) ?_
  refine newRow (l := h) (zrow 8 (.int .u32 0)) hh fun a8 w10 ha8 hf10 hl10 hb10 => ?_
  have hf10' := hf5'.trans hf10
  have hs2 := hf2.size
  have hs5 := hf5.size
  refine lpI (fun s' w' => Fr w w' ∧ ∃ i : Nat, i ≤ 64 ∧ s'.1 = i ∧ w'.heap[a3]? = some (.cells (ints (ws)).toArray t_64_uint32 (0, 0)) ∧ w'.heap[a8]? = some (.cells (ints (roundsS R (ws) h i)).toArray t_digest_state (0, 0))) (fun s' _ => (64 - s'.1).toNat)
    ⟨hf10', 0, by decide, rfl, hf10.heap hb5, hb10⟩ ?_
  rintro _ ⟨i', ⟨⟩⟩ w12 ⟨hf12, i, hi, rfl, h3, h8⟩
  dsimp only
  have hrl := roundsS_length (K := R) (ws := ws) hh i
  generalize hX : roundsS R (ws) h i = X at *
  have xw : ∀ {w' : World} (k : Nat) {K : Int → Prop}, w'.heap[a8]? = some (.cells (ints X).toArray t_digest_state (0, 0)) → k < 8 → K (X.getD k 0) → ixa (some ⟨a8, 0, none⟩) 8 (k : Int) 1 fun a => ld (.I .u32) w' a K := fun k _ hb hk hK => ixW hb (by omega) hk hK
  refine bD ?_ ?_ <;> intro hlt
  · refine xw 0 h8 (by decide) (xw 4 h8 (by decide) ?_)
    intro n1
    have hf19 := hf12.trans (Fr.drewN w12 n1)
    have h3' : (w12.drewN n1).heap[a3]? = _ := h3
    have h8' : (w12.drewN n1).heap[a8]? = _ := h8
    generalize w12.drewN n1 = w19 at *
    refine (Rot_ok 6 (by decide) (by decide) (by decide)).mono ?_
    rintro _ _ ⟨rfl, rfl⟩
    refine (Rot_ok 11 (by decide) (by decide) (by decide)).mono ?_
    rintro _ _ ⟨rfl, rfl⟩
    refine (Rot_ok 25 (by decide) (by decide) (by decide)).mono ?_
    rintro _ _ ⟨rfl, rfl⟩
    refine xw 7 h8' (by decide) (xw 5 h8' (by decide) (xw 6 h8' (by decide) ?_))
    refine ixGlob (hR.fr hf19) (by omega) hRl ?_
    refine ixW h3' (by omega) (by omega) ?_
    intro n2
    have hf36 := hf19.trans (Fr.drewN w19 n2)
    have h3'' : (w19.drewN n2).heap[a3]? = _ := h3'
    have h8'' : (w19.drewN n2).heap[a8]? = _ := h8'
    generalize w19.drewN n2 = w36 at *
    refine (Rot_ok 2 (by decide) (by decide) (by decide)).mono ?_
    rintro _ _ ⟨rfl, rfl⟩
    refine (Rot_ok 13 (by decide) (by decide) (by decide)).mono ?_
    rintro _ _ ⟨rfl, rfl⟩
    refine (Rot_ok 22 (by decide) (by decide) (by decide)).mono ?_
    rintro _ _ ⟨rfl, rfl⟩
    refine xw 1 h8'' (by decide) (xw 2 h8'' (by decide) (xw 1 h8'' (by decide) (xw 2 h8'' (by decide) (xw 1 h8'' (by decide) (xw 2 h8'' (by decide) (xw 3 h8'' (by decide) (xw 5 h8'' (by decide) (xw 6 h8'' (by decide) ?_))))))))
    refine ⟨⟨ints (roundS X (R.getD i 0) ((ws).getD i 0)), rfl⟩, fun w' _ => build_state _ _ _ _ _ _ _ _ w', ?_⟩
    refine stL_row (cs := ints X) h8'' (by rw [ints_length, ints_length]; show 0 + 8 ≤ X.length; omega) (ints_one _) fun w62 hb62 hg62 hs62 => ?_
    have e : (ints X).take 0 ++ ints (roundS X (R.getD i 0) ((ws).getD i 0)) ++ (ints X).drop (0 + (ints (roundS X (R.getD i 0) ((ws).getD i 0))).length) = ints (roundsS R (ws) h (i + 1)) := by
      rw [List.drop_eq_nil_of_le (by rw [ints_length, ints_length]; show X.length ≤ 0 + 8; omega), roundsS, hX]
      simp
    rw [e] at hb62
    rw [i64w (by omega) (by omega)]
    have ha38 : a3 ≠ a8 := by omega
    refine ⟨⟨hf36.on (grown_below hg62 (by omega) hf36.size), i + 1, by omega, rfl, ?_, hb62⟩, by omega⟩
    rw [hg62.block a3 (Array.getElem?_eq_some_iff.1 h3'').1 (by simp; omega)]; exact h3''
  obtain rfl : i = 64 := by omega
  have hSl := stirS_length R h b
  have hSg : ∀ j, j < 8 → (stirS R h b).getD j 0 = w32 (h.getD j 0 + X.getD j 0) := by
    intro j hj
    rw [← hX, stirS, hws, List.getD_eq_getElem?_getD, List.getElem?_map, List.getElem?_range hj]
    rfl
  generalize stirS R h b = S at *
  refine lpI (fun s' w' => ∃ i : Nat, i ≤ 8 ∧ s'.1 = i ∧ w'.heap[a8]? = some (.cells (ints X).toArray t_digest_state (0, 0)) ∧ w'.heap[g]? = some (.cells (ints (S.take i ++ h.drop i) ++ rest).toArray t (0, 0)) ∧ w.grownBy w' (some g)) (fun s' _ => (8 - s'.1).toNat)
    ⟨0, by decide, rfl, h8, by simpa using hf12.heap hg, fr_grown hf12⟩ ?_
  rintro _ ⟨j', ⟨⟩⟩ w64 ⟨j, hj, rfl, k8, kg, kf⟩
  dsimp only
  refine bD ?_ ?_ <;> intro hlt2
  · intro n3
    have k8 : (w64.drewN n3).heap[a8]? = _ := k8
    have kg : (w64.drewN n3).heap[g]? = _ := kg
    have kf : w.grownBy (w64.drewN n3) (some g) := kf.trans ⟨rfl, rfl, rfl, Nat.le_refl _, fun _ _ _ => rfl⟩
    generalize w64.drewN n3 = w67 at *
    have hcur : (ints (S.take j ++ h.drop j) ++ rest)[j]? = some (.int .u32 (h.getD j 0)) := by
      rw [List.getElem?_append_left (by rw [ints_length, List.length_append, List.length_take, List.length_drop]; omega), ints, List.getElem?_map, List.getElem?_append_right (by rw [List.length_take]; omega), List.length_take, Nat.min_eq_left (by omega), Nat.sub_self, List.getElem?_drop, Nat.add_zero, List.getElem?_eq_getElem (by omega)]
      simp [List.getD_eq_getElem?_getD, List.getElem?_eq_getElem (show j < h.length by omega)]
    refine ixH kg (by omega) (by omega) (by rw [Int.toNat_natCast]; exact hcur) ?_
    refine xw j k8 (by omega) ?_
    refine ixSt kg (by omega) (by omega) (by rw [Int.toNat_natCast, List.length_append, ints_length, List.length_append, List.length_take, List.length_drop]; omega) fun w75 hb75 hg75 hs75 => ?_
    rw [i64w (by omega) (by omega)]
    refine ⟨⟨j + 1, by omega, rfl, ?_, ?_, kf.trans hg75⟩, by omega⟩
    · rw [hg75.block a8 (Array.getElem?_eq_some_iff.1 k8).1 (by simp; omega)]; exact k8
    · have hset : S.take (j + 1) ++ h.drop (j + 1) = (S.take j ++ h.drop j).set j (S.getD j 0) := by
        rw [List.set_append_right _ _ (by rw [List.length_take]; omega), List.length_take, Nat.min_eq_left (by omega), Nat.sub_self, List.drop_eq_getElem_cons (show j < h.length by omega), List.set_cons_zero, List.take_succ_eq_append_getElem (by omega), List.append_assoc]
        simp [List.getD_eq_getElem?_getD, List.getElem?_eq_getElem (show j < S.length by omega)]
      rw [hb75, Int.toNat_natCast, List.set_append_left _ _ (by rw [ints_length, List.length_append, List.length_take, List.length_drop]; omega), show IntKind.u32.wrap (h.getD j 0 + X.getD j 0) = S.getD j 0 from (hSg j (by omega)).symm, hset]
      simp only [ints, List.map_set]
  · obtain rfl : j = 8 := by omega
    refine ⟨?_, kf⟩
    rw [kg, List.take_of_length_le (by omega), List.drop_eq_nil_of_le (by omega), List.append_nil]
end Go.Proofs.YtkojpppnjloikaaDoor
namespace Go.Proofs.YtkojpppnjloikaaDoor
open Go.RowKit Go.Fl

/-- The digest's tables. -/
structure Dig (w : World) : Prop where
  first : Glob w g_digest_first F0
  rounds : Glob w g_digest_rounds K0
theorem Dig.fr {w w' : World} (h : Dig w) (hf : Fr w w') : Dig w' := ⟨h.first.fr hf, h.rounds.fr hf⟩
/-- A hash: its state, what is left, how many. -/
def hTail (s : Sl) (n : Int) : List Value := [.slice s.a s.n s.c, .int .i64 n, .bool true]
def Hsh (w : World) (g : Nat) (h : List Int) (s : Sl) (n : Int) : Prop := w.heap[g]? = some (.cells (ints h ++ hTail s n).toArray t_digest_Hash (0, 0))
theorem hAt {h : List Int} (hh : h.length = 8) (s : Sl) (n : Int) (i : Nat) : (ints h ++ hTail s n).toArray[8 + i]? = (hTail s n)[i]? := by
  rw [List.getElem?_toArray, List.getElem?_append_right (by rw [ints_length]; omega), ints_length, hh, Nat.add_sub_cancel_left]
theorem hSet {h : List Int} (hh : h.length = 8) (s : Sl) (n : Int) (i : Nat) (v : Value) : (ints h ++ hTail s n).toArray.setIfInBounds (8 + i) v = (ints h ++ (hTail s n).set i v).toArray := by
  rw [List.setIfInBounds_toArray, List.set_append_right _ _ (by rw [ints_length]; omega), ints_length, hh, Nat.add_sub_cancel_left]
theorem New_ok {w : World} (hd : Dig w) : cl Tryd.prog n_digest_New #[] .P w fun (r : Option Addr) w' => ∃ g, r = some ⟨g, 0, none⟩ ∧ w.heap.size ≤ g ∧ Hsh w' g F0 ⟨none, 0, 0⟩ 0 ∧ Fr w w' := by
  refine digest_New.cl ?_
  unfold digest_New
  refine ldGlob hd.first rfl ?_
  refine nwI fun g w3 hg hs hf hb _ => ?_
  exact ⟨g, rfl, by omega, hb, hf⟩
theorem Write_ok {x : Sl} {b : List UInt8} {w : World} {g : Nat} (hd : Dig w) (H : Hsh w g F0 ⟨none, 0, 0⟩ 0) (hx : Bs w x b) (hl : b.length ≤ 1099511627776) (hg0 : b ≠ [] → ∀ ad, x.a = some ad → ad.block ≠ g) (hgd : g ≠ g_digest_rounds) :
    cl Tryd.prog n_digest_Hash_Write #[.pointer (some ⟨g, 0, none⟩), .slice x.a x.n x.c] (.tup .nil) w fun (_ : Unit) w' =>
      ∃ s : Sl, Hsh w' g (allS K0 (b.length + 1) F0 b).1 s b.length ∧ Bs w' s (allS K0 (b.length + 1) F0 b).2 ∧ (∀ ad, s.a = some ad → ad.block ≠ g) ∧ w.grownBy w' (some g) := by
  refine digest_Hash_Write.cl ?_
  unfold digest_Hash_Write
  have hgl := (Array.getElem?_eq_some_iff.1 H).1
  have hxn := hx.len
  have h8 : F0.length = 8 := rfl
  refine bF rfl ?_
  show ld .B w ⟨g, 10, none⟩ _
  refine ldB0 H (hAt h8 _ _ 2) (bF rfl ?_)
  show ld (.I .i64) w ⟨g, 9, none⟩ _
  refine ldI0 H (hAt h8 _ _ 1) ?_
  refine nzI ?_
  rw [addOff, Nat.zero_add]
  refine st0 H (by simp [ints_length, h8, hTail]) fun w6 hb6 hg6 hs6 => ?_
  rw [show (9 : Nat) = 8 + 1 from rfl, hSet h8] at hb6
  have hb6 : Hsh w6 g F0 ⟨none, 0, 0⟩ b.length := by
    rw [i64w (by omega) (by omega)] at hb6
    have : ((0 : Int) + (x.n : Int)) = (b.length : Int) := by omega
    rw [this] at hb6
    exact hb6
  intro n1
  have hb7 : Hsh (w6.drewN n1) g F0 ⟨none, 0, 0⟩ b.length := hb6
  have hg7 : w.grownBy (w6.drewN n1) (some g) := hg6.trans ⟨rfl, rfl, rfl, Nat.le_refl _, fun _ _ _ => rfl⟩
  generalize w6.drewN n1 = w7 at *
  have hs7 := hg7.size
  have hx7 : Bs w7 x b := hx.kpn (kp_grown hg7) hg0
  show ld .L w7 ⟨g, 8, none⟩ _
  refine ldL0 (s := ⟨none, 0, 0⟩) hb7 (hAt h8 _ _ 0) ?_
  show ld .L w7 ⟨g, 8, none⟩ _
  refine ldL0 (s := ⟨none, 0, 0⟩) hb7 (hAt h8 _ _ 0) ?_
  dsimp only
  refine mks0 slB w7.heap.size b.length (by rw [i64w (by omega) (by omega)]; omega) (by omega) (by omega) (Nat.le_refl _) fun w13 ho13 hf13 => ⟨hf13, ?_⟩
  refine app_B slB (base := w7.heap.size) (l := []) (m := []) ho13 (Rd.nil _ _) rfl (by simp) hf13.size fun r14 w15 h14 hb15 _ _ => ?_
  have hf15 := hf13.on hb15
  refine app_B slB (base := w7.heap.size) h14 (hx7.fr hf15).rd hx7.len.symm (by simp; omega) hf15.size fun r16 w17 h16 hb17 _ _ => ?_
  have hf17 := hf15.on hb17
  rw [List.append_nil, List.nil_append] at h16
  refine lpI (fun s' w' => ∃ (h : List Int) (l : List UInt8), h.length = 8 ∧ Bs w' s'.1 l ∧ (∀ ad, s'.1.a = some ad → ad.block ≠ g) ∧ Hsh w' g h ⟨none, 0, 0⟩ b.length ∧ w.grownBy w' (some g) ∧ l.length ≤ b.length ∧ allS K0 (l.length + 1) h l = allS K0 (b.length + 1) F0 b) (fun s' _ => s'.1.n)
    ⟨F0, b, h8, h16.bs, fun ad had => by have := (h16.own ad had).1; have := (Array.getElem?_eq_some_iff.1 hb7).1; omega, hf17.heap hb7, hg7.trans (fr_grown hf17), Nat.le_refl _, rfl⟩ ?_
  rintro _ ⟨s, ⟨⟩⟩ w19 ⟨h, l, hh8, hsl, hne, hH, hgr, hll, heq⟩
  dsimp only at hsl hne ⊢
  have hsn := hsl.len
  refine bD ?_ ?_ <;> intro h64
  · intro n2
    have hH : Hsh (w19.drewN n2) g h ⟨none, 0, 0⟩ b.length := hH
    have hsl : Bs (w19.drewN n2) s l := hsl.fr (Fr.drewN w19 n2)
    have hgr : w.grownBy (w19.drewN n2) (some g) := hgr.trans ⟨rfl, rfl, rfl, Nat.le_refl _, fun _ _ _ => rfl⟩
    generalize w19.drewN n2 = w22 at *
    refine nzI ?_
    refine slsB hsl (by decide) (by decide) (by omega) fun r24 h24 hblk24 _ => ?_
    rw [Int.toNat_zero, List.drop_zero, show (64 : Int).toNat = 64 from rfl] at h24
    have hK0 : Glob w22 g_digest_rounds K0 := hd.rounds.grown hgr hgd
    refine (stir_ok h24 (by rw [List.length_take]; omega) hh8 hH hK0 rfl).mono ?_
    rintro _ w26 ⟨hH26, hg26⟩
    have hsl26 : Bs w26 s l := hsl.kpn (kp_grown hg26) fun _ => hne
    refine slsB hsl26 (by decide) (by omega) (by omega) fun r27 h27 hblk27 _ => ?_
    have e27 : (l.take (s.n : Int).toNat).drop (64 : Int).toNat = l.drop 64 := by rw [List.take_of_length_le (by omega)]; rfl
    rw [e27] at h27
    have h27l := h27.len
    rw [List.length_drop] at h27l
    refine ⟨⟨stirS K0 h (l.take 64), l.drop 64, stirS_length _ _ _, h27, fun ad had => ?_, hH26, hgr.trans hg26, by rw [List.length_drop]; omega, ?_⟩, by omega⟩
    · obtain ⟨ad', h1, h2⟩ := hblk27 ad had
      rw [h2]; exact hne ad' h1
    · rw [allS, if_neg (by omega)] at heq
      rw [← heq]
      exact allS_any (by rw [List.length_drop]; omega) (by rw [List.length_drop]; omega)
  · refine nzI ?_
    rw [addOff, Nat.zero_add]
    refine st0 hH (by simp [ints_length, hh8, hTail]) fun w29 hb29 hg29 hs29 => ?_
    rw [show (8 : Nat) = 8 + 0 from rfl, hSet hh8] at hb29
    have e : allS K0 (l.length + 1) h l = (h, l) := by rw [allS, if_pos (by omega)]
    rw [← heq, e]
    exact ⟨s, hb29, hsl.kpn (kp_grown hg29) fun _ => hne, hne, hgr.trans hg29⟩
theorem Sum_ok {w : World} {g : Nat} {h : List Int} {s : Sl} {r : List UInt8} {n : Nat} (hR : Glob w g_digest_rounds K0) (H : Hsh w g h s n) (hh : h.length = 8) (hs : Bs w s r) (hr : r.length < 64) (hn : n ≤ 1099511627776) :
    cl Tryd.prog n_digest_Hash_Sum #[.pointer (some ⟨g, 0, none⟩)] (.row 32) w fun (x : {l : List Value // l.length = 32}) w' =>
      x.1 = u8s (outS (allS K0 ((zerosS 64 (r ++ [128]) ++ lenS n).length + 1) h (zerosS 64 (r ++ [128]) ++ lenS n)).1) ∧ Fr w w' := by
  refine digest_Hash_Sum.cl ?_
  unfold digest_Hash_Sum
  refine nwI fun a1 w2 ha1 hs2 hf2 hb1 _ => ?_
  refine nwI fun a3 w4 ha3 hs4 hf4 hb3 _ => ?_
  have hf := hf2.trans hf4
  have hz32 : (zrow 32 (.int .u8 0)).1 = u8s (List.replicate 32 0) := by simp [zrow, u8s]
  rw [hz32] at hb1 hb3
  have hb1 := hf4.heap hb1
  refine bF rfl ?_
  have H4 : Hsh w4 g h s n := hf.heap H
  refine nzI ?_
  rw [addOff, Nat.zero_add]
  refine ldB0 H4 (hAt hh _ _ 2) (bF rfl ?_)
  have stay : ∀ {u : World}, Fr w4 u → Hsh u g h s n := fun hu => hu.heap H4
  refine nwI fun a13 w14 ha13 hs14 hf14 hb13 _ => ?_
  refine nzI ?_
  rw [addOff, Nat.zero_add]
  refine ldL0 (stay hf14) (hAt hh _ _ 0) ?_
  refine app_B slB (base := w4.heap.size) (l := []) (OwB.new hb13 (by omega)) ((hs.fr hf).fr hf14).rd hs.len.symm (by simp; omega) hf14.size fun r17 w18 h17 hb18 _ _ => ?_
  have hf18 := hf14.on hb18
  rw [List.nil_append] at h17
  refine nwI fun a19 w20 ha19 hs20 hf20 hb20 hrd20 => ?_
  have hf20' := hf18.trans hf20
  refine app_B slB (base := w4.heap.size) (m := [128]) (h17.fr hf20) hrd20 rfl (by simp; omega) hf20'.size fun r21 w22 h21 hb22 _ _ => ?_
  have hf22 := hf20'.on hb22
  refine lpI (fun s' w' => Fr w4 w' ∧ ∃ (f : Nat) (l : List UInt8), OwB w' w4.heap.size t_uint8 s'.1 l ∧ zerosS f l = zerosS 64 (r ++ [128]) ∧ (120 - l.length % 64) % 64 ≤ f ∧ l.length + (120 - l.length % 64) % 64 ≤ 130) (fun s' _ => ((120 - s'.1.n % 64) % 64))
    ⟨hf22, 64, _, h21, rfl, by omega, by simp; omega⟩ ?_
  rintro _ ⟨e, ⟨⟩⟩ w24 ⟨hf24, f, l, hl, hz, hf64, hlb⟩
  dsimp only at hl ⊢
  have hen := hl.len
  have etm : Int.tmod (e.n : Int) 64 = ((l.length % 64 : Nat) : Int) := by rw [hen, Int.tmod_eq_emod_of_nonneg (by omega)]; omega
  rw [etm]
  refine bNe ?_ ?_ <;> intro h56
  · refine nwI fun a27 w28 ha27 hs28 hf28 hb28 hrd28 => ?_
    have hf28' := hf24.trans hf28
    refine app_B slB (base := w4.heap.size) (m := [0]) (hl.fr hf28) hrd28 rfl (by simp; omega) hf28'.size fun r29 w30 h29 hb30 _ _ => ?_
    have h29l := h29.len
    rw [List.length_append, List.length_cons, List.length_nil] at h29l
    cases f with
    | zero => omega
    | succ f =>
      rw [zerosS, if_neg (by omega)] at hz
      refine ⟨⟨hf28'.on hb30, f, _, h29, hz, by rw [List.length_append, List.length_cons, List.length_nil]; omega, by rw [List.length_append, List.length_cons, List.length_nil]; omega⟩, ?_⟩
      show (120 - r29.n % 64) % 64 < (120 - e.n % 64) % 64
      omega
  have hE : l = zerosS 64 (r ++ [128]) := by
    rw [← hz]
    cases f with
    | zero => rfl
    | succ f => rw [zerosS, if_pos (by omega)]
  have hzl := zerosS_len (f := 64) (l := r ++ [128]) (by omega)
  rw [← hE] at hzl ⊢
  clear hE hz hf64 hlb
  have hll : l.length ≤ 128 := by rw [hzl]; simp; omega
  refine lpI (fun s' w' => Fr w4 w' ∧ ∃ i : Nat, i ≤ 8 ∧ s'.2.1 = i ∧ OwB w' w4.heap.size t_uint8 s'.1 (l ++ (lenS n).take i)) (fun s' _ => (8 - s'.2.1).toNat) ⟨hf24, 0, by decide, rfl, by simpa using hl⟩ ?_
  rintro _ ⟨e2, i', ⟨⟩⟩ w32 ⟨hf32, i, hi, rfl, h32⟩
  dsimp only at h32 ⊢
  have hLl := lenS_length n
  refine bD ?_ ?_ <;> intro hlt
  · refine nzI ?_
    rw [addOff, Nat.zero_add]
    refine ldI0 (stay hf32) (hAt hh _ _ 1) ?_
    have es : IntKind.i64.wrap (56 - IntKind.i64.wrap (8 * (i : Int))) = ((56 - 8 * i : Nat) : Int) := by
      rw [i64w (n := 8 * (i : Int)) (by omega) (by omega), i64w (by omega) (by omega)]; omega
    rw [es]
    refine bP (by omega) ?_
    rw [show min ((56 - 8 * i : Nat) : Int).toNat 64 = 56 - 8 * i from by omega, u64w (n := ((n : Nat) : Int)) (by omega) (by omega), u64w (n := ((n : Nat) : Int) * 8) (by omega) (by omega)]
    have eb : IntKind.u8.wrap (((n : Nat) : Int) * 8 / 2 ^ (56 - 8 * i)) = ((UInt8.ofNat (n * 8 / 2 ^ (56 - 8 * i))).toNat : Int) := by
      rw [u8w, u8_ofNat]
      congr 1
    rw [eb]
    refine nwI fun a37 w38 ha37 hs38 hf38 hb38 hrd38 => ?_
    have hf38' := hf32.trans hf38
    refine app_B slB (base := w4.heap.size) (m := [UInt8.ofNat (n * 8 / 2 ^ (56 - 8 * i))]) (h32.fr hf38) hrd38 rfl (by rw [List.length_append, List.length_take]; simp; omega) hf38'.size fun r39 w40 h39 hb40 _ _ => ?_
    rw [i64w (by omega) (by omega)]
    refine ⟨⟨hf38'.on hb40, i + 1, by omega, rfl, ?_⟩, by omega⟩
    rw [List.take_succ_eq_append_getElem (by omega), ← List.append_assoc]
    have : (lenS n)[i]'(by omega) = UInt8.ofNat (n * 8 / 2 ^ (56 - 8 * i)) := by simp [lenS]
    rw [this]
    exact h39
  obtain rfl : i = 8 := by omega
  rw [List.take_of_length_le (by omega)] at h32
  generalize hE : l ++ lenS n = E at *
  have hEl : E.length ≤ 136 ∧ 64 ≤ E.length ∧ E.length % 64 = 0 := by
    rw [← hE, List.length_append, hLl, hzl, List.length_append, List.length_cons, List.length_nil]
    omega
  refine nzI ?_
  refine ldRow (vs := ints h) (stay hf32) (by rw [List.drop_zero, List.take_left' (by rw [ints_length, hh])]) (by rw [ints_length, hh]) ?_
  refine newRow (l := h) (zrow 8 (.int .u32 0)) hh fun a43 w45 ha43 hf45 hl45 hb45 => ?_
  have hf45' := hf32.trans hf45
  have hs32 := hf32.size
  refine lpI (fun s' w' => ∃ (h' : List Int) (t : List UInt8), Below w32.heap.size w45 w' ∧ h'.length = 8 ∧ w'.heap[a43]? = some (.cells (ints h').toArray t_digest_state (0, 0)) ∧ Bs w' s'.1 t ∧ (t ≠ [] → ∀ ad, s'.1.a = some ad → ad.block < w32.heap.size) ∧ t.length % 64 = 0 ∧ t.length ≤ 136 ∧ allS K0 (t.length + 1) h' t = allS K0 (E.length + 1) h E ∧ ((∀ x ∈ h', 0 ≤ x) ∨ t ≠ [])) (fun s' _ => s'.1.n)
    ⟨h, E, Below.refl _ _, hh, hb45, (h32.fr hf45).bs, fun _ ad had => (h32.own ad had).2, hEl.2.2, hEl.1, rfl, .inr (by intro e; rw [e] at hEl; simp at hEl)⟩ ?_
  rintro _ ⟨e3, ⟨⟩⟩ w47 ⟨h', t, hb47, hh', k43, ht, hold, hm, htl, heq, hnn⟩
  dsimp only at ht hold ⊢
  have htn := ht.len
  refine bD ?_ ?_ <;> intro hpos
  · refine slsB ht (by decide) (by decide) (by omega) fun r50 h50 hblk50 _ => ?_
    rw [Int.toNat_zero, List.drop_zero, show (64 : Int).toNat = 64 from rfl] at h50
    have hfr47 : Fr w4 w47 := hf45'.on (hb47.mono hf32.size)
    refine (stir_ok (rest := []) h50 (by rw [List.length_take]; omega) hh' (by rw [List.append_nil]; exact k43) ((hR.fr hf).fr hfr47) rfl).mono ?_
    rintro _ w52 ⟨k52, hg52⟩
    rw [List.append_nil] at k52
    have htne : t ≠ [] := by intro e; rw [e] at htn; simp at htn; omega
    have ht52 : Bs w52 e3 t := ht.kpn (kp_grown hg52) fun h0 ad had => by have := hold h0 ad had; omega
    refine slsB ht52 (by decide) (by omega) (by omega) fun r53 h53 hblk53 _ => ?_
    have e53 : (t.take (e3.n : Int).toNat).drop (64 : Int).toNat = t.drop 64 := by rw [List.take_of_length_le (by omega)]; rfl
    rw [e53] at h53
    have h53l := h53.len
    rw [List.length_drop] at h53l
    refine ⟨⟨stirS K0 h' (t.take 64), t.drop 64, hb47.trans (grown_below hg52 (by omega) (by have := hb47.size; omega)), stirS_length _ _ _, k52, h53, fun _ ad had => ?_, by rw [List.length_drop]; omega, by rw [List.length_drop]; omega, ?_, .inl (stirS_nn _ _ _)⟩, by omega⟩
    · obtain ⟨ad', h1, h2⟩ := hblk53 ad had
      rw [h2]; exact hold htne ad' h1
    · rw [allS, if_neg (by omega)] at heq
      rw [← heq]
      exact allS_any (by rw [List.length_drop]; omega) (by rw [List.length_drop]; omega)
  have ht0 : t = [] := List.eq_nil_of_length_eq_zero (by omega)
  subst ht0
  have hX : (allS K0 (E.length + 1) h E).1 = h' := by rw [← heq]; rfl
  have hnn' : ∀ x ∈ h', 0 ≤ x := hnn.resolve_right (fun h => h rfl)
  rw [hX]
  clear hX heq hold ht hm htl hpos hnn
  have hfr47 : Fr w4 w47 := hf45'.on (hb47.mono hf32.size)
  have hW47 : Fr w w47 := hf.trans hfr47
  have k3 := hfr47.heap hb3
  have k1 := hfr47.heap hb1
  have hol := outS_length h'
  have ha13 : a1 < a3 := by omega
  have hs32' := hfr47.size
  have h8' : w4.heap.size ≤ a43 := by have := hf32.size; omega
  clear hb47 hb3 hb1 stay h32 H4 hEl
  refine lpI (fun s' w' => Fr w w' ∧ ∃ i : Nat, i ≤ 32 ∧ s'.1 = i ∧ w'.heap[a3]? = some (.cells (u8s ((outS h').take i ++ List.replicate (32 - i) 0)).toArray t_api_Sum (0, 0)) ∧ w'.heap[a43]? = some (.cells (ints h').toArray t_digest_state (0, 0)) ∧ w'.heap[a1]? = some (.cells (u8s (List.replicate 32 0)).toArray t_api_Sum (0, 0))) (fun s' _ => (32 - s'.1).toNat)
    ⟨hW47, 0, by decide, rfl, k3, k43, k1⟩ ?_
  rintro _ ⟨i', ⟨⟩⟩ w55 ⟨hf55, i, hi, rfl, m3, m43, m1⟩
  dsimp only
  refine bD ?_ ?_ <;> intro hlt3
  · have e4 : IntKind.i64.wrap (Int.tdiv (i : Int) 4) = ((i / 4 : Nat) : Int) := by
      rw [show Int.tdiv (i : Int) 4 = ((i / 4 : Nat) : Int) from by rw [Int.ofNat_tdiv]; rfl, i64w (by omega) (by omega)]
    rw [e4]
    refine ixW m43 (by omega) (by omega) ?_
    have e5 : IntKind.i64.wrap (24 - IntKind.i64.wrap (8 * Int.tmod (i : Int) 4)) = ((24 - 8 * (i % 4) : Nat) : Int) := by
      rw [show Int.tmod (i : Int) 4 = ((i % 4 : Nat) : Int) from by rw [Int.tmod_eq_emod_of_nonneg (by omega)]; omega, i64w (n := 8 * ((i % 4 : Nat) : Int)) (by omega) (by omega), i64w (by omega) (by omega)]; omega
    rw [e5]
    refine bP (by omega) ?_
    rw [show min ((24 - 8 * (i % 4) : Nat) : Int).toNat 32 = 24 - 8 * (i % 4) from by omega]
    have ev : IntKind.u8.wrap (h'.getD (i / 4) 0 / 2 ^ (24 - 8 * (i % 4))) = (((outS h').getD i 0).toNat : Int) := by
      have hx : 0 ≤ h'.getD (i / 4) 0 := by
        rw [List.getD_eq_getElem?_getD, List.getElem?_eq_getElem (by omega), Option.getD_some]
        exact hnn' _ (List.getElem_mem _)
      have ho : (outS h').getD i 0 = UInt8.ofNat ((h'.getD (i / 4) 0).toNat / 2 ^ (24 - 8 * (i % 4))) := by
        rw [outS, List.getD_eq_getElem?_getD, List.getElem?_map, List.getElem?_range (by omega)]
        rfl
      rw [ho]
      obtain ⟨m, hm⟩ := Int.eq_ofNat_of_zero_le hx
      rw [hm, Int.toNat_natCast, u8w, u8_ofNat]
      congr 1
    rw [ev]
    refine ixSt m3 (by omega) (by omega) (by rw [Int.toNat_natCast, u8s_length, List.length_append, List.length_take, List.length_replicate]; omega) fun w61 hb61 hg61 hs61 => ?_
    rw [i64w (by omega) (by omega)]
    refine ⟨⟨hf55.on (grown_below hg61 (by omega) hf55.size), i + 1, by omega, rfl, ?_, ?_, ?_⟩, by omega⟩
    · have hset : u8s ((outS h').take (i + 1) ++ List.replicate (32 - (i + 1)) 0) = (u8s ((outS h').take i ++ List.replicate (32 - i) 0)).set i (.int .u8 ((outS h').getD i 0).toNat) := by
        have e : (outS h').take (i + 1) ++ List.replicate (32 - (i + 1)) 0 = ((outS h').take i ++ List.replicate (32 - i) 0).set i ((outS h').getD i 0) := by
          rw [List.set_append_right _ _ (by rw [List.length_take]; omega), List.length_take, Nat.min_eq_left (by omega), Nat.sub_self, show 32 - i = (32 - (i + 1)) + 1 from by omega, List.replicate_succ, List.set_cons_zero, List.take_succ_eq_append_getElem (by omega), List.append_assoc]
          simp [List.getD_eq_getElem?_getD, List.getElem?_eq_getElem (show i < (outS h').length by omega)]
        rw [e]
        simp only [u8s, List.map_set]
      rw [hb61, Int.toNat_natCast, hset]
    · rw [hg61.block a43 (Array.getElem?_eq_some_iff.1 m43).1 (by simp; omega)]; exact m43
    · rw [hg61.block a1 (Array.getElem?_eq_some_iff.1 m1).1 (by simp; omega)]; exact m1
  obtain rfl : i = 32 := by omega
  rw [List.take_of_length_le (by omega), Nat.sub_self, List.replicate_zero, List.append_nil] at m3
  have h32' : (u8s (outS h')).length = 32 := by rw [u8s_length, hol]
  have hone := u8s_one (outS h')
  generalize u8s (outS h') = o at *
  refine ldR0 m3 h32' ?_
  refine stL_row (cs := u8s (List.replicate 32 0)) m1 (by show 0 + o.length ≤ _; rw [u8s_length, List.length_replicate]; omega) hone fun w63 hb63 hg63 hs63 => ?_
  have e : (u8s (List.replicate 32 (0 : UInt8))).take 0 ++ o ++ (u8s (List.replicate 32 (0 : UInt8))).drop (0 + o.length) = o := by rw [List.drop_eq_nil_of_le (by rw [u8s_length, List.length_replicate]; omega)]; simp
  have hb63 : w63.heap[a1]? = some (.cells o.toArray t_api_Sum (0, 0)) := by rw [← e]; exact hb63
  exact ldR0 hb63 h32' ⟨rfl, hf55.on (grown_below hg63 (by omega) hf55.size)⟩
/-- The digest of one part. -/
theorem Of_ok {x : Sl} {b : List UInt8} {a : Nat} {w : World} (hd : Dig w) (ha : w.heap[a]? = some (.cells #[.slice x.a x.n x.c] t_s_uint8 (0, 0))) (hx : Bs w x b) (hl : b.length ≤ 1099511627776) :
    cl Tryd.prog n_digest_Of #[.slice (some ⟨a, 0, none⟩) 1 1] (.row 32) w fun (r : {l : List Value // l.length = 32}) w' => r.1 = u8s (dig b) ∧ Fr w w' := by
  refine digest_Of.cl (p0 := ⟨some ⟨a, 0, none⟩, 1, 1⟩) ?_
  unfold digest_Of
  refine nwI fun a1 w2 ha1 hs2 hf2 hb1 _ => ?_
  have hz32 : (zrow 32 (.int .u8 0)).1 = u8s (List.replicate 32 0) := by simp [zrow, u8s]
  rw [hz32] at hb1
  refine (New_ok (hd.fr hf2)).mono ?_
  rintro _ w4 ⟨g, rfl, hg, hH, hf4⟩
  have hf := hf2.trans hf4
  have hgl := (Array.getElem?_eq_some_iff.1 hH).1
  have hd4 := hd.fr hf
  have hal := (Array.getElem?_eq_some_iff.1 ha).1
  have glt : ∀ {q : Nat} {l : List Int}, Glob w q l → 0 < l.length → q < w.heap.size := fun h hl => World.block_lt_of_cell? w _ (h 0 hl)
  have gd1 := glt hd.first (by decide)
  have gd2 := glt hd.rounds (by decide)
  have hlen := allS_length (K := K0) (f := b.length + 1) (h := F0) (l := b) rfl
  have hrest := allS_rest (K := K0) (f := b.length + 1) (h := F0) (l := b) (by omega)
  refine lpI (fun s' w' => (s'.1 = 0 ∧ w' = w4) ∨ (s'.1 = 1 ∧ ∃ s : Sl, Hsh w' g (allS K0 (b.length + 1) F0 b).1 s b.length ∧ Bs w' s (allS K0 (b.length + 1) F0 b).2 ∧ w4.grownBy w' (some g))) (fun s' _ => (1 - s'.1).toNat) (.inl ⟨rfl, rfl⟩) ?_
  rintro _ ⟨i', ⟨⟩⟩ w6 (⟨h0, rfl⟩ | ⟨h1, s, k1, k2, k3⟩)
  · dsimp only at h0 ⊢
    subst h0
    refine bP (by decide) ?_
    refine ⟨by decide, by decide, ?_⟩
    show ld .L w6 (atOff ⟨a, 0, none⟩ 0 1) _
    rw [atH]
    refine ldL0 (s := x) (hf.heap ha) rfl ?_
    refine (Write_ok hd4 hH (hx.fr hf) hl (fun hb ad had => by have := hx.lt hb ad had; have := hf2.size; omega) (by have := hf2.size; omega)).mono ?_
    rintro _ w12 ⟨s, k1, k2, _, k3⟩
    exact ⟨.inr ⟨rfl, s, k1, k2, k3⟩, by decide⟩
  · dsimp only at h1 ⊢
    subst h1
    refine bN (by decide) ?_
    have hs2' := hf2.size
    have hfr6 : Fr w2 w6 := hf4.on (grown_below k3 hg hf4.size)
    refine (Sum_ok (hd4.rounds.grown k3 (by omega)) k1 hlen k2 hrest.1 hl).mono ?_
    rintro ⟨x13, hx13⟩ w14 ⟨hx, hf14⟩
    dsimp only at hx
    obtain ⟨o, ho⟩ : ∃ o, u8s (dig b) = o := ⟨_, rfl⟩
    have hx : x13 = o := hx.trans ho
    have hone := u8s_one (dig b)
    have hol : (u8s (dig b)).length = 32 := by rw [u8s_length, dig_length]
    rw [ho] at hone hol ⊢
    subst hx
    clear ho
    have hb14 := hf14.heap (hfr6.heap hb1)
    have hfw := hf2.trans (hfr6.trans hf14)
    refine stL_row (cs := u8s (List.replicate 32 0)) hb14 (by show 0 + x13.length ≤ _; rw [u8s_length, List.length_replicate]; omega) hone fun w15 hb15 hg15 hs15 => ?_
    have e : (u8s (List.replicate 32 (0 : UInt8))).take 0 ++ x13 ++ (u8s (List.replicate 32 (0 : UInt8))).drop (0 + x13.length) = x13 := by rw [List.drop_eq_nil_of_le (by rw [u8s_length, List.length_replicate]; omega)]; simp
    have hb15 : w15.heap[a1]? = some (.cells x13.toArray t_api_Sum (0, 0)) := by rw [← e]; exact hb15
    exact ldR0 hb15 hol ⟨rfl, hfw.on (grown_below hg15 (by omega) hfw.size)⟩
end Go.Proofs.YtkojpppnjloikaaDoor
namespace Go.Fl

abbrev RecT := Int × Int × {l : List Value // l.length = 32} × Sl × Unit
abbrev slV (s : Sl) : Value := .slice s.a s.n s.c
/-- A record's cells, ahead of others. -/
def rcL (p : RecT) (post : List Value) : List Value := .int .i64 p.1 :: .int .i64 p.2.1 :: (p.2.2.1.1 ++ (slV p.2.2.2.1 :: post))
theorem rcL_nil (p : RecT) : (([.int .i64 p.1, .int .i64 p.2.1] : List Value) ++ (p.2.2.1.1 ++ ([.slice p.2.2.2.1.a p.2.2.2.1.n p.2.2.2.1.c] : List Value))) = rcL p [] := rfl
theorem rcL_length (p : RecT) (post : List Value) : (rcL p post).length = 35 + post.length := by
  simp only [rcL, List.length_cons, List.length_append, p.2.2.1.2]; omega
/-- A row is stored, from a place on. -/
theorem stL_at {g o : Nat} {t : TypeId} : ∀ {vs : List Value} {cs : List Value} {i : Nat} {w : World} {K : World → Prop}, w.heap[g]? = some (.cells cs.toArray t (0, 0)) → o + i + vs.length ≤ cs.length → (∀ v ∈ vs, v.oneCell' = true) →
    (∀ w', w'.heap[g]? = some (.cells (cs.take (o + i) ++ vs ++ cs.drop (o + i + vs.length)).toArray t (0, 0)) → w.grownBy w' (some g) → w'.heap.size = w.heap.size → K w') → stL ⟨g, o, none⟩ w i vs K
  | [], cs, i, w, K, h, _, _, hk => by
    refine hk w ?_ (World.grownBy.refl _ _) rfl
    simpa using h
  | v :: vs, cs, i, w, K, h, hi, h1, hk => by
    simp only [List.length_cons] at hi
    refine ⟨h1 v (by simp), ?_⟩
    rw [addOff]
    refine st0 h (by simp; omega) fun w' hb hg hs => ?_
    refine stL_at (cs := cs.set (o + i) v) (i := i + 1) (by simpa using hb) (by simp; omega) (fun u hu => h1 u (by simp [hu])) fun w2 hb2 hg2 hs2 => hk w2 ?_ (hg.trans hg2) (hs2.trans hs)
    have e : (cs.set (o + i) v).take (o + (i + 1)) ++ vs ++ (cs.set (o + i) v).drop (o + (i + 1) + vs.length) = cs.take (o + i) ++ (v :: vs) ++ cs.drop (o + i + (v :: vs).length) := by
      rw [← Nat.add_assoc o i 1, List.take_set, List.drop_set_of_lt (by omega), List.take_succ_eq_append_getElem (by omega), List.set_append_right _ _ (by simp; omega), List.length_take, List.length_cons, Nat.min_eq_left (by omega), Nat.sub_self]
      simp [Nat.add_assoc, Nat.add_comm 1]
    rw [hb2, e]
theorem set_mid (pre rest : List Value) (x v : Value) : (pre ++ x :: rest).set pre.length v = pre ++ v :: rest := by
  rw [List.set_append_right _ _ (Nat.le_refl _), Nat.sub_self, List.set_cons_zero]
theorem mid3 (A R R' X : List Value) {o m : Nat} (ho : A.length = o) (hm : R.length = m) (hR : R'.length = m) : (A ++ (R' ++ X)).take o ++ R ++ (A ++ (R' ++ X)).drop (o + m) = A ++ R ++ X := by
  subst ho hm
  rw [List.take_left' rfl, ← hR, List.drop_append, List.drop_eq_nil_of_le (by omega), Nat.add_sub_cancel_left, List.drop_left' rfl]
  simp
/-- A record is stored into a block. -/
theorem stRec {w : World} {g : Nat} {pre post : List Value} {q : RecT} {t : TypeId} (hg : w.heap[g]? = some (.cells (pre ++ rcL q post).toArray t (0, 0))) (p : RecT) (hone : ∀ v ∈ p.2.2.1.1, v.oneCell' = true) {K : World → Prop}
    (hk : ∀ w', w'.heap[g]? = some (.cells (pre ++ rcL p post).toArray t (0, 0)) → w.grownBy w' (some g) → w'.heap.size = w.heap.size → K w') :
    st1 w ⟨g, pre.length, none⟩ (.int .i64 p.1) fun w1 => st1 w1 ((⟨g, pre.length, none⟩ : Addr).add 1) (.int .i64 p.2.1) fun w2 => stL (((⟨g, pre.length, none⟩ : Addr).add 1).add 1) w2 0 p.2.2.1.1 fun w3 => st1 w3 ((((⟨g, pre.length, none⟩ : Addr).add 1).add 1).add 32) (.slice p.2.2.2.1.a p.2.2.2.1.n p.2.2.2.1.c) K := by
  have hp := p.2.2.1.2
  have hq := q.2.2.1.2
  refine st0 hg (by simp [rcL]) fun w1 h1 g1 s1 => ?_
  rw [List.setIfInBounds_toArray, rcL, set_mid] at h1
  rw [addOff]
  refine st0 h1 (by simp) fun w2 h2 g2 s2 => ?_
  have e2 : (pre ++ .int .i64 p.1 :: .int .i64 q.2.1 :: (q.2.2.1.1 ++ (slV q.2.2.2.1 :: post))) = (pre ++ [.int .i64 p.1]) ++ .int .i64 q.2.1 :: (q.2.2.1.1 ++ (slV q.2.2.2.1 :: post)) := by simp
  rw [List.setIfInBounds_toArray, e2, show pre.length + 1 = (pre ++ [Value.int .i64 p.1]).length from by simp, set_mid] at h2
  rw [addOff, show pre.length + 1 + 1 = pre.length + 2 from rfl]
  refine stL_at h2 (by simp [hp, hq]; omega) hone fun w3 h3 g3 s3 => ?_
  have e3 : ((pre ++ [Value.int .i64 p.1]) ++ .int .i64 p.2.1 :: (q.2.2.1.1 ++ (slV q.2.2.2.1 :: post))).take (pre.length + 2 + 0) ++ p.2.2.1.1 ++ ((pre ++ [Value.int .i64 p.1]) ++ .int .i64 p.2.1 :: (q.2.2.1.1 ++ (slV q.2.2.2.1 :: post))).drop (pre.length + 2 + 0 + p.2.2.1.1.length) =
      (pre ++ [Value.int .i64 p.1, .int .i64 p.2.1] ++ p.2.2.1.1) ++ slV q.2.2.2.1 :: post := by
    have e : ((pre ++ [Value.int .i64 p.1]) ++ .int .i64 p.2.1 :: (q.2.2.1.1 ++ (slV q.2.2.2.1 :: post))) = (pre ++ [Value.int .i64 p.1, .int .i64 p.2.1]) ++ (q.2.2.1.1 ++ (slV q.2.2.2.1 :: post)) := by simp
    rw [e, Nat.add_zero]
    exact (mid3 _ _ _ _ (by simp) rfl (hq.trans hp.symm)).trans (by simp)
  rw [e3] at h3
  rw [addOff]
  refine st0 h3 (by simp [hp]; omega) fun w4 h4 g4 s4 => hk w4 ?_ (((g1.trans g2).trans g3).trans g4) (by omega)
  rw [List.setIfInBounds_toArray, show pre.length + 2 + 32 = (pre ++ [Value.int .i64 p.1, .int .i64 p.2.1] ++ p.2.2.1.1).length from by simp [hp], set_mid] at h4
  rw [h4]
  simp [rcL]
/-- A record's kind and data are written. -/
theorem stKD {w : World} {g : Nat} {p : RecT} {t : TypeId} {k : Int} {s : Sl} {K : World → Prop} (hg : w.heap[g]? = some (.cells (rcL p []).toArray t (0, 0)))
    (hk : ∀ w', w'.heap[g]? = some (.cells (rcL (k, p.2.1, p.2.2.1, s, ()) []).toArray t (0, 0)) → w.grownBy w' (some g) → w'.heap.size = w.heap.size → K w') :
    st1 w ⟨g, 0, none⟩ (.int .i64 k) fun w1 => st1 w1 ((⟨g, 0, none⟩ : Addr).add 34) (.slice s.a s.n s.c) K := by
  have hp := p.2.2.1.2
  refine st0 hg (by simp [rcL]) fun w1 h1 g1 s1 => ?_
  rw [addOff]
  have e1 : (rcL p []).toArray.setIfInBounds 0 (.int .i64 k) = ((Value.int .i64 k :: .int .i64 p.2.1 :: p.2.2.1.1) ++ (slV p.2.2.2.1 :: [])).toArray := by
    rw [List.setIfInBounds_toArray]; simp [rcL]
  rw [e1] at h1
  refine st0 h1 (by simp [hp]) fun w2 h2 g2 s2 => hk w2 ?_ (g1.trans g2) (by omega)
  rw [List.setIfInBounds_toArray, show 0 + 34 = (Value.int .i64 k :: .int .i64 p.2.1 :: p.2.2.1.1).length from by simp [hp], set_mid] at h2
  rw [h2]
  simp [rcL]
/-- A record is read. -/
theorem ldRec {w : World} {g : Nat} {pre post : List Value} {p : RecT} {t : TypeId} {f : Nat × Nat} (hg : w.heap[g]? = some (.cells (pre ++ rcL p post).toArray t f)) {K : RecT → Prop} (hk : K p) :
    ld (.pair (.I .i64) (.pair (.I .i64) (.pair (.row 32) (.pair .L .nil)))) w ⟨g, pre.length, none⟩ K := by
  obtain ⟨k, s, r, sl, ⟨⟩⟩ := p
  have hr := r.2
  refine ⟨k, ?_, s, ?_, ?_⟩
  · rw [cell_of_row w g _ _ t f hg]; simp [rcL]
  · show w.cell? ((⟨g, pre.length, none⟩ : Addr).add 1) = _
    rw [addOff, cell_of_row w g _ _ t f hg]; simp [rcL]
  · show ld (.row 32) w (((⟨g, pre.length, none⟩ : Addr).add 1).add 1) _
    rw [addOff, addOff]
    refine ldRow (vs := r.1) hg ?_ hr ?_
    · have e : pre ++ rcL (k, s, r, sl, ()) post = (pre ++ [.int .i64 k, .int .i64 s]) ++ (r.1 ++ (slV sl :: post)) := by simp [rcL]
      rw [e, List.drop_left' (by simp), List.take_left' hr]
    · refine ⟨sl, ?_, hk⟩
      show w.cell? (Addr.add ⟨g, pre.length + 1 + 1, none⟩ 32) = _
      rw [addOff, cell_of_row w g _ _ t f hg]
      have e : pre ++ rcL (k, s, r, sl, ()) post = (pre ++ [.int .i64 k, .int .i64 s] ++ r.1) ++ (slV sl :: post) := by simp [rcL]
      have hl : (pre ++ [Value.int .i64 k, .int .i64 s] ++ r.1).length = pre.length + 1 + 1 + 32 := by simp [hr]
      rw [show (pre ++ rcL (k, s, r, sl, PUnit.unit) post) = (pre ++ [.int .i64 k, .int .i64 s] ++ r.1) ++ (slV sl :: post) from e, List.getElem?_toArray, List.getElem?_append_right (by omega), hl, Nat.sub_self]
      rfl
end Go.Fl
namespace Go.Fl

abbrev NtT := Int × Int × Int × Int × Int × RecT × Unit
abbrev n5 (p : NtT) : List Value := [.int .i64 p.1, .int .i64 p.2.1, .int .i64 p.2.2.1, .int .i64 p.2.2.2.1, .int .i64 p.2.2.2.2.1]
/-- A note's cells. -/
def ntL (p : NtT) : List Value := n5 p ++ rcL p.2.2.2.2.2.1 []
theorem ntL_eq (p : NtT) : (([.int .i64 p.1, .int .i64 p.2.1, .int .i64 p.2.2.1, .int .i64 p.2.2.2.1, .int .i64 p.2.2.2.2.1] : List Value) ++ ((([.int .i64 p.2.2.2.2.2.1.1, .int .i64 p.2.2.2.2.2.1.2.1] : List Value) ++ (p.2.2.2.2.2.1.2.2.1.1 ++ ([.slice p.2.2.2.2.2.1.2.2.2.1.a p.2.2.2.2.2.1.2.2.2.1.n p.2.2.2.2.2.1.2.2.2.1.c] : List Value))) ++ ([] : List Value))) = ntL p := by
  rw [List.append_nil]; rfl
theorem ntL_length (p : NtT) : (ntL p).length = 40 := by simp [ntL, rcL_length]
theorem nzS {a : Addr} {K : Addr → Prop} (h : K a) : nz (some a) K := h
theorem rdAt {w : World} {g i n : Nat} {cs vs : List Value} {t : TypeId} {f : Nat × Nat} (h : w.heap[g]? = some (.cells cs.toArray t f)) (hv : (cs.drop i).take n = vs) : Rd w (some ⟨g, i, none⟩) vs := by
  intro j u hu
  refine ⟨_, rfl, ?_⟩
  rw [addOff, cell_of_row w g (i + j) cs.toArray t f h]
  have : ((cs.drop i).take n)[j]? = some u := by rw [hv]; exact hu
  rw [List.getElem?_take] at this
  split at this
  · rw [List.getElem?_drop] at this; simpa using this
  · cases this
theorem slA {P : Program} {t e : TypeId} {n : Nat} (ht : P.underlying t = some (.array n e)) (hs : ∀ w, (sizeOf e).run P w = .ok 1 w) {a : Addr} {w : World} {K : Sl → Prop} (k : K ⟨some a, n, n⟩) : qn P (Instr.sliceAt t (.pointer (some a)) none none none) .L w K :=
  ⟨_, fun w' _ => by
    simp [Instr.sliceAt, Instr.sliceBounds, run_underlying ht, Instr.sureAddr, hs, Addr.add]
    rfl, k⟩
/-- A pointer of a known block is read. -/
theorem ixP {w : World} {g n : Nat} {cs : List Value} {t : TypeId} {f : Nat × Nat} {i : Int} {v : Option Addr} {K : Option Addr → Prop} (h : w.heap[g]? = some (.cells cs.toArray t f)) (h0 : 0 ≤ i) (hn : i < n) (hi : cs[i.toNat]? = some (.pointer v)) (k : K v) :
    ixa (some ⟨g, 0, none⟩) n i 1 fun a => ld .P w a K := by
  refine ⟨h0, hn, ?_⟩
  show ld .P w (atOff ⟨g, 0, none⟩ i 1) K
  rw [atH]
  exact ldP0 h (by simpa using hi) k

/-- A note is stored into a block. -/
theorem stNote {w : World} {g : Nat} {q : NtT} {t : TypeId} (hg : w.heap[g]? = some (.cells (ntL q).toArray t (0, 0))) (p : NtT) (hone : ∀ v ∈ p.2.2.2.2.2.1.2.2.1.1, v.oneCell' = true) {K : World → Prop}
    (hk : ∀ w', w'.heap[g]? = some (.cells (ntL p).toArray t (0, 0)) → w.grownBy w' (some g) → w'.heap.size = w.heap.size → K w') :
    st1 w ⟨g, 0, none⟩ (.int .i64 p.1) fun w1 => st1 w1 ((⟨g, 0, none⟩ : Addr).add 1) (.int .i64 p.2.1) fun w2 => st1 w2 (((⟨g, 0, none⟩ : Addr).add 1).add 1) (.int .i64 p.2.2.1) fun w3 => st1 w3 ((((⟨g, 0, none⟩ : Addr).add 1).add 1).add 1) (.int .i64 p.2.2.2.1) fun w4 => st1 w4 (((((⟨g, 0, none⟩ : Addr).add 1).add 1).add 1).add 1) (.int .i64 p.2.2.2.2.1) fun w5 =>
      st1 w5 ((((((⟨g, 0, none⟩ : Addr).add 1).add 1).add 1).add 1).add 1) (.int .i64 p.2.2.2.2.2.1.1) fun w6 => st1 w6 (((((((⟨g, 0, none⟩ : Addr).add 1).add 1).add 1).add 1).add 1).add 1) (.int .i64 p.2.2.2.2.2.1.2.1) fun w7 => stL ((((((((⟨g, 0, none⟩ : Addr).add 1).add 1).add 1).add 1).add 1).add 1).add 1) w7 0 p.2.2.2.2.2.1.2.2.1.1 fun w8 => st1 w8 (((((((((⟨g, 0, none⟩ : Addr).add 1).add 1).add 1).add 1).add 1).add 1).add 1).add 32) (.slice p.2.2.2.2.2.1.2.2.2.1.a p.2.2.2.2.2.1.2.2.2.1.n p.2.2.2.2.2.1.2.2.2.1.c) K := by
  refine st0 hg (by simp [ntL_length]) fun w1 h1 g1 s1 => ?_
  rw [addOff]
  have k1 : w1.heap[g]? = some (.cells (((.int .i64 p.1 :: (ntL q).tail) : List Value)).toArray t (0, 0)) := by rw [h1]; simp [ntL]
  refine st0 k1 (by simp [ntL_length]) fun w2 h2 g2 s2 => ?_
  rw [addOff]
  have k2 : w2.heap[g]? = some (.cells (((.int .i64 p.1 :: .int .i64 p.2.1 :: (ntL q).tail.tail) : List Value)).toArray t (0, 0)) := by rw [h2]; simp [ntL]
  refine st0 k2 (by simp [ntL_length]) fun w3 h3 g3 s3 => ?_
  rw [addOff]
  have k3 : w3.heap[g]? = some (.cells (((.int .i64 p.1 :: .int .i64 p.2.1 :: .int .i64 p.2.2.1 :: (ntL q).tail.tail.tail) : List Value)).toArray t (0, 0)) := by rw [h3]; simp [ntL]
  refine st0 k3 (by simp [ntL_length]) fun w4 h4 g4 s4 => ?_
  rw [addOff]
  have k4 : w4.heap[g]? = some (.cells (((.int .i64 p.1 :: .int .i64 p.2.1 :: .int .i64 p.2.2.1 :: .int .i64 p.2.2.2.1 :: (ntL q).tail.tail.tail.tail) : List Value)).toArray t (0, 0)) := by rw [h4]; simp [ntL]
  refine st0 k4 (by simp [ntL_length]) fun w5 h5 g5 s5 => ?_
  rw [addOff]
  have k5 : w5.heap[g]? = some (.cells (n5 p ++ rcL q.2.2.2.2.2.1 []).toArray t (0, 0)) := by rw [h5]; simp [ntL]
  refine stRec (pre := n5 p) (post := []) (q := q.2.2.2.2.2.1) k5 p.2.2.2.2.2.1 hone fun w' hb hg' hs' => hk w' hb (((((g1.trans g2).trans g3).trans g4).trans g5).trans hg') (by omega)
abbrev ntK : Kd := .pair (.I .i64) (.pair (.I .i64) (.pair (.I .i64) (.pair (.I .i64) (.pair (.I .i64) (.pair (.pair (.I .i64) (.pair (.I .i64) (.pair (.row 32) (.pair .L .nil)))) .nil)))))
/-- A note is read. -/
theorem ldNote {w : World} {g : Nat} {p : NtT} {t : TypeId} {f : Nat × Nat} (hg : w.heap[g]? = some (.cells (ntL p).toArray t f)) {K : NtT → Prop} (hk : K p) : ld ntK w ⟨g, 0, none⟩ K := by
  obtain ⟨k, a, b, c, d, r, ⟨⟩⟩ := p
  refine ⟨k, ?_, a, ?_, b, ?_, c, ?_, d, ?_, ?_⟩
  · rw [cell_of_row w g _ _ t f hg]; rfl
  · show w.cell? ((⟨g, 0, none⟩ : Addr).add 1) = _
    rw [addOff, cell_of_row w g _ _ t f hg]; rfl
  · show w.cell? (((⟨g, 0, none⟩ : Addr).add 1).add 1) = _
    rw [addOff, addOff, cell_of_row w g _ _ t f hg]; rfl
  · show w.cell? ((((⟨g, 0, none⟩ : Addr).add 1).add 1).add 1) = _
    rw [addOff, addOff, addOff, cell_of_row w g _ _ t f hg]; rfl
  · show w.cell? (((((⟨g, 0, none⟩ : Addr).add 1).add 1).add 1).add 1) = _
    rw [addOff, addOff, addOff, addOff, cell_of_row w g _ _ t f hg]; rfl
  · show ld _ w ((((((⟨g, 0, none⟩ : Addr).add 1).add 1).add 1).add 1).add 1) _
    rw [addOff, addOff, addOff, addOff, addOff]
    exact ldRec (pre := n5 (k, a, b, c, d, r, ())) (post := []) hg (K := fun r => K (k, a, b, c, d, r, ())) hk

/-- Which numbers a note of a kind has. -/
def offs (k : Int) : List Nat := if k = 1 then [1, 2, 3] else if k = 2 ∨ k = 5 ∨ k = 6 then [1, 4] else if k = 3 ∨ k = 4 then [1] else []
theorem offs_mem {k : Int} {o : Nat} (h : o ∈ offs k) : o = 1 ∨ o = 2 ∨ o = 3 ∨ o = 4 := by
  unfold offs at h
  split at h
  · simp at h; omega
  · split at h
    · simp at h; omega
    · split at h
      · simp at h; omega
      · simp at h
theorem offs_len (k : Int) : (offs k).length ≤ 3 := by
  unfold offs
  repeat (split; simp)
  simp
/-- A note's numbers. -/
def nv (p : NtT) (o : Nat) : Int := ([p.1, p.2.1, p.2.2.1, p.2.2.2.1, p.2.2.2.2.1] : List Int).getD o 0
theorem ntL_at (p : NtT) {o : Nat} (h : o < 5) : (ntL p).toArray[o]? = some (.int .i64 (nv p o)) := by
  obtain rfl | rfl | rfl | rfl | rfl : o = 0 ∨ o = 1 ∨ o = 2 ∨ o = 3 ∨ o = 4 := by omega
  all_goals rfl
/-- A note with some of the numbers alone. -/
def bareN (p : NtT) (os : List Nat) : NtT := (p.1, if 1 ∈ os then p.2.1 else 0, if 2 ∈ os then p.2.2.1 else 0, if 3 ∈ os then p.2.2.2.1 else 0, if 4 ∈ os then p.2.2.2.2.1 else 0, p.2.2.2.2.2.1, ())
theorem bareN_set (p : NtT) (os : List Nat) {o : Nat} (h : o = 1 ∨ o = 2 ∨ o = 3 ∨ o = 4) : (ntL (bareN p os)).toArray.setIfInBounds o (.int .i64 (nv p o)) = (ntL (bareN p (os ++ [o]))).toArray := by
  rcases h with rfl | rfl | rfl | rfl <;> simp [ntL, bareN, nv]
/-- A row of pointers to a block's cells. -/
def Pts (w : World) (base g : Nat) (os : List Nat) (r : Sl) : Prop := r.n = os.length ∧ (os ≠ [] → ∃ b t, r.a = some ⟨b, 0, none⟩ ∧ base ≤ b ∧ w.heap[b]? = some (.cells (os.map fun o => Value.pointer (some ⟨g, o, none⟩)).toArray t (0, 0)))
theorem Pts.fr {w w' : World} {base g : Nat} {os : List Nat} {r : Sl} (h : Pts w base g os r) (hf : Fr w w') : Pts w' base g os r :=
  ⟨h.1, fun hne => by obtain ⟨b, t, ha, hb, hh⟩ := h.2 hne; exact ⟨b, t, ha, hb, hf.heap hh⟩⟩
theorem Pts.kp {w w' : World} {base g c : Nat} {os : List Nat} {r : Sl} (h : Pts w base g os r) (hg : w.grownBy w' (some c)) (hc : c < base) : Pts w' base g os r :=
  ⟨h.1, fun hne => by
    obtain ⟨b, t, ha, hb, hh⟩ := h.2 hne
    exact ⟨b, t, ha, hb, (hg.block b (Array.getElem?_eq_some_iff.1 hh).1 (by simp; omega)).trans hh⟩⟩
theorem Pts.ix {w : World} {base g : Nat} {os : List Nat} {r : Sl} (h : Pts w base g os r) {i : Nat} (hi : i < os.length) {K : Option Addr → Prop} (k : K (some ⟨g, os[i], none⟩)) : ixa r.a r.n (i : Int) 1 fun a => ld .P w a K := by
  obtain ⟨b, t, ha, hb, hh⟩ := h.2 (by intro e; rw [e] at hi; simp at hi)
  rw [ha, h.1]
  exact ixP hh (by omega) (by omega) (by rw [Int.toNat_natCast, List.getElem?_map, List.getElem?_eq_getElem hi]; rfl) k
/-- Is the record empty? -/
def emptyR (q : RecT) (d : List UInt8) : Prop := q.1 = 0 ∧ q.2.1 = 0 ∧ d = List.replicate 32 0 ∧ q.2.2.2.1.n = 0
instance (q : RecT) (d : List UInt8) : Decidable (emptyR q d) := by unfold emptyR; infer_instance
/-- May a record be? -/
def chkS (k s : Int) (n : Nat) : Int := if ((k = 1 ∧ n = 0) ∨ (k = 2 ∧ (n : Int) = s) ∨ (k = 3 ∧ n ≤ 256)) ∧ 1 ≤ s ∧ s ≤ 256 then 0 else 100
/-- May a note be? -/
def FitP (p : NtT) (d : List UInt8) : Prop := offs p.1 ≠ [] ∧ (∀ o ∈ offs p.1, 1 ≤ nv p o ∧ nv p o ≤ 1073741824) ∧ (p.1 = 1 → p.2.2.1 ≤ 65535 ∧ p.2.2.2.1 ≤ 65535) ∧ (∀ o ∈ ([1, 2, 3, 4] : List Nat), o ∉ offs p.1 → nv p o = 0) ∧
  (p.1 ≠ 2 → emptyR p.2.2.2.2.2.1 d) ∧ (p.1 = 2 → chkS p.2.2.2.2.2.1.1 p.2.2.2.2.2.1.2.1 p.2.2.2.2.2.1.2.2.2.1.n = 0)
instance (p : NtT) (d : List UInt8) : Decidable (FitP p d) := by unfold FitP; infer_instance
def fitS (p : NtT) (d : List UInt8) : Int := if FitP p d then 0 else 100
theorem bare_same (p : NtT) (os : List Nat) : (((bareN p os).2.1 = p.2.1 ∧ (bareN p os).2.2.1 = p.2.2.1 ∧ (bareN p os).2.2.2.1 = p.2.2.2.1 ∧ (bareN p os).2.2.2.2.1 = p.2.2.2.2.1) ↔ ∀ o ∈ ([1, 2, 3, 4] : List Nat), o ∉ os → nv p o = 0) := by
  have e (x : Int) (P : Prop) [Decidable P] : ((if P then x else 0) = x) ↔ (¬P → x = 0) := by
    split
    · rename_i h; simp [h]
    · rename_i h; simp [h]; exact eq_comm
  simp only [bareN, e, List.mem_cons, List.not_mem_nil, or_false, forall_eq_or_imp, forall_eq]
  rfl
/-- A record's bytes. -/
def recB (k s : Int) (d l : List UInt8) : List UInt8 := numsB [k, s] ++ d ++ (numB l.length ++ l)
/-- A note's bytes. -/
def noteB (p : NtT) (d l : List UInt8) : List UInt8 := numB p.1.toNat ++ numsB ((offs p.1).map (nv p)) ++ (if p.1 = 2 then recB p.2.2.2.2.2.1.1 p.2.2.2.2.2.1.2.1 d l else [])
end Go.Fl
namespace Go.Proofs.YtkojpppnjloikaaDoor
open Go.RowKit Go.Fl

abbrev rcV (p : RecT) : Value := .agg ((([.int .i64 p.1, .int .i64 p.2.1] : List Value) ++ (p.2.2.1.1 ++ ([.slice p.2.2.2.1.a p.2.2.2.1.n p.2.2.2.1.c] : List Value)))).toArray
theorem sumGuard : Tryd.prog.eqGuardType Tryd.prog.depth t_api_Sum = false := by kernel_rfl
theorem size_u8 (w : World) : (sizeOf t_uint8).run Tryd.prog w = .ok 1 w := by
  obtain ⟨i, z, hi, hz, hsize, hby, hzs⟩ := slB.info
  simp [sizeOf, typeInfo, hi, hsize]
theorem sumEq {a b : List UInt8} (ha : a.length = 32) (hb : b.length = 32) (w : World) : (Op.equalIn 10000 t_api_Sum (.agg (u8s a).toArray) (.agg (u8s b).toArray)).run Tryd.prog w = .ok (a == b) w :=
  run_equalIn_bytes w 9998 t_api_Sum t_uint8 32 u_api_Sum u_uint8 size_u8 a b ha hb
theorem qnEq {a b : List UInt8} (ha : a.length = 32) (hb : b.length = 32) {w : World} {K : Bool → Prop} (k : K (decide (a = b))) : qn Tryd.prog (do eqGuard .eql t_api_Sum (.const .nilIface) (.const .nilIface) (.agg (u8s a).toArray) (.agg (u8s b).toArray); binOp .eql t_api_Sum (.agg (u8s a).toArray) (.agg (u8s b).toArray)) .B w K := by
  refine ⟨decide (a = b), fun w' _ => ?_, k⟩
  rw [Sem.run_bind]
  have h1 : (eqGuard .eql t_api_Sum (.const .nilIface) (.const .nilIface) (.agg (u8s a).toArray) (.agg (u8s b).toArray)).run Tryd.prog w' = .ok () w' := by simp [eqGuard, program, Sem.run]
  rw [h1, Result.andThen_ok, run_eql_struct, sumEq ha hb]
  simp only [Result.andThen_ok]
  rw [show (a == b) = decide (a = b) from by rw [Bool.eq_iff_iff]; simp]
  rfl
theorem qnNe {a b : List UInt8} (ha : a.length = 32) (hb : b.length = 32) {w : World} {K : Bool → Prop} (k : K (!decide (a = b))) : qn Tryd.prog (do eqGuard .neq t_api_Sum (.const .nilIface) (.const .nilIface) (.agg (u8s a).toArray) (.agg (u8s b).toArray); binOp .neq t_api_Sum (.agg (u8s a).toArray) (.agg (u8s b).toArray)) .B w K := by
  refine ⟨!decide (a = b), fun w' _ => ?_, k⟩
  rw [Sem.run_bind]
  have h1 : (eqGuard .neq t_api_Sum (.const .nilIface) (.const .nilIface) (.agg (u8s a).toArray) (.agg (u8s b).toArray)).run Tryd.prog w' = .ok () w' := by simp [eqGuard, program, Sem.run]
  rw [h1, Result.andThen_ok, run_neq_struct, sumEq ha hb]
  simp only [Result.andThen_ok]
  rw [show (a == b) = decide (a = b) from by rw [Bool.eq_iff_iff]; simp]
  rfl
theorem Check_ok {p : RecT} {w : World} : cl Tryd.prog n_record_Check #[rcV p] (.I .i64) w fun (r : Int) w' => r = chkS p.1 p.2.1 p.2.2.2.1.n ∧ Fr w w' := by
  refine record_Check.cl (p0 := p) ?_
  unfold record_Check
  rw [rcL_nil]
  refine nwI fun a1 w2 ha hs hf hb _ => ?_
  have hr := p.2.2.1.2
  have c0 : (rcL p []).toArray[0]? = some (.int .i64 p.1) := rfl
  have c1 : (rcL p []).toArray[1]? = some (.int .i64 p.2.1) := rfl
  have c34 : (rcL p []).toArray[34]? = some (.slice p.2.2.2.1.a p.2.2.2.1.n p.2.2.2.1.c) := by
    have e : rcL p [] = ([Value.int .i64 p.1, .int .i64 p.2.1] ++ p.2.2.1.1) ++ [slV p.2.2.2.1] := by simp [rcL]
    rw [e, List.getElem?_toArray, List.getElem?_append_right (by simp [hr]), List.length_append, hr]
    rfl
  generalize rcL p [] = cs at *
  rw [addOff, addOff]
  refine ldL0 (s := p.2.2.2.1) hb c34 ?_
  intro j1
  have hj : ∀ y : Bool, (y = true ↔ ((p.1 = 1 ∧ p.2.2.2.1.n = 0) ∨ (p.1 = 2 ∧ (p.2.2.2.1.n : Int) = p.2.1) ∨ (p.1 = 3 ∧ p.2.2.2.1.n ≤ 256))) → j1 y w2 := by
    intro y hy
    show bif (!y) then _ else _
    unfold chkS
    cases y with
    | false =>
      refine bT rfl ⟨?_, hf⟩
      rw [if_neg fun h => by have := hy.2 h.1; cases this]
    | true =>
      refine bF rfl ?_
      have h := hy.1 rfl
      refine ldI0 hb c1 (bD (fun h1 => ⟨?_, hf⟩) fun h1 => ldI0 hb c1 (bD (fun h2 => ⟨?_, hf⟩) fun h2 => ⟨?_, hf⟩))
      · rw [if_neg (by omega)]
      · rw [if_neg (by omega)]
      · rw [if_pos ⟨h, by omega, by omega⟩]
  clear_value j1
  refine ldI0 hb c0 ?_
  refine bE ?_ ?_ <;> intro h1
  · refine ldL0 (s := p.2.2.2.1) hb c34 (hj _ ?_)
    simp [h1]
  refine bE ?_ ?_ <;> intro h2
  · refine ldL0 (s := p.2.2.2.1) hb c34 (ldI0 hb c1 (hj _ ?_))
    simp [h2]
  refine bE ?_ ?_ <;> intro h3
  · refine hj _ ?_
    simp [h3]
    omega
  · refine hj false ?_
    simp [h1, h2, h3]
/-- The record of nothing. -/
def rc0 : RecT := (0, 0, zrow 32 (.int .u8 0), ⟨none, 0, 0⟩, ())
theorem rc0_one : ∀ v ∈ rc0.2.2.1.1, v.oneCell' = true := fun v hv => by
  simp only [rc0, zrow] at hv
  rw [List.eq_of_mem_replicate hv]
  rfl
/-- What is made of a chunk. -/
def MakeP (w : World) (b : List UInt8) (known : Bool) (r : RecT × Int × Unit) : Prop :=
  if b.length < 1 ∨ b.length > 256 then r = (rc0, 100, ())
  else r.2 = (0, ()) ∧ r.1.2.1 = b.length ∧ r.1.2.2.1.1 = u8s (dig b) ∧
    (if known then r.1.1 = 1 ∧ r.1.2.2.2.1 = ⟨none, 0, 0⟩ else if (shortS b).length < b.length then r.1.1 = 3 ∧ Bs w r.1.2.2.2.1 (shortS b) else r.1.1 = 2 ∧ Bs w r.1.2.2.2.1 b)
/-- What is made of a chunk: its data are the call's own. -/
def MakeO (w : World) (base : Nat) (b : List UInt8) (known : Bool) (r : RecT × Int × Unit) : Prop :=
  if b.length < 1 ∨ b.length > 256 then r = (rc0, 100, ())
  else r.2 = (0, ()) ∧ r.1.2.1 = b.length ∧ r.1.2.2.1.1 = u8s (dig b) ∧
    (if known then r.1.1 = 1 ∧ r.1.2.2.2.1 = ⟨none, 0, 0⟩ else if (shortS b).length < b.length then r.1.1 = 3 ∧ OwB w base t_uint8 r.1.2.2.2.1 (shortS b) else r.1.1 = 2 ∧ OwB w base t_uint8 r.1.2.2.2.1 b)
theorem MakeO.p {w : World} {base : Nat} {b : List UInt8} {known : Bool} {r : RecT × Int × Unit} (h : MakeO w base b known r) : MakeP w b known r := by
  unfold MakeO at h
  unfold MakeP
  split at h
  · rename_i h1; rw [if_pos h1]; exact h
  · rename_i h1
    rw [if_neg h1]
    refine ⟨h.1, h.2.1, h.2.2.1, ?_⟩
    have := h.2.2.2
    split at this
    · rename_i h2; rw [if_pos h2]; exact this
    · rename_i h2
      rw [if_neg h2]
      split at this
      · rename_i h3; rw [if_pos h3]; exact ⟨this.1, this.2.bs⟩
      · rename_i h3; rw [if_neg h3]; exact ⟨this.1, this.2.bs⟩
theorem Make_own {s : Sl} {b : List UInt8} {known : Bool} {w : World} (hd : Dig w) (hs : Bs w s b) (hl : b.length ≤ 1048576) :
    cl Tryd.prog n_record_Make #[.slice s.a s.n s.c, .bool known] (.tup (.pair (.pair (.I .i64) (.pair (.I .i64) (.pair (.row 32) (.pair .L .nil)))) (.pair (.I .i64) .nil))) w fun (r : RecT × Int × Unit) w' => MakeO w' w.heap.size b known r ∧ Fr w w' := by
  refine record_Make.cl ?_
  unfold record_Make
  have hn := hs.len
  refine nwI fun a1 w2 ha1 hs2 hf2 hb1 _ => ?_
  refine nwI fun a3 w4 ha3 hs4 hf4 hb3 _ => ?_
  have hf4' := hf2.trans hf4
  refine (Of_ok (x := s) (hd.fr hf4') hb3 (hs.fr hf4') (by omega)).mono ?_
  rintro ⟨x5, hx5⟩ w6 ⟨hx, hf6⟩
  dsimp only at hx
  have hdl := dig_length b
  obtain ⟨d, hdg⟩ : ∃ d, dig b = d := ⟨_, rfl⟩
  rw [hdg] at hx hdl
  subst hx
  have hf6' := hf4'.trans hf6
  refine nwI fun a7 w8 ha7 hs8 hf8 hb7 _ => ?_
  have hf8' := hf6'.trans hf8
  have h1at := ((hf4.trans hf6).trans hf8).heap hb1
  have hlt1 := hf4.size
  have hlt6 := hf6.size
  have hone := u8s_one d
  refine stRec (pre := []) (post := []) (q := rc0) hb7 (1, (s.n : Int), ⟨u8s d, hx5⟩, ⟨none, 0, 0⟩, ()) hone fun w12 hb12 hg12 hs12 => ?_
  have hf12 : Fr w w12 := hf8'.on (grown_below hg12 (by have := hf2.size; omega) hf8'.size)
  have h1at12 : w12.heap[a1]? = some (.cells (rcL rc0 []).toArray t_api_Record (0, 0)) := by
    rw [hg12.block a1 (Array.getElem?_eq_some_iff.1 h1at).1 (by simp; omega)]; exact h1at
  intro j1
  /- the results' block is written and read -/
  have fin : ∀ (u : World) (p : RecT) (e : Int) (K : RecT × Int × Unit → World → Prop), (∀ v ∈ p.2.2.1.1, v.oneCell' = true) → Fr w u → (∃ q : RecT, u.heap[a1]? = some (.cells ([] ++ rcL q []).toArray t_api_Record (0, 0))) → (∀ u', Fr w u' → (∀ k, k < u.heap.size → k ≠ a1 → u'.heap[k]? = u.heap[k]?) → K (p, e, ()) u') →
      st1 u ⟨a1, 0, none⟩ (.int .i64 p.1) fun w1 => st1 w1 ((⟨a1, 0, none⟩ : Addr).add 1) (.int .i64 p.2.1) fun w2 => stL (((⟨a1, 0, none⟩ : Addr).add 1).add 1) w2 0 p.2.2.1.1 fun w3 => st1 w3 ((((⟨a1, 0, none⟩ : Addr).add 1).add 1).add 32) (.slice p.2.2.2.1.a p.2.2.2.1.n p.2.2.2.1.c) fun w4 =>
        ld (.pair (.I .i64) (.pair (.I .i64) (.pair (.row 32) (.pair .L .nil)))) w4 ⟨a1, 0, none⟩ fun (r : RecT) => K ((r.1, (r.2.1, (r.2.2.1, (r.2.2.2.1, ())))), (e, ())) w4 := by
    rintro u p e K hp hfu ⟨q, hq⟩ hK
    refine stRec (pre := []) (post := []) (q := q) hq p hp fun u' hb' hg' hs' => ?_
    refine ldRec (pre := []) (post := []) (p := p) hb' ?_
    exact hK u' (hfu.on (grown_below hg' (by omega) hfu.size)) fun k hk hne => hg'.block k hk (by simp; omega)
  have hj : ∀ y : Bool, (y = true ↔ (b.length < 1 ∨ b.length > 256)) → j1 y w12 := by
    intro y hy
    show bif y then _ else _
    cases y with
    | true =>
      refine bT rfl ?_
      refine fin w12 rc0 100 (fun r w' => MakeO w' w.heap.size b known r ∧ Fr w w') rc0_one hf12 ⟨rc0, h1at12⟩ fun u' hf _ => ⟨?_, hf⟩
      unfold MakeO
      rw [if_pos (hy.1 rfl)]
    | false =>
      refine bF rfl ?_
      have hbd : ¬(b.length < 1 ∨ b.length > 256) := fun h => by have := hy.2 h; cases this
      cases known with
      | true =>
        refine bT rfl ?_
        refine ldRec (pre := []) (post := []) hb12 ?_
        refine fin w12 (1, (s.n : Int), ⟨u8s d, hx5⟩, ⟨none, 0, 0⟩, ()) 0 (fun r w' => MakeO w' w.heap.size b true r ∧ Fr w w') hone hf12 ⟨rc0, h1at12⟩ fun u' hf _ => ⟨?_, hf⟩
        unfold MakeO
        rw [if_neg hbd]
        exact ⟨rfl, by dsimp only; omega, by rw [hdg], rfl, rfl⟩
      | false =>
        refine bF rfl ?_
        refine (Clone_byte_ok (hs.fr hf12) (by omega)).mono ?_
        rintro x31 w32 ⟨h31, hf32⟩
        have hb32 := hf32.heap hb12
        have hf32' := hf12.trans hf32
        have h1at32 := hf32.heap h1at12
        have hne17 : a1 ≠ a7 := by have := hf4.size; omega
        have ha7w : w.heap.size ≤ a7 := by have := hf6'.size; omega
        have ha1w : a1 < w32.heap.size := (Array.getElem?_eq_some_iff.1 h1at32).1
        refine stKD (p := (1, (s.n : Int), ⟨u8s d, hx5⟩, ⟨none, 0, 0⟩, ())) hb32 fun w34 hb34 hg34 hs34 => ?_
        have hf34 : Fr w w34 := hf32'.on (grown_below hg34 ha7w hf32'.size)
        have h1at34 : w34.heap[a1]? = _ := (hg34.block a1 ha1w (by simp; omega)).trans h1at32
        have h31a7 : ∀ ad, x31.a = some ad → ad.block ≠ a7 ∧ ad.block ≠ a1 := fun ad had => by
          have := (h31.own ad had).1
          have := (Array.getElem?_eq_some_iff.1 hb12).1
          have := (Array.getElem?_eq_some_iff.1 h1at12).1
          omega
        have h31' : OwB w34 w.heap.size t_uint8 x31 b := (h31.mono hf12.size).kp (kp_grown hg34) fun ad had => (h31a7 ad had).1
        intro j2
        have hj2 : ∀ (u : World) (k : Int) (x : Sl) (l : List UInt8), Fr w u → u.heap[a7]? = some (.cells (rcL (k, (s.n : Int), ⟨u8s d, hx5⟩, x, ()) []).toArray t_api_Record (0, 0)) → u.heap[a1]? = some (.cells (rcL rc0 []).toArray t_api_Record (0, 0)) → OwB u w.heap.size t_uint8 x l → (∀ ad, x.a = some ad → ad.block ≠ a1) →
            (if (shortS b).length < b.length then k = 3 ∧ l = shortS b else k = 2 ∧ l = b) → j2 u := by
          intro u k x l hfu h7 h1 hx hxa hkl
          show ld _ u ⟨a7, 0, none⟩ _
          refine ldRec (pre := []) (post := []) (p := (k, (s.n : Int), ⟨u8s d, hx5⟩, x, ())) h7 ?_
          refine fin u (k, (s.n : Int), ⟨u8s d, hx5⟩, x, ()) 0 (fun r w' => MakeO w' w.heap.size b false r ∧ Fr w w') hone hfu ⟨rc0, h1⟩ fun u' hf' hk' => ⟨?_, hf'⟩
          have hx' : OwB u' w.heap.size t_uint8 x l := hx.kp (S := fun k => k ≠ a1) (fun k hk hne => hk' k hk hne) hxa
          unfold MakeO
          rw [if_neg hbd]
          refine ⟨rfl, by dsimp only; omega, by rw [hdg], ?_⟩
          rw [if_neg (by decide)]
          split
          · rename_i hlt; rw [if_pos hlt] at hkl; obtain ⟨rfl, rfl⟩ := hkl; exact ⟨rfl, hx'⟩
          · rename_i hlt; rw [if_neg hlt] at hkl; obtain ⟨rfl, rfl⟩ := hkl; exact ⟨rfl, hx'⟩
        clear_value j2
        refine (Shorten_ok (hs.fr hf34) (by omega)).mono ?_
        rintro x35 w36 ⟨h35, hf36⟩
        have h35n := h35.len
        have hb36 := hf36.heap hb34
        have h1at36 := hf36.heap h1at34
        refine bD ?_ ?_ <;> intro hlt
        · refine stKD hb36 fun w38 hb38 hg38 hs38 => ?_
          have hs34' := hf34.size
          have l7 := (Array.getElem?_eq_some_iff.1 hb34).1
          have l1 := (Array.getElem?_eq_some_iff.1 h1at34).1
          refine hj2 w38 3 x35 (shortS b) ((hf34.trans hf36).on (grown_below hg38 ha7w (hf34.trans hf36).size)) hb38 ((hg38.block a1 (Array.getElem?_eq_some_iff.1 h1at36).1 (by simp; omega)).trans h1at36) ((h35.mono hf34.size).kp (kp_grown hg38) fun ad had => by have := (h35.own ad had).1; omega) (fun ad had => by have := (h35.own ad had).1; omega) ?_
          rw [if_pos (by omega)]
          exact ⟨rfl, rfl⟩
        · refine hj2 w36 2 x31 b (hf34.trans hf36) hb36 h1at36 (h31'.fr hf36) (fun ad had => (h31a7 ad had).2) ?_
          rw [if_neg (by omega)]
          exact ⟨rfl, rfl⟩
  clear_value j1
  refine bD ?_ ?_ <;> intro h1
  · exact hj true ⟨fun _ => by omega, fun _ => rfl⟩
  · exact hj _ (by rw [decide_eq_true_iff]; omega)
theorem Make_ok {s : Sl} {b : List UInt8} {known : Bool} {w : World} (hd : Dig w) (hs : Bs w s b) (hl : b.length ≤ 1048576) :
    cl Tryd.prog n_record_Make #[.slice s.a s.n s.c, .bool known] (.tup (.pair (.pair (.I .i64) (.pair (.I .i64) (.pair (.row 32) (.pair .L .nil)))) (.pair (.I .i64) .nil))) w fun (r : RecT × Int × Unit) w' => MakeP w' b known r ∧ Fr w w' :=
  (Make_own hd hs hl).mono fun _ _ h => ⟨h.1.p, h.2⟩
end Go.Proofs.YtkojpppnjloikaaDoor
namespace Go.Proofs.YtkojpppnjloikaaDoor
open Go.RowKit Go.Fl

/-- What is opened of a record. -/
def openS (k s : Int) (d l : List UInt8) : List UInt8 × Int :=
  if chkS k s l.length ≠ 0 then ([], 100) else if k = 1 then ([], 110)
  else if k = 3 ∧ ((restS l s).2 ≠ 0 ∨ ((restS l s).1.length : Int) ≠ s) then ([], 100)
  else if dig (if k = 3 then (restS l s).1 else l) = d then (if k = 3 then (restS l s).1 else l, 0) else ([], 111)
theorem chkS_ok {k s : Int} {n : Nat} (h : chkS k s n = 0) : ((k = 1 ∧ n = 0) ∨ (k = 2 ∧ (n : Int) = s) ∨ (k = 3 ∧ n ≤ 256)) ∧ 1 ≤ s ∧ s ≤ 256 := by
  unfold chkS at h
  split at h
  · assumption
  · cases h
theorem rc_c34 (p : RecT) : (rcL p []).toArray[34]? = some (slV p.2.2.2.1) := by
  have e : rcL p [] = ([Value.int .i64 p.1, .int .i64 p.2.1] ++ p.2.2.1.1) ++ [slV p.2.2.2.1] := by simp [rcL]
  have hr := p.2.2.1.2
  rw [e, List.getElem?_toArray, List.getElem?_append_right (by simp [hr]), List.length_append, hr]
  rfl
theorem Open_ok {p : RecT} {d l : List UInt8} {w : World} (hd : Dig w) (hp : p.2.2.1.1 = u8s d) (hl : Bs w p.2.2.2.1 l) (hll : l.length ≤ 1048576) :
    cl Tryd.prog n_record_Open #[rcV p] (.tup (.pair .L (.pair (.I .i64) .nil))) w fun (r : Sl × Int × Unit) w' => OwB w' w.heap.size t_uint8 r.1 (openS p.1 p.2.1 d l).1 ∧ r.2 = ((openS p.1 p.2.1 d l).2, ()) ∧ Fr w w' := by
  refine record_Open.cl (p0 := p) ?_
  unfold record_Open
  rw [rcL_nil]
  have hn := hl.len
  have hdl : d.length = 32 := by have := p.2.2.1.2; rw [hp, u8s_length] at this; exact this
  refine nwI fun a1 w2 ha hs2 hf2 hb _ => ?_
  refine ldRec (pre := []) (post := []) hb ?_
  refine (Check_ok (p := p)).mono ?_
  rintro e w5 ⟨rfl, hf5⟩
  have hb5 := hf5.heap hb
  have hf5' := hf2.trans hf5
  rw [hn]
  refine bNe ?_ ?_ <;> intro hc
  · have e : openS p.1 p.2.1 d l = ([], 100) := by rw [openS, if_pos hc]
    have e1 : chkS p.1 p.2.1 l.length = 100 := by unfold chkS at hc ⊢; split at hc; exact absurd rfl hc; rw [if_neg (by assumption)]
    rw [e, e1]
    exact ⟨OwB.nil _ _ _, rfl, hf5'⟩
  have hok := chkS_ok hc
  have c0 : (rcL p []).toArray[0]? = some (.int .i64 p.1) := rfl
  have c1 : (rcL p []).toArray[1]? = some (.int .i64 p.2.1) := rfl
  rw [addOff, addOff, addOff]
  refine ldL0 (s := p.2.2.2.1) hb5 (rc_c34 p) ?_
  refine (Clone_byte_ok (hl.fr hf5') (by omega)).mono ?_
  rintro x7 w8 ⟨h7, hf8⟩
  have hf8' := hf5'.trans hf8
  have hb8 := hf8.heap hb5
  intro j1
  have hj : ∀ (y : Sl) (u : World) (m : List UInt8), OwB u w.heap.size t_uint8 y m → w.heap.size < u.heap.size → m.length ≤ 1048576 → Fr w u → u.heap[a1]? = some (.cells (rcL p []).toArray t_api_Record (0, 0)) → (openS p.1 p.2.1 d l = if dig m = d then (m, 0) else ([], 111)) → j1 y u := by
    intro y u m hy hus hm hfu hbu ho
    show dr u _
    intro n
    have hfn := Fr.drewN u n
    refine ldRow (vs := u8s d) (hfn.heap hbu) (by rw [← hp, Nat.zero_add]; unfold rcL; rw [show ((Value.int .i64 p.1 :: .int .i64 p.2.1 :: (p.2.2.1.1 ++ (slV p.2.2.2.1 :: []))).drop 2) = p.2.2.1.1 ++ [slV p.2.2.2.1] from rfl, List.take_left' p.2.2.1.2]) (by rw [u8s_length, hdl]) ?_
    refine nwI fun a26 w27 ha26 hs27 hf27 hb27 _ => ⟨hf27, ?_⟩
    have hfw := (hfu.trans hfn).trans hf27
    refine (Of_ok (x := y) (hd.fr hfw) hb27 ((hy.fr (hfn.trans hf27)).bs) (by omega)).mono ?_
    rintro ⟨x28, hx28⟩ w29 ⟨hx, hf29⟩
    refine ⟨hf29, ?_⟩
    dsimp only at hx ⊢
    subst hx
    have hdm := dig_length m
    refine qnNe hdm hdl ?_
    rw [ho]
    by_cases h : dig m = d
    · rw [if_pos h, decide_eq_true h]
      exact ⟨hy.fr ((hfn.trans hf27).trans hf29), rfl, hfw.trans hf29⟩
    · rw [if_neg h, decide_eq_false h]
      exact ⟨OwB.nil _ _ _, rfl, hfw.trans hf29⟩
  clear_value j1
  refine ldI0 hb8 c0 ?_
  refine bE ?_ ?_ <;> intro h1
  · have e : openS p.1 p.2.1 d l = ([], 110) := by rw [openS, if_neg (by omega), if_pos h1]
    rw [e]
    exact ⟨OwB.nil _ _ _, rfl, hf8'⟩
  refine bE ?_ ?_ <;> intro h3
  · refine ldL0 (s := p.2.2.2.1) hb8 (rc_c34 p) (ldI0 hb8 c1 ?_)
    refine (Restore_ok (hl.fr hf8') (by omega) (by omega)).mono ?_
    rintro ⟨x12, e12, ⟨⟩⟩ w13 ⟨h12, he, hf13⟩
    dsimp only at h12 he ⊢
    obtain ⟨rfl, _⟩ := Prod.mk.inj he
    have hb13 := hf13.heap hb8
    have hlen := h12.len
    have hf13' := hf8'.trans hf13
    refine bNe ?_ ?_ <;> intro hr
    · have e : openS p.1 p.2.1 d l = ([], 100) := by rw [openS, if_neg (by omega), if_neg h1, if_pos ⟨h3, .inl (by omega)⟩]
      rw [e]
      exact ⟨OwB.nil _ _ _, rfl, hf13'⟩
    refine ldI0 hb13 c1 ?_
    refine bNe ?_ ?_ <;> intro hr2
    · have e : openS p.1 p.2.1 d l = ([], 100) := by rw [openS, if_neg (by omega), if_neg h1, if_pos ⟨h3, .inr (by omega)⟩]
      rw [e]
      exact ⟨OwB.nil _ _ _, rfl, hf13'⟩
    refine hj x12 w13 _ (h12.mono hf8'.size) (by have := hf5.size; have := hf8.size; have := hf13.size; omega) (by omega) hf13' hb13 ?_
    rw [openS, if_neg (by omega), if_neg h1, if_neg (by omega), if_pos h3]
  · refine hj x7 w8 l (h7.mono hf5'.size) (by have := hf5.size; have := hf8.size; omega) (by omega) hf8' hb8 ?_
    rw [openS, if_neg (by omega), if_neg h1, if_neg (by omega), if_neg h3]
end Go.Proofs.YtkojpppnjloikaaDoor
