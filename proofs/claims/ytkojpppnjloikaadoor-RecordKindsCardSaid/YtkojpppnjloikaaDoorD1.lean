/- Contracts: the digest of bytes. -/
import Derived.Test.YtkojpppnjloikaaDoorD0
namespace Go.Proofs.YtkojpppnjloikaaDoor
open Go.RowKit Go.Fl

/-- The digest's tables. -/
structure Dig (w : World) : Prop where
  first : Glob w g_digest_first F0
  rounds : Glob w g_digest_rounds K0
theorem Dig.fr {w w' : World} (h : Dig w) (hf : Fr w w') : Dig w' := ⟨h.first.fr hf, h.rounds.fr hf⟩
/-- A hash: its state, what is left, how many. -/
def hTail (s : Sl) (n : Int) : List Value := [.slice s.a s.n s.c, .int .i64 n, .bool true]
def Hsh (w : World) (g : Nat) (h : List Int) (s : Sl) (n : Int) : Prop := w.heap[g]? = some (.cells (ints h ++ hTail s n).toArray t_digest_Hash (0, 0))
theorem hAt {h : List Int} (hh : h.length = 8) (s : Sl) (n : Int) (i : Nat) : (ints h ++ hTail s n).toArray[8 + i]? = (hTail s n)[i]? := by
  rw [List.getElem?_toArray, List.getElem?_append_right (by rw [ints_length]; omega), ints_length, hh, Nat.add_sub_cancel_left]
theorem hSet {h : List Int} (hh : h.length = 8) (s : Sl) (n : Int) (i : Nat) (v : Value) : (ints h ++ hTail s n).toArray.setIfInBounds (8 + i) v = (ints h ++ (hTail s n).set i v).toArray := by
  rw [List.setIfInBounds_toArray, List.set_append_right _ _ (by rw [ints_length]; omega), ints_length, hh, Nat.add_sub_cancel_left]
theorem New_ok {w : World} (hd : Dig w) : cl Tryd.prog n_digest_New #[] .P w fun (r : Option Addr) w' => ∃ g, r = some ⟨g, 0, none⟩ ∧ w.heap.size ≤ g ∧ Hsh w' g F0 ⟨none, 0, 0⟩ 0 ∧ Fr w w' := by
  refine digest_New.cl ?_
  unfold digest_New
  refine ldGlob hd.first rfl ?_
  refine nwI fun g w3 hg hs hf hb _ => ?_
  exact ⟨g, rfl, by omega, hb, hf⟩
theorem Write_ok {x : Sl} {b : List UInt8} {w : World} {g : Nat} (hd : Dig w) (H : Hsh w g F0 ⟨none, 0, 0⟩ 0) (hx : Bs w x b) (hl : b.length ≤ 1099511627776) (hg0 : b ≠ [] → ∀ ad, x.a = some ad → ad.block ≠ g) (hgd : g ≠ g_digest_rounds) :
    cl Tryd.prog n_digest_Hash_Write #[.pointer (some ⟨g, 0, none⟩), .slice x.a x.n x.c] (.tup .nil) w fun (_ : Unit) w' =>
      ∃ s : Sl, Hsh w' g (allS K0 (b.length + 1) F0 b).1 s b.length ∧ Bs w' s (allS K0 (b.length + 1) F0 b).2 ∧ (∀ ad, s.a = some ad → ad.block ≠ g) ∧ w.grownBy w' (some g) := by
  refine digest_Hash_Write.cl ?_
  unfold digest_Hash_Write
  have hgl := (Array.getElem?_eq_some_iff.1 H).1
  have hxn := hx.len
  have h8 : F0.length = 8 := rfl
  refine bF rfl ?_
  show ld .B w ⟨g, 10, none⟩ _
  refine ldB0 H (hAt h8 _ _ 2) (bF rfl ?_)
  show ld (.I .i64) w ⟨g, 9, none⟩ _
  refine ldI0 H (hAt h8 _ _ 1) ?_
  refine nzI ?_
  rw [addOff, Nat.zero_add]
  refine st0 H (by simp [ints_length, h8, hTail]) fun w6 hb6 hg6 hs6 => ?_
  rw [show (9 : Nat) = 8 + 1 from rfl, hSet h8] at hb6
  have hb6 : Hsh w6 g F0 ⟨none, 0, 0⟩ b.length := by
    rw [i64w (by omega) (by omega)] at hb6
    have : ((0 : Int) + (x.n : Int)) = (b.length : Int) := by omega
    rw [this] at hb6
    exact hb6
  intro n1
  have hb7 : Hsh (w6.drewN n1) g F0 ⟨none, 0, 0⟩ b.length := hb6
  have hg7 : w.grownBy (w6.drewN n1) (some g) := hg6.trans ⟨rfl, rfl, rfl, Nat.le_refl _, fun _ _ _ => rfl⟩
  generalize w6.drewN n1 = w7 at *
  have hs7 := hg7.size
  have hx7 : Bs w7 x b := hx.kpn (kp_grown hg7) hg0
  show ld .L w7 ⟨g, 8, none⟩ _
  refine ldL0 (s := ⟨none, 0, 0⟩) hb7 (hAt h8 _ _ 0) ?_
  show ld .L w7 ⟨g, 8, none⟩ _
  refine ldL0 (s := ⟨none, 0, 0⟩) hb7 (hAt h8 _ _ 0) ?_
  dsimp only
  refine mks0 slB w7.heap.size b.length (by rw [i64w (by omega) (by omega)]; omega) (by omega) (by omega) (Nat.le_refl _) fun w13 ho13 hf13 => ⟨hf13, ?_⟩
  refine app_B slB (base := w7.heap.size) (l := []) (m := []) ho13 (Rd.nil _ _) rfl (by simp) hf13.size fun r14 w15 h14 hb15 _ _ => ?_
  have hf15 := hf13.on hb15
  refine app_B slB (base := w7.heap.size) h14 (hx7.fr hf15).rd hx7.len.symm (by simp; omega) hf15.size fun r16 w17 h16 hb17 _ _ => ?_
  have hf17 := hf15.on hb17
  rw [List.append_nil, List.nil_append] at h16
  refine lpI (fun s' w' => ∃ (h : List Int) (l : List UInt8), h.length = 8 ∧ Bs w' s'.1 l ∧ (∀ ad, s'.1.a = some ad → ad.block ≠ g) ∧ Hsh w' g h ⟨none, 0, 0⟩ b.length ∧ w.grownBy w' (some g) ∧ l.length ≤ b.length ∧ allS K0 (l.length + 1) h l = allS K0 (b.length + 1) F0 b) (fun s' _ => s'.1.n)
    ⟨F0, b, h8, h16.bs, fun ad had => by have := (h16.own ad had).1; have := (Array.getElem?_eq_some_iff.1 hb7).1; omega, hf17.heap hb7, hg7.trans (fr_grown hf17), Nat.le_refl _, rfl⟩ ?_
  rintro _ ⟨s, ⟨⟩⟩ w19 ⟨h, l, hh8, hsl, hne, hH, hgr, hll, heq⟩
  dsimp only at hsl hne ⊢
  have hsn := hsl.len
  refine bD ?_ ?_ <;> intro h64
  · intro n2
    have hH : Hsh (w19.drewN n2) g h ⟨none, 0, 0⟩ b.length := hH
    have hsl : Bs (w19.drewN n2) s l := hsl.fr (Fr.drewN w19 n2)
    have hgr : w.grownBy (w19.drewN n2) (some g) := hgr.trans ⟨rfl, rfl, rfl, Nat.le_refl _, fun _ _ _ => rfl⟩
    generalize w19.drewN n2 = w22 at *
    refine nzI ?_
    refine slsB hsl (by decide) (by decide) (by omega) fun r24 h24 hblk24 _ => ?_
    rw [Int.toNat_zero, List.drop_zero, show (64 : Int).toNat = 64 from rfl] at h24
    have hK0 : Glob w22 g_digest_rounds K0 := hd.rounds.grown hgr hgd
    refine (stir_ok h24 (by rw [List.length_take]; omega) hh8 hH hK0 rfl).mono ?_
    rintro _ w26 ⟨hH26, hg26⟩
    have hsl26 : Bs w26 s l := hsl.kpn (kp_grown hg26) fun _ => hne
    refine slsB hsl26 (by decide) (by omega) (by omega) fun r27 h27 hblk27 _ => ?_
    have e27 : (l.take (s.n : Int).toNat).drop (64 : Int).toNat = l.drop 64 := by rw [List.take_of_length_le (by omega)]; rfl
    rw [e27] at h27
    have h27l := h27.len
    rw [List.length_drop] at h27l
    refine ⟨⟨stirS K0 h (l.take 64), l.drop 64, stirS_length _ _ _, h27, fun ad had => ?_, hH26, hgr.trans hg26, by rw [List.length_drop]; omega, ?_⟩, by omega⟩
    · obtain ⟨ad', h1, h2⟩ := hblk27 ad had
      rw [h2]; exact hne ad' h1
    · rw [allS, if_neg (by omega)] at heq
      rw [← heq]
      exact allS_any (by rw [List.length_drop]; omega) (by rw [List.length_drop]; omega)
  · refine nzI ?_
    rw [addOff, Nat.zero_add]
    refine st0 hH (by simp [ints_length, hh8, hTail]) fun w29 hb29 hg29 hs29 => ?_
    rw [show (8 : Nat) = 8 + 0 from rfl, hSet hh8] at hb29
    have e : allS K0 (l.length + 1) h l = (h, l) := by rw [allS, if_pos (by omega)]
    rw [← heq, e]
    exact ⟨s, hb29, hsl.kpn (kp_grown hg29) fun _ => hne, hne, hgr.trans hg29⟩
theorem Sum_ok {w : World} {g : Nat} {h : List Int} {s : Sl} {r : List UInt8} {n : Nat} (hR : Glob w g_digest_rounds K0) (H : Hsh w g h s n) (hh : h.length = 8) (hs : Bs w s r) (hr : r.length < 64) (hn : n ≤ 1099511627776) :
    cl Tryd.prog n_digest_Hash_Sum #[.pointer (some ⟨g, 0, none⟩)] (.row 32) w fun (x : {l : List Value // l.length = 32}) w' =>
      x.1 = u8s (outS (allS K0 ((zerosS 64 (r ++ [128]) ++ lenS n).length + 1) h (zerosS 64 (r ++ [128]) ++ lenS n)).1) ∧ Fr w w' := by
  refine digest_Hash_Sum.cl ?_
  unfold digest_Hash_Sum
  refine nwI fun a1 w2 ha1 hs2 hf2 hb1 _ => ?_
  refine nwI fun a3 w4 ha3 hs4 hf4 hb3 _ => ?_
  have hf := hf2.trans hf4
  have hz32 : (zrow 32 (.int .u8 0)).1 = u8s (List.replicate 32 0) := by simp [zrow, u8s]
  rw [hz32] at hb1 hb3
  have hb1 := hf4.heap hb1
  refine bF rfl ?_
  have H4 : Hsh w4 g h s n := hf.heap H
  refine nzI ?_
  rw [addOff, Nat.zero_add]
  refine ldB0 H4 (hAt hh _ _ 2) (bF rfl ?_)
  have stay : ∀ {u : World}, Fr w4 u → Hsh u g h s n := fun hu => hu.heap H4
  refine nwI fun a13 w14 ha13 hs14 hf14 hb13 _ => ?_
  refine nzI ?_
  rw [addOff, Nat.zero_add]
  refine ldL0 (stay hf14) (hAt hh _ _ 0) ?_
  refine app_B slB (base := w4.heap.size) (l := []) (OwB.new hb13 (by omega)) ((hs.fr hf).fr hf14).rd hs.len.symm (by simp; omega) hf14.size fun r17 w18 h17 hb18 _ _ => ?_
  have hf18 := hf14.on hb18
  rw [List.nil_append] at h17
  refine nwI fun a19 w20 ha19 hs20 hf20 hb20 hrd20 => ?_
  have hf20' := hf18.trans hf20
  refine app_B slB (base := w4.heap.size) (m := [128]) (h17.fr hf20) hrd20 rfl (by simp; omega) hf20'.size fun r21 w22 h21 hb22 _ _ => ?_
  have hf22 := hf20'.on hb22
  refine lpI (fun s' w' => Fr w4 w' ∧ ∃ (f : Nat) (l : List UInt8), OwB w' w4.heap.size t_uint8 s'.1 l ∧ zerosS f l = zerosS 64 (r ++ [128]) ∧ (120 - l.length % 64) % 64 ≤ f ∧ l.length + (120 - l.length % 64) % 64 ≤ 130) (fun s' _ => ((120 - s'.1.n % 64) % 64))
    ⟨hf22, 64, _, h21, rfl, by omega, by simp; omega⟩ ?_
  rintro _ ⟨e, ⟨⟩⟩ w24 ⟨hf24, f, l, hl, hz, hf64, hlb⟩
  dsimp only at hl ⊢
  have hen := hl.len
  have etm : Int.tmod (e.n : Int) 64 = ((l.length % 64 : Nat) : Int) := by rw [hen, Int.tmod_eq_emod_of_nonneg (by omega)]; omega
  rw [etm]
  refine bNe ?_ ?_ <;> intro h56
  · refine nwI fun a27 w28 ha27 hs28 hf28 hb28 hrd28 => ?_
    have hf28' := hf24.trans hf28
    refine app_B slB (base := w4.heap.size) (m := [0]) (hl.fr hf28) hrd28 rfl (by simp; omega) hf28'.size fun r29 w30 h29 hb30 _ _ => ?_
    have h29l := h29.len
    rw [List.length_append, List.length_cons, List.length_nil] at h29l
    cases f with
    | zero => omega
    | succ f =>
      rw [zerosS, if_neg (by omega)] at hz
      refine ⟨⟨hf28'.on hb30, f, _, h29, hz, by rw [List.length_append, List.length_cons, List.length_nil]; omega, by rw [List.length_append, List.length_cons, List.length_nil]; omega⟩, ?_⟩
      show (120 - r29.n % 64) % 64 < (120 - e.n % 64) % 64
      omega
  have hE : l = zerosS 64 (r ++ [128]) := by
    rw [← hz]
    cases f with
    | zero => rfl
    | succ f => rw [zerosS, if_pos (by omega)]
  have hzl := zerosS_len (f := 64) (l := r ++ [128]) (by omega)
  rw [← hE] at hzl ⊢
  clear hE hz hf64 hlb
  have hll : l.length ≤ 128 := by rw [hzl]; simp; omega
  refine lpI (fun s' w' => Fr w4 w' ∧ ∃ i : Nat, i ≤ 8 ∧ s'.2.1 = i ∧ OwB w' w4.heap.size t_uint8 s'.1 (l ++ (lenS n).take i)) (fun s' _ => (8 - s'.2.1).toNat) ⟨hf24, 0, by decide, rfl, by simpa using hl⟩ ?_
  rintro _ ⟨e2, i', ⟨⟩⟩ w32 ⟨hf32, i, hi, rfl, h32⟩
  dsimp only at h32 ⊢
  have hLl := lenS_length n
  refine bD ?_ ?_ <;> intro hlt
  · refine nzI ?_
    rw [addOff, Nat.zero_add]
    refine ldI0 (stay hf32) (hAt hh _ _ 1) ?_
    have es : IntKind.i64.wrap (56 - IntKind.i64.wrap (8 * (i : Int))) = ((56 - 8 * i : Nat) : Int) := by
      rw [i64w (n := 8 * (i : Int)) (by omega) (by omega), i64w (by omega) (by omega)]; omega
    rw [es]
    refine bP (by omega) ?_
    rw [show min ((56 - 8 * i : Nat) : Int).toNat 64 = 56 - 8 * i from by omega, u64w (n := ((n : Nat) : Int)) (by omega) (by omega), u64w (n := ((n : Nat) : Int) * 8) (by omega) (by omega)]
    have eb : IntKind.u8.wrap (((n : Nat) : Int) * 8 / 2 ^ (56 - 8 * i)) = ((UInt8.ofNat (n * 8 / 2 ^ (56 - 8 * i))).toNat : Int) := by
      rw [u8w, u8_ofNat]
      congr 1
    rw [eb]
    refine nwI fun a37 w38 ha37 hs38 hf38 hb38 hrd38 => ?_
    have hf38' := hf32.trans hf38
    refine app_B slB (base := w4.heap.size) (m := [UInt8.ofNat (n * 8 / 2 ^ (56 - 8 * i))]) (h32.fr hf38) hrd38 rfl (by rw [List.length_append, List.length_take]; simp; omega) hf38'.size fun r39 w40 h39 hb40 _ _ => ?_
    rw [i64w (by omega) (by omega)]
    refine ⟨⟨hf38'.on hb40, i + 1, by omega, rfl, ?_⟩, by omega⟩
    rw [List.take_succ_eq_append_getElem (by omega), ← List.append_assoc]
    have : (lenS n)[i]'(by omega) = UInt8.ofNat (n * 8 / 2 ^ (56 - 8 * i)) := by simp [lenS]
    rw [this]
    exact h39
  obtain rfl : i = 8 := by omega
  rw [List.take_of_length_le (by omega)] at h32
  generalize hE : l ++ lenS n = E at *
  have hEl : E.length ≤ 136 ∧ 64 ≤ E.length ∧ E.length % 64 = 0 := by
    rw [← hE, List.length_append, hLl, hzl, List.length_append, List.length_cons, List.length_nil]
    omega
  refine nzI ?_
  refine ldRow (vs := ints h) (stay hf32) (by rw [List.drop_zero, List.take_left' (by rw [ints_length, hh])]) (by rw [ints_length, hh]) ?_
  refine newRow (l := h) (zrow 8 (.int .u32 0)) hh fun a43 w45 ha43 hf45 hl45 hb45 => ?_
  have hf45' := hf32.trans hf45
  have hs32 := hf32.size
  refine lpI (fun s' w' => ∃ (h' : List Int) (t : List UInt8), Below w32.heap.size w45 w' ∧ h'.length = 8 ∧ w'.heap[a43]? = some (.cells (ints h').toArray t_digest_state (0, 0)) ∧ Bs w' s'.1 t ∧ (t ≠ [] → ∀ ad, s'.1.a = some ad → ad.block < w32.heap.size) ∧ t.length % 64 = 0 ∧ t.length ≤ 136 ∧ allS K0 (t.length + 1) h' t = allS K0 (E.length + 1) h E ∧ ((∀ x ∈ h', 0 ≤ x) ∨ t ≠ [])) (fun s' _ => s'.1.n)
    ⟨h, E, Below.refl _ _, hh, hb45, (h32.fr hf45).bs, fun _ ad had => (h32.own ad had).2, hEl.2.2, hEl.1, rfl, .inr (by intro e; rw [e] at hEl; simp at hEl)⟩ ?_
  rintro _ ⟨e3, ⟨⟩⟩ w47 ⟨h', t, hb47, hh', k43, ht, hold, hm, htl, heq, hnn⟩
  dsimp only at ht hold ⊢
  have htn := ht.len
  refine bD ?_ ?_ <;> intro hpos
  · refine slsB ht (by decide) (by decide) (by omega) fun r50 h50 hblk50 _ => ?_
    rw [Int.toNat_zero, List.drop_zero, show (64 : Int).toNat = 64 from rfl] at h50
    have hfr47 : Fr w4 w47 := hf45'.on (hb47.mono hf32.size)
    refine (stir_ok (rest := []) h50 (by rw [List.length_take]; omega) hh' (by rw [List.append_nil]; exact k43) ((hR.fr hf).fr hfr47) rfl).mono ?_
    rintro _ w52 ⟨k52, hg52⟩
    rw [List.append_nil] at k52
    have htne : t ≠ [] := by intro e; rw [e] at htn; simp at htn; omega
    have ht52 : Bs w52 e3 t := ht.kpn (kp_grown hg52) fun h0 ad had => by have := hold h0 ad had; omega
    refine slsB ht52 (by decide) (by omega) (by omega) fun r53 h53 hblk53 _ => ?_
    have e53 : (t.take (e3.n : Int).toNat).drop (64 : Int).toNat = t.drop 64 := by rw [List.take_of_length_le (by omega)]; rfl
    rw [e53] at h53
    have h53l := h53.len
    rw [List.length_drop] at h53l
    refine ⟨⟨stirS K0 h' (t.take 64), t.drop 64, hb47.trans (grown_below hg52 (by omega) (by have := hb47.size; omega)), stirS_length _ _ _, k52, h53, fun _ ad had => ?_, by rw [List.length_drop]; omega, by rw [List.length_drop]; omega, ?_, .inl (stirS_nn _ _ _)⟩, by omega⟩
    · obtain ⟨ad', h1, h2⟩ := hblk53 ad had
      rw [h2]; exact hold htne ad' h1
    · rw [allS, if_neg (by omega)] at heq
      rw [← heq]
      exact allS_any (by rw [List.length_drop]; omega) (by rw [List.length_drop]; omega)
  have ht0 : t = [] := List.eq_nil_of_length_eq_zero (by omega)
  subst ht0
  have hX : (allS K0 (E.length + 1) h E).1 = h' := by rw [← heq]; rfl
  have hnn' : ∀ x ∈ h', 0 ≤ x := hnn.resolve_right (fun h => h rfl)
  rw [hX]
  clear hX heq hold ht hm htl hpos hnn
  have hfr47 : Fr w4 w47 := hf45'.on (hb47.mono hf32.size)
  have hW47 : Fr w w47 := hf.trans hfr47
  have k3 := hfr47.heap hb3
  have k1 := hfr47.heap hb1
  have hol := outS_length h'
  have ha13 : a1 < a3 := by omega
  have hs32' := hfr47.size
  have h8' : w4.heap.size ≤ a43 := by have := hf32.size; omega
  clear hb47 hb3 hb1 stay h32 H4 hEl
  refine lpI (fun s' w' => Fr w w' ∧ ∃ i : Nat, i ≤ 32 ∧ s'.1 = i ∧ w'.heap[a3]? = some (.cells (u8s ((outS h').take i ++ List.replicate (32 - i) 0)).toArray t_api_Sum (0, 0)) ∧ w'.heap[a43]? = some (.cells (ints h').toArray t_digest_state (0, 0)) ∧ w'.heap[a1]? = some (.cells (u8s (List.replicate 32 0)).toArray t_api_Sum (0, 0))) (fun s' _ => (32 - s'.1).toNat)
    ⟨hW47, 0, by decide, rfl, k3, k43, k1⟩ ?_
  rintro _ ⟨i', ⟨⟩⟩ w55 ⟨hf55, i, hi, rfl, m3, m43, m1⟩
  dsimp only
  refine bD ?_ ?_ <;> intro hlt3
  · have e4 : IntKind.i64.wrap (Int.tdiv (i : Int) 4) = ((i / 4 : Nat) : Int) := by
      rw [show Int.tdiv (i : Int) 4 = ((i / 4 : Nat) : Int) from by rw [Int.ofNat_tdiv]; rfl, i64w (by omega) (by omega)]
    rw [e4]
    refine ixW m43 (by omega) (by omega) ?_
    have e5 : IntKind.i64.wrap (24 - IntKind.i64.wrap (8 * Int.tmod (i : Int) 4)) = ((24 - 8 * (i % 4) : Nat) : Int) := by
      rw [show Int.tmod (i : Int) 4 = ((i % 4 : Nat) : Int) from by rw [Int.tmod_eq_emod_of_nonneg (by omega)]; omega, i64w (n := 8 * ((i % 4 : Nat) : Int)) (by omega) (by omega), i64w (by omega) (by omega)]; omega
    rw [e5]
    refine bP (by omega) ?_
    rw [show min ((24 - 8 * (i % 4) : Nat) : Int).toNat 32 = 24 - 8 * (i % 4) from by omega]
    have ev : IntKind.u8.wrap (h'.getD (i / 4) 0 / 2 ^ (24 - 8 * (i % 4))) = (((outS h').getD i 0).toNat : Int) := by
      have hx : 0 ≤ h'.getD (i / 4) 0 := by
        rw [List.getD_eq_getElem?_getD, List.getElem?_eq_getElem (by omega), Option.getD_some]
        exact hnn' _ (List.getElem_mem _)
      have ho : (outS h').getD i 0 = UInt8.ofNat ((h'.getD (i / 4) 0).toNat / 2 ^ (24 - 8 * (i % 4))) := by
        rw [outS, List.getD_eq_getElem?_getD, List.getElem?_map, List.getElem?_range (by omega)]
        rfl
      rw [ho]
      obtain ⟨m, hm⟩ := Int.eq_ofNat_of_zero_le hx
      rw [hm, Int.toNat_natCast, u8w, u8_ofNat]
      congr 1
    rw [ev]
    refine ixSt m3 (by omega) (by omega) (by rw [Int.toNat_natCast, u8s_length, List.length_append, List.length_take, List.length_replicate]; omega) fun w61 hb61 hg61 hs61 => ?_
    rw [i64w (by omega) (by omega)]
    refine ⟨⟨hf55.on (grown_below hg61 (by omega) hf55.size), i + 1, by omega, rfl, ?_, ?_, ?_⟩, by omega⟩
    · have hset : u8s ((outS h').take (i + 1) ++ List.replicate (32 - (i + 1)) 0) = (u8s ((outS h').take i ++ List.replicate (32 - i) 0)).set i (.int .u8 ((outS h').getD i 0).toNat) := by
        have e : (outS h').take (i + 1) ++ List.replicate (32 - (i + 1)) 0 = ((outS h').take i ++ List.replicate (32 - i) 0).set i ((outS h').getD i 0) := by
          rw [List.set_append_right _ _ (by rw [List.length_take]; omega), List.length_take, Nat.min_eq_left (by omega), Nat.sub_self, show 32 - i = (32 - (i + 1)) + 1 from by omega, List.replicate_succ, List.set_cons_zero, List.take_succ_eq_append_getElem (by omega), List.append_assoc]
          simp [List.getD_eq_getElem?_getD, List.getElem?_eq_getElem (show i < (outS h').length by omega)]
        rw [e]
        simp only [u8s, List.map_set]
      rw [hb61, Int.toNat_natCast, hset]
    · rw [hg61.block a43 (Array.getElem?_eq_some_iff.1 m43).1 (by simp; omega)]; exact m43
    · rw [hg61.block a1 (Array.getElem?_eq_some_iff.1 m1).1 (by simp; omega)]; exact m1
  obtain rfl : i = 32 := by omega
  rw [List.take_of_length_le (by omega), Nat.sub_self, List.replicate_zero, List.append_nil] at m3
  have h32' : (u8s (outS h')).length = 32 := by rw [u8s_length, hol]
  have hone := u8s_one (outS h')
  generalize u8s (outS h') = o at *
  refine ldR0 m3 h32' ?_
  refine stL_row (cs := u8s (List.replicate 32 0)) m1 (by show 0 + o.length ≤ _; rw [u8s_length, List.length_replicate]; omega) hone fun w63 hb63 hg63 hs63 => ?_
  have e : (u8s (List.replicate 32 (0 : UInt8))).take 0 ++ o ++ (u8s (List.replicate 32 (0 : UInt8))).drop (0 + o.length) = o := by rw [List.drop_eq_nil_of_le (by rw [u8s_length, List.length_replicate]; omega)]; simp
  have hb63 : w63.heap[a1]? = some (.cells o.toArray t_api_Sum (0, 0)) := by rw [← e]; exact hb63
  exact ldR0 hb63 h32' ⟨rfl, hf55.on (grown_below hg63 (by omega) hf55.size)⟩
/-- The digest of one part. -/
theorem Of_ok {x : Sl} {b : List UInt8} {a : Nat} {w : World} (hd : Dig w) (ha : w.heap[a]? = some (.cells #[.slice x.a x.n x.c] t_s_uint8 (0, 0))) (hx : Bs w x b) (hl : b.length ≤ 1099511627776) :
    cl Tryd.prog n_digest_Of #[.slice (some ⟨a, 0, none⟩) 1 1] (.row 32) w fun (r : {l : List Value // l.length = 32}) w' => r.1 = u8s (dig b) ∧ Fr w w' := by
  refine digest_Of.cl (p0 := ⟨some ⟨a, 0, none⟩, 1, 1⟩) ?_
  unfold digest_Of
  refine nwI fun a1 w2 ha1 hs2 hf2 hb1 _ => ?_
  have hz32 : (zrow 32 (.int .u8 0)).1 = u8s (List.replicate 32 0) := by simp [zrow, u8s]
  rw [hz32] at hb1
  refine (New_ok (hd.fr hf2)).mono ?_
  rintro _ w4 ⟨g, rfl, hg, hH, hf4⟩
  have hf := hf2.trans hf4
  have hgl := (Array.getElem?_eq_some_iff.1 hH).1
  have hd4 := hd.fr hf
  have hal := (Array.getElem?_eq_some_iff.1 ha).1
  have glt : ∀ {q : Nat} {l : List Int}, Glob w q l → 0 < l.length → q < w.heap.size := fun h hl => World.block_lt_of_cell? w _ (h 0 hl)
  have gd1 := glt hd.first (by decide)
  have gd2 := glt hd.rounds (by decide)
  have hlen := allS_length (K := K0) (f := b.length + 1) (h := F0) (l := b) rfl
  have hrest := allS_rest (K := K0) (f := b.length + 1) (h := F0) (l := b) (by omega)
  refine lpI (fun s' w' => (s'.1 = 0 ∧ w' = w4) ∨ (s'.1 = 1 ∧ ∃ s : Sl, Hsh w' g (allS K0 (b.length + 1) F0 b).1 s b.length ∧ Bs w' s (allS K0 (b.length + 1) F0 b).2 ∧ w4.grownBy w' (some g))) (fun s' _ => (1 - s'.1).toNat) (.inl ⟨rfl, rfl⟩) ?_
  rintro _ ⟨i', ⟨⟩⟩ w6 (⟨h0, rfl⟩ | ⟨h1, s, k1, k2, k3⟩)
  · dsimp only at h0 ⊢
    subst h0
    refine bP (by decide) ?_
    refine ⟨by decide, by decide, ?_⟩
    show ld .L w6 (atOff ⟨a, 0, none⟩ 0 1) _
    rw [atH]
    refine ldL0 (s := x) (hf.heap ha) rfl ?_
    refine (Write_ok hd4 hH (hx.fr hf) hl (fun hb ad had => by have := hx.lt hb ad had; have := hf2.size; omega) (by have := hf2.size; omega)).mono ?_
    rintro _ w12 ⟨s, k1, k2, _, k3⟩
    exact ⟨.inr ⟨rfl, s, k1, k2, k3⟩, by decide⟩
  · dsimp only at h1 ⊢
    subst h1
    refine bN (by decide) ?_
    have hs2' := hf2.size
    have hfr6 : Fr w2 w6 := hf4.on (grown_below k3 hg hf4.size)
    refine (Sum_ok (hd4.rounds.grown k3 (by omega)) k1 hlen k2 hrest.1 hl).mono ?_
    rintro ⟨x13, hx13⟩ w14 ⟨hx, hf14⟩
    dsimp only at hx
    obtain ⟨o, ho⟩ : ∃ o, u8s (dig b) = o := ⟨_, rfl⟩
    have hx : x13 = o := hx.trans ho
    have hone := u8s_one (dig b)
    have hol : (u8s (dig b)).length = 32 := by rw [u8s_length, dig_length]
    rw [ho] at hone hol ⊢
    subst hx
    clear ho
    have hb14 := hf14.heap (hfr6.heap hb1)
    have hfw := hf2.trans (hfr6.trans hf14)
    refine stL_row (cs := u8s (List.replicate 32 0)) hb14 (by show 0 + x13.length ≤ _; rw [u8s_length, List.length_replicate]; omega) hone fun w15 hb15 hg15 hs15 => ?_
    have e : (u8s (List.replicate 32 (0 : UInt8))).take 0 ++ x13 ++ (u8s (List.replicate 32 (0 : UInt8))).drop (0 + x13.length) = x13 := by rw [List.drop_eq_nil_of_le (by rw [u8s_length, List.length_replicate]; omega)]; simp
    have hb15 : w15.heap[a1]? = some (.cells x13.toArray t_api_Sum (0, 0)) := by rw [← e]; exact hb15
    exact ldR0 hb15 hol ⟨rfl, hfw.on (grown_below hg15 (by omega) hfw.size)⟩
end Go.Proofs.YtkojpppnjloikaaDoor
