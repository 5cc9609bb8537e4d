/- Contracts: lz's chains: where three bytes stood. -/
import Derived.Test.YtkojpppnjloikaaDoorC7
import Derived.Test.YtkojpppnjloikaaDoorFlMap
import Derived.Test.YtkojpppnjloikaaDoorUn
namespace Go.Proofs.YtkojpppnjloikaaDoor
open Go.RowKit Go.Fl

theorem u8_key : KeyM Tryd.prog t_3_uint8 (keyB (n := 3)) := keyM_bytes u_3_uint8 u_uint8 (fun w => by
  obtain ⟨i, z, hi, hz, hsize, hby, hzs⟩ := slB.info
  simp [sizeOf, typeInfo, hi, hsize])
/-- What the map holds when the places ahead of i are noted. -/
def headF (b : List UInt8) (i : Nat) (k : {l : List UInt8 // l.length = 3}) : Option Value := if lastP b k.1 i = 0 then none else some (.int .i64 (lastP b k.1 i))
/-- What the row holds. -/
def prevL (b : List UInt8) (i : Nat) : List Value := (List.range b.length).map fun p => .int .i64 ((if p < i ∧ p + 3 ≤ b.length then lastP b (t3 b p) p else 0 : Nat) : Int)
structure Chn (w : World) (c : Nat) (sb : Sl) (b : List UInt8) (r g i : Nat) : Prop where
  st : w.heap[c]? = some (.cells #[.slice sb.a sb.n sb.c, .map (some r), .slice (some ⟨g, 0, none⟩) b.length b.length] t_lz_chains (0, 0))
  bs : Bs w sb b
  old : b ≠ [] → ∀ ad, sb.a = some ad → ad.block < r
  mp : MapF keyB w r (headF b i)
  pv : w.heap[g]? = some (.cells (prevL b i).toArray t_int (0, 0))
  rg : r < g
  gc : g < c
section
variable {w : World} {c r g i : Nat} {sb : Sl} {b : List UInt8}
theorem Chn.fr {w' : World} (h : Chn w c sb b r g i) (hf : Fr w w') : Chn w' c sb b r g i :=
  ⟨hf.heap h.st, h.bs.fr hf, h.old, h.mp.sub (hf.block r h.mp.lt), hf.heap h.pv, h.rg, h.gc⟩
theorem Chn.lt (h : Chn w c sb b r g i) : c < w.heap.size := (Array.getElem?_eq_some_iff.1 h.st).1
theorem Chn.low {w' : World} (h : Chn w c sb b r g i) (hf : Below (c + 1) w w') : Chn w' c sb b r g i := by
  have h1 := h.rg
  have h2 := h.gc
  have hk : Kp (fun k => k < c + 1) w w' := fun k _ hk => hf.block k hk
  exact ⟨(hf.block c (by omega)).trans h.st, h.bs.kpn hk fun hb ad ha => by have := h.old hb ad ha; omega, h.old, h.mp.sub (hf.block r (by omega)), (hf.block g (by omega)).trans h.pv, h1, h2⟩
theorem at_ok (h : Chn w c sb b r g i) {p : Nat} (hp : p + 3 ≤ b.length) (hl : b.length ≤ 1099511627776) :
    cl Tryd.prog n_lz_chains_at #[.pointer (some ⟨c, 0, none⟩), .int .i64 (p : Int)] (.row 3) w fun (x : {l : List Value // l.length = 3}) w' => x.1 = u8s (t3 b p) ∧ Fr w w' := by
  refine lz_chains_at.cl ?_
  unfold lz_chains_at
  have ht3 : (u8s (t3 b p)).length = 3 := by rw [u8s_length, t3_get hp]; rfl
  refine nwI fun a w2 ha hsz hf hblk _ => ?_
  have h2 := h.fr hf
  show ld .L w2 ⟨c, 0, none⟩ _
  refine ldL0 h2.st rfl ?_
  rw [i64w (by omega) (by omega)]
  refine slsB h2.bs (by omega) (by omega) (by omega) fun r5 h5 _ _ => ?_
  have e5 : (b.take ((p : Int) + 3).toNat).drop (p : Int).toNat = t3 b p := by
    unfold t3
    rw [show ((p : Int) + 3).toNat = p + 3 from by omega, Int.toNat_natCast, List.drop_take]
    congr 1
    omega
  rw [e5] at h5
  have h5n := h5.len
  refine qnArr u_3_uint8 (by rw [h5n, ← u8s_length, ht3]; exact Nat.le_refl _) ?_
  refine ldRd h5.rd ht3 (by decide) ?_
  refine stL_row (cs := (zrow 3 (.int .u8 0)).1) hblk (by rw [ht3]; decide) (u8s_one _) fun w9 hb9 hg9 hs9 => ?_
  have e9 : (zrow 3 (.int .u8 0)).1.take 0 ++ u8s (t3 b p) ++ (zrow 3 (.int .u8 0)).1.drop (0 + (u8s (t3 b p)).length) = u8s (t3 b p) := by rw [ht3]; simp [zrow]
  rw [e9] at hb9
  refine ldR0 hb9 ht3 ⟨rfl, ?_⟩
  exact hf.on (grown_below hg9 (by omega) hf.size)
theorem alike_ok (h : Chn w c sb b r g i) {p q : Nat} (hpq : p < q) (hq : q ≤ b.length) (hl : b.length ≤ 1099511627776) :
    cl Tryd.prog n_lz_chains_alike #[.pointer (some ⟨c, 0, none⟩), .int .i64 (p : Int), .int .i64 (q : Int)] (.I .i64) w fun (x : Int) w' => x = alikeF b 66 p q ∧ Fr w w' := by
  refine lz_chains_alike.cl ?_
  unfold lz_chains_alike
  have hn := h.bs.len
  refine lpI (fun s' w' => Fr w w' ∧ ∃ k : Nat, k ≤ 66 ∧ s'.1 = k ∧ ∀ m, m < k → q + m < b.length ∧ b[p + m]? = b[q + m]?) (fun s' _ => (66 - s'.1).toNat) ⟨Fr.refl w, 0, by omega, rfl, fun m h => by omega⟩ ?_
  rintro _ ⟨k, ⟨⟩⟩ w2 ⟨hf, k, hk, rfl, hm⟩
  dsimp -zeta only
  have h2 := h.fr hf
  refine bD ?_ ?_ <;> intro h66
  · show ld .L w2 ⟨c, 0, none⟩ _
    refine ldL0 h2.st rfl ?_
    rw [i64w (n := (q : Int) + k) (by omega) (by omega), i64w (n := (p : Int) + k) (by omega) (by omega)]
    refine bD ?_ ?_ <;> intro hlt
    · show ld .L w2 ⟨c, 0, none⟩ _
      refine ldL0 h2.st rfl ?_
      have g1 : b[((p : Int) + k).toNat]? = some (b[p + k]'(by omega)) := by rw [show ((p : Int) + k).toNat = p + k from by omega]; exact List.getElem?_eq_getElem _
      have g2 : b[((q : Int) + k).toNat]? = some (b[q + k]'(by omega)) := by rw [show ((q : Int) + k).toNat = q + k from by omega]; exact List.getElem?_eq_getElem _
      refine ixBc h2.bs.rd h2.bs.len (by omega) g1 (Fr.refl _) ?_
      show ld .L w2 ⟨c, 0, none⟩ _
      refine ldL0 h2.st rfl ?_
      refine ixBc h2.bs.rd h2.bs.len (by omega) g2 (Fr.refl _) ?_
      intro n
      have hf' := hf.trans (Fr.drewN w2 n)
      refine bE ?_ ?_ <;> intro he
      · rw [i64w (by omega) (by omega)]
        refine ⟨⟨hf', k + 1, by omega, by simp, fun m hmk => ?_⟩, by omega⟩
        by_cases hme : m = k
        · subst hme
          refine ⟨by omega, ?_⟩
          rw [List.getElem?_eq_getElem (by omega), List.getElem?_eq_getElem (by omega)]
          congr 1
          exact UInt8.toNat_inj.1 (by omega)
        · exact hm m (by omega)
      · refine ⟨?_, hf'⟩
        rw [alikeF_step hk hm (.inr fun hx => he ?_)]
        rw [List.getElem?_eq_getElem (by omega), List.getElem?_eq_getElem (by omega)] at hx
        rw [Option.some.inj hx.2]
    · intro n
      refine ⟨?_, hf.trans (Fr.drewN w2 n)⟩
      rw [alikeF_step hk hm (.inr fun hx => by omega)]
  · intro n
    refine ⟨?_, hf.trans (Fr.drewN w2 n)⟩
    rw [alikeF_step hk hm (.inl (by omega))]
theorem zero_int (w : World) : (zeroValue t_int).run Tryd.prog w = .ok (.int .i64 0) w := run_zeroV (by kernel_rfl) w
theorem headF_get (b : List UInt8) (i : Nat) (k : {l : List UInt8 // l.length = 3}) : (headF b i k).getD (.int .i64 0) = .int .i64 (lastP b k.1 i) := by
  unfold headF
  split
  · rename_i h; rw [h]; rfl
  · rfl
theorem prevL_get {b : List UInt8} {i p : Nat} (hp : p < i) (hl : p + 3 ≤ b.length) : (prevL b i)[p]? = some (.int .i64 (lastP b (t3 b p) p)) := by
  unfold prevL
  rw [List.getElem?_map, List.getElem?_range (by omega)]
  simp [hp, hl]
theorem prevL_over {b : List UInt8} {i : Nat} (h : b.length < i + 3) : prevL b (i + 1) = prevL b i := by
  unfold prevL
  refine List.map_congr_left fun p _ => ?_
  by_cases hp : p < i ∧ p + 3 ≤ b.length
  · rw [if_pos hp, if_pos (by omega)]
  · rw [if_neg hp, if_neg (by omega)]
theorem prevL_put {b : List UInt8} {i : Nat} (h : i + 3 ≤ b.length) : (prevL b i).set i (.int .i64 (lastP b (t3 b i) i)) = prevL b (i + 1) := by
  apply List.ext_getElem?
  intro p
  rw [List.getElem?_set]
  unfold prevL
  rw [List.length_map, List.length_range, List.getElem?_map, List.getElem?_map]
  by_cases hp : p < b.length
  · rw [List.getElem?_range hp]
    by_cases e : i = p
    · subst e
      simp [h, hp]
    · rw [if_neg e]
      simp only [Option.map_some]
      by_cases hc : p < i ∧ p + 3 ≤ b.length
      · rw [if_pos hc, if_pos (by omega)]
      · rw [if_neg hc, if_neg (by omega)]
  · rw [if_neg (by omega)]
    simp [List.getElem?_eq_none (l := List.range b.length) (i := p) (by simp; omega)]
theorem headF_over {b : List UInt8} {i : Nat} (h : b.length < i + 3) : headF b (i + 1) = headF b i := by
  funext k
  unfold headF
  rw [lastP_over h]
theorem headF_put {b : List UInt8} {i : Nat} (h : i + 3 ≤ b.length) {h3 : (t3 b i).length = 3} : (fun k' => if k' = (⟨t3 b i, h3⟩ : {l : List UInt8 // l.length = 3}) then some (.int .i64 ((i : Int) + 1)) else headF b i k') = headF b (i + 1) := by
  funext k
  unfold headF
  by_cases e : k = ⟨t3 b i, h3⟩
  · subst e
    have hP : lastP b (t3 b i) (i + 1) = i + 1 := by rw [lastP, if_pos ⟨h, rfl⟩]
    simp only [if_true, hP]
    rfl
  · have hP : lastP b k.1 (i + 1) = lastP b k.1 i := by rw [lastP, if_neg fun hc => e (Subtype.ext hc.2.symm)]
    rw [if_neg e, hP]
theorem best_ok (h : Chn w c sb b r g i) (hi : i ≤ b.length) (hl : b.length ≤ 1099511627776) :
    cl Tryd.prog n_lz_chains_best #[.pointer (some ⟨c, 0, none⟩), .int .i64 (i : Int)] (.tup (.pair (.I .i64) (.pair (.I .i64) .nil))) w fun (x : Int × Int × Unit) w' => x = (((bestS b i).1 : Int), ((bestS b i).2 : Int), ()) ∧ Fr w w' := by
  refine lz_chains_best.cl ?_
  unfold lz_chains_best
  have hn := h.bs.len
  show ld .L w ⟨c, 0, none⟩ _
  refine ldL0 h.st rfl ?_
  rw [i64w (n := (i : Int) + 3) (by omega) (by omega)]
  refine bD ?_ ?_ <;> intro h3
  · rw [best_none (by omega) hi]; exact ⟨rfl, Fr.refl w⟩
  have hi3 : i + 3 ≤ b.length := by omega
  intro n
  have hf3 := Fr.drewN w n
  have h' := h.fr hf3
  generalize w.drewN n = w3 at *
  show ld .M w3 ⟨c, 1, none⟩ _
  refine ldM0 h'.st rfl ?_
  refine (at_ok h' hi3 hl).mono ?_
  rintro ⟨x6, hx6⟩ w7 ⟨hx, hf7⟩
  dsimp only at hx
  subst hx
  refine ⟨hf7, ?_⟩
  have h7 := h'.fr hf7
  have ht3 : (t3 b i).length = 3 := by rw [t3_get hi3]; rfl
  refine qnM u8_key u_map_3_uint8_int zero_int h7.mp ⟨t3 b i, ht3⟩ (kd := .I .i64) ((lastP b (t3 b i) i : Nat) : Int) (by rw [headF_get]; rfl) ?_
  refine lpI (fun s' w' => Fr w w' ∧ ∃ (q : Nat) (st : Nat × Nat), s'.1 = st.1 ∧ s'.2.1 = st.2 ∧ s'.2.2.1 = q ∧ Cand b i q st) (fun s' _ => s'.2.2.1.toNat) ⟨hf3.trans hf7, _, (0, 0), rfl, rfl, rfl, cand_init hi3⟩ ?_
  rintro _ ⟨bk, sz, p, ⟨⟩⟩ w10 ⟨hf10, q, ⟨bk', sz'⟩, rfl, rfl, rfl, hc⟩
  dsimp -zeta only
  have hqi := hc.1
  refine bD ?_ ?_ <;> intro hq0
  · have hq1 : (q : Int) - 1 = ((q - 1 : Nat) : Int) := by omega
    rw [i64w (n := (q : Int) - 1) (by omega) (by omega), i64w (n := (i : Int) - ((q : Int) - 1)) (by omega) (by omega), hq1]
    have h10 := h.fr hf10
    refine bD ?_ ?_ <;> intro h512
    · refine (alike_ok h10 (show q - 1 < i by omega) hi hl).mono ?_
      rintro _ w14 ⟨rfl, hf14⟩
      have h14 := h10.fr hf14
      have hstep := cand_step hi3 hc (by omega) (by omega)
      have hpl : q - 1 + 3 ≤ b.length := (hc.2.1 (by omega)).2
      have hle := lastP_le b (t3 b (q - 1)) (q - 1)
      have fin : ∀ (K : Int → Prop), K ((lastP b (t3 b (q - 1)) (q - 1) : Nat) : Int) → nz (some ⟨c, 0, none⟩) fun a => ld .L w14 (a.add 2) fun (x : Sl) => ixa x.a x.n ((q - 1 : Nat) : Int) 1 fun a' => ld (.I .i64) w14 a' K := by
        intro K hK
        show ld .L w14 ⟨c, 2, none⟩ _
        refine ldL0 (s := ⟨some ⟨g, 0, none⟩, b.length, b.length⟩) h14.st rfl ?_
        exact ixH h14.pv (by omega) (by dsimp only; omega) (by rw [Int.toNat_natCast]; exact prevL_get (by omega) hpl) hK
      refine bD ?_ ?_ <;> intro hgt
      · refine fin _ ?_
        rw [if_pos (by omega)] at hstep
        refine ⟨⟨hf10.trans hf14, _, _, ?_, rfl, rfl, hstep⟩, by omega⟩
        simp only
        omega
      · refine fin _ ?_
        rw [if_neg (by omega)] at hstep
        exact ⟨⟨hf10.trans hf14, _, _, rfl, rfl, rfl, hstep⟩, by omega⟩
    · rw [cand_end hi3 hc (by omega)]; exact ⟨rfl, hf10⟩
  · rw [cand_end hi3 hc (by omega)]; exact ⟨rfl, hf10⟩
theorem put_ok (h : Chn w c sb b r g i) (hi : i ≤ b.length) (hl : b.length ≤ 1099511627776) :
    cl Tryd.prog n_lz_chains_put #[.pointer (some ⟨c, 0, none⟩), .int .i64 (i : Int)] (.tup .nil) w fun (_ : Unit) w' => Chn w' c sb b r g (i + 1) ∧ Below r w w' ∧ Kp (fun k => k ≠ r ∧ k ≠ g) w w' := by
  refine lz_chains_put.cl ?_
  unfold lz_chains_put
  have hn := h.bs.len
  have hrg := h.rg
  have hgc := h.gc
  have hclt := h.lt
  show ld .L w ⟨c, 0, none⟩ _
  refine ldL0 h.st rfl ?_
  rw [i64w (n := (i : Int) + 3) (by omega) (by omega)]
  refine bD ?_ ?_ <;> intro h3
  rotate_left
  · refine ⟨⟨h.st, h.bs, h.old, ?_, ?_, hrg, hgc⟩, Below.refl _ _, fun _ _ _ => rfl⟩
    · rw [headF_over (by omega)]; exact h.mp
    · rw [prevL_over (by omega)]; exact h.pv
  have hi3 : i + 3 ≤ b.length := by omega
  have ht3 : (t3 b i).length = 3 := by rw [t3_get hi3]; rfl
  refine (at_ok h hi3 hl).mono ?_
  rintro ⟨x6, hx6⟩ w4 ⟨hx, hf4⟩
  dsimp only at hx
  subst hx
  refine nwI fun a w6 ha hsz hf6 hblk _ => ?_
  have hs4 := hf4.size
  refine stL_row (cs := (zrow 3 (.int .u8 0)).1) hblk (by rw [hx6]; decide) (u8s_one _) fun w7 hb7 hg7 hs7 => ?_
  have e7 : (zrow 3 (.int .u8 0)).1.take 0 ++ u8s (t3 b i) ++ (zrow 3 (.int .u8 0)).1.drop (0 + (u8s (t3 b i)).length) = u8s (t3 b i) := by rw [hx6]; simp [zrow]
  rw [e7] at hb7
  intro n
  have hf7 : Fr w w7 := (hf4.trans hf6).on (grown_below hg7 (by omega) (hf4.trans hf6).size)
  have hf8 := hf7.trans (Fr.drewN w7 n)
  have hb8 := (Fr.drewN w7 n).heap hb7
  generalize w7.drewN n = w8 at *
  have h8 := h.fr hf8
  show ld .L w8 ⟨c, 2, none⟩ _
  refine ldL0 (s := ⟨some ⟨g, 0, none⟩, b.length, b.length⟩) h8.st rfl ?_
  show ld .M w8 ⟨c, 1, none⟩ _
  refine ldM0 h8.st rfl ?_
  refine ldR0 hb8 hx6 ?_
  refine qnM u8_key u_map_3_uint8_int zero_int h8.mp ⟨t3 b i, ht3⟩ (kd := .I .i64) ((lastP b (t3 b i) i : Nat) : Int) (by rw [headF_get]; rfl) ?_
  refine ixSt h8.pv (by omega) (by dsimp only; omega) (by rw [Int.toNat_natCast]; simp [prevL]; omega) fun w16 hb16 hg16 hs16 => ?_
  rw [Int.toNat_natCast, prevL_put hi3] at hb16
  intro n2
  have hf17 := Fr.drewN w16 n2
  have hb17 := hf17.heap hb16
  have hs17 : (w16.drewN n2).heap.size = w16.heap.size := rfl
  have hK17 : ∀ k : Nat, (w16.drewN n2).heap[k]? = w16.heap[k]? := fun _ => rfl
  generalize w16.drewN n2 = w17 at *
  have hs8 := hf8.size
  have hst17 : w17.heap[c]? = some (.cells #[.slice sb.a sb.n sb.c, .map (some r), .slice (some ⟨g, 0, none⟩) b.length b.length] t_lz_chains (0, 0)) := by
    rw [hK17, hg16.block c (by omega) (by simp; omega)]; exact h8.st
  have ha17 : w17.heap[a]? = some (.cells (u8s (t3 b i)).toArray t_3_uint8 (0, 0)) := by
    have hal := (Array.getElem?_eq_some_iff.1 hb8).1
    rw [hK17, hg16.block a hal (by simp; omega)]; exact hb8
  have hm17 : MapF keyB w17 r (headF b i) := h8.mp.sub (by rw [hK17, hg16.block r (by omega) (by simp; omega)])
  show ld .M w17 ⟨c, 1, none⟩ _
  refine ldM0 hst17 rfl ?_
  refine ldR0 ha17 hx6 ?_
  refine ruM u8_key u_map_3_uint8_int hm17 ⟨t3 b i, ht3⟩ _ fun w21 hm21 hg21 hs21 => ?_
  rw [i64w (by omega) (by omega)] at hm21
  have hB : Below r w w21 := by
    have b1 : Below r w8 w16 := grown_below hg16 (by omega) (by omega)
    have b2 : Below r w17 w21 := grown_below hg21 (Nat.le_refl _) (by omega)
    exact (((hf8.mono (by omega)).trans b1).trans (hf17.mono (by omega))).trans b2
  have hKp : Kp (fun k => k ≠ r ∧ k ≠ g) w w21 := fun k hk hne => by
    rw [hg21.block k (by omega) (by simp; omega), hK17, hg16.block k (by omega) (by simp; omega), hf8.block k hk]
  refine ⟨⟨?_, ?_, h.old, ?_, ?_, hrg, hgc⟩, hB, hKp⟩
  · rw [hKp c hclt (by omega)]; exact h.st
  · exact h.bs.kpn (S := fun k => k < r) (fun k _ hk => hB.block k hk) h.old
  · rw [← headF_put hi3 (h3 := ht3)]; exact hm21
  · rw [hg21.block g (by omega) (by simp; omega)]; exact hb17
end
end Go.Proofs.YtkojpppnjloikaaDoor
