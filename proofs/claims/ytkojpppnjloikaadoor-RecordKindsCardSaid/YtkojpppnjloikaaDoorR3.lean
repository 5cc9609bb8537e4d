/- Contracts: record.put, Put. -/
import Derived.Test.YtkojpppnjloikaaDoorR2
namespace Go.Proofs.YtkojpppnjloikaaDoor
open Go.RowKit Go.Fl

theorem recput_ok {s : Sl} {p : RecT} {b d l : List UInt8} {w : World} (hs : Bs w s b) (hp : p.2.2.1.1 = u8s d) (hl : Bs w p.2.2.2.1 l) (hbl : b.length ≤ 1048576) (hll : l.length ≤ 1048576) (hk : p.1 ≤ 9223372036854775807) (hz : p.2.1 ≤ 9223372036854775807) :
    cl Tryd.prog n_record_put #[.slice s.a s.n s.c, rcV p] .L w fun (r : Sl) w' => OwB w' w.heap.size t_uint8 r (b ++ recB p.1 p.2.1 d l) ∧ Fr w w' := by
  refine record_put.cl (p1 := p) ?_
  unfold record_put
  rw [rcL_nil]
  have hdl : d.length = 32 := by have := p.2.2.1.2; rw [hp, u8s_length] at this; exact this
  refine nwI fun a1 w2 ha1 hs2 hf2 hb1 _ => ?_
  have c0 : (rcL p []).toArray[0]? = some (.int .i64 p.1) := rfl
  have c1 : (rcL p []).toArray[1]? = some (.int .i64 p.2.1) := rfl
  simp only [addOff, Nat.zero_add]
  refine ldI0 hb1 c0 (ldI0 hb1 c1 ?_)
  refine nwI fun a5 w6 ha5 hs6 hf6 hb5 hr5 => ?_
  have hf6' := hf2.trans hf6
  refine (octet_Numbers_ok (x := ⟨some ⟨a5, 0, none⟩, 2, 2⟩) (ns := [p.1, p.2.1]) (hs.fr hf6') ⟨hr5, rfl, Nat.le_refl _⟩ (by simp; omega) (by simp; omega)).mono ?_
  rintro x7 w8 ⟨_, hx7, hf8⟩
  have hx7 : OwB w8 w6.heap.size t_uint8 x7 (b ++ numsB [p.1, p.2.1]) := hx7.resolve_left fun h => by cases h.1
  intro n
  have hfn := Fr.drewN w8 n
  have hf9 : Fr w (w8.drewN n) := (hf6'.trans hf8).trans hfn
  have hx9 := hx7.fr hfn
  have h19 := (hf8.trans hfn).heap (hf6.heap hb1)
  have h68 : w6.heap.size ≤ (w8.drewN n).heap.size := (hf8.trans hfn).size
  have hl9 := hl.fr hf9
  have hw6 : w.heap.size ≤ w6.heap.size := hf6'.size
  have hnl := numsB_le [p.1, p.2.1]
  simp only [List.length_cons, List.length_nil] at hnl
  have hx9' : OwB (w8.drewN n) w.heap.size t_uint8 x7 (b ++ numsB [p.1, p.2.1]) := hx9.mono hw6
  have hlb : ∀ (u : World) (r : Sl), OwB u w.heap.size t_uint8 r ((b ++ numsB [p.1, p.2.1]) ++ d) → Below w.heap.size (w8.drewN n) u → (∀ k, k < (w8.drewN n).heap.size → (Value.slice x7.a x7.n x7.c).ownBlock ≠ some k → u.heap[k]? = (w8.drewN n).heap[k]?) →
      Fr w u ∧ u.heap[a1]? = some (.cells (rcL p []).toArray t_api_Record (0, 0)) ∧ cl Tryd.prog n_octet_Text #[.slice r.a r.n r.c, .slice p.2.2.2.1.a p.2.2.2.1.n p.2.2.2.1.c] .L u fun (x : Sl) w' => OwB w' w.heap.size t_uint8 x (b ++ recB p.1 p.2.1 d l) ∧ Fr w w' := by
    intro u r hr hbu hkeep
    have hfu : Fr w u := hf9.on hbu
    refine ⟨hfu, ?_, ?_⟩
    · rw [hkeep a1 (Array.getElem?_eq_some_iff.1 h19).1 fun e => by have := (hx9.block a1 e).1; omega]; exact h19
    · refine (octet_Text_ok hr.bs (hl.fr hfu) (by simp; omega) (by omega)).mono ?_
      rintro x w' ⟨hx, hf⟩
      refine ⟨?_, hfu.trans hf⟩
      have e : b ++ recB p.1 p.2.1 d l = b ++ numsB [p.1, p.2.1] ++ d ++ numB l.length ++ l := by simp [recB]
      rw [e]
      exact hx.mono hfu.size
  have hrd : Rd (w8.drewN n) (some ⟨a1, 2, none⟩) (u8s d) := rdAt (n := 32) h19 (by rw [← hp]; show (p.2.2.1.1 ++ [slV p.2.2.2.1]).take 32 = _; rw [List.take_left' p.2.2.1.2])
  have ap : ∀ {K : Sl → World → Prop}, (∀ (r : Sl) w', OwB w' w.heap.size t_uint8 r ((b ++ numsB [p.1, p.2.1]) ++ d) → Below w.heap.size (w8.drewN n) w' → (∀ k, k < (w8.drewN n).heap.size → (Value.slice x7.a x7.n x7.c).ownBlock ≠ some k → w'.heap[k]? = (w8.drewN n).heap[k]?) → K r w') → app Tryd.prog t_s_uint8 t_s_uint8 x7 ⟨some ⟨a1, 2, none⟩, 32, 32⟩ (w8.drewN n) K := fun hK =>
    app_B slB (base := w.heap.size) hx9' hrd hdl (by simp; omega) hf9.size fun r w' h1 h2 h3 _ => hK r w' h1 h2 h3
  refine ⟨slA u_api_Sum size_u8 ⟨ap fun r w' h1 h2 h3 => ?_, ldL0 (s := p.2.2.2.1) h19 (rc_c34 p) (ap fun r w' h1 h2 h3 => (hlb w' r h1 h2 h3).2.2)⟩, ldL0 (s := p.2.2.2.1) h19 (rc_c34 p) (slA u_api_Sum size_u8 (ap fun r w' h1 h2 h3 => (hlb w' r h1 h2 h3).2.2))⟩
  exact ldL0 (s := p.2.2.2.1) (hlb w' r h1 h2 h3).2.1 (rc_c34 p) (hlb w' r h1 h2 h3).2.2
/-- What is put of a note. -/
def putS (p : NtT) (d l : List UInt8) : List UInt8 × Int := if FitP p d then (noteB p d l, 0) else ([], 100)
theorem offs_kind {k : Int} (h : offs k ≠ []) : 1 ≤ k ∧ k ≤ 6 := by
  unfold offs at h
  split at h
  · omega
  · split at h
    · omega
    · split at h
      · omega
      · exact absurd rfl h
theorem Put_ok {p : NtT} {d l : List UInt8} {w : World} (hp : p.2.2.2.2.2.1.2.2.1.1 = u8s d) (hl : Bs w p.2.2.2.2.2.1.2.2.2.1 l) (hll : l.length ≤ 1048576) :
    cl Tryd.prog n_record_Put #[ntV p] (.tup (.pair .L (.pair (.I .i64) .nil))) w fun (r : Sl × Int × Unit) w' => OwB w' w.heap.size t_uint8 r.1 (putS p d l).1 ∧ r.2 = ((putS p d l).2, ()) ∧ Fr w w' := by
  refine record_Put.cl (p0 := p) ?_
  unfold record_Put
  rw [ntL_eq]
  refine nwI fun a1 w2 ha1 hs2 hf2 hb1 _ => ?_
  have at1 : ∀ {u : World}, Fr w2 u → ∀ {o : Nat}, o < 5 → ∀ {K : Int → Prop}, K (nv p o) → ld (.I .i64) u ⟨a1, o, none⟩ K := by
    intro u hf o ho K hK
    exact ldI0 (hf.heap hb1) (ntL_at p ho) hK
  refine ldNote hb1 ?_
  refine (Fits_ok hp).mono ?_
  rintro _ w5 ⟨rfl, hf5⟩
  refine bNe ?_ ?_ <;> intro hfit
  · have hn : ¬FitP p d := fun h => hfit (by rw [fitS, if_pos h])
    rw [putS, if_neg hn, fitS, if_neg hn]
    exact ⟨OwB.nil _ _ _, rfl, hf2.trans hf5⟩
  have hF : FitP p d := by
    by_cases h : FitP p d
    · exact h
    · rw [fitS, if_neg h] at hfit; cases hfit
  rw [putS, if_pos hF]
  have hkd := offs_kind hF.1
  refine at1 hf5 (o := 0) (by decide) ?_
  refine (octet_Number_ok (s := ⟨none, 0, 0⟩) (n := nv p 0) (Bs.nil _ _) (by simp) (by show p.1 ≤ _; omega)).mono ?_
  rintro x7 w8 ⟨hx7, hf8⟩
  rw [List.nil_append] at hx7
  have hf8' := hf5.trans hf8
  refine (fields_ok (hf8'.heap hb1) (ntL_at p (o := 0) (by decide))).mono ?_
  rintro x9 w10 ⟨hx9, hf10⟩
  have hx9 : Pts w10 w8.heap.size a1 (offs p.1) x9 := hx9
  have hn9 := hx9.1
  have hf10' := hf8'.trans hf10
  have hl3 := offs_len p.1
  refine lpI (fun s' w' => Fr w10 w' ∧ ∃ i : Nat, i ≤ (offs p.1).length ∧ s'.2.1 = i ∧ OwB w' w.heap.size t_uint8 s'.1 (numB p.1.toNat ++ numsB (((offs p.1).map (nv p)).take i))) (fun s' _ => ((offs p.1).length - s'.2.1).toNat)
    ⟨Fr.refl _, 0, by omega, rfl, by simpa [numsB, nv] using (hx7.fr hf10).mono (Nat.le_trans hf2.size hf5.size)⟩ ?_
  rintro _ ⟨x, i', ⟨⟩⟩ w12 ⟨hf12, i, hi, hii, hx⟩
  dsimp only at hii hx
  subst hii
  dsimp only
  rw [hn9]
  have hlen := numsB_le (((offs p.1).map (nv p)).take i)
  have hlen1 := numB_le p.1.toNat
  rw [List.length_take, List.length_map] at hlen
  have hf12' := hf10'.trans hf12
  have hfw : Fr w w12 := hf2.trans hf12'
  refine bD ?_ ?_ <;> intro hlt
  · have hi' : i < (offs p.1).length := by omega
    have ho := offs_mem (List.getElem_mem hi')
    have hr := hF.2.1 _ (List.getElem_mem hi')
    rw [← hn9]
    refine (hx9.fr hf12).ix hi' (nzS (at1 hf12' (by omega) ?_))
    refine (octet_Number_ok hx.bs (by simp; omega) (by omega)).mono ?_
    rintro x19 w20 ⟨h19, hf20⟩
    rw [i64w (by omega) (by omega)]
    refine ⟨⟨hf12.trans hf20, i + 1, by omega, rfl, ?_⟩, by omega⟩
    have e := numsB_take (ns := (offs p.1).map (nv p)) (k := i) (by simpa using hi')
    rw [List.getElem_map] at e
    rw [e, ← List.append_assoc]
    exact h19.mono hfw.size
  obtain rfl : i = (offs p.1).length := by omega
  rw [List.take_of_length_le (by simp)] at hx hlen
  refine at1 hf12' (o := 0) (by decide) ?_
  refine bE ?_ ?_ <;> intro h2
  · have h2 : p.1 = 2 := h2
    have hc := chkS_ok (hF.2.2.2.2.2 h2)
    simp only [addOff, Nat.zero_add]
    refine ldRec (pre := n5 p) (post := []) (p := p.2.2.2.2.2.1) (hf12'.heap hb1) ?_

    refine (recput_ok hx.bs hp (hl.fr hfw) (by simp; omega) hll (by omega) (by omega)).mono ?_
    rintro x23 w24 ⟨h23, hf24⟩
    refine ⟨?_, trivial, hfw.trans hf24⟩
    rw [noteB, if_pos h2]
    exact h23.mono hfw.size
  · have h2 : p.1 ≠ 2 := h2
    refine ⟨?_, rfl, hfw⟩
    rw [noteB, if_neg h2, List.append_nil]
    exact hx
end Go.Proofs.YtkojpppnjloikaaDoor
