/- Contracts and plain laws that the claims of this seat lean on, put together. -/
import Derived.Test.YtkojpppnjloikaaDoorM2
import Derived.Laws.BitsAllLaws
import Derived.ProofKit
import Derived.OpenShut
namespace Go.Proofs.YtkojpppnjloikaaDoor
open Go.RowKit Go.Fl

abbrev ntV (p : NtT) : Value := .agg ((([.int .i64 p.1, .int .i64 p.2.1, .int .i64 p.2.2.1, .int .i64 p.2.2.2.1, .int .i64 p.2.2.2.2.1] : List Value) ++ ((([.int .i64 p.2.2.2.2.2.1.1, .int .i64 p.2.2.2.2.2.1.2.1] : List Value) ++ (p.2.2.2.2.2.1.2.2.1.1 ++ ([.slice p.2.2.2.2.2.1.2.2.2.1.a p.2.2.2.2.2.1.2.2.2.1.n p.2.2.2.2.2.1.2.2.2.1.c] : List Value))) ++ ([] : List Value)))).toArray
theorem Pts.new {w' : World} {base g b : Nat} {t : TypeId} {k : Int} {os : List Nat} (he : offs k = os) (hb : base ≤ b) (h : w'.heap[b]? = some (.cells (os.map fun o => Value.pointer (some ⟨g, o, none⟩)).toArray t (0, 0))) : Pts w' base g (offs k) ⟨some ⟨b, 0, none⟩, os.length, os.length⟩ := by
  rw [he]
  exact ⟨rfl, fun _ => ⟨b, t, rfl, hb, h⟩⟩
theorem fields_ok {g : Nat} {cs : Array Value} {t : TypeId} {f : Nat × Nat} {k : Int} {w : World} (hg : w.heap[g]? = some (.cells cs t f)) (h0 : cs[0]? = some (.int .i64 k)) :
    cl Tryd.prog n_record_fields #[.pointer (some ⟨g, 0, none⟩)] .L w fun (r : Sl) w' => Pts w' w.heap.size g (offs k) r ∧ Fr w w' := by
  refine record_fields.cl (p0 := some ⟨g, 0, none⟩) ?_
  unfold record_fields
  refine nzS (ldI0 hg h0 ?_)
  refine bE ?_ ?_ <;> intro h1
  · intro n
    refine nzS (nzS (nzS ?_))
    simp only [addOff]
    refine nwI fun b w2 hb hs hf hblk _ => ⟨Pts.new (os := [1, 2, 3]) (by rw [offs, if_pos h1]) ?_ hblk, (Fr.drewN w n).trans hf⟩
    exact Nat.le_of_eq hb.symm
  intro j1
  have hj : ∀ y : Bool, (y = true ↔ (k = 2 ∨ k = 5 ∨ k = 6)) → j1 y w := by
    intro y hy
    show bif y then _ else _
    refine bB ?_ ?_ <;> intro hyv
    · have hk := hy.1 hyv
      intro n
      refine nzS (nzS ?_)
      simp only [addOff]
      refine nwI fun b w2 hb hs hf hblk _ => ⟨Pts.new (os := [1, 4]) (by rw [offs, if_neg h1, if_pos hk]) ?_ hblk, (Fr.drewN w n).trans hf⟩
      exact Nat.le_of_eq hb.symm
    · have hk : ¬(k = 2 ∨ k = 5 ∨ k = 6) := fun h => by rw [hy.2 h] at hyv; cases hyv
      have one : ∀ (K : Sl → World → Prop), k = 3 ∨ k = 4 → (∀ r w', Pts w' w.heap.size g (offs k) r ∧ Fr w w' → K r w') → nz (some ⟨g, 0, none⟩) fun a27 => nw w [.pointer (some (a27.add 1))] t_p_int fun a28 w29 => K ⟨(some a28), 1, 1⟩ w29 := by
        intro K h34 hK
        refine nzS ?_
        simp only [addOff]
        exact nwI fun b w2 hb hs hf hblk _ => hK _ _ ⟨Pts.new (os := [1]) (by rw [offs, if_neg h1, if_neg hk, if_pos h34]) (by omega) hblk, hf⟩
      refine bE ?_ ?_ <;> intro h3
      · refine bE ?_ ?_ <;> intro h3'
        · exact one _ (.inl h3) fun r w' h => h
        · exact absurd h3 h3'
      refine bE ?_ ?_ <;> intro h4
      · exact one _ (.inr h4) fun r w' h => h
      · have e : offs k = [] := by rw [offs, if_neg h1, if_neg hk, if_neg (by omega)]
        rw [e]
        exact ⟨⟨rfl, fun h => absurd rfl h⟩, Fr.refl w⟩
  clear_value j1
  refine bE ?_ ?_ <;> intro h2
  · exact hj _ (by simp [h2])
  refine bE ?_ ?_ <;> intro h5
  · exact hj _ (by simp [h5])
  · exact hj _ (by simp [h2, h5])
theorem zero_Sum (w : World) : (Instr.build t_api_Sum #[]).run Tryd.prog w = .ok (.agg (List.replicate 32 (Value.int .u8 0)).toArray) w := by
  have hz : (zeroValue t_api_Sum).run Tryd.prog w = .ok (.agg (List.replicate 32 (Value.int .u8 0)).toArray) w := run_zeroV (by kernel_rfl) w
  simp [Instr.build, hz, run_underlying u_api_Sum, Instr.fill, Value.cells]
theorem Fits_ok {p : NtT} {d : List UInt8} {w : World} (hp : p.2.2.2.2.2.1.2.2.1.1 = u8s d) : cl Tryd.prog n_record_Fits #[ntV p] (.I .i64) w fun (r : Int) w' => r = fitS p d ∧ Fr w w' := by
  refine record_Fits.cl (p0 := p) ?_
  unfold record_Fits
  rw [ntL_eq]
  have hdl : d.length = 32 := by have := p.2.2.2.2.2.1.2.2.1.2; rw [hp, u8s_length] at this; exact this
  have hone : ∀ v ∈ p.2.2.2.2.2.1.2.2.1.1, v.oneCell' = true := by rw [hp]; exact u8s_one d
  refine nwI fun a1 w2 ha1 hs2 hf2 hb1 _ => ?_
  have at1 : ∀ {u : World}, Fr w2 u → ∀ {o : Nat}, o < 5 → ∀ {K : Int → Prop}, K (nv p o) → ld (.I .i64) u ⟨a1, o, none⟩ K := by
    intro u hf o ho K hK
    exact ldI0 (hf.heap hb1) (ntL_at p ho) hK
  refine at1 (Fr.refl _) (o := 0) (by decide) ?_
  simp only [addOff, Nat.zero_add]
  refine ldRec (pre := n5 p) (post := []) (p := p.2.2.2.2.2.1) hb1 ?_
  have hz : ∀ (K : Addr → World → Prop), nw w2 (([.int .i64 0, .int .i64 0, .int .i64 0, .int .i64 0, .int .i64 0] : List Value) ++ ((([.int .i64 0, .int .i64 0] : List Value) ++ ((zrow 32 (.int .u8 0)).1 ++ ([.slice none 0 0] : List Value))) ++ ([] : List Value))) t_api_Note K = nw w2 (ntL (0, 0, 0, 0, 0, rc0, ())) t_api_Note K := fun K => by rw [List.append_nil]; rfl
  rw [hz]
  refine nwI fun a5 w6 ha5 hs6 hf6 hb5 _ => ?_
  have hst := fun K hk => stNote (K := K) hb5 (nv p 0, 0, 0, 0, 0, p.2.2.2.2.2.1, ()) hone hk
  simp only [addOff, Nat.zero_add] at hst
  refine hst _ fun w15 hb15 hg15 hs15 => ?_
  have hf15 : Fr w2 w15 := hf6.on (grown_below hg15 (by omega) hf6.size)
  have hw15 : Fr w w15 := hf2.trans hf15
  refine (fields_ok (hf15.heap hb1) (ntL_at p (o := 0) (by decide))).mono ?_
  rintro x16 w17 ⟨hx16, hf17⟩
  have hk0 : nv p 0 = p.1 := rfl
  rw [hk0] at hx16 hb15
  have hn16 := hx16.1
  have e0 : ((p.1, 0, 0, 0, 0, p.2.2.2.2.2.1, ()) : NtT) = bareN p [] := by simp [bareN]
  rw [e0] at hb15
  have hok : offs p.1 = [] ∨ offs p.1 ≠ [] := by by_cases h : offs p.1 = [] <;> simp [h]
  have hsz15 : w15.heap.size ≤ w17.heap.size := hf17.size
  have h5lt : a5 < w15.heap.size := (Array.getElem?_eq_some_iff.1 hb15).1
  refine lpI (fun s' w' => Fr w2 w' ∧ ∃ i : Nat, i ≤ (offs p.1).length ∧ s'.1 = i ∧ w15.heap.size ≤ w'.heap.size ∧ Pts w' w15.heap.size a1 (offs p.1) x16 ∧ w'.heap[a5]? = some (.cells (ntL (bareN p ((offs p.1).take i))).toArray t_api_Note (0, 0)) ∧ ∀ o ∈ (offs p.1).take i, 1 ≤ nv p o ∧ nv p o ≤ 1073741824)
    (fun s' _ => ((offs p.1).length - s'.1).toNat) ⟨hf15.trans hf17, 0, by omega, rfl, hsz15, hx16, by rw [List.take_zero]; exact hf17.heap hb15, by simp⟩ ?_
  rintro _ ⟨i', ⟨⟩⟩ w19 ⟨hf19, i, hi, rfl, hsz, hx, hb5', hall⟩
  dsimp only at hx ⊢
  rw [hn16]
  refine bD ?_ ?_ <;> intro hlt
  · have hi' : i < (offs p.1).length := by omega
    have ho := offs_mem (List.getElem_mem hi')
    have ho5 : (offs p.1)[i] < 5 := by omega
    have hmem : (offs p.1)[i] ∈ offs p.1 := List.getElem_mem hi'
    rw [← hn16]
    refine hx.ix hi' (nzS (at1 hf19 ho5 ?_))
    refine bD ?_ ?_ <;> intro h1
    · refine ⟨?_, hf2.trans hf19⟩
      rw [fitS, if_neg fun h => by have := h.2.1 _ hmem; omega]
    refine nzS (at1 hf19 ho5 ?_)
    refine bD ?_ ?_ <;> intro h2
    · refine ⟨?_, hf2.trans hf19⟩
      rw [fitS, if_neg fun h => by have := h.2.1 _ hmem; omega]
    intro n
    have hfn := Fr.drewN w19 n
    refine nzS (at1 (hf19.trans hfn) ho5 ?_)
    refine (fields_ok (hfn.heap hb5') (k := p.1) (by rfl)).mono ?_
    rintro x35 w36 ⟨hx35, hf36⟩
    refine ⟨hf36, hx35.ix hi' (nzS ?_)⟩
    have hb36 := hf36.heap (hfn.heap hb5')
    refine st0 hb36 (by simp [ntL_length]; omega) fun w40 hb40 hg40 hs40 => ?_
    rw [bareN_set p _ ho, ← List.take_succ_eq_append_getElem hi'] at hb40
    have hf36' : Fr w2 w36 := hf19.trans (hfn.trans hf36)
    have hl3 := offs_len p.1
    have hs36 : w19.heap.size ≤ w36.heap.size := (hfn.trans hf36).size
    rw [i64w (by omega) (by omega)]
    refine ⟨⟨hf36'.on (grown_below hg40 (by omega) hf36'.size), i + 1, by omega, rfl, by omega, (hx.fr (hfn.trans hf36)).kp hg40 h5lt, hb40, fun o ho' => ?_⟩, by omega⟩
    rw [List.take_succ_eq_append_getElem hi'] at ho'
    rcases List.mem_append.1 ho' with ho' | ho'
    · exact hall o ho'
    · rw [List.mem_singleton] at ho'
      subst ho'
      omega
  obtain rfl : i = (offs p.1).length := by omega
  rw [List.take_length] at hb5' hall
  have hw19 : Fr w w19 := hf2.trans hf19
  refine ⟨fun s w' => w19 = w' ∧ s.1 = decide (p.1 = 1 → p.2.2.1 ≤ 65535 ∧ p.2.2.2.1 ≤ 65535), ?_, ?_⟩
  · rintro _ ⟨ports, ⟨⟩⟩ _ ⟨rfl, hports⟩
    dsimp only at hports
    refine ⟨fun s w' => w19 = w' ∧ s.1 = decide (∀ o ∈ ([1, 2, 3, 4] : List Nat), o ∉ offs p.1 → nv p o = 0), ?_, ?_⟩
    · rintro _ ⟨same, ⟨⟩⟩ _ ⟨rfl, hsame⟩
      dsimp only at hsame
      refine ⟨fun s w' => w19 = w' ∧ s.1 = decide (emptyR p.2.2.2.2.2.1 d), ?_, ?_⟩
      · rintro _ ⟨empty, ⟨⟩⟩ _ ⟨rfl, hempty⟩
        dsimp only at hempty ⊢
        refine (fields_ok (hf19.heap hb1) (ntL_at p (o := 0) (by decide))).mono ?_
        rintro x w20 ⟨hx20, hf20⟩
        have hf20' := hw19.trans hf20
        have hn20 : x.n = (offs p.1).length := hx20.1
        refine bE ?_ ?_ <;> intro h1
        · refine ⟨?_, hf20'⟩
          rw [fitS, if_neg fun h => h.1 (List.eq_nil_of_length_eq_zero (by omega))]
        have hne : offs p.1 ≠ [] := fun h => by rw [h] at hn20; exact h1 (by simp [hn20])
        rw [hports]
        refine bB ?_ ?_ <;> intro h2
        · refine ⟨?_, hf20'⟩
          rw [fitS, if_neg fun h => by rw [Bool.not_eq_true', decide_eq_false_iff_not] at h2; exact h2 h.2.2.1]
        rw [Bool.not_eq_false', decide_eq_true_iff] at h2
        rw [hsame]
        refine bB ?_ ?_ <;> intro h3
        · refine ⟨?_, hf20'⟩
          rw [fitS, if_neg fun h => by rw [Bool.not_eq_true', decide_eq_false_iff_not] at h3; exact h3 h.2.2.2.1]
        rw [Bool.not_eq_false', decide_eq_true_iff] at h3
        refine at1 (hf19.trans hf20) (o := 0) (by decide) ?_
        have chk : p.1 = 2 → ∀ {K : Int → World → Prop}, (∀ w', Fr w w' → K (fitS p d) w') → ld (.pair (.I .i64) (.pair (.I .i64) (.pair (.row 32) (.pair .L .nil)))) w20 ⟨a1, 5, none⟩ fun (x457 : RecT) => cl Tryd.prog n_record_Check #[rcV x457] (.I .i64) w20 fun (x458 : Int) w459 => bif (x458 != 0) then K 100 w459 else K 0 w459 := by
          intro h5 K hK
          refine ldRec (pre := n5 p) (post := []) (p := p.2.2.2.2.2.1) (hf20.heap (hf19.heap hb1)) ?_
          refine (Check_ok (p := p.2.2.2.2.2.1)).mono ?_
          rintro _ w21 ⟨rfl, hf21⟩
          have hk := hK w21 (hf20'.trans hf21)
          refine bNe ?_ ?_ <;> intro h6
          · rw [fitS, if_neg fun h => h6 (h.2.2.2.2.2 h5)] at hk; exact hk
          · rw [fitS, if_pos ⟨hne, hall, h2, h3, fun h => absurd h5 h, fun _ => h6⟩] at hk; exact hk
        refine bNe ?_ ?_ <;> intro h4
        · have h4 : p.1 ≠ 2 := h4
          rw [hempty]
          refine bB ?_ ?_ <;> intro h5
          · refine ⟨?_, hf20'⟩
            rw [fitS, if_neg fun h => by rw [Bool.not_eq_true', decide_eq_false_iff_not] at h5; exact h5 (h.2.2.2.2.1 h4)]
          rw [Bool.not_eq_false', decide_eq_true_iff] at h5
          refine at1 (hf19.trans hf20) (o := 0) (by decide) ?_
          refine bE ?_ ?_ <;> intro h6
          · exact absurd h6 h4
          · refine ⟨?_, hf20'⟩
            rw [fitS, if_pos ⟨hne, hall, h2, h3, fun _ => h5, fun h => absurd h h4⟩]
        · have h4 : p.1 = 2 := h4
          refine at1 (hf19.trans hf20) (o := 0) (by decide) ?_
          refine bE ?_ ?_ <;> intro h6
          · exact chk h4 (K := fun r w' => r = fitS p d ∧ Fr w w') fun w' hf => ⟨rfl, hf⟩
          · exact absurd h4 h6
      · have hb := hf19.heap hb1
        have c5 : (ntL p).toArray[5]? = some (.int .i64 p.2.2.2.2.2.1.1) := rfl
        have c6 : (ntL p).toArray[6]? = some (.int .i64 p.2.2.2.2.2.1.2.1) := rfl
        have c39 : (ntL p).toArray[39]? = some (slV p.2.2.2.2.2.1.2.2.2.1) := by
          have := rc_c34 p.2.2.2.2.2.1
          rw [List.getElem?_toArray] at this ⊢
          rw [ntL, List.getElem?_append_right (by simp)]
          exact this
        refine ldI0 hb c5 ?_
        refine bE ?_ ?_ <;> intro h1
        · refine ldI0 hb c6 ?_
          refine bE ?_ ?_ <;> intro h2
          · refine ldRow (vs := u8s d) hb (by rw [← hp]; show (p.2.2.2.2.2.1.2.2.1.1 ++ [slV p.2.2.2.2.2.1.2.2.2.1]).take 32 = _; rw [List.take_left' p.2.2.2.2.2.1.2.2.1.2]) (by rw [u8s_length, hdl]) ?_
            refine ⟨⟨u8s (List.replicate 32 0), by simp [u8s]⟩, fun w' _ => (zero_Sum w').trans (by simp [u8s]; rfl), ?_⟩
            refine qnEq hdl (by simp) ?_
            refine bB ?_ ?_ <;> intro h3
            · rw [decide_eq_true_iff] at h3
              refine ldL0 (s := p.2.2.2.2.2.1.2.2.2.1) hb c39 ⟨rfl, ?_⟩
              dsimp only
              rw [Bool.eq_iff_iff]
              simp [emptyR, h1, h2, h3]
            · rw [decide_eq_false_iff_not] at h3
              exact ⟨rfl, by rw [eq_comm, decide_eq_false_iff_not]; exact fun h => h3 h.2.2.1⟩
          · exact ⟨rfl, by rw [eq_comm, decide_eq_false_iff_not]; exact fun h => h2 h.2.1⟩
        · exact ⟨rfl, by rw [eq_comm, decide_eq_false_iff_not]; exact fun h => h1 h.1⟩
    · have hsm := bare_same p (offs p.1)
      have at5 : ∀ {o : Nat}, o < 5 → ∀ {K : Int → Prop}, K (nv (bareN p (offs p.1)) o) → ld (.I .i64) w19 ⟨a5, o, none⟩ K := by
        intro o ho K hK
        exact ldI0 hb5' (ntL_at _ ho) hK
      have go : ∀ o, o < 5 → ∀ {X Y : Prop}, (nv (bareN p (offs p.1)) o = nv p o → X) → (nv (bareN p (offs p.1)) o ≠ nv p o → Y) → ld (.I .i64) w19 ⟨a5, o, none⟩ fun x => ld (.I .i64) w19 ⟨a1, o, none⟩ fun y => bif x == y then X else Y := fun o ho X Y hX hY => at5 ho (at1 hf19 ho (bE hX hY))
      refine go 1 (by decide) ?_ ?_ <;> intro h1
      · refine go 2 (by decide) ?_ ?_ <;> intro h2
        · refine go 3 (by decide) ?_ ?_ <;> intro h3
          · refine at5 (o := 4) (by decide) (at1 hf19 (o := 4) (by decide) ⟨rfl, ?_⟩)
            dsimp only
            rw [Bool.eq_iff_iff, decide_eq_true_iff, ← hsm, beq_iff_eq]
            exact ⟨fun h => ⟨h1, h2, h3, h⟩, fun h => h.2.2.2⟩
          · exact ⟨rfl, by rw [eq_comm, decide_eq_false_iff_not, ← hsm]; exact fun h => h3 h.2.2.1⟩
        · exact ⟨rfl, by rw [eq_comm, decide_eq_false_iff_not, ← hsm]; exact fun h => h2 h.2.1⟩
      · exact ⟨rfl, by rw [eq_comm, decide_eq_false_iff_not, ← hsm]; exact fun h => h1 h.1⟩
  · refine at1 hf19 (o := 0) (by decide) ?_
    have e0 : nv p 0 = p.1 := rfl
    have e2 : nv p 2 = p.2.2.1 := rfl
    have e3 : nv p 3 = p.2.2.2.1 := rfl
    refine bNe ?_ ?_ <;> intro h1
    · exact ⟨rfl, by simp [show p.1 ≠ 1 from h1]⟩
    · refine at1 hf19 (o := 2) (by decide) ?_
      refine bD ?_ ?_ <;> intro h2
      · refine at1 hf19 (o := 3) (by decide) ⟨rfl, ?_⟩
        dsimp only
        rw [e2] at h2
        rw [Bool.eq_iff_iff, decide_eq_true_iff, decide_eq_true_iff, e3]
        exact ⟨fun h _ => ⟨h2, h⟩, fun h => (h h1).2⟩
      · rw [e2] at h2
        exact ⟨rfl, by rw [eq_comm, decide_eq_false_iff_not]; exact fun h => h2 (h h1).1⟩
end Go.Proofs.YtkojpppnjloikaaDoor
namespace Go.Proofs.YtkojpppnjloikaaDoor
open Go.RowKit Go.Fl

theorem recput_ok {s : Sl} {p : RecT} {b d l : List UInt8} {w : World} (hs : Bs w s b) (hp : p.2.2.1.1 = u8s d) (hl : Bs w p.2.2.2.1 l) (hbl : b.length ≤ 1048576) (hll : l.length ≤ 1048576) (hk : p.1 ≤ 9223372036854775807) (hz : p.2.1 ≤ 9223372036854775807) :
    cl Tryd.prog n_record_put #[.slice s.a s.n s.c, rcV p] .L w fun (r : Sl) w' => OwB w' w.heap.size t_uint8 r (b ++ recB p.1 p.2.1 d l) ∧ Fr w w' := by
  refine record_put.cl (p1 := p) ?_
  unfold record_put
  rw [rcL_nil]
  have hdl : d.length = 32 := by have := p.2.2.1.2; rw [hp, u8s_length] at this; exact this
  refine nwI fun a1 w2 ha1 hs2 hf2 hb1 _ => ?_
  have c0 : (rcL p []).toArray[0]? = some (.int .i64 p.1) := rfl
  have c1 : (rcL p []).toArray[1]? = some (.int .i64 p.2.1) := rfl
  simp only [addOff, Nat.zero_add]
  refine ldI0 hb1 c0 (ldI0 hb1 c1 ?_)
  refine nwI fun a5 w6 ha5 hs6 hf6 hb5 hr5 => ?_
  have hf6' := hf2.trans hf6
  refine (octet_Numbers_ok (x := ⟨some ⟨a5, 0, none⟩, 2, 2⟩) (ns := [p.1, p.2.1]) (hs.fr hf6') ⟨hr5, rfl, Nat.le_refl _⟩ (by simp; omega) (by simp; omega)).mono ?_
  rintro x7 w8 ⟨_, hx7, hf8⟩
  have hx7 : OwB w8 w6.heap.size t_uint8 x7 (b ++ numsB [p.1, p.2.1]) := hx7.resolve_left fun h => by cases h.1
  intro n
  have hfn := Fr.drewN w8 n
  have hf9 : Fr w (w8.drewN n) := (hf6'.trans hf8).trans hfn
  have hx9 := hx7.fr hfn
  have h19 := (hf8.trans hfn).heap (hf6.heap hb1)
  have h68 : w6.heap.size ≤ (w8.drewN n).heap.size := (hf8.trans hfn).size
  have hl9 := hl.fr hf9
  have hw6 : w.heap.size ≤ w6.heap.size := hf6'.size
  have hnl := numsB_le [p.1, p.2.1]
  simp only [List.length_cons, List.length_nil] at hnl
  have hx9' : OwB (w8.drewN n) w.heap.size t_uint8 x7 (b ++ numsB [p.1, p.2.1]) := hx9.mono hw6
  have hlb : ∀ (u : World) (r : Sl), OwB u w.heap.size t_uint8 r ((b ++ numsB [p.1, p.2.1]) ++ d) → Below w.heap.size (w8.drewN n) u → (∀ k, k < (w8.drewN n).heap.size → (Value.slice x7.a x7.n x7.c).ownBlock ≠ some k → u.heap[k]? = (w8.drewN n).heap[k]?) →
      Fr w u ∧ u.heap[a1]? = some (.cells (rcL p []).toArray t_api_Record (0, 0)) ∧ cl Tryd.prog n_octet_Text #[.slice r.a r.n r.c, .slice p.2.2.2.1.a p.2.2.2.1.n p.2.2.2.1.c] .L u fun (x : Sl) w' => OwB w' w.heap.size t_uint8 x (b ++ recB p.1 p.2.1 d l) ∧ Fr w w' := by
    intro u r hr hbu hkeep
    have hfu : Fr w u := hf9.on hbu
    refine ⟨hfu, ?_, ?_⟩
    · rw [hkeep a1 (Array.getElem?_eq_some_iff.1 h19).1 fun e => by have := (hx9.block a1 e).1; omega]; exact h19
    · refine (octet_Text_ok hr.bs (hl.fr hfu) (by simp; omega) (by omega)).mono ?_
      rintro x w' ⟨hx, hf⟩
      refine ⟨?_, hfu.trans hf⟩
      have e : b ++ recB p.1 p.2.1 d l = b ++ numsB [p.1, p.2.1] ++ d ++ numB l.length ++ l := by simp [recB]
      rw [e]
      exact hx.mono hfu.size
  have hrd : Rd (w8.drewN n) (some ⟨a1, 2, none⟩) (u8s d) := rdAt (n := 32) h19 (by rw [← hp]; show (p.2.2.1.1 ++ [slV p.2.2.2.1]).take 32 = _; rw [List.take_left' p.2.2.1.2])
  have ap : ∀ {K : Sl → World → Prop}, (∀ (r : Sl) w', OwB w' w.heap.size t_uint8 r ((b ++ numsB [p.1, p.2.1]) ++ d) → Below w.heap.size (w8.drewN n) w' → (∀ k, k < (w8.drewN n).heap.size → (Value.slice x7.a x7.n x7.c).ownBlock ≠ some k → w'.heap[k]? = (w8.drewN n).heap[k]?) → K r w') → app Tryd.prog t_s_uint8 t_s_uint8 x7 ⟨some ⟨a1, 2, none⟩, 32, 32⟩ (w8.drewN n) K := fun hK =>
    app_B slB (base := w.heap.size) hx9' hrd hdl (by simp; omega) hf9.size fun r w' h1 h2 h3 _ => hK r w' h1 h2 h3
  refine ⟨slA u_api_Sum size_u8 ⟨ap fun r w' h1 h2 h3 => ?_, ldL0 (s := p.2.2.2.1) h19 (rc_c34 p) (ap fun r w' h1 h2 h3 => (hlb w' r h1 h2 h3).2.2)⟩, ldL0 (s := p.2.2.2.1) h19 (rc_c34 p) (slA u_api_Sum size_u8 (ap fun r w' h1 h2 h3 => (hlb w' r h1 h2 h3).2.2))⟩
  exact ldL0 (s := p.2.2.2.1) (hlb w' r h1 h2 h3).2.1 (rc_c34 p) (hlb w' r h1 h2 h3).2.2
/-- What is put of a note. -/
def putS (p : NtT) (d l : List UInt8) : List UInt8 × Int := if FitP p d then (noteB p d l, 0) else ([], 100)
theorem offs_kind {k : Int} (h : offs k ≠ []) : 1 ≤ k ∧ k ≤ 6 := by
  unfold offs at h
  split at h
  · omega
  · split at h
    · omega
    · split at h
      · omega
      · exact absurd rfl h
theorem Put_ok {p : NtT} {d l : List UInt8} {w : World} (hp : p.2.2.2.2.2.1.2.2.1.1 = u8s d) (hl : Bs w p.2.2.2.2.2.1.2.2.2.1 l) (hll : l.length ≤ 1048576) :
    cl Tryd.prog n_record_Put #[ntV p] (.tup (.pair .L (.pair (.I .i64) .nil))) w fun (r : Sl × Int × Unit) w' => OwB w' w.heap.size t_uint8 r.1 (putS p d l).1 ∧ r.2 = ((putS p d l).2, ()) ∧ Fr w w' := by
  refine record_Put.cl (p0 := p) ?_
  unfold record_Put
  rw [ntL_eq]
  refine nwI fun a1 w2 ha1 hs2 hf2 hb1 _ => ?_
  have at1 : ∀ {u : World}, Fr w2 u → ∀ {o : Nat}, o < 5 → ∀ {K : Int → Prop}, K (nv p o) → ld (.I .i64) u ⟨a1, o, none⟩ K := by
    intro u hf o ho K hK
    exact ldI0 (hf.heap hb1) (ntL_at p ho) hK
  refine ldNote hb1 ?_
  refine (Fits_ok hp).mono ?_
  rintro _ w5 ⟨rfl, hf5⟩
  refine bNe ?_ ?_ <;> intro hfit
  · have hn : ¬FitP p d := fun h => hfit (by rw [fitS, if_pos h])
    rw [putS, if_neg hn, fitS, if_neg hn]
    exact ⟨OwB.nil _ _ _, rfl, hf2.trans hf5⟩
  have hF : FitP p d := by
    by_cases h : FitP p d
    · exact h
    · rw [fitS, if_neg h] at hfit; cases hfit
  rw [putS, if_pos hF]
  have hkd := offs_kind hF.1
  refine at1 hf5 (o := 0) (by decide) ?_
  refine (octet_Number_ok (s := ⟨none, 0, 0⟩) (n := nv p 0) (Bs.nil _ _) (by simp) (by show p.1 ≤ _; omega)).mono ?_
  rintro x7 w8 ⟨hx7, hf8⟩
  rw [List.nil_append] at hx7
  have hf8' := hf5.trans hf8
  refine (fields_ok (hf8'.heap hb1) (ntL_at p (o := 0) (by decide))).mono ?_
  rintro x9 w10 ⟨hx9, hf10⟩
  have hx9 : Pts w10 w8.heap.size a1 (offs p.1) x9 := hx9
  have hn9 := hx9.1
  have hf10' := hf8'.trans hf10
  have hl3 := offs_len p.1
  refine lpI (fun s' w' => Fr w10 w' ∧ ∃ i : Nat, i ≤ (offs p.1).length ∧ s'.2.1 = i ∧ OwB w' w.heap.size t_uint8 s'.1 (numB p.1.toNat ++ numsB (((offs p.1).map (nv p)).take i))) (fun s' _ => ((offs p.1).length - s'.2.1).toNat)
    ⟨Fr.refl _, 0, by omega, rfl, by simpa [numsB, nv] using (hx7.fr hf10).mono (Nat.le_trans hf2.size hf5.size)⟩ ?_
  rintro _ ⟨x, i', ⟨⟩⟩ w12 ⟨hf12, i, hi, hii, hx⟩
  dsimp only at hii hx
  subst hii
  dsimp only
  rw [hn9]
  have hlen := numsB_le (((offs p.1).map (nv p)).take i)
  have hlen1 := numB_le p.1.toNat
  rw [List.length_take, List.length_map] at hlen
  have hf12' := hf10'.trans hf12
  have hfw : Fr w w12 := hf2.trans hf12'
  refine bD ?_ ?_ <;> intro hlt
  · have hi' : i < (offs p.1).length := by omega
    have ho := offs_mem (List.getElem_mem hi')
    have hr := hF.2.1 _ (List.getElem_mem hi')
    rw [← hn9]
    refine (hx9.fr hf12).ix hi' (nzS (at1 hf12' (by omega) ?_))
    refine (octet_Number_ok hx.bs (by simp; omega) (by omega)).mono ?_
    rintro x19 w20 ⟨h19, hf20⟩
    rw [i64w (by omega) (by omega)]
    refine ⟨⟨hf12.trans hf20, i + 1, by omega, rfl, ?_⟩, by omega⟩
    have e := numsB_take (ns := (offs p.1).map (nv p)) (k := i) (by simpa using hi')
    rw [List.getElem_map] at e
    rw [e, ← List.append_assoc]
    exact h19.mono hfw.size
  obtain rfl : i = (offs p.1).length := by omega
  rw [List.take_of_length_le (by simp)] at hx hlen
  refine at1 hf12' (o := 0) (by decide) ?_
  refine bE ?_ ?_ <;> intro h2
  · have h2 : p.1 = 2 := h2
    have hc := chkS_ok (hF.2.2.2.2.2 h2)
    simp only [addOff, Nat.zero_add]
    refine ldRec (pre := n5 p) (post := []) (p := p.2.2.2.2.2.1) (hf12'.heap hb1) ?_

    refine (recput_ok hx.bs hp (hl.fr hfw) (by simp; omega) hll (by omega) (by omega)).mono ?_
    rintro x23 w24 ⟨h23, hf24⟩
    refine ⟨?_, trivial, hfw.trans hf24⟩
    rw [noteB, if_pos h2]
    exact h23.mono hfw.size
  · have h2 : p.1 ≠ 2 := h2
    refine ⟨?_, rfl, hfw⟩
    rw [noteB, if_neg h2, List.append_nil]
    exact hx
end Go.Proofs.YtkojpppnjloikaaDoor
namespace Go.Proofs.YtkojpppnjloikaaDoor
open Go.RowKit Go.Fl

theorem aw10 : putS (3, 7, 0, 0, 0, rc0, ()) (List.replicate 32 0) [] = ([3, 7], 0) := by decide +kernel
theorem awS : ¬(shortS [97, 98, 99]).length < 3 := by decide +kernel
theorem openS_lit {b : List UInt8} (h1 : 1 ≤ b.length) (h2 : b.length ≤ 256) : openS 2 (b.length : Int) (dig b) b = (b, 0) := by
  have h : chkS 2 (b.length : Int) b.length = 0 := by rw [chkS, if_pos ⟨.inr (.inl ⟨rfl, rfl⟩), by omega, by omega⟩]
  rw [openS, if_neg (by rw [h]; decide), if_neg (by decide), if_neg fun h => by have := h.1; omega, if_pos (by rw [if_neg (by decide)]), if_neg (by decide)]
/-- A record is put into a new variable. -/
theorem newRec {w : World} {p : RecT} {K : Addr → World → Prop} (hone : ∀ v ∈ p.2.2.1.1, v.oneCell' = true)
    (h : ∀ a w', w.heap.size ≤ a → Fr w w' → w'.heap[a]? = some (.cells (rcL p []).toArray t_api_Record (0, 0)) → w'.heap.size = w.heap.size + 1 → K ⟨a, 0, none⟩ w') :
    nw w (([.int .i64 0, .int .i64 0] : List Value) ++ ((zrow 32 (.int .u8 0)).1 ++ ([.slice none 0 0] : List Value))) t_api_Record fun a7 w8 => st1 w8 a7 (.int .i64 p.1) fun w9 => st1 w9 (a7.add 1) (.int .i64 p.2.1) fun w10 => stL ((a7.add 1).add 1) w10 0 p.2.2.1.1 fun w11 => st1 w11 (((a7.add 1).add 1).add 32) (.slice p.2.2.2.1.a p.2.2.2.1.n p.2.2.2.1.c) fun w12 => K a7 w12 := by
  refine nwI fun a w2 ha hs hf hb _ => ?_
  refine stRec (pre := []) (post := []) (q := rc0) hb p hone fun w3 hb3 hg3 hs3 => h a w3 (by omega) (hf.on (grown_below hg3 (by omega) hf.size)) hb3 (by omega)
theorem awake10_ok {w : World} (hd : Dig w) : cl Tryd.prog n_flumelaw10_awake #[] .B w fun (r : Bool) w' => r = true ∧ Fr w w' := by
  refine flumelaw10_awake.cl ?_
  unfold flumelaw10_awake
  obtain ⟨b, hbe⟩ : ∃ b : List UInt8, b = [97, 98, 99] := ⟨_, rfl⟩
  have hbl : b.length = 3 := by rw [hbe]; rfl
  have hsh : ¬(shortS b).length < b.length := by rw [hbl, hbe]; exact awS
  refine nwConv (l := b) u_s_uint8 u_uint8 (by rw [hbe]; rfl) hbl.symm fun r3 w4 hr3 hf4 => ?_
  refine (Make_ok (known := false) (hd.fr hf4) hr3 (by omega)).mono ?_
  rintro ⟨p, e, ⟨⟩⟩ w6 ⟨hm, hf6⟩
  unfold MakeP at hm
  rw [if_neg (by omega)] at hm
  obtain ⟨he, hsz, hsum, hm⟩ := hm
  rw [if_neg (by decide), if_neg hsh] at hm
  obtain ⟨hk, hx⟩ := hm
  dsimp only at he hsz hsum hk hx ⊢
  obtain ⟨rfl, _⟩ := Prod.mk.inj he
  have hf6' := hf4.trans hf6
  refine newRec (p := p) (by rw [hsum]; exact u8s_one _) fun a w12 ha hf12 hb12 hs12 => ?_
  refine ldRec (pre := []) (post := []) hb12 ?_
  have hf12' := hf6'.trans hf12
  refine (Open_ok (p := p) (d := dig b) (l := b) (hd.fr hf12') hsum (hx.fr hf12) (by omega)).mono ?_
  rintro ⟨x14, e14, ⟨⟩⟩ w15 ⟨h14, he14, hf15⟩
  rw [hk, hsz, openS_lit (by omega) (by omega)] at h14 he14
  dsimp only at h14 he14 ⊢
  obtain ⟨rfl, _⟩ := Prod.mk.inj he14
  have hf15' := hf12'.trans hf15
  refine (Put_ok (p := (3, 7, 0, 0, 0, rc0, ())) (d := List.replicate 32 0) (l := []) (by simp [rc0, zrow, u8s]) (Bs.nil _ _) (by simp)).mono ?_
  rintro ⟨x16, e16, ⟨⟩⟩ w17 ⟨h16, he16, hf17⟩
  rw [aw10] at h16 he16
  dsimp only at h16 he16 ⊢
  obtain ⟨rfl, _⟩ := Prod.mk.inj he16
  have hf17' := hf15'.trans hf17
  refine bT rfl ?_
  refine ldI0 (n := p.1) ((hf15.trans hf17).heap hb12) rfl ?_
  rw [hk]
  refine bT rfl (bT rfl ?_)
  have h14' := h14.fr hf17
  refine bstrI h14'.rd h14'.len.symm (Fr.refl _) ?_
  refine bT (by rw [show (⟨#[97, 98, 99]⟩ : ByteArray) = ⟨([97, 98, 99] : List UInt8).toArray⟩ from rfl, beqB_eq, hbe]; rfl) (bT rfl ?_)
  refine bstrI h16.rd h16.len.symm (Fr.refl _) ?_
  refine bT (by rw [show (⟨#[3, 7]⟩ : ByteArray) = ⟨([3, 7] : List UInt8).toArray⟩ from rfl, beqB_eq]; rfl) ?_
  refine (Check_ok (p := rc0)).mono ?_
  rintro _ w22 ⟨rfl, hf22⟩
  exact ⟨by decide +kernel, hf17'.trans hf22⟩
end Go.Proofs.YtkojpppnjloikaaDoor
namespace Go.Proofs.YtkojpppnjloikaaDoor
open Go.RowKit Go.Fl

theorem refCheck_ok {p : RecT} {w : World} : cl Tryd.prog n_flumeref10_Check #[rcV p] (.I .i64) w fun (r : Int) w' => r = chkS p.1 p.2.1 p.2.2.2.1.n ∧ Fr w w' := by
  refine flumeref10_Check.cl (p0 := p) ?_
  unfold flumeref10_Check
  rw [rcL_nil]
  refine nwI fun a1 w2 ha hs hf hb _ => ?_
  have c0 : (rcL p []).toArray[0]? = some (.int .i64 p.1) := rfl
  have c1 : (rcL p []).toArray[1]? = some (.int .i64 p.2.1) := rfl
  have c34 := rc_c34 p
  generalize rcL p [] = cs at *
  rw [addOff, addOff]
  refine ldL0 (s := p.2.2.2.1) hb c34 ?_
  intro j1
  have hj : ∀ y : Bool, (y = true ↔ ((p.1 = 1 ∧ p.2.2.2.1.n = 0) ∨ (p.1 = 2 ∧ (p.2.2.2.1.n : Int) = p.2.1) ∨ (p.1 = 3 ∧ p.2.2.2.1.n ≤ 256))) → j1 y w2 := by
    intro y hy
    show bif (!y) then _ else _
    unfold chkS
    cases y with
    | false =>
      refine bT rfl ⟨?_, hf⟩
      rw [if_neg fun h => by have := hy.2 h.1; cases this]
    | true =>
      refine bF rfl ?_
      have h := hy.1 rfl
      refine ldI0 hb c1 (bD (fun h1 => ⟨?_, hf⟩) fun h1 => ldI0 hb c1 (bD (fun h2 => ⟨?_, hf⟩) fun h2 => ⟨?_, hf⟩))
      · rw [if_neg (by omega)]
      · rw [if_neg (by omega)]
      · rw [if_pos ⟨h, by omega, by omega⟩]
  clear_value j1
  refine ldI0 hb c0 ?_
  refine bE ?_ ?_ <;> intro h1
  · refine bE ?_ ?_ <;> intro h2
    · exact hj true (by simp [h1]; omega)
    · refine ldI0 hb c0 (bE (fun h => by omega) fun _ => ldI0 hb c0 (bE (fun h => by omega) fun _ => hj false ?_))
      simp [h1]; omega
  · refine ldI0 hb c0 ?_
    refine bE ?_ ?_ <;> intro h2
    · refine ldI0 hb c1 ?_
      refine bE ?_ ?_ <;> intro h3
      · exact hj true (by simp [h2, h3])
      · exact ldI0 hb c0 (bE (fun h => by omega) fun _ => hj false (by simp [h2, h3]))
    · refine ldI0 hb c0 ?_
      refine bE ?_ ?_ <;> intro h3
      · exact hj _ (by simp [h3]; omega)
      · exact hj false (by simp [h1, h2, h3])
/-- The numbers of a note, as a row. -/
def Nums (w : World) (os : List Int) (r : Sl) : Prop := Is w r os ∧ (os = [] → r.a = none) ∧ (os ≠ [] → r.a ≠ none)
theorem numbers_ok {p : NtT} {w : World} : cl Tryd.prog n_flumeref10_numbers #[ntV p] .L w fun (r : Sl) w' => Nums w' ((offs p.1).map (nv p)) r ∧ Fr w w' := by
  refine flumeref10_numbers.cl (p0 := p) ?_
  unfold flumeref10_numbers
  rw [ntL_eq]
  refine nwI fun a1 w2 ha1 hs2 hf2 hb1 _ => ?_
  have at1 : ∀ {o : Nat}, o < 5 → ∀ {K : Int → Prop}, K (nv p o) → ld (.I .i64) w2 ((⟨a1, 0, none⟩ : Addr).add o) K := by
    intro o ho K hK
    rw [addOff, Nat.zero_add]
    exact ldI0 hb1 (ntL_at p ho) hK
  have mk : ∀ {os : List Nat}, offs p.1 = os → os ≠ [] → ∀ {K : Sl → World → Prop}, (∀ r w', Nums w' ((offs p.1).map (nv p)) r ∧ Fr w w' → K r w') → nw w2 (os.map fun o => Value.int .i64 (nv p o)) t_int fun a w8 => K ⟨some a, os.length, os.length⟩ w8 := by
    intro os he hne K hK
    refine nwI fun b w8 hb hs hf hblk hr => hK _ _ ⟨⟨⟨?_, ?_, Nat.le_refl _⟩, ?_, ?_⟩, hf2.trans hf⟩
    · rw [he, List.map_map]; exact hr
    · rw [he, List.length_map]
    · intro h; rw [he] at h; exact absurd (List.map_eq_nil_iff.1 h) hne
    · intro _ h; cases h
  refine ldI0 hb1 (ntL_at p (o := 0) (by decide)) ?_
  refine bE ?_ ?_ <;> intro h1
  · have h1 : p.1 = 1 := h1
    refine at1 (o := 1) (by decide) (at1 (o := 2) (by decide) (at1 (o := 3) (by decide) ?_))
    exact mk (os := [1, 2, 3]) (by rw [offs, if_pos h1]) (by simp) fun r w' h => h
  have h1 : p.1 ≠ 1 := h1
  intro j1
  have hj : ∀ y : Bool, (y = true ↔ (p.1 = 2 ∨ p.1 = 5 ∨ p.1 = 6)) → j1 y w2 := by
    intro y hy
    show bif y then _ else _
    refine bB ?_ ?_ <;> intro hyv
    · have hk := hy.1 hyv
      refine at1 (o := 1) (by decide) (at1 (o := 4) (by decide) ?_)
      exact mk (os := [1, 4]) (by rw [offs, if_neg h1, if_pos hk]) (by simp) fun r w' h => h
    · have hk : ¬(p.1 = 2 ∨ p.1 = 5 ∨ p.1 = 6) := fun h => by rw [hy.2 h] at hyv; cases hyv
      refine bE ?_ ?_ <;> intro h3
      · have h3 : p.1 = 3 := h3
        refine bT (by rw [beq_iff_eq]; exact h3) (at1 (o := 1) (by decide) ?_)
        exact mk (os := [1]) (by rw [offs, if_neg h1, if_neg hk, if_pos (.inl h3)]) (by simp) fun r w' h => h
      refine bE ?_ ?_ <;> intro h4
      · have h4 : p.1 = 4 := h4
        refine at1 (o := 1) (by decide) ?_
        exact mk (os := [1]) (by rw [offs, if_neg h1, if_neg hk, if_pos (.inr h4)]) (by simp) fun r w' h => h
      · have h3 : p.1 ≠ 3 := h3
        have h4 : p.1 ≠ 4 := h4
        have e : offs p.1 = [] := by rw [offs, if_neg h1, if_neg hk, if_neg (by omega)]
        rw [e]
        exact ⟨⟨⟨Rd.nil _ _, rfl, Nat.le_refl _⟩, fun _ => rfl, fun h => absurd rfl h⟩, hf2⟩
  clear_value j1
  refine bE ?_ ?_ <;> intro h2
  · exact hj _ (by rw [beq_iff_eq]; have : p.1 = 2 := h2; simp [this, nv])
  refine bE ?_ ?_ <;> intro h5
  · exact hj _ (by rw [beq_iff_eq]; have : p.1 = 5 := h5; simp [this, nv])
  · exact hj _ (by rw [beq_iff_eq]; have h2 : p.1 ≠ 2 := h2; have h5 : p.1 ≠ 5 := h5; simp [h2, h5, nv])
theorem fit_same (p : NtT) (_d : List UInt8) (hne : offs p.1 ≠ []) :
    ((∀ o ∈ ([1, 2, 3, 4] : List Nat), o ∉ offs p.1 → nv p o = 0) ↔ ((p.1 ≠ 1 → p.2.2.1 = 0 ∧ p.2.2.2.1 = 0) ∧ (p.1 ≠ 2 → p.1 ≠ 5 → p.1 ≠ 6 → p.2.2.2.2.1 = 0))) := by
  have e1 : nv p 1 = p.2.1 := rfl
  have e2 : nv p 2 = p.2.2.1 := rfl
  have e3 : nv p 3 = p.2.2.2.1 := rfl
  have e4 : nv p 4 = p.2.2.2.2.1 := rfl
  simp only [List.mem_cons, List.not_mem_nil, or_false, forall_eq_or_imp, forall_eq, e1, e2, e3, e4]
  unfold offs at *
  by_cases h1 : p.1 = 1
  · simp [h1]
  · by_cases h2 : p.1 = 2 ∨ p.1 = 5 ∨ p.1 = 6
    · simp [h1, h2]; omega
    · by_cases h3 : p.1 = 3 ∨ p.1 = 4
      · simp [h1, h2, h3]; omega
      · simp [h1, h2, h3] at hne
end Go.Proofs.YtkojpppnjloikaaDoor
namespace Go.Fl

theorem w32_lt (n : Int) : w32 n < 4294967296 := by unfold w32; rw [u32w]; omega
theorem rot_ref {x : Int} {k : Nat} (h0 : 0 ≤ x) (h1 : x < 4294967296) : bits .or .u32 (x / 2 ^ k) (w32 (x * 2 ^ (32 - k))) = rotS x k := by
  have a0 : 0 ≤ x / 2 ^ k := Int.ediv_nonneg h0 (Int.le_of_lt (Int.pow_pos (by decide)))
  have a1 : x / 2 ^ k < 4294967296 := by
    have := Int.ediv_le_self (2 ^ k) h0
    omega
  unfold rotS
  rw [u32_or _ _ a0 a1 (w32_nn _) (w32_lt _), u32_or _ _ (w32_nn _) (w32_lt _) a0 a1, Nat.or_comm]
theorem not_ref {x : Int} (h0 : 0 ≤ x) (h1 : x < 4294967296) : w32 (4294967295 - x) = bits .xor .u32 4294967295 x := by
  rw [u32_xor _ _ (by decide) (by decide) h0 h1]
  obtain ⟨n, rfl⟩ := Int.eq_ofNat_of_zero_le h0
  have e : (4294967295 : Int).toNat ^^^ (n : Int).toNat = 4294967295 - n := by
    rw [Int.toNat_natCast, show (4294967295 : Int).toNat = 2 ^ 32 - 1 from rfl, show 4294967295 - n = 2 ^ 32 - (n + 1) from by omega]
    apply Nat.eq_of_testBit_eq
    intro i
    rw [Nat.testBit_two_pow_sub_succ (by omega), Nat.testBit_xor, Nat.testBit_two_pow_sub_one]
    by_cases hi : i < 32
    · simp [hi]
    · rw [Nat.testBit_lt_two_pow (x := n) (Nat.lt_of_lt_of_le (show n < 2 ^ 32 by omega) (Nat.pow_le_pow_right (by decide) (by omega)))]
      simp [hi]
  rw [e]
  unfold w32
  rw [u32w]
  omega
theorem or_add {a b i : Nat} (h : b < 2 ^ i) : a * 2 ^ i ||| b = a * 2 ^ i + b := by
  have := Nat.shiftLeft_add_eq_or_of_lt h a
  rw [Nat.shiftLeft_eq] at this
  exact this.symm
theorem word_ref {a b c d : Nat} (ha : a < 256) (hb : b < 256) (hc : c < 256) (hd : d < 256) : w32 (w32 (w32 (w32 (w32 (a : Int) * 16777216) + w32 (w32 (b : Int) * 65536)) + w32 (w32 (c : Int) * 256)) + w32 (d : Int)) =
    bits .or .u32 (bits .or .u32 (bits .or .u32 (w32 (w32 (a : Int) * 2 ^ 24)) (w32 (w32 (b : Int) * 2 ^ 16))) (w32 (w32 (c : Int) * 2 ^ 8))) (w32 (d : Int)) := by
  have e0 : w32 (w32 (a : Int) * 2 ^ 24) = ((a * 2 ^ 24 : Nat) : Int) := by unfold w32; rw [u32w, u32w]; omega
  have e1 : w32 (w32 (b : Int) * 2 ^ 16) = ((b * 2 ^ 16 : Nat) : Int) := by unfold w32; rw [u32w, u32w]; omega
  have e2 : w32 (w32 (c : Int) * 2 ^ 8) = ((c * 2 ^ 8 : Nat) : Int) := by unfold w32; rw [u32w, u32w]; omega
  have e3 : w32 (d : Int) = ((d : Nat) : Int) := by unfold w32; rw [u32w]; omega
  rw [e0, e1, e2, u32_or_nat _ _ (by omega) (by omega), or_add (by omega)]
  have f1 : (a * 2 ^ 24 + b * 2 ^ 16 ||| c * 2 ^ 8) = a * 2 ^ 24 + b * 2 ^ 16 + c * 2 ^ 8 := by
    have := or_add (a := a * 256 + b) (b := c * 2 ^ 8) (i := 16) (by omega)
    rw [show (a * 256 + b) * 2 ^ 16 = a * 2 ^ 24 + b * 2 ^ 16 from by omega] at this
    exact this
  rw [u32_or_nat _ _ (by omega) (by omega), f1, e3]
  have f2 : (a * 2 ^ 24 + b * 2 ^ 16 + c * 2 ^ 8 ||| d) = a * 2 ^ 24 + b * 2 ^ 16 + c * 2 ^ 8 + d := by
    have := or_add (a := a * 65536 + b * 256 + c) (b := d) (i := 8) (by omega)
    rw [show (a * 65536 + b * 256 + c) * 2 ^ 8 = a * 2 ^ 24 + b * 2 ^ 16 + c * 2 ^ 8 from by omega] at this
    exact this
  rw [u32_or_nat _ _ (by omega) (by omega), f2]
  unfold w32
  simp only [u32w]
  omega
/-- Words within 32 bits. -/
def W32 (l : List Int) : Prop := ∀ x ∈ l, 0 ≤ x ∧ x < 4294967296
theorem W32.getD {l : List Int} (h : W32 l) (i : Nat) : 0 ≤ l.getD i 0 ∧ l.getD i 0 < 4294967296 := by
  rw [List.getD_eq_getElem?_getD]
  cases hi : l[i]? with
  | none => simp
  | some x => exact h x (List.mem_of_getElem? hi)
theorem w32_in (n : Int) : 0 ≤ w32 n ∧ w32 n < 4294967296 := ⟨w32_nn n, w32_lt n⟩
theorem or_in {a b : Int} (ha : 0 ≤ a ∧ a < 4294967296) (hb : 0 ≤ b ∧ b < 4294967296) : 0 ≤ bits .or .u32 a b ∧ bits .or .u32 a b < 4294967296 := by
  rw [u32_or _ _ ha.1 ha.2 hb.1 hb.2]
  have : a.toNat ||| b.toNat < 2 ^ 32 := Nat.or_lt_two_pow (by omega) (by omega)
  omega
theorem w16_in (b : List UInt8) (i : Nat) : 0 ≤ w16S b i ∧ w16S b i < 4294967296 := or_in (or_in (or_in (w32_in _) (w32_in _)) (w32_in _)) (w32_in _)
theorem spread_in (b : List UInt8) : ∀ n, W32 (spreadS b n)
  | 0 => fun x hx => by cases hx
  | n + 1 => fun x hx => by
    rw [spreadS] at hx
    rcases List.mem_append.1 hx with hx | hx
    · exact spread_in b n x hx
    · rw [List.mem_singleton] at hx
      subst hx
      split
      · exact w16_in _ _
      · exact w32_in _
theorem rounds_in {K ws h : List Int} (hh : W32 h) : ∀ n, W32 (roundsS K ws h n)
  | 0 => hh
  | n + 1 => fun x hx => by
    have ih := rounds_in (K := K) (ws := ws) hh n
    rw [roundsS, roundS] at hx
    simp only [List.mem_cons, List.not_mem_nil, or_false] at hx
    rcases hx with rfl | rfl | rfl | rfl | rfl | rfl | rfl | rfl
    · exact w32_in _
    · exact ih.getD 0
    · exact ih.getD 1
    · exact ih.getD 2
    · exact w32_in _
    · exact ih.getD 4
    · exact ih.getD 5
    · exact ih.getD 6
theorem stir_in (K h : List Int) (b : List UInt8) : W32 (stirS K h b) := fun x hx => by
  obtain ⟨i, _, rfl⟩ := List.mem_map.1 hx
  exact w32_in _
theorem allS_split {K : List Int} : ∀ {f : Nat} {h : List Int} {l : List UInt8}, l.length < f → ∃ l1, l = l1 ++ (allS K f h l).2 ∧ l1.length % 64 = 0 ∧ ∀ t g, (l1 ++ t).length < g → allS K g h (l1 ++ t) = allS K (t.length + 1) (allS K f h l).1 t
  | 0, h, l, hf => by omega
  | f + 1, h, l, hf => by
    rw [allS]
    split
    · refine ⟨[], by simp, rfl, fun t g hg => ?_⟩
      rw [List.nil_append] at hg ⊢
      exact allS_any hg (by omega)
    · rename_i h64
      obtain ⟨l1, e, hm, hx⟩ := allS_split (K := K) (f := f) (h := stirS K h (l.take 64)) (l := l.drop 64) (by rw [List.length_drop]; omega)
      have ht : (l.take 64).length = 64 := by rw [List.length_take]; omega
      refine ⟨l.take 64 ++ l1, ?_, ?_, fun t g hg => ?_⟩
      · rw [List.append_assoc, ← e, List.take_append_drop]
      · rw [List.length_append, ht]; omega
      · obtain ⟨g, rfl⟩ : ∃ g', g = g' + 1 := ⟨g - 1, by omega⟩
        rw [List.append_assoc] at hg ⊢
        rw [List.length_append, ht] at hg
        rw [allS, if_neg (by rw [List.length_append, ht]; omega), List.take_left' ht, List.drop_left' ht]
        exact hx t g (by omega)
theorem zerosS_app : ∀ {f : Nat} {l1 r : List UInt8}, l1.length % 64 = 0 → zerosS f (l1 ++ r) = l1 ++ zerosS f r
  | 0, l1, r, h => rfl
  | f + 1, l1, r, h => by
    unfold zerosS
    rw [List.length_append]
    by_cases hr : r.length % 64 = 56
    · rw [if_pos hr, if_pos (by omega)]
    · rw [if_neg hr, if_neg (by omega), List.append_assoc]
      exact zerosS_app h
theorem zerosS_done {f : Nat} {l : List UInt8} (h : l.length % 64 = 56) : zerosS f l = l := by
  cases f with
  | zero => rfl
  | succ f => rw [zerosS, if_pos h]
/-- The whole message, padded. -/
def padS (b : List UInt8) : List UInt8 := zerosS 64 (b ++ [128]) ++ lenS b.length
theorem padS_mod (b : List UInt8) : (padS b).length % 64 = 0 := by
  have := zerosS_len (f := 64) (l := b ++ [128]) (by omega)
  rw [padS, List.length_append, this, lenS_length]
  omega
theorem dig_ref (F K : List Int) (b : List UInt8) : outS (allS K ((padS b).length + 1) F (padS b)).1 = digS F K b := by
  obtain ⟨l1, e, hm, hx⟩ := allS_split (K := K) (f := b.length + 1) (h := F) (l := b) (by omega)
  have ep : padS b = l1 ++ (zerosS 64 ((allS K (b.length + 1) F b).2 ++ [128]) ++ lenS b.length) := by
    rw [padS, ← List.append_assoc]
    congr 1
    rw [← zerosS_app hm, ← List.append_assoc, ← e]
  unfold digS
  rw [ep, hx _ _ (by omega)]
end Go.Fl
namespace Go.Fl
open Go.RowKit

/-- A slice that reads as words. -/
structure Us (w : World) (s : Sl) (l : List Int) : Prop where
  rd : Rd w s.a (ints l)
  len : s.n = l.length
  cap : s.n ≤ s.c
theorem Us.fr {w w' : World} {s : Sl} {l : List Int} (h : Us w s l) (hf : Fr w w') : Us w' s l := ⟨h.rd.below hf, h.len, h.cap⟩
/-- A slice of words of the call's own. -/
def OwU (w : World) (base : Nat) (e : TypeId) (s : Sl) (l : List Int) : Prop := w.ownsRow base e 1 (.slice s.a s.n s.c) s.n (ints l)
theorem ints_one' (l : List Int) : ∀ v ∈ ints l, v.oneCell' = true := fun v hv => by
  obtain ⟨x, _, rfl⟩ := List.mem_map.1 hv
  rfl
theorem OwU.len {w : World} {base : Nat} {e : TypeId} {s : Sl} {l : List Int} (h : OwU w base e s l) : s.n = l.length := by
  have := h.1; rw [ints_length] at this; omega
theorem OwU.cap {w : World} {base : Nat} {e : TypeId} {s : Sl} {l : List Int} (h : OwU w base e s l) : s.n ≤ s.c := by
  rcases h.2 with ⟨hv, hn⟩ | ⟨g, cap, cur, hv, _, _, hc, _⟩
  · injection hv with _ h1 h2; omega
  · injection hv with _ h1 h2; omega
theorem OwU.us {w : World} {base : Nat} {e : TypeId} {s : Sl} {l : List Int} (h : OwU w base e s l) : Us w s l := ⟨Rd.of_own h, h.len, h.cap⟩
theorem OwU.fr {w w' : World} {base : Nat} {e : TypeId} {s : Sl} {l : List Int} (h : OwU w base e s l) (hf : Fr w w') : OwU w' base e s l := own_kept h hf
theorem OwU.nil (w : World) (base : Nat) (e : TypeId) : OwU w base e ⟨none, 0, 0⟩ [] := World.ownsRow_nil w base e 1
theorem OwU.mono {w : World} {base base' : Nat} {e : TypeId} {s : Sl} {l : List Int} (h : OwU w base e s l) (hb : base' ≤ base) : OwU w base' e s l := by
  refine ⟨h.1, ?_⟩
  rcases h.2 with hn | ⟨g, cap, cur, hv, hg, rest⟩
  · exact .inl hn
  · exact .inr ⟨g, cap, cur, hv, Nat.le_trans hb hg, rest⟩
theorem OwU.new {w : World} {base : Nat} {e : TypeId} {b n : Nat} {l : List Int} (h : w.heap[b]? = some (.cells (ints l).toArray e (0, 0))) (hb : base ≤ b) (hn : n = l.length) (hm : n ≤ 140737488355328) : OwU w base e ⟨some ⟨b, 0, none⟩, n, n⟩ l := by
  subst hn
  refine ⟨by simp [ints_length], .inr ⟨b, l.length, (ints l).toArray, rfl, hb, h, Nat.le_refl _, by simp only [maxLen]; omega, by simp [ints_length], ?_⟩⟩
  simp only [Nat.mul_one]
  rw [List.take_of_length_le (by simp [ints_length])]
theorem Us.new {w : World} {b n : Nat} {t : TypeId} {f : Nat × Nat} {l : List Int} (h : w.heap[b]? = some (.cells (ints l).toArray t f)) (hn : n = l.length) : Us w ⟨some ⟨b, 0, none⟩, n, n⟩ l := by
  subst hn
  refine ⟨fun j u hu => ⟨_, rfl, ?_⟩, rfl, Nat.le_refl _⟩
  rw [addOff, Nat.zero_add, cell_of_row w b j (ints l).toArray t f h]
  simpa using hu
theorem ixU {w w' : World} {s : Sl} {l : List Int} {i : Int} {j : Nat} {K : Int → Prop} (hs : Us w s l) (hij : i = (j : Int)) (hj : j < l.length) (hw : Fr w w') (h : K (l.getD j 0)) : ixa s.a s.n i 1 fun a => ld (.I .u32) w' a K := by
  subst hij
  obtain ⟨ad, ha, hc⟩ := (hs.rd.below hw).at j (by rw [ints_length]; exact hj)
  refine ⟨by omega, by have := hs.len; omega, ?_⟩
  rw [ha]
  refine ⟨l.getD j 0, ?_, h⟩
  have e : (ints l)[j]'(by rw [ints_length]; exact hj) = .int .u32 (l.getD j 0) := by
    simp [ints, List.getD_eq_getElem?_getD, List.getElem?_eq_getElem hj]
  rw [e] at hc
  exact hc
theorem app_U {P : Program} {t ty e : TypeId} {bytes : Nat} (hT : SlT P t e 1 bytes) (hb4 : bytes ≤ 8) {base : Nat} {s x : Sl} {w : World} {K : Sl → World → Prop} {l m : List Int}
    (hs : OwU w base e s l) (hx : Rd w x.a (ints m)) (hm : m.length = x.n) (hl : l.length + m.length ≤ 1099511627776) (hbase : base ≤ w.heap.size)
    (h : ∀ (r : Sl) w', OwU w' base e r (l ++ m) → Below base w w' → K r w') : app P t ty s x w K := by
  have hn := hs.len
  refine app_own hT hs hx (by rw [ints_length, hm, Nat.mul_one]) (ints_one' m) ?_ (by omega) hbase fun r w' hr ho hg _ => h r w' ?_ ?_
  · have : (s.n + x.n) * bytes ≤ 1099511627776 * 8 := Nat.mul_le_mul (by omega) hb4
    omega
  · unfold OwU
    have e : ints (l ++ m) = ints l ++ ints m := by simp [ints]
    rw [e]; exact ho
  · refine (Below.refl base w).grown hg hbase fun k hk => ?_
    exact (World.ownsRow.lt hs k hk).1
/-- The first few words. -/
theorem slsU {w : World} {s : Sl} {l : List Int} {j : Int} {K : Sl → Prop} (h : Us w s l) (h0 : 0 ≤ j) (hj : j ≤ l.length) (hk : ∀ r : Sl, Us w r (l.take j.toNat) → K r) : sls s 0 j 1 K := by
  have hl := h.len
  have hc := h.cap
  refine ⟨Int.le_refl _, h0, by omega, hk _ ?_⟩
  refine ⟨?_, by simp [Fl.cut, List.length_take]; omega, by simp [Fl.cut]; omega⟩
  have hr : Rd w s.a (ints (l.take j.toNat)) := by
    have := h.rd.take j.toNat
    rwa [show (ints l).take j.toNat = ints (l.take j.toNat) from by simp [ints, List.map_take]] at this
  have hd := hr.drop 0
  rw [List.drop_zero] at hd
  unfold Fl.cut
  by_cases hci : s.c = 0
  · simp only [hci, Int.toNat_zero, if_true]
    exact hr
  · rw [Int.toNat_zero, if_neg hci]
    rw [show (fun x => atOff x ((0 : Nat) : Int) 1) = fun x : Addr => x.add 0 from rfl]
    exact hd
/-- A word of an own slice is written. -/
theorem stU {w : World} {base : Nat} {e : TypeId} {s : Sl} {l : List Int} {i : Int} {j : Nat} {v : Int} {K : World → Prop} (h : OwU w base e s l) (hij : i = (j : Int)) (hj : j < l.length)
    (hk : ∀ w', OwU w' base e s (l.set j v) → Below base w w' → w'.heap.size = w.heap.size → K w') : ixa s.a s.n i 1 fun a => st1 w a (.int .u32 v) K := by
  subst hij
  have hl := h.len
  obtain ⟨h1, h2⟩ := h
  rcases h2 with ⟨_, hn⟩ | ⟨g, cap, cur, hs, hb, hg, hnc, hcm, hsz, ht⟩
  · omega
  · have ha : s.a = some ⟨g, 0, none⟩ := by injection hs
    refine ⟨by omega, by omega, ?_⟩
    rw [ha]
    show st1 w (atOff ⟨g, 0, none⟩ (j : Int) 1) _ K
    rw [atH, Int.toNat_natCast]
    refine st0 hg (by omega) fun w' hb' hgr hsz' => hk w' ⟨?_, .inr ⟨g, cap, _, hs, hb, hb', hnc, hcm, by simpa using hsz, ?_⟩⟩ ⟨hgr.os, hgr.tape, hgr.output, hgr.size, fun k hk => ?_⟩ hsz'
    · simpa [ints] using h1
    · rw [Array.toList_setIfInBounds, List.take_set, ht]
      simp [ints, List.map_set]
    · by_cases hkl : k < w.heap.size
      · exact hgr.block k hkl (fun e => by cases e; omega)
      · rw [Array.getElem?_eq_none (by omega), Array.getElem?_eq_none (by omega)]
end Go.Fl
namespace Go.Proofs.YtkojpppnjloikaaDoor
open Go.RowKit Go.Fl

theorem slU : SlT Tryd.prog t_s_uint32 t_uint32 1 4 := SlT.mk' (z := .int .u32 0) (by kernel_rfl) (by kernel_rfl) rfl (by decide)
theorem rotr_ok {x : Int} (n : Nat) (hx : 0 ≤ x ∧ x < 4294967296) (hn : 1 ≤ n) (hn2 : n ≤ 31) {w : World} : cl Tryd.prog n_flumeref08_rotr #[.int .u32 x, .int .u64 (n : Int)] (.I .u32) w fun (r : Int) w' => r = rotS x n ∧ w = w' := by
  refine flumeref08_rotr.cl ?_
  unfold flumeref08_rotr
  refine bP (by omega) ?_
  rw [u64w (by omega) (by omega)]
  refine bP (by omega) ⟨?_, rfl⟩
  rw [← rot_ref hx.1 hx.2, show min ((n : Nat) : Int).toNat 32 = n from by omega, show min (32 - ((n : Nat) : Int)).toNat 32 = 32 - n from by omega]
theorem rotr_q {x : Int} (n : Nat) (hx : 0 ≤ x ∧ x < 4294967296) (hn : 1 ≤ n) (hn2 : n ≤ 31) {w : World} {K : Int → Prop} (k : K (rotS x n)) : qcl Tryd.prog n_flumeref08_rotr #[.int .u32 x, .int .u64 (n : Int)] (.I .u32) w K :=
  ⟨rotS x n, fun m => (rotr_ok n hx hn hn2).mono fun _ _ h => ⟨h.1, m, h.2.symm⟩, k⟩
theorem round_ref {x : List Int} (hx : x.length = 8) (k w : Int) : ([w32 (tS x k w + uS x)] ++ x.take 7).set 4 (w32 (([w32 (tS x k w + uS x)] ++ x.take 7).getD 4 0 + tS x k w)) = roundS x k w := by
  match x, hx with
  | [a, b, c, d, e, f, g, h], _ => rfl
set_option maxHeartbeats 1000000 in
theorem block_ok {ss sk sb : Sl} {h K : List Int} {b : List UInt8} {w : World} (hs : Us w ss h) (hh : h.length = 8) (hw : W32 h) (hk : Us w sk K) (hkl : K.length = 64) (hb : Bs w sb b) (hbl : b.length = 64) :
    cl Tryd.prog n_flumeref08_block #[.slice ss.a ss.n ss.c, .slice sk.a sk.n sk.c, .slice sb.a sb.n sb.c] .L w fun (r : Sl) w' => OwU w' w.heap.size t_uint32 r (stirS K h b) ∧ Fr w w' := by
  refine flumeref08_block.cl ?_
  unfold flumeref08_block
  refine lpI (fun s' w' => Fr w w' ∧ ∃ i : Nat, i ≤ 64 ∧ s'.2.1 = i ∧ OwU w' w.heap.size t_uint32 s'.1 (spreadS b i)) (fun s' _ => (64 - s'.2.1).toNat) ⟨Fr.refl w, 0, by decide, rfl, OwU.nil _ _ _⟩ ?_
  rintro _ ⟨s1, i', ⟨⟩⟩ w2 ⟨hf2, i, hi, rfl, h1⟩
  dsimp only at h1 ⊢
  have hsl := spreadS_length b i
  have byt : ∀ (w' : World) (j : Nat) (Q : Int → Prop), Fr w w' → j < 64 → Q (byteS b j) → ixa sb.a sb.n (j : Int) 1 fun a => ld (.I .u8) w' a Q := by
    intro w' j Q hf hj hQ
    refine ixBc (c := b.getD j 0) hb.rd hb.len (by omega) ?_ hf hQ
    rw [Int.toNat_natCast, List.getD_eq_getElem?_getD, List.getElem?_eq_getElem (by omega)]
    rfl
  have put : ∀ (v : Int) (w' : World) (Q : Sl → World → Prop), Fr w w' → OwU w' w.heap.size t_uint32 s1 (spreadS b i) → v = (if i < 16 then w16S b i else nextS (spreadS b i) i) →
      (∀ r w'', Fr w w'' → OwU w'' w.heap.size t_uint32 r (spreadS b (i + 1)) → Q r w'') → nw w' [.int .u32 v] t_uint32 fun a14 w15 => app Tryd.prog t_s_uint32 t_s_uint32 s1 ⟨(some a14), 1, 1⟩ w15 Q := by
    intro v w' Q hf ho hv hQ
    refine nwI fun a w15 ha hs15 hf15 hb15 hrd => ?_
    have hf15' := hf.trans hf15
    refine app_U slU (by decide) (m := [v]) (ho.fr hf15) hrd rfl (by simp; omega) hf15'.size fun r w17 ho17 hb17 => hQ r w17 (hf15'.on hb17) ?_
    rw [spreadS, ← hv]
    exact ho17
  refine bD ?_ ?_ <;> intro hlt
  · refine bD ?_ ?_ <;> intro h16
    · intro n5
      have hf5 := hf2.trans (Fr.drewN w2 n5)
      have h1 : OwU (w2.drewN n5) w.heap.size t_uint32 s1 (spreadS b i) := h1.fr (Fr.drewN w2 n5)
      generalize w2.drewN n5 = w5 at *
      have e0 : IntKind.i64.wrap (4 * (i : Int)) = ((4 * i : Nat) : Int) := by rw [i64w (by omega) (by omega)]; omega
      have e1 : IntKind.i64.wrap (((4 * i : Nat) : Int) + 1) = ((4 * i + 1 : Nat) : Int) := by rw [i64w (by omega) (by omega)]; omega
      have e2 : IntKind.i64.wrap (((4 * i : Nat) : Int) + 2) = ((4 * i + 2 : Nat) : Int) := by rw [i64w (by omega) (by omega)]; omega
      have e3 : IntKind.i64.wrap (((4 * i : Nat) : Int) + 3) = ((4 * i + 3 : Nat) : Int) := by rw [i64w (by omega) (by omega)]; omega
      rw [e0, e1, e2, e3]
      refine byt w5 _ _ hf5 (by omega) (byt w5 _ _ hf5 (by omega) (byt w5 _ _ hf5 (by omega) (byt w5 _ _ hf5 (by omega) ?_)))
      refine put _ w5 _ hf5 h1 ?_ fun r w17 hf17 h17 => ?_
      · rw [if_pos (by omega)]
        unfold w16S byteS
        exact word_ref (UInt8.toNat_lt _) (UInt8.toNat_lt _) (UInt8.toNat_lt _) (UInt8.toNat_lt _)
      · rw [i64w (by omega) (by omega)]
        exact ⟨⟨hf17, i + 1, by omega, rfl, h17⟩, by omega⟩
    · have wrd : ∀ (w' : World) (k : Nat) (Q : Int → Prop), Fr w2 w' → 1 ≤ k → k ≤ 16 → Q ((spreadS b i).getD (i - k) 0) → ixa s1.a s1.n (IntKind.i64.wrap ((i : Int) - (k : Int))) 1 fun a => ld (.I .u32) w' a Q := by
        intro w' k Q hf hk1 hk2 hQ
        refine ixU h1.us (j := i - k) ?_ (by omega) hf hQ
        rw [i64w (by omega) (by omega)]; omega
      have hin := (spread_in b i).getD
      refine wrd w2 15 _ (Fr.refl _) (by decide) (by decide) (wrd w2 2 _ (Fr.refl _) (by decide) (by decide) ?_)
      intro n22 n23
      have hf23 := (Fr.drewN w2 n22).trans (Fr.drewN (w2.drewN n22) n23)
      generalize (w2.drewN n22).drewN n23 = w23 at *
      refine wrd w23 16 _ hf23 (by decide) (by decide) (wrd w23 7 _ hf23 (by decide) (by decide) ?_)
      refine (rotr_ok 7 (hin _) (by decide) (by decide)).mono ?_
      rintro _ _ ⟨rfl, rfl⟩
      refine ⟨Fr.refl _, (rotr_ok 18 (hin _) (by decide) (by decide)).mono ?_⟩
      rintro _ _ ⟨rfl, rfl⟩
      refine ⟨Fr.refl _, (rotr_ok 17 (hin _) (by decide) (by decide)).mono ?_⟩
      rintro _ _ ⟨rfl, rfl⟩
      refine ⟨Fr.refl _, (rotr_ok 19 (hin _) (by decide) (by decide)).mono ?_⟩
      rintro _ _ ⟨rfl, rfl⟩
      refine ⟨Fr.refl _, put _ w23 _ (hf2.trans hf23) (h1.fr hf23) ?_ fun r w17 hf17 h17 => ?_⟩
      · rw [if_neg (by omega)]
        rfl
      · rw [i64w (by omega) (by omega)]
        exact ⟨⟨hf17, i + 1, by omega, rfl, h17⟩, by omega⟩
  obtain rfl : i = 64 := by omega
  refine nwI fun a40 w41 ha40 hs41 hf41 hb41 _ => ?_
  have hf41' := hf2.trans hf41
  refine app_U slU (by decide) (l := []) (m := h) (base := w2.heap.size) (OwU.new hb41 (by omega) rfl (by decide)) (hs.fr hf41').rd hs.len.symm (by simp; omega) hf41.size fun r42 w43 h42 hb43 => ?_
  rw [List.nil_append] at h42
  have hf43 : Fr w2 w43 := hf41.on hb43
  have hws := spread_in b 64
  have hwl := spreadS_length b 64
  have hSl := stirS_length K h b
  have hSg : ∀ j, j < 8 → (stirS K h b).getD j 0 = w32 (h.getD j 0 + (roundsS K (spreadS b 64) h 64).getD j 0) := by
    intro j hj
    rw [stirS, List.getD_eq_getElem?_getD, List.getElem?_map, List.getElem?_range hj]
    rfl
  have h1 : ∀ {w'}, Fr w2 w' → Us w' s1 (spreadS b 64) := fun hf => h1.us.fr hf
  generalize spreadS b 64 = ws at *
  refine lpI (fun s' w' => Fr w2 w' ∧ ∃ i : Nat, i ≤ 64 ∧ s'.2.1 = i ∧ OwU w' w2.heap.size t_uint32 s'.1 (roundsS K ws h i)) (fun s' _ => (64 - s'.2.1).toNat) ⟨hf43, 0, by decide, rfl, h42⟩ ?_
  rintro _ ⟨s44, i', ⟨⟩⟩ w45 ⟨hf45, i, hi, rfl, h44⟩
  dsimp only at h44 ⊢
  have hrl := roundsS_length (K := K) (ws := ws) hh i
  have hin := (rounds_in (K := K) (ws := ws) hw i).getD
  refine bD ?_ ?_ <;> intro hlt2
  · obtain ⟨X, hX⟩ : ∃ X, roundsS K ws h i = X := ⟨_, rfl⟩
    rw [hX] at h44 hrl hin
    have xw : ∀ {w' : World} (k : Nat) {Q : Int → Prop}, Fr w45 w' → k < 8 → Q (X.getD k 0) → ixa s44.a s44.n (k : Int) 1 fun a => ld (.I .u32) w' a Q := fun k Q hf hk hQ => ixU h44.us rfl (by omega) hf hQ
    refine xw 0 (Fr.refl _) (by decide) (xw 4 (Fr.refl _) (by decide) ?_)
    intro n1
    have hf52 := Fr.drewN w45 n1
    generalize w45.drewN n1 = w52 at *
    refine xw 7 hf52 (by decide) (rotr_q 6 (hin 4) (by decide) (by decide) (rotr_q 11 (hin 4) (by decide) (by decide) (rotr_q 25 (hin 4) (by decide) (by decide) ?_)))
    refine xw 5 hf52 (by decide) (xw 6 hf52 (by decide) ?_)
    refine ixU hk (j := i) rfl (by omega) (hf2.trans (hf45.trans hf52)) ?_
    refine ixU (h1 (Fr.refl _)) (j := i) rfl (by omega) (hf45.trans hf52) ?_
    intro n2
    have hf66 := hf52.trans (Fr.drewN w52 n2)
    generalize w52.drewN n2 = w66 at *
    refine rotr_q 2 (hin 0) (by decide) (by decide) (rotr_q 13 (hin 0) (by decide) (by decide) (rotr_q 22 (hin 0) (by decide) (by decide) ?_))
    refine xw 1 hf66 (by decide) (xw 2 hf66 (by decide) (xw 1 hf66 (by decide) (xw 2 hf66 (by decide) ?_)))
    intro n3
    have hf78 := hf66.trans (Fr.drewN w66 n3)
    generalize w66.drewN n3 = w78 at *
    refine nwI fun a79 w80 ha79 hs80 hf80 hb80 _ => ?_
    have hf80' := hf78.trans hf80
    have e0 := not_ref (hin 4).1 (hin 4).2
    rw [show IntKind.u32.wrap (4294967295 - X.getD 4 0) = bits .xor .u32 4294967295 (X.getD 4 0) from e0] at hb80 ⊢
    rw [show (IntKind.u32.wrap (IntKind.u32.wrap (IntKind.u32.wrap (IntKind.u32.wrap (X.getD 7 0 + bits .xor .u32 (bits .xor .u32 (rotS (X.getD 4 0) 6) (rotS (X.getD 4 0) 11)) (rotS (X.getD 4 0) 25)) + bits .xor .u32 (bits .and .u32 (X.getD 4 0) (X.getD 5 0)) (bits .and .u32 (bits .xor .u32 4294967295 (X.getD 4 0)) (X.getD 6 0))) + K.getD i 0) + ws.getD i 0)) = tS X (K.getD i 0) (ws.getD i 0) from rfl] at hb80 ⊢
    have hb80 : w80.heap[a79]? = some (.cells (ints [w32 (tS X (K.getD i 0) (ws.getD i 0) + uS X)]).toArray t_uint32 (0, 0)) := hb80
    have hf80w := hf45.trans hf80'
    refine slsU (h44.us.fr hf80') (by decide) (by omega) fun r81 h81 => ?_
    have hX7 : (X.take (7 : Int).toNat).length = 7 := by rw [List.length_take]; omega
    refine app_U slU (by decide) (m := X.take 7) (base := w2.heap.size) (OwU.new hb80 (by have := hf45.size; have := hf78.size; omega) rfl (by simp)) h81.rd h81.len.symm (by simp; omega) hf80w.size fun r82 w83 h82 hb83 => ?_
    have hf83 : Fr w2 w83 := hf80w.on hb83
    have h8 : ([w32 (tS X (K.getD i 0) (ws.getD i 0) + uS X)] ++ X.take 7).length = 8 := by rw [List.length_append, List.length_take]; simp; omega
    refine ixU h82.us (j := 4) rfl (by omega) (Fr.refl _) ?_
    refine stU h82 (j := 4) rfl (by omega) fun w87 h87 hb87 hs87 => ?_
    have hr : roundsS K ws h (i + 1) = ([w32 (tS X (K.getD i 0) (ws.getD i 0) + uS X)] ++ X.take 7).set 4 (w32 (([w32 (tS X (K.getD i 0) (ws.getD i 0) + uS X)] ++ X.take 7).getD 4 0 + tS X (K.getD i 0) (ws.getD i 0))) := by
      rw [round_ref hrl, roundsS, hX]
    rw [i64w (by omega) (by omega)]
    refine ⟨⟨hf83.on hb87, i + 1, by omega, rfl, ?_⟩, by omega⟩
    rw [hr]
    exact h87
  obtain rfl : i = 64 := by omega
  refine lpI (fun s' w' => Fr w45 w' ∧ ∃ i : Nat, i ≤ 8 ∧ s'.2.1 = i ∧ OwU w' w45.heap.size t_uint32 s'.1 ((stirS K h b).take i)) (fun s' _ => (8 - s'.2.1).toNat) ⟨Fr.refl _, 0, by decide, rfl, OwU.nil _ _ _⟩ ?_
  rintro _ ⟨s88, i', ⟨⟩⟩ w89 ⟨hf89, i, hi, rfl, h88⟩
  dsimp only at h88 ⊢
  refine bD ?_ ?_ <;> intro hlt3
  · intro n1
    have hf92 := hf89.trans (Fr.drewN w89 n1)
    have h88 := h88.fr (Fr.drewN w89 n1)
    generalize w89.drewN n1 = w92 at *
    refine ixU hs (j := i) rfl (by omega) (hf2.trans (hf45.trans hf92)) ?_
    refine ixU h44.us (j := i) rfl (by omega) hf92 ?_
    refine nwI fun a97 w98 ha97 hs98 hf98 hb98 hrd98 => ?_
    have hf98' := hf92.trans hf98
    refine app_U slU (by decide) (m := [(stirS K h b).getD i 0]) (h88.fr hf98) (by rw [hSg i (by omega)]; exact hrd98) rfl (by simp; omega) hf98'.size fun r99 w100 h99 hb100 => ?_
    rw [i64w (by omega) (by omega)]
    refine ⟨⟨hf98'.on hb100, i + 1, by omega, rfl, ?_⟩, by omega⟩
    rw [List.take_succ_eq_append_getElem (by omega)]
    rw [List.getD_eq_getElem?_getD, List.getElem?_eq_getElem (by omega), Option.getD_some] at h99
    exact h99
  · obtain rfl : i = 8 := by omega
    rw [List.take_of_length_le (by omega)] at h88
    have hfw := hf2.trans hf45
    exact ⟨h88.mono hfw.size, hfw.trans hf89⟩
theorem build_Sum0 (w : World) : (Instr.build t_api_Sum #[]).run Tryd.prog w = .ok (.agg (List.replicate 32 (Value.int .u8 0)).toArray) w := by
  have hz : ∀ w, (zeroValue t_api_Sum).run Tryd.prog w = .ok (.agg (List.replicate 32 (Value.int .u8 0)).toArray) w := fun w => run_zeroV (by kernel_rfl) w
  have h8 : (Tryd.prog.info? t_uint8).map (·.size) = some 1 := by kernel_rfl
  obtain ⟨i, hi, hs⟩ := Option.map_eq_some_iff.1 h8
  simp [Instr.build, hz, run_underlying u_api_Sum, sizeOf, typeInfo, hi, Instr.fill, Value.cells]
/-- One more byte behind an own row of bytes. -/
theorem push1 {s : Sl} {l : List UInt8} {x : UInt8} {v : Int} {base : Nat} {w : World} {K : Sl → World → Prop} (h : OwB w base t_uint8 s l) (hb : base ≤ w.heap.size) (hv : v = (x.toNat : Int)) (hl : l.length ≤ 140737488350000)
    (hk : ∀ r w', OwB w' base t_uint8 r (l ++ [x]) → Below base w w' → K r w') : nw w [.int .u8 v] t_uint8 fun a w2 => app Tryd.prog t_s_uint8 t_s_uint8 s ⟨some a, 1, 1⟩ w2 K := by
  subst hv
  refine nwI fun a w2 ha hs hf hb2 hrd => ?_
  refine app_B slB (m := [x]) (h.fr hf) hrd rfl (by simp; omega) (by have := hf.size; omega) fun r w3 ho hb3 _ _ => hk r w3 ho ((hf.mono hb).trans hb3)
theorem refSum_ok {ss sk sb : Sl} {h K : List Int} {b : List UInt8} {w : World} (hs : Us w ss h) (hh : h.length = 8) (hw : W32 h) (hk : Us w sk K) (hkl : K.length = 64) (hb : Bs w sb b) (hbl : b.length ≤ 1099511627776) :
    cl Tryd.prog n_flumeref08_Sum #[.slice ss.a ss.n ss.c, .slice sk.a sk.n sk.c, .slice sb.a sb.n sb.c] (.row 32) w fun (r : {l : List Value // l.length = 32}) w' => r.1 = u8s (digS h K b) ∧ Fr w w' := by
  refine flumeref08_Sum.cl ?_
  unfold flumeref08_Sum
  have hz32 : (zrow 32 (.int .u8 0)).1 = u8s (List.replicate 32 0) := by simp [zrow, u8s]
  rw [hz32]
  refine nwI fun a1 w2 ha1 hs2 hf2 hb1 _ => ?_
  refine nwI fun a3 w4 ha3 hs4 hf4 hb3 _ => ?_
  have hf4' := hf2.trans hf4
  refine app_B slB (base := w2.heap.size) (l := []) (OwB.new hb3 (by omega)) (hb.fr hf4').rd hb.len.symm (by simp; omega) hf4.size fun r5 w6 h5 hb6 _ _ => ?_
  rw [List.nil_append] at h5
  have hf6 : Fr w2 w6 := hf4.on hb6
  refine push1 h5 hf6.size (x := 128) rfl (by omega) fun r9 w10 h9 hb10 => ?_
  have hf10 := hf6.on hb10
  have hn5 := h5.len
  refine lpI (fun s' w' => Fr w2 w' ∧ ∃ (f : Nat) (l : List UInt8), OwB w' w2.heap.size t_uint8 s'.1 l ∧ zerosS f l = zerosS 64 (b ++ [128]) ∧ (120 - l.length % 64) % 64 ≤ f ∧ l.length + (120 - l.length % 64) % 64 ≤ b.length + 70) (fun s' _ => ((120 - s'.1.n % 64) % 64))
    ⟨hf10, 64, _, h9, rfl, by omega, by simp; omega⟩ ?_
  rintro _ ⟨e, ⟨⟩⟩ w12 ⟨hf12, f, l, hl, hz, hf64, hlb⟩
  dsimp only at hl ⊢
  have hen := hl.len
  have etm : Int.tmod (e.n : Int) 64 = ((l.length % 64 : Nat) : Int) := by rw [hen, Int.tmod_eq_emod_of_nonneg (by omega)]; omega
  rw [etm]
  refine bNe ?_ ?_ <;> intro h56
  · refine push1 hl hf12.size (x := 0) rfl (by omega) fun r17 w18 h17 hb18 => ?_
    have h17l := h17.len
    rw [List.length_append, List.length_cons, List.length_nil] at h17l
    cases f with
    | zero => omega
    | succ f =>
      rw [zerosS, if_neg (by omega)] at hz
      refine ⟨⟨hf12.on hb18, f, _, h17, hz, by rw [List.length_append, List.length_cons, List.length_nil]; omega, by rw [List.length_append, List.length_cons, List.length_nil]; omega⟩, ?_⟩
      show (120 - r17.n % 64) % 64 < (120 - e.n % 64) % 64
      omega
  have hE : l = zerosS 64 (b ++ [128]) := by
    rw [← hz]
    exact (zerosS_done (by omega)).symm
  have hzl := zerosS_len (f := 64) (l := b ++ [128]) (by omega)
  rw [← hE] at hzl
  have hll : l.length ≤ b.length + 70 := by omega
  have hLl := lenS_length b.length
  clear hz hf64 hlb
  refine lpI (fun s' w' => Fr w2 w' ∧ ∃ i : Nat, i ≤ 8 ∧ s'.2.1 = 7 - (i : Int) ∧ OwB w' w2.heap.size t_uint8 s'.1 (l ++ (lenS b.length).take i)) (fun s' _ => (s'.2.1 + 1).toNat) ⟨hf12, 0, by decide, rfl, by simpa using hl⟩ ?_
  rintro _ ⟨e2, i', ⟨⟩⟩ w20 ⟨hf20, i, hi, hie, h20⟩
  dsimp only at h20 hie ⊢
  subst hie
  refine bD ?_ ?_ <;> intro hlt
  · have es : IntKind.u64.wrap (IntKind.i64.wrap (8 * (7 - (i : Int)))) = ((56 - 8 * i : Nat) : Int) := by
      rw [i64w (by omega) (by omega), u64w (by omega) (by omega)]; omega
    rw [es]
    refine bP (by omega) ?_
    rw [show min ((56 - 8 * i : Nat) : Int).toNat 64 = 56 - 8 * i from by omega, hn5, i64w (n := 8 * (b.length : Int)) (by omega) (by omega)]
    have eb : IntKind.u8.wrap (8 * (b.length : Int) / 2 ^ (56 - 8 * i)) = ((UInt8.ofNat (b.length * 8 / 2 ^ (56 - 8 * i))).toNat : Int) := by
      rw [u8w, u8_ofNat, Int.mul_comm]
      congr 1
    refine push1 h20 hf20.size eb (by rw [List.length_append, List.length_take]; omega) fun r25 w26 h25 hb26 => ?_
    rw [i64w (by omega) (by omega)]
    refine ⟨⟨hf20.on hb26, i + 1, by omega, by omega, ?_⟩, by omega⟩
    rw [List.take_succ_eq_append_getElem (by omega), ← List.append_assoc]
    have : (lenS b.length)[i]'(by omega) = UInt8.ofNat (b.length * 8 / 2 ^ (56 - 8 * i)) := by simp [lenS]
    rw [this]
    exact h25
  obtain rfl : i = 8 := by omega
  rw [List.take_of_length_le (by omega)] at h20
  have hpad : l ++ lenS b.length = padS b := by rw [hE]; rfl
  have hpm := padS_mod b
  have hdg := dig_ref h K b
  rw [← hpad] at hpm hdg
  have hEl : (l ++ lenS b.length).length = l.length + 8 := by rw [List.length_append, hLl]
  generalize l ++ lenS b.length = E at *
  refine nwI fun a27 w28 ha27 hs28 hf28 hb28 _ => ?_
  have hf28' := hf20.trans hf28
  have hs2w := hf2.trans hf28'
  have hz20 := hf20.size
  refine app_U slU (by decide) (l := []) (m := h) (base := w20.heap.size) (OwU.new hb28 (by omega) rfl (by decide)) (hs.fr hs2w).rd hs.len.symm (by simp; omega) hf28.size fun r29 w30 h29 hb30 => ?_
  rw [List.nil_append] at h29
  have hf30 : Fr w20 w30 := hf28.on hb30
  refine lpI (fun s' w' => Fr w20 w' ∧ ∃ (j : Nat) (h' : List Int), 64 * j ≤ E.length ∧ s'.2.1 = ((64 * j : Nat) : Int) ∧ OwU w' w20.heap.size t_uint32 s'.1 h' ∧ h'.length = 8 ∧ W32 h' ∧ allS K ((E.drop (64 * j)).length + 1) h' (E.drop (64 * j)) = allS K (E.length + 1) h E) (fun s' _ => (E.length - s'.2.1).toNat) ⟨hf30, 0, h, by omega, rfl, h29, hh, hw, by simp⟩ ?_
  rintro _ ⟨s31, i', ⟨⟩⟩ w32 ⟨hf32, j, h', hj, rfl, h31, hh', hw', heq⟩
  dsimp only at h31 ⊢
  have hEn := h20.len
  refine bD ?_ ?_ <;> intro hlt2
  · have hj64 : 64 * j + 64 ≤ E.length := by omega
    rw [i64w (by omega) (by omega)]
    refine slsB (h20.bs.fr hf32) (by omega) (by omega) (by omega) fun r35 h35 _ _ => ?_
    rw [show ((64 * j : Nat) : Int).toNat = 64 * j from by omega, show (((64 * j : Nat) : Int) + 64).toNat = 64 * j + 64 from by omega, List.drop_take, Nat.add_sub_cancel_left] at h35
    have hb64 : ((E.drop (64 * j)).take 64).length = 64 := by rw [List.length_take, List.length_drop]; omega
    refine (block_ok h31.us hh' hw' (hk.fr (hf2.trans (hf20.trans hf32))) hkl h35 hb64).mono ?_
    rintro x36 w37 ⟨h36, hf37⟩
    refine ⟨⟨hf32.trans hf37, j + 1, _, by omega, by omega, h36.mono hf32.size, stirS_length _ _ _, stir_in _ _ _, ?_⟩, by omega⟩
    rw [allS, if_neg (by rw [List.length_drop]; omega)] at heq
    rw [← heq, List.drop_drop, show 64 * j + 64 = 64 * (j + 1) from by omega]
    exact allS_any (by omega) (by rw [List.length_drop, List.length_drop]; omega)
  have h0 : E.drop (64 * j) = [] := by rw [List.drop_eq_nil_iff]; omega
  rw [h0] at heq
  have hX : (allS K (E.length + 1) h E).1 = h' := by rw [← heq]; rfl
  rw [hX] at hdg
  rw [← hdg]
  clear heq hX hdg
  have hol := outS_length h'
  refine ⟨⟨List.replicate 32 (Value.int .u8 0), by simp⟩, fun w' _ => build_Sum0 w', ?_⟩
  refine nwI fun a39 w40 ha39 hs40 hf40 hb39 _ => ?_
  have hr32 : List.replicate 32 (Value.int .u8 0) = u8s (List.replicate 32 0) := by simp [u8s]
  dsimp only
  rw [hr32]
  refine stL_row (cs := u8s (List.replicate 32 0)) hb39 (by simp [u8s]) (u8s_one _) fun w41 hb41 hg41 hs41 => ?_
  have e : (u8s (List.replicate 32 (0 : UInt8))).take 0 ++ u8s (List.replicate 32 (0 : UInt8)) ++ (u8s (List.replicate 32 (0 : UInt8))).drop (0 + (u8s (List.replicate 32 (0 : UInt8))).length) = u8s ((outS h').take 0 ++ List.replicate 32 0) := by rw [List.drop_eq_nil_of_le (by omega)]; simp
  rw [e] at hb41
  have hf41 : Fr w32 w41 := hf40.on (grown_below hg41 (by omega) hf40.size)
  have k1 := (hf4.trans (Below.refl _ _)).heap hb1
  have hW41 : Fr w2 w41 := hf20.trans (hf32.trans hf41)
  have k1 : w41.heap[a1]? = _ := hW41.heap hb1
  have hz32' := hf32.size
  have hz41 := hf41.size
  have hst := h31.us.fr hf41
  refine lpI (fun s' w' => Fr w32 w' ∧ ∃ i : Nat, i ≤ 8 ∧ s'.1 = i ∧ w'.heap[a39]? = some (.cells (u8s ((outS h').take (4 * i) ++ List.replicate (32 - 4 * i) 0)).toArray t_api_Sum (0, 0))) (fun s' _ => (8 - s'.1).toNat)
    ⟨hf41, 0, by decide, rfl, hb41⟩ ?_
  rintro _ ⟨i', ⟨⟩⟩ w43 ⟨hf43, i, hi, rfl, m3⟩
  dsimp only
  refine bD ?_ ?_ <;> intro hlt3
  · refine lpI (fun s' w' => Fr w32 w' ∧ ∃ q : Nat, q ≤ 4 ∧ s'.1 = q ∧ w'.heap[a39]? = some (.cells (u8s ((outS h').take (4 * i + q) ++ List.replicate (32 - (4 * i + q)) 0)).toArray t_api_Sum (0, 0))) (fun s' _ => (4 - s'.1).toNat)
      ⟨hf43, 0, by decide, rfl, m3⟩ ?_
    rintro _ ⟨q', ⟨⟩⟩ w47 ⟨hf47, q, hq, rfl, m4⟩
    dsimp only
    refine bD ?_ ?_ <;> intro hlt4
    · refine ixU (h31.us) (j := i) rfl (by omega) hf47 ?_
      have es : IntKind.u64.wrap (IntKind.i64.wrap (24 - IntKind.i64.wrap (8 * (q : Int)))) = ((24 - 8 * q : Nat) : Int) := by
        rw [i64w (n := 8 * (q : Int)) (by omega) (by omega), i64w (by omega) (by omega), u64w (by omega) (by omega)]; omega
      rw [es]
      refine bP (by omega) ?_
      rw [show min ((24 - 8 * q : Nat) : Int).toNat 32 = 24 - 8 * q from by omega]
      have ei : IntKind.i64.wrap (IntKind.i64.wrap (4 * (i : Int)) + (q : Int)) = ((4 * i + q : Nat) : Int) := by
        rw [i64w (n := 4 * (i : Int)) (by omega) (by omega), i64w (by omega) (by omega)]; omega
      rw [ei]
      have ev : IntKind.u8.wrap (h'.getD i 0 / 2 ^ (24 - 8 * q)) = (((outS h').getD (4 * i + q) 0).toNat : Int) := by
        have hx := (hw'.getD i).1
        have ho : (outS h').getD (4 * i + q) 0 = UInt8.ofNat ((h'.getD i 0).toNat / 2 ^ (24 - 8 * q)) := by
          rw [outS, List.getD_eq_getElem?_getD, List.getElem?_map, List.getElem?_range (by omega), Option.map_some, Option.getD_some, show (4 * i + q) / 4 = i from by omega, show (4 * i + q) % 4 = q from by omega]
        rw [ho]
        obtain ⟨m, hm⟩ := Int.eq_ofNat_of_zero_le hx
        rw [hm, Int.toNat_natCast, u8w, u8_ofNat]
        congr 1
      rw [ev]
      have hp : 4 * i + q < 32 := by omega
      generalize hpe : 4 * i + q = p at *
      refine ixSt m4 (by omega) (by omega) (by rw [Int.toNat_natCast, u8s_length, List.length_append, List.length_take, List.length_replicate]; omega) fun w53 hb53 hg53 hs53 => ?_
      rw [i64w (by omega) (by omega)]
      refine ⟨⟨hf47.on (grown_below hg53 (by omega) hf47.size), q + 1, by omega, rfl, ?_⟩, by omega⟩
      have e2 : (outS h').take (p + 1) ++ List.replicate (32 - (p + 1)) 0 = ((outS h').take p ++ List.replicate (32 - p) 0).set p ((outS h').getD p 0) := by
        rw [List.set_append_right _ _ (by rw [List.length_take]; omega), List.length_take, Nat.min_eq_left (by omega), Nat.sub_self, show 32 - p = (32 - (p + 1)) + 1 from by omega, List.replicate_succ, List.set_cons_zero, List.take_succ_eq_append_getElem (by omega), List.append_assoc]
        simp [List.getD_eq_getElem?_getD, List.getElem?_eq_getElem (show p < (outS h').length by omega)]
      rw [show 4 * i + (q + 1) = p + 1 from by omega, hb53, Int.toNat_natCast, e2]
      simp only [u8s, List.map_set]
    · obtain rfl : q = 4 := by omega
      rw [i64w (by omega) (by omega)]
      exact ⟨⟨hf47, i + 1, by omega, rfl, by rw [show 4 * (i + 1) = 4 * i + 4 from by omega]; exact m4⟩, by omega⟩
  · obtain rfl : i = 8 := by omega
    rw [List.take_of_length_le (by omega), show 32 - 4 * 8 = 0 from rfl, List.replicate_zero, List.append_nil] at m3
    have h32' : (u8s (outS h')).length = 32 := by rw [u8s_length, hol]
    have hone := u8s_one (outS h')
    have m1 : w43.heap[a1]? = _ := ((hf20.trans hf32).trans hf43).heap hb1
    generalize u8s (outS h') = o at *
    refine ldR0 m3 h32' ?_
    refine stL_row (cs := u8s (List.replicate 32 0)) m1 (by show 0 + o.length ≤ _; rw [u8s_length, List.length_replicate]; omega) hone fun w55 hb55 hg55 hs55 => ?_
    have e : (u8s (List.replicate 32 (0 : UInt8))).take 0 ++ o ++ (u8s (List.replicate 32 (0 : UInt8))).drop (0 + o.length) = o := by rw [List.drop_eq_nil_of_le (by rw [u8s_length, List.length_replicate]; omega)]; simp
    rw [e] at hb55
    have hW43 : Fr w w43 := hf2.trans ((hf20.trans hf32).trans hf43)
    exact ldR0 hb55 h32' ⟨rfl, hW43.on (grown_below hg55 (by omega) hW43.size)⟩
theorem Quick_ok {s : Sl} {b : List UInt8} {w : World} (hs : Bs w s b) (hl : b.length ≤ 1099511627776) :
    cl Tryd.prog n_flumeref08_Quick #[.slice s.a s.n s.c] (.row 32) w fun (r : {l : List Value // l.length = 32}) w' => r.1 = u8s (dig b) ∧ Fr w w' := by
  refine flumeref08_Quick.cl ?_
  unfold flumeref08_Quick
  have hz32 : (zrow 32 (.int .u8 0)).1 = u8s (List.replicate 32 0) := by simp [zrow, u8s]
  rw [hz32]
  refine nwI fun a1 w2 ha1 hs2 hf2 hb1 _ => ?_
  refine nwI fun a3 w4 ha3 hs4 hf4 hb3 _ => ?_
  refine nwI fun a5 w6 ha5 hs6 hf6 hb5 _ => ?_
  have hf := (hf2.trans hf4).trans hf6
  have hk : Us w6 ⟨some ⟨a3, 0, none⟩, 64, 64⟩ K0 := (Us.new (l := K0) hb3 rfl).fr hf6
  have hh : Us w6 ⟨some ⟨a5, 0, none⟩, 8, 8⟩ F0 := Us.new (l := F0) hb5 rfl
  refine (refSum_ok hh rfl (by unfold W32; decide) hk rfl (hs.fr hf) hl).mono ?_
  rintro ⟨x, hx⟩ w8 ⟨hxe, hf8⟩
  dsimp only at hxe ⊢
  subst hxe
  have hone := u8s_one (dig b)
  have hw := hf.trans hf8
  have hb1' := hf8.heap (hf6.heap (hf4.heap hb1))
  generalize u8s (dig b) = o at *
  refine stL_row (cs := u8s (List.replicate 32 0)) hb1' (by rw [hx]; simp [u8s]) hone fun w9 hb9 hg9 hs9 => ?_
  have e : (u8s (List.replicate 32 (0 : UInt8))).take 0 ++ o ++ (u8s (List.replicate 32 (0 : UInt8))).drop (0 + o.length) = o := by rw [List.drop_eq_nil_of_le (by rw [u8s_length, List.length_replicate]; omega)]; simp
  rw [e] at hb9
  exact ldR0 hb9 hx ⟨rfl, hw.on (grown_below hg9 (by omega) hw.size)⟩
end Go.Proofs.YtkojpppnjloikaaDoor
namespace Go.Proofs.YtkojpppnjloikaaDoor
open Go.RowKit Go.Fl

/-- A record is put into the results' block, and read there. -/
theorem finRec {w : World} {g : Nat} {q : RecT} {t : TypeId} (hg : w.heap[g]? = some (.cells (rcL q []).toArray t (0, 0))) (p : RecT) (hone : ∀ v ∈ p.2.2.1.1, v.oneCell' = true) {K : RecT → World → Prop}
    (hk : ∀ w', w.grownBy w' (some g) → w'.heap.size = w.heap.size → K p w') :
    st1 w ⟨g, 0, none⟩ (.int .i64 p.1) fun w1 => st1 w1 ((⟨g, 0, none⟩ : Addr).add 1) (.int .i64 p.2.1) fun w2 => stL (((⟨g, 0, none⟩ : Addr).add 1).add 1) w2 0 p.2.2.1.1 fun w3 => st1 w3 ((((⟨g, 0, none⟩ : Addr).add 1).add 1).add 32) (.slice p.2.2.2.1.a p.2.2.2.1.n p.2.2.2.1.c) fun w4 =>
        ld (.pair (.I .i64) (.pair (.I .i64) (.pair (.row 32) (.pair .L .nil)))) w4 ⟨g, 0, none⟩ fun r => K r w4 :=
  stRec (pre := []) (post := []) hg p hone fun w' hb' hg' hs' => ldRec (pre := []) (post := []) (p := p) hb' (hk w' hg' hs')
theorem rcSet0 (p : RecT) (post : List Value) (v : Int) : (rcL p post).toArray.setIfInBounds 0 (.int .i64 v) = (rcL (v, p.2.1, p.2.2.1, p.2.2.2.1, ()) post).toArray := by simp [rcL]
theorem rcSet1 (p : RecT) (post : List Value) (v : Int) : (rcL p post).toArray.setIfInBounds 1 (.int .i64 v) = (rcL (p.1, v, p.2.2.1, p.2.2.2.1, ()) post).toArray := by simp [rcL]
theorem rcSet34 (p : RecT) (post : List Value) (s : Sl) : (rcL p post).toArray.setIfInBounds 34 (.slice s.a s.n s.c) = (rcL (p.1, p.2.1, p.2.2.1, s, ()) post).toArray := by
  have hp := p.2.2.1.2
  have e : rcL p post = (Value.int .i64 p.1 :: .int .i64 p.2.1 :: p.2.2.1.1) ++ (slV p.2.2.2.1 :: post) := by simp [rcL]
  rw [e, List.setIfInBounds_toArray, show 34 = (Value.int .i64 p.1 :: .int .i64 p.2.1 :: p.2.2.1.1).length from by simp [hp], set_mid]
  simp [rcL]
/-- A record's sum is written. -/
theorem stSum {w : World} {g : Nat} {p : RecT} {post : List Value} {t : TypeId} (hg : w.heap[g]? = some (.cells (rcL p post).toArray t (0, 0))) (x : {l : List Value // l.length = 32}) (hone : ∀ v ∈ x.1, v.oneCell' = true) {K : World → Prop}
    (hk : ∀ w', w'.heap[g]? = some (.cells (rcL (p.1, p.2.1, x, p.2.2.2.1, ()) post).toArray t (0, 0)) → w.grownBy w' (some g) → w'.heap.size = w.heap.size → K w') : stL ⟨g, 2, none⟩ w 0 x.1 K := by
  have hp := p.2.2.1.2
  have hx := x.2
  refine stL_at (cs := rcL p post) (o := 2) (i := 0) hg (by rw [rcL_length]; omega) hone fun w' hb' hg' hs' => hk w' ?_ hg' hs'
  rw [hb']
  have e : rcL p post = [Value.int .i64 p.1, .int .i64 p.2.1] ++ (p.2.2.1.1 ++ (slV p.2.2.2.1 :: post)) := by simp [rcL]
  rw [e, Nat.add_zero, mid3 [Value.int .i64 p.1, .int .i64 p.2.1] x.1 p.2.2.1.1 _ (o := 2) (m := x.1.length) rfl rfl (hp.trans hx.symm)]
  simp [rcL]
theorem refMake_ok {s : Sl} {b : List UInt8} {known : Bool} {w : World} (hs : Bs w s b) (hl : b.length ≤ 1048576) :
    cl Tryd.prog n_flumeref10_Make #[.slice s.a s.n s.c, .bool known] (.tup (.pair (.pair (.I .i64) (.pair (.I .i64) (.pair (.row 32) (.pair .L .nil)))) (.pair (.I .i64) .nil))) w fun (r : RecT × Int × Unit) w' => MakeP w' b known r ∧ Fr w w' := by
  refine flumeref10_Make.cl ?_
  unfold flumeref10_Make
  have hn := hs.len
  refine nwI fun a1 w2 ha1 hs2 hf2 hb1 _ => ?_
  refine nwI fun a3 w4 ha3 hs4 hf4 hb3 _ => ?_
  have hf4' := hf2.trans hf4
  refine stRec (pre := []) (post := []) (q := rc0) hb3 rc0 rc0_one fun w8 hb8 hg8 hs8 => ?_
  have hf8 : Fr w2 w8 := hf4.on (grown_below hg8 (by omega) hf4.size)
  have hf8' := hf2.trans hf8
  have h18 : w8.heap[a1]? = some (.cells (rcL rc0 []).toArray t_api_Record (0, 0)) := hf8.heap hb1
  have hs8' := hf8.size
  intro j1
  have hj : ∀ y : Bool, (y = true ↔ (b.length < 1 ∨ b.length > 256)) → j1 y w8 := by
    intro y hy
    show bif y then _ else _
    cases y with
    | true =>
      refine bT rfl ?_
      refine ldRec (pre := []) (post := []) (p := rc0) hb8 ?_
      refine finRec h18 rc0 rc0_one fun w' hg' hs' => ⟨?_, hf8'.on (grown_below hg' (by omega) hf8'.size)⟩
      unfold MakeP
      rw [if_pos (hy.1 rfl)]
    | false =>
      refine bF rfl ?_
      have hbd : ¬(b.length < 1 ∨ b.length > 256) := fun h => by have := hy.2 h; cases this
      rw [addOff]
      refine st0 hb8 (by simp [rcL]) fun w23 hb23 hg23 hs23 => ?_
      have hb23 : w23.heap[a3]? = some (.cells (rcL (0, (s.n : Int), zrow 32 (.int .u8 0), ⟨none, 0, 0⟩, ()) []).toArray t_api_Record (0, 0)) := by
        rw [hb23, Nat.zero_add]
        exact congrArg (fun x => some (Obj.cells x t_api_Record (0, 0))) (rcSet1 rc0 [] _)
      have hf23 : Fr w2 w23 := hf8.on (grown_below hg23 (by omega) hf8.size)
      have hf23' := hf2.trans hf23
      refine (Quick_ok (hs.fr hf23') (by omega)).mono ?_
      rintro ⟨x24, hx24⟩ w25 ⟨hx, hf25⟩
      dsimp only at hx
      have hdl := dig_length b
      obtain ⟨d, hdg⟩ : ∃ d, dig b = d := ⟨_, rfl⟩
      rw [hdg] at hx hdl
      subst hx
      rw [addOff, Nat.zero_add]
      have hone := u8s_one d
      have hf25' := hf23.trans hf25
      refine stSum (hf25.heap hb23) ⟨u8s d, hx24⟩ hone fun w26 hb26 hg26 hs26 => ?_
      have hf26 : Fr w2 w26 := hf25'.on (grown_below hg26 (by omega) hf25'.size)
      have hf26' := hf2.trans hf26
      have hs26' := hf26.size
      have la3 := (Array.getElem?_eq_some_iff.1 hb26).1
      refine (ref_Shorten_own (hs.fr hf26') (by omega)).mono ?_
      rintro x27 w28 ⟨h27, hf28⟩
      have h27n := h27.len
      have hb28 := hf28.heap hb26
      have hf28' := hf26.trans hf28
      intro j2
      have hj2 : ∀ (u : World) (k : Int) (x : Sl) (l : List UInt8), Fr w2 u → u.heap[a3]? = some (.cells (rcL (k, (s.n : Int), ⟨u8s d, hx24⟩, x, ()) []).toArray t_api_Record (0, 0)) → Bs u x l → (l ≠ [] → ∀ ad, x.a = some ad → ad.block ≠ a1) →
          (if known then k = 1 ∧ x = ⟨none, 0, 0⟩ else if (shortS b).length < b.length then k = 3 ∧ l = shortS b else k = 2 ∧ l = b) → j2 u := by
        intro u k x l hfu h3 hx hxa hkl
        show ld _ u ⟨a3, 0, none⟩ _
        refine ldRec (pre := []) (post := []) (p := (k, (s.n : Int), ⟨u8s d, hx24⟩, x, ())) h3 ?_
        refine finRec (q := rc0) (hfu.heap hb1) (k, (s.n : Int), ⟨u8s d, hx24⟩, x, ()) hone fun w' hg' hs' => ⟨?_, (hf2.trans hfu).on (grown_below hg' (by omega) (hf2.trans hfu).size)⟩
        have hx' : Bs w' x l := hx.kpn (kp_grown hg') hxa
        unfold MakeP
        rw [if_neg hbd]
        refine ⟨rfl, by dsimp only; omega, by rw [hdg], ?_⟩
        split
        · rename_i hk; rw [if_pos hk] at hkl; exact hkl
        · rename_i hk
          rw [if_neg hk] at hkl
          split
          · rename_i hlt; rw [if_pos hlt] at hkl; obtain ⟨rfl, rfl⟩ := hkl; exact ⟨rfl, hx'⟩
          · rename_i hlt; rw [if_neg hlt] at hkl; obtain ⟨rfl, rfl⟩ := hkl; exact ⟨rfl, hx'⟩
      clear_value j2
      have c2 : ∀ (k : Int), (rcL (0, (s.n : Int), ⟨u8s d, hx24⟩, ⟨none, 0, 0⟩, ()) []).toArray.setIfInBounds 0 (.int .i64 k) = (rcL (k, (s.n : Int), ⟨u8s d, hx24⟩, ⟨none, 0, 0⟩, ()) []).toArray := fun k => rcSet0 _ _ _
      cases known with
      | true =>
        refine bT rfl ?_
        refine st0 hb28 (by simp [rcL]) fun w29 hb29 hg29 hs29 => ?_
        exact hj2 w29 1 ⟨none, 0, 0⟩ [] (hf28'.on (grown_below hg29 (by omega) hf28'.size)) (hb29.trans (congrArg (fun x => some (Obj.cells x t_api_Record (0, 0))) (c2 1))) (Bs.nil _ _) (fun h => absurd rfl h) ⟨rfl, rfl⟩
      | false =>
        refine bF rfl ?_
        refine bD ?_ ?_ <;> intro hlt
        · refine st0 hb28 (by simp [rcL]) fun w30 hb30 hg30 hs30 => ?_
          rw [addOff, Nat.zero_add]
          refine st0 (hb30.trans (congrArg (fun x => some (Obj.cells x t_api_Record (0, 0))) (c2 3))) (by simp [rcL_length]) fun w31 hb31 hg31 hs31 => ?_
          have hg := hg30.trans hg31
          refine hj2 w31 3 x27 (shortS b) (hf28'.on (grown_below hg (by omega) hf28'.size)) (hb31.trans (congrArg (fun x => some (Obj.cells x t_api_Record (0, 0))) (rcSet34 _ _ _))) (h27.bs.kpn (kp_grown hg) fun _ ad had => by have := (h27.own ad had).1; omega) (fun _ ad had => by have := (h27.own ad had).1; omega) ?_
          rw [if_neg (by decide), if_pos (by omega)]
          exact ⟨rfl, rfl⟩
        · refine st0 hb28 (by simp [rcL]) fun w32 hb32 hg32 hs32 => ?_
          have hf32 : Fr w2 w32 := hf28'.on (grown_below hg32 (by omega) hf28'.size)
          have hf32' := hf2.trans hf32
          refine copyB slB (hs.fr hf32') (by omega) fun r35 w36 h35 hf36 => ?_
          rw [addOff, Nat.zero_add]
          refine st0 ((hf36.heap hb32).trans (congrArg (fun x => some (Obj.cells x t_api_Record (0, 0))) (c2 2))) (by simp [rcL_length]) fun w37 hb37 hg37 hs37 => ?_
          have hf36' := hf32.trans hf36
          have l3 := (Array.getElem?_eq_some_iff.1 hb32).1
          refine hj2 w37 2 r35 b (hf36'.on (grown_below hg37 (by omega) hf36'.size)) (hb37.trans (congrArg (fun x => some (Obj.cells x t_api_Record (0, 0))) (rcSet34 _ _ _))) (h35.bs.kpn (kp_grown hg37) fun _ ad had => by have := (h35.own ad had).1; omega) (fun _ ad had => by have := (h35.own ad had).1; omega) ?_
          rw [if_neg (by decide), if_neg (by omega)]
          exact ⟨rfl, rfl⟩
  clear_value j1
  refine bE ?_ ?_ <;> intro h1
  · exact hj true ⟨fun _ => by omega, fun _ => rfl⟩
  · exact hj _ (by rw [decide_eq_true_iff]; omega)
theorem refOpen_ok {p : RecT} {d l : List UInt8} {w : World} (hp : p.2.2.1.1 = u8s d) (hl : Bs w p.2.2.2.1 l) (hll : l.length ≤ 1048576) :
    cl Tryd.prog n_flumeref10_Open #[rcV p] (.tup (.pair .L (.pair (.I .i64) .nil))) w fun (r : Sl × Int × Unit) w' => OwB w' w.heap.size t_uint8 r.1 (openS p.1 p.2.1 d l).1 ∧ r.2 = ((openS p.1 p.2.1 d l).2, ()) ∧ Fr w w' := by
  refine flumeref10_Open.cl (p0 := p) ?_
  unfold flumeref10_Open
  rw [rcL_nil]
  have hn := hl.len
  have hdl : d.length = 32 := by have := p.2.2.1.2; rw [hp, u8s_length] at this; exact this
  refine nwI fun a1 w2 ha hs2 hf2 hb _ => ?_
  refine ldRec (pre := []) (post := []) hb ?_
  refine (refCheck_ok (p := p)).mono ?_
  rintro e w5 ⟨rfl, hf5⟩
  have hb5 := hf5.heap hb
  have hf5' := hf2.trans hf5
  rw [hn]
  refine bNe ?_ ?_ <;> intro hc
  · have e : openS p.1 p.2.1 d l = ([], 100) := by rw [openS, if_pos hc]
    rw [e]
    exact ⟨OwB.nil _ _ _, rfl, hf5'⟩
  have hok := chkS_ok hc
  have c0 : (rcL p []).toArray[0]? = some (.int .i64 p.1) := rfl
  have c1 : (rcL p []).toArray[1]? = some (.int .i64 p.2.1) := rfl
  rw [addOff, addOff, addOff]
  refine ldI0 hb5 c0 ?_
  refine bE ?_ ?_ <;> intro h1
  · have e : openS p.1 p.2.1 d l = ([], 110) := by rw [openS, if_neg (by omega), if_pos h1]
    rw [e]
    exact ⟨OwB.nil _ _ _, rfl, hf5'⟩
  refine nwI fun a7 w8 ha7 hs8 hf8 hb7 _ => ?_
  have hf8' := hf5'.trans hf8
  refine ldL0 (s := p.2.2.2.1) (hf8.heap hb5) (rc_c34 p) ?_
  refine app0B slB (base := w5.heap.size) hb7 (by omega) (hl.fr hf8') (by omega) hf8.size fun r10 w11 h10 hf11 => ?_
  have hf11' := hf8'.trans hf11
  have hb11 := hf11.heap (hf8.heap hb5)
  intro j1
  have hj : ∀ (y : Sl) (u : World) (m : List UInt8), OwB u w.heap.size t_uint8 y m → m.length ≤ 1048576 → Fr w u → u.heap[a1]? = some (.cells (rcL p []).toArray t_api_Record (0, 0)) → (openS p.1 p.2.1 d l = if dig m = d then (m, 0) else ([], 111)) → j1 y u := by
    intro y u m hy hm hfu hbu ho
    show dr u _
    intro n
    have hfn := Fr.drewN u n
    refine ldRow (vs := u8s d) (hfn.heap hbu) (by rw [← hp, Nat.zero_add]; unfold rcL; rw [show ((Value.int .i64 p.1 :: .int .i64 p.2.1 :: (p.2.2.1.1 ++ (slV p.2.2.2.1 :: []))).drop 2) = p.2.2.1.1 ++ [slV p.2.2.2.1] from rfl, List.take_left' p.2.2.1.2]) (by rw [u8s_length, hdl]) ?_
    have hfw := hfu.trans hfn
    refine (Quick_ok ((hy.fr hfn).bs) (by omega)).mono ?_
    rintro ⟨x28, hx28⟩ w29 ⟨hx, hf29⟩
    refine ⟨hf29, ?_⟩
    dsimp only at hx ⊢
    subst hx
    have hdm := dig_length m
    refine qnNe hdm hdl ?_
    rw [ho]
    by_cases h : dig m = d
    · rw [if_pos h, decide_eq_true h]
      exact ⟨hy.fr (hfn.trans hf29), rfl, hfw.trans hf29⟩
    · rw [if_neg h, decide_eq_false h]
      exact ⟨OwB.nil _ _ _, rfl, hfw.trans hf29⟩
  clear_value j1
  refine ldI0 hb11 c0 ?_
  refine bE ?_ ?_ <;> intro h3
  · refine ldL0 (s := p.2.2.2.1) hb11 (rc_c34 p) (ldI0 hb11 c1 ?_)
    refine (ref_Restore_ok (hl.fr hf11') (by omega) (by omega)).mono ?_
    rintro ⟨x12, e12, ⟨⟩⟩ w13 ⟨h12, he, hf13⟩
    dsimp only at h12 he ⊢
    obtain ⟨rfl, _⟩ := Prod.mk.inj he
    have hb13 := hf13.heap hb11
    have hlen := h12.len
    have hf13' := hf11'.trans hf13
    have hroom := restS_most l p.2.1
    refine bNe ?_ ?_ <;> intro hr
    · have e : openS p.1 p.2.1 d l = ([], 100) := by rw [openS, if_neg (by omega), if_neg h1, if_pos ⟨h3, .inl (by omega)⟩]
      rw [e]
      exact ⟨OwB.nil _ _ _, rfl, hf13'⟩
    refine ldI0 hb13 c1 ?_
    refine bD ?_ ?_ <;> intro hr2
    · have e : openS p.1 p.2.1 d l = ([], 100) := by rw [openS, if_neg (by omega), if_neg h1, if_pos ⟨h3, .inr (by omega)⟩]
      rw [e]
      exact ⟨OwB.nil _ _ _, rfl, hf13'⟩
    refine hj x12 w13 _ (h12.mono hf11'.size) (by omega) hf13' hb13 ?_
    rw [openS, if_neg (by omega), if_neg h1, if_neg (by omega), if_pos h3]
  · refine hj r10 w11 l (h10.mono hf5'.size) (by omega) hf11' hb11 ?_
    rw [openS, if_neg (by omega), if_neg h1, if_neg (by omega), if_neg h3]
/-- Two records alike. -/
theorem Same_ok {p q : RecT} {d d' l l' : List UInt8} {w : World} (hp : p.2.2.1.1 = u8s d) (hq : q.2.2.1.1 = u8s d') (hl : Bs w p.2.2.2.1 l) (hl' : Bs w q.2.2.2.1 l') :
    cl Tryd.prog n_flumeref10_Same #[rcV p, rcV q] .B w fun (r : Bool) w' => r = decide (p.1 = q.1 ∧ p.2.1 = q.2.1 ∧ d = d' ∧ l = l') ∧ Fr w w' := by
  refine flumeref10_Same.cl (p0 := p) (p1 := q) ?_
  unfold flumeref10_Same
  rw [rcL_nil, rcL_nil]
  have hdl : d.length = 32 := by have := p.2.2.1.2; rw [hp, u8s_length] at this; exact this
  have hdl' : d'.length = 32 := by have := q.2.2.1.2; rw [hq, u8s_length] at this; exact this
  refine nwI fun a1 w2 ha hs2 hf2 hb1 _ => ?_
  refine nwI fun a3 w4 ha3 hs4 hf4 hb3 _ => ?_
  have hf4' := hf2.trans hf4
  have hb1 := hf4.heap hb1
  have c0 : ∀ p : RecT, (rcL p []).toArray[0]? = some (.int .i64 p.1) := fun _ => rfl
  have c1 : ∀ p : RecT, (rcL p []).toArray[1]? = some (.int .i64 p.2.1) := fun _ => rfl
  simp only [addOff, Nat.zero_add]
  have no : ∀ {P : Prop} [Decidable P], ¬P → false = decide P ∧ Fr w w4 := fun h => ⟨(decide_eq_false h).symm, hf4'⟩
  refine ldI0 hb1 (c0 p) (ldI0 hb3 (c0 q) (bE ?_ ?_)) <;> intro h0
  rotate_left
  · exact no fun h => h0 h.1
  refine ldI0 hb1 (c1 p) (ldI0 hb3 (c1 q) (bE ?_ ?_)) <;> intro h1
  rotate_left
  · exact no fun h => h1 h.2.1
  have row : ∀ {p : RecT} {d : List UInt8}, p.2.2.1.1 = u8s d → ((rcL p []).drop 2).take 32 = u8s d := fun {p d} hp => by
    rw [← hp]; show (p.2.2.1.1 ++ [slV p.2.2.2.1]).take 32 = _; rw [List.take_left' p.2.2.1.2]
  refine ldRow (vs := u8s d) hb1 (row hp) (by rw [u8s_length, hdl]) (ldRow (vs := u8s d') hb3 (row hq) (by rw [u8s_length, hdl']) ?_)
  refine qnEq hdl hdl' ?_
  refine bD ?_ ?_ <;> intro h2
  rotate_left
  · exact no fun h => h2 h.2.2.1
  refine ldL0 (s := p.2.2.2.1) hb1 (rc_c34 p) (bstrI (hl.fr hf4').rd hl.len.symm (Fr.refl _) (ldL0 (s := q.2.2.2.1) hb3 (rc_c34 q) (bstrI (hl'.fr hf4').rd hl'.len.symm (Fr.refl _) ?_)))
  rw [beqB_eq]
  refine ⟨?_, hf4'⟩
  rw [Bool.eq_iff_iff, decide_eq_true_iff, decide_eq_true_iff]
  exact ⟨fun h => ⟨h0, h1, h2, h⟩, fun h => h.2.2.2⟩
end Go.Proofs.YtkojpppnjloikaaDoor
namespace Go.Fl

/-- A note. -/
structure PN where
  k : Int
  a : Int
  b : Int
  c : Int
  i : Int
  rk : Int
  rs : Int
  d : List UInt8
  l : List UInt8
deriving DecidableEq
def PN.num (n : PN) (o : Nat) : Int := ([n.k, n.a, n.b, n.c, n.i] : List Int).getD o 0
/-- May it be? -/
def PN.fit (n : PN) : Prop := offs n.k ≠ [] ∧ (∀ o ∈ offs n.k, 1 ≤ n.num o ∧ n.num o ≤ 1073741824) ∧ (n.k = 1 → n.b ≤ 65535 ∧ n.c ≤ 65535) ∧ (∀ o ∈ ([1, 2, 3, 4] : List Nat), o ∉ offs n.k → n.num o = 0) ∧
  (n.k ≠ 2 → n.rk = 0 ∧ n.rs = 0 ∧ n.d = List.replicate 32 0 ∧ n.l = []) ∧ (n.k = 2 → chkS n.rk n.rs n.l.length = 0)
instance (n : PN) : Decidable n.fit := by unfold PN.fit; infer_instance
def PN.bytes (n : PN) : List UInt8 := numB n.k.toNat ++ numsB ((offs n.k).map n.num) ++ (if n.k = 2 then recB n.rk n.rs n.d n.l else [])
/-- What a note in memory is. -/
def pnOf (p : NtT) (d l : List UInt8) : PN := ⟨p.1, p.2.1, p.2.2.1, p.2.2.2.1, p.2.2.2.2.1, p.2.2.2.2.2.1.1, p.2.2.2.2.2.1.2.1, d, l⟩
theorem pnOf_fit {p : NtT} {d l : List UInt8} (h : p.2.2.2.2.2.1.2.2.2.1.n = l.length) : FitP p d ↔ (pnOf p d l).fit := by
  unfold FitP PN.fit emptyR
  rw [h]
  simp only [List.length_eq_zero_iff]
  rfl
theorem pnOf_bytes (p : NtT) (d l : List UInt8) : noteB p d l = (pnOf p d l).bytes := rfl
/-- Numbers off the front. -/
def numsS : Nat → List UInt8 → Option (List Int × List UInt8)
  | 0, l => some ([], l)
  | n + 1, l => if (lookS l).2.2 ≠ 0 then none else (numsS n (l.drop (lookS l).2.1)).map fun x => (((lookS l).1 : Int) :: x.1, x.2)
abbrev TkT := Int × Int × List UInt8 × List UInt8
/-- A record off the front. -/
def takeS (l : List UInt8) : Option (TkT × List UInt8) :=
  if (lookS l).2.2 ≠ 0 ∨ (lookS (l.drop (lookS l).2.1)).2.2 ≠ 0 then none else
  let l2 := (l.drop (lookS l).2.1).drop (lookS (l.drop (lookS l).2.1)).2.1
  if l2.length < 32 then none else
  if (rdText (l2.drop 32) 256).2.1 ≠ 0 ∨ chkS (lookS l).1 (lookS (l.drop (lookS l).2.1)).1 (rdText (l2.drop 32) 256).1.length ≠ 0 then none else
  some (((lookS l).1, (lookS (l.drop (lookS l).2.1)).1, l2.take 32, (rdText (l2.drop 32) 256).1), (l2.drop 32).drop (rdText (l2.drop 32) 256).2.2)
def atS (k : Int) (ns : List Int) (o : Nat) : Int := if o ∈ offs k then ns.getD ((offs k).idxOf o) 0 else 0
def mkPN (k : Int) (ns : List Int) (x : TkT) : PN := ⟨k, atS k ns 1, atS k ns 2, atS k ns 3, atS k ns 4, x.1, x.2.1, x.2.2.1, x.2.2.2⟩
/-- The note of which some bytes are. -/
def getS (b : List UInt8) : Option PN :=
  if (lookS b).2.2 ≠ 0 then none else
  match numsS (offs (lookS b).1).length (b.drop (lookS b).2.1) with
  | none => none
  | some (ns, r) => match (if ((lookS b).1 : Int) = 2 then takeS r else some ((0, 0, List.replicate 32 0, []), r)) with
    | none => none
    | some (x, r3) => if r3 = [] ∧ (mkPN (lookS b).1 ns x).fit then some (mkPN (lookS b).1 ns x) else none

theorem numsS_back : ∀ {n : Nat} {l : List UInt8} {ns : List Int} {r : List UInt8}, numsS n l = some (ns, r) → ns.length = n ∧ numsB ns ++ r = l ∧ ∀ x ∈ ns, 0 ≤ x ∧ x ≤ 9223372036854775807
  | 0, l, ns, r, h => by
    simp only [numsS, Option.some.injEq, Prod.mk.injEq] at h
    obtain ⟨rfl, rfl⟩ := h
    exact ⟨rfl, rfl, by simp⟩
  | n + 1, l, ns, r, h => by
    unfold numsS at h
    split at h
    · cases h
    · rename_i h0
      obtain ⟨⟨ms, r'⟩, h1, h2⟩ := Option.map_eq_some_iff.1 h
      simp only [Prod.mk.injEq] at h2
      obtain ⟨rfl, rfl⟩ := h2
      obtain ⟨i1, i2, i3⟩ := numsS_back h1
      obtain ⟨x, k, e⟩ : ∃ x k, lookS l = (x, k, 0) := ⟨(lookS l).1, (lookS l).2.1, by rw [← Decidable.not_not.1 h0]⟩
      obtain ⟨b1, b2, b3, b4⟩ := look_back e
      rw [e] at i2 ⊢
      dsimp only at i2 ⊢
      refine ⟨by simp [i1], ?_, fun y hy => ?_⟩
      · rw [numsB_cons, List.append_assoc, i2, Int.toNat_natCast, ← b3, List.take_append_drop]
      · rcases List.mem_cons.1 hy with rfl | hy
        · omega
        · exact i3 y hy
theorem numsS_put (r : List UInt8) : ∀ {ns : List Int}, (∀ x ∈ ns, 0 ≤ x ∧ x ≤ 9223372036854775807) → numsS ns.length (numsB ns ++ r) = some (ns, r)
  | [], _ => rfl
  | x :: ns, h => by
    have hx := h x (by simp)
    have ih := numsS_put r (ns := ns) fun y hy => h y (by simp [hy])
    rw [List.length_cons, numsB_cons, List.append_assoc, numsS, look_num (by omega), if_neg (by simp)]
    dsimp only
    rw [← numB_length, List.drop_left' rfl, ih]
    simp only [Option.map_some, Option.some.injEq, Prod.mk.injEq, List.cons.injEq, and_true]
    omega
theorem takeS_back {l : List UInt8} {x : TkT} {r : List UInt8} (h : takeS l = some (x, r)) : recB x.1 x.2.1 x.2.2.1 x.2.2.2 ++ r = l ∧ x.2.2.1.length = 32 ∧ chkS x.1 x.2.1 x.2.2.2.length = 0 := by
  unfold takeS at h
  split at h
  · cases h
  rename_i h0
  obtain ⟨k, n, e⟩ : ∃ k n, lookS l = (k, n, 0) := ⟨(lookS l).1, (lookS l).2.1, by rw [← Decidable.not_not.1 fun h => h0 (.inl h)]⟩
  obtain ⟨b1, b2, b3, b4⟩ := look_back e
  rw [e] at h h0
  dsimp only at h h0
  obtain ⟨s, m, e2⟩ : ∃ s m, lookS (l.drop n) = (s, m, 0) := by
    have hz : (lookS (l.drop n)).2.2 = 0 := Decidable.not_not.1 fun h => h0 (.inr h)
    exact ⟨(lookS (l.drop n)).1, (lookS (l.drop n)).2.1, by rw [← hz]⟩
  obtain ⟨c1, c2, c3, c4⟩ := look_back e2
  rw [e2] at h
  dsimp only at h
  generalize hl2 : (l.drop n).drop m = l2 at h
  split at h
  · cases h
  rename_i h32
  split at h
  · cases h
  rename_i ht
  simp only [Option.some.injEq, Prod.mk.injEq] at h
  obtain ⟨rfl, rfl⟩ := h
  have ht1 : (rdText (l2.drop 32) 256).2.1 = 0 := Decidable.not_not.1 fun h => ht (.inl h)
  have ht2 := Decidable.not_not.1 fun h => ht (.inr h)
  have hb := rdText_back ht1
  refine ⟨?_, by rw [List.length_take]; omega, ht2⟩
  dsimp only
  rw [recB, ← hb, numsB_cons, numsB_cons, numsB_nil, List.append_nil, Int.toNat_natCast, Int.toNat_natCast, ← b3, ← c3]
  simp only [List.append_assoc]
  rw [List.take_append_drop, List.take_append_drop, ← hl2, List.take_append_drop, List.take_append_drop]
theorem takeS_put {rk rs : Int} {d l : List UInt8} (r : List UInt8) (h : chkS rk rs l.length = 0) (hd : d.length = 32) (hl : l.length ≤ 256) (hk : 0 ≤ rk ∧ rk ≤ 9223372036854775807) (hs : 0 ≤ rs ∧ rs ≤ 9223372036854775807) : takeS (recB rk rs d l ++ r) = some ((rk, rs, d, l), r) := by
  have e : recB rk rs d l ++ r = numB rk.toNat ++ (numB rs.toNat ++ (d ++ (numB l.length ++ (l ++ r)))) := by
    simp [recB, numsB_cons, numsB_nil]
  have t := rdText_put (m := l) (most := 256) (by omega) (by omega) r
  rw [e]
  unfold takeS
  rw [look_num (by omega)]
  dsimp only
  rw [← numB_length, List.drop_left' rfl, look_num (by omega)]
  dsimp only
  rw [← numB_length, List.drop_left' rfl, if_neg (by simp), if_neg (by rw [List.length_append]; omega), ← hd, List.drop_left' rfl, List.take_left' rfl, t]
  dsimp only
  have ek : ((rk.toNat : Nat) : Int) = rk := by omega
  have es : ((rs.toNat : Nat) : Int) = rs := by omega
  rw [ek, es, if_neg (by simp [h])]
  rw [← List.append_assoc (numB l.length), List.drop_left' (by simp)]
theorem atS_map {n : PN} (h : ∀ o ∈ ([1, 2, 3, 4] : List Nat), o ∉ offs n.k → n.num o = 0) {o : Nat} (ho : o ∈ ([1, 2, 3, 4] : List Nat)) : atS n.k ((offs n.k).map n.num) o = n.num o := by
  unfold atS
  by_cases hm : o ∈ offs n.k
  · rw [if_pos hm, List.getD_eq_getElem?_getD, List.getElem?_map, List.getElem?_eq_getElem (List.idxOf_lt_length_iff.2 hm), List.getElem_idxOf]
    rfl
  · rw [if_neg hm, h o ho hm]
theorem offs_kd {k : Int} (h : offs k ≠ []) : 1 ≤ k ∧ k ≤ 6 := by
  unfold offs at h
  split at h
  · omega
  · split at h
    · omega
    · split at h
      · omega
      · exact absurd rfl h
theorem chk_in {k s : Int} {n : Nat} (h : chkS k s n = 0) : 1 ≤ k ∧ k ≤ 3 ∧ 1 ≤ s ∧ s ≤ 256 ∧ n ≤ 256 := by
  unfold chkS at h
  split at h
  · omega
  · cases h
theorem getS_put {n : PN} (h : n.fit) (hd : n.d.length = 32) : getS n.bytes = some n := by
  obtain ⟨h1, h2, h3, h4, h5, h6⟩ := h
  have hk := offs_kd h1
  have hk2 : ((n.k.toNat : Nat) : Int) = n.k := by omega
  have hat : ∀ x, mkPN n.k ((offs n.k).map n.num) x = { n with rk := x.1, rs := x.2.1, d := x.2.2.1, l := x.2.2.2 } := by
    intro x
    unfold mkPN
    rw [atS_map h4 (by simp), atS_map h4 (by simp), atS_map h4 (by simp), atS_map h4 (by simp)]
    rfl
  have hn : ∀ x ∈ (offs n.k).map n.num, 0 ≤ x ∧ x ≤ 9223372036854775807 := by
    intro x hx
    obtain ⟨o, ho, rfl⟩ := List.mem_map.1 hx
    have := h2 o ho
    omega
  have hfit : n.fit := ⟨h1, h2, h3, h4, h5, h6⟩
  unfold getS
  have e : n.bytes = numB n.k.toNat ++ (numsB ((offs n.k).map n.num) ++ (if n.k = 2 then recB n.rk n.rs n.d n.l else [])) := by simp [PN.bytes]
  rw [e, look_num (by omega), if_neg (by simp)]
  dsimp only
  have hp := numsS_put (if n.k = 2 then recB n.rk n.rs n.d n.l else []) hn
  rw [List.length_map] at hp
  rw [hk2, ← numB_length, List.drop_left' rfl, hp]
  dsimp only
  by_cases h22 : n.k = 2
  · rw [if_pos h22, if_pos h22]
    have hc := chk_in (h6 h22)
    have ht := takeS_put [] (h6 h22) hd (by omega) (by omega) (by omega)
    rw [List.append_nil] at ht
    rw [ht]
    dsimp only
    rw [hat, if_pos ⟨rfl, hfit⟩]
  · rw [if_neg h22, if_neg h22]
    dsimp only
    obtain ⟨e1, e2, e3, e4⟩ := h5 h22
    have en : mkPN n.k ((offs n.k).map n.num) (0, 0, List.replicate 32 0, []) = n := by
      rw [hat]
      cases n
      dsimp only at e1 e2 e3 e4 ⊢
      rw [e1, e2, e3, e4]
    rw [en, if_pos ⟨rfl, hfit⟩]
theorem getS_back {b : List UInt8} {n : PN} (h : getS b = some n) : n.fit ∧ n.d.length = 32 ∧ n.bytes = b := by
  unfold getS at h
  split at h
  · cases h
  rename_i h0
  obtain ⟨k, m, e⟩ : ∃ k m, lookS b = (k, m, 0) := ⟨(lookS b).1, (lookS b).2.1, by rw [← Decidable.not_not.1 h0]⟩
  obtain ⟨b1, b2, b3, b4⟩ := look_back e
  rw [e] at h
  dsimp only at h
  split at h
  · cases h
  rename_i ns r hns
  obtain ⟨c1, c2, c3⟩ := numsS_back hns
  split at h
  · cases h
  rename_i x r3 hx
  split at h
  · rename_i hf
    obtain ⟨rfl, hfit⟩ := hf
    simp only [Option.some.injEq] at h
    have hmap : (offs (k : Int)).map (mkPN k ns x).num = ns := by
      refine List.ext_getElem (by simp [c1]) fun i h1 h2 => ?_
      rw [List.getElem_map]
      rw [List.length_map] at h1
      have hat : ∀ o ∈ offs (k : Int), (mkPN k ns x).num o = ns.getD ((offs (k : Int)).idxOf o) 0 := by
        intro o ho
        have hm := offs_mem ho
        rcases hm with rfl | rfl | rfl | rfl <;> (show atS k ns _ = _; rw [atS, if_pos ho])
      rw [hat _ (List.getElem_mem h1)]
      have hnd : (offs (k : Int)).Nodup := by
        unfold offs
        split
        · decide
        · split
          · decide
          · split <;> decide
      rw [hnd.idxOf_getElem i h1, List.getD_eq_getElem?_getD, List.getElem?_eq_getElem h2, Option.getD_some]
    by_cases h22 : (k : Int) = 2
    · rw [if_pos h22] at hx
      obtain ⟨t1, t2, t3⟩ := takeS_back hx
      rw [List.append_nil] at t1
      rw [← h]
      refine ⟨hfit, t2, ?_⟩
      show numB ((k : Int)).toNat ++ numsB ((offs (k : Int)).map (mkPN k ns x).num) ++ (if (k : Int) = 2 then recB x.1 x.2.1 x.2.2.1 x.2.2.2 else []) = b
      rw [hmap, if_pos h22, t1, List.append_assoc, c2, Int.toNat_natCast, ← b3, List.take_append_drop]
    · rw [if_neg h22] at hx
      simp only [Option.some.injEq, Prod.mk.injEq] at hx
      obtain ⟨rfl, rfl⟩ := hx
      rw [← h]
      refine ⟨hfit, by simp [mkPN], ?_⟩
      show numB ((k : Int)).toNat ++ numsB ((offs (k : Int)).map (mkPN k ns _).num) ++ (if (k : Int) = 2 then _ else []) = b
      rw [List.append_nil] at c2
      rw [hmap, if_neg h22, List.append_nil, c2, Int.toNat_natCast, ← b3, List.take_append_drop]
  · cases h
/-- What is read of a note, before it is asked whether it may be. -/
def candS (b : List UInt8) : Option (PN × List UInt8) :=
  if (lookS b).2.2 ≠ 0 then none else
  match numsS (offs (lookS b).1).length (b.drop (lookS b).2.1) with
  | none => none
  | some (ns, r) => match (if ((lookS b).1 : Int) = 2 then takeS r else some ((0, 0, List.replicate 32 0, []), r)) with
    | none => none
    | some (x, r3) => some (mkPN (lookS b).1 ns x, r3)
theorem getS_cand (b : List UInt8) : getS b = match candS b with | none => none | some (n, r3) => if r3 = [] ∧ n.fit then some n else none := by
  unfold getS candS
  split
  · rfl
  · split
    · rfl
    · split <;> rfl
theorem numsS_snoc : ∀ {n : Nat} {l : List UInt8} {ns : List Int} {r : List UInt8}, numsS n l = some (ns, r) → numsS (n + 1) l = if (lookS r).2.2 ≠ 0 then none else some (ns ++ [((lookS r).1 : Int)], r.drop (lookS r).2.1)
  | 0, l, ns, r, h => by
    simp only [numsS, Option.some.injEq, Prod.mk.injEq] at h
    obtain ⟨rfl, rfl⟩ := h
    simp only [numsS]
    split <;> simp_all
  | n + 1, l, ns, r, h => by
    rw [numsS] at h
    rw [numsS]
    split at h
    · cases h
    · rename_i h0
      rw [if_neg h0]
      obtain ⟨⟨ms, r'⟩, h1, h2⟩ := Option.map_eq_some_iff.1 h
      simp only [Prod.mk.injEq] at h2
      obtain ⟨rfl, rfl⟩ := h2
      rw [numsS_snoc h1]
      split <;> simp
theorem numsS_none : ∀ {n : Nat} {l : List UInt8} (m : Nat), numsS n l = none → n ≤ m → numsS m l = none
  | 0, _, _, h, _ => by simp [numsS] at h
  | n + 1, l, 0, _, hm => by omega
  | n + 1, l, m + 1, h, hm => by
    rw [numsS] at h ⊢
    split
    · rfl
    · rename_i h0
      rw [if_neg h0, Option.map_eq_none_iff] at h
      rw [numsS_none m h (by omega)]
      rfl
/-- A note's numbers alone, in memory. -/
def numT (k : Int) (ns : List Int) (r : RecT) : NtT := (k, atS k ns 1, atS k ns 2, atS k ns 3, atS k ns 4, r, ())
theorem numT_set {k : Int} {ns : List Int} {r : RecT} (h : ns.length < (offs k).length) (x : Int) : (ntL (numT k ns r)).toArray.setIfInBounds ((offs k)[ns.length]) (.int .i64 x) = (ntL (numT k (ns ++ [x]) r)).toArray := by
  have key : ∀ o, atS k (ns ++ [x]) o = if o = (offs k)[ns.length] then x else atS k ns o := by
    intro o
    have hnd : (offs k).Nodup := by
      unfold offs
      split
      · decide
      · split
        · decide
        · split <;> decide
    unfold atS
    by_cases ho : o = (offs k)[ns.length]
    · subst ho
      rw [if_pos rfl, if_pos (List.getElem_mem h), hnd.idxOf_getElem _ h]
      simp [List.getD_eq_getElem?_getD]
    · rw [if_neg ho]
      by_cases hm : o ∈ offs k
      · rw [if_pos hm, if_pos hm]
        have hne : (offs k).idxOf o ≠ ns.length := fun e => ho (by rw [← List.getElem_idxOf (List.idxOf_lt_length_iff.2 hm)]; simp only [e])
        rw [List.getD_eq_getElem?_getD, List.getD_eq_getElem?_getD]
        by_cases hlt : (offs k).idxOf o < ns.length
        · rw [List.getElem?_append_left hlt]
        · rw [List.getElem?_eq_none (by simp; omega), List.getElem?_eq_none (by omega)]
      · rw [if_neg hm, if_neg hm]
  have hm := offs_mem (List.getElem_mem h)
  have e1 := key 1
  have e2 := key 2
  have e3 := key 3
  have e4 := key 4
  unfold numT
  rw [e1, e2, e3, e4]
  rcases hm with hm | hm | hm | hm <;> (rw [hm]; simp [ntL, n5])
end Go.Fl
namespace Go.Proofs.YtkojpppnjloikaaDoor
open Go.RowKit Go.Fl

theorem grown_new {w u u' : World} {g a : Nat} (h : w.grownBy u (some g)) (k : u.grownBy u' (some a)) (ha : w.heap.size ≤ a) : w.grownBy u' (some g) :=
  ⟨k.os.trans h.os, k.tape.trans h.tape, k.output.trans h.output, Nat.le_trans h.size k.size, fun j hj hne => (k.block j (Nat.lt_of_lt_of_le hj h.size) (fun e => by have := Option.some.inj e; omega)).trans (h.block j hj hne)⟩
theorem grown_fr {w u u' : World} {g : Nat} (h : w.grownBy u (some g)) (k : Fr u u') : w.grownBy u' (some g) :=
  ⟨k.os.trans h.os, k.tape.trans h.tape, k.output.trans h.output, Nat.le_trans h.size k.size, fun j hj hne => (k.block j (Nat.lt_of_lt_of_le hj h.size)).trans (h.block j hj hne)⟩
theorem rcSetSum (p : RecT) (post : List Value) {i : Nat} (hi : i < 32) (v : Value) : (rcL p post).toArray.setIfInBounds (2 + i) v = (rcL (p.1, p.2.1, ⟨p.2.2.1.1.set i v, by rw [List.length_set]; exact p.2.2.1.2⟩, p.2.2.2.1, ()) post).toArray := by
  rw [List.setIfInBounds_toArray, rcL, rcL, show 2 + i = i + 2 from by omega, List.set_cons_succ, List.set_cons_succ, List.set_append_left _ _ (by rw [p.2.2.1.2]; omega)]
/-- What a record that was taken is. -/
def TakeP (w : World) (base own g : Nat) (r : RecT × Int × Unit) : Option (TkT × List UInt8) → Prop
  | some (x, l') => r.2 = (0, ()) ∧ r.1.1 = x.1 ∧ r.1.2.1 = x.2.1 ∧ r.1.2.2.1.1 = u8s x.2.2.1 ∧ OwB w own t_uint8 r.1.2.2.2.1 x.2.2.2 ∧ Rdr w base g l'
  | none => r = (rc0, 100, ()) ∧ ∃ l', Rdr w base g l'
theorem take_ok {w : World} {base g : Nat} {l : List UInt8} (h : Rdr w base g l) (hg : base ≤ g) :
    cl Tryd.prog n_record_take #[.pointer (some ⟨g, 0, none⟩)] (.tup (.pair (.pair (.I .i64) (.pair (.I .i64) (.pair (.row 32) (.pair .L .nil)))) (.pair (.I .i64) .nil))) w fun (r : RecT × Int × Unit) w' => w.grownBy w' (some g) ∧ TakeP w' base w.heap.size g r (takeS l) := by
  refine record_take.cl ?_
  unfold record_take
  have hgl := h.lt
  refine nwI fun a1 w2 ha1 hs2 hf2 hb1 _ => ?_
  refine nwI fun a3 w4 ha3 hs4 hf4 hb3 _ => ?_
  have hf4' := hf2.trans hf4
  have hb1 : w4.heap[a1]? = some (.cells (rcL rc0 []).toArray t_api_Record (0, 0)) := hf4.heap hb1
  have hb3 : w4.heap[a3]? = some (.cells (rcL rc0 []).toArray t_api_Record (0, 0)) := hb3
  have hg4 : w.grownBy w4 (some g) := fr_grown hf4'
  -- what stays while the reader goes on, or the record is written
  have stp : ∀ {u u' : World} {m : Nat} {o : Obj}, w.grownBy u (some g) → u.grownBy u' (some g) → w.heap.size ≤ m → u.heap[m]? = some o → u'.heap[m]? = some o := fun {u u' m o} _ hk hm ho => (hk.block m (Array.getElem?_eq_some_iff.1 ho).1 (by simp; omega)).trans ho
  have rdk : ∀ {u u' : World} {m : Nat} {l : List UInt8}, Rdr u base g l → u.grownBy u' (some m) → w.heap.size ≤ m → Rdr u' base g l := fun {u u' m l} hr hk hm => hr.kp (kp_grown hk) (fun k _ hk => by omega) hg
  refine (Reader_Number_ok (h.fr hf4')).mono ?_
  rintro _ w6 ⟨rfl, hr6, hg6⟩
  dsimp -zeta only
  have hg6' := hg4.trans hg6
  refine st0 (stp hg4 hg6 (by omega) hb3) (by simp [rcL]) fun w7 hb7 hg7 hs7 => ?_
  rw [rcSet0] at hb7
  have hg7' := grown_new hg6' hg7 (by omega)
  have h17 := (hg7.block a1 (Array.getElem?_eq_some_iff.1 (stp hg4 hg6 (by omega) hb1)).1 (by simp; omega)).trans (stp hg4 hg6 (by omega) hb1)
  refine (Reader_Number_ok (rdk hr6 hg7 (by omega))).mono ?_
  rintro _ w9 ⟨rfl, hr9, hg9⟩
  dsimp -zeta only
  have hg9' := hg7'.trans hg9
  rw [addOff]
  refine st0 (stp hg7' hg9 (by omega) hb7) (by simp [rcL]) fun w10 hb10 hg10 hs10 => ?_
  rw [Nat.zero_add, rcSet1] at hb10
  have hg10' := grown_new hg9' hg10 (by omega)
  have h19 := stp hg7' hg9 (by omega) h17
  have h110 := (hg10.block a1 (Array.getElem?_eq_some_iff.1 h19).1 (by simp; omega)).trans h19
  have hr10 := rdk hr9 hg10 (by omega)
  intro j1
  have fail : ∀ (u : World) (l' : List UInt8) {K : RecT → World → Prop}, w.grownBy u (some g) → u.heap[a1]? = some (.cells (rcL rc0 []).toArray t_api_Record (0, 0)) → Rdr u base g l' → takeS l = none →
      (∀ u', w.grownBy u' (some g) ∧ TakeP u' base w.heap.size g (rc0, 100, ()) (takeS l) → K rc0 u') →
      st1 u ⟨a1, 0, none⟩ (.int .i64 0) fun w1 => st1 w1 ((⟨a1, 0, none⟩ : Addr).add 1) (.int .i64 0) fun w2 => stL (((⟨a1, 0, none⟩ : Addr).add 1).add 1) w2 0 (zrow 32 (.int .u8 0)).1 fun w3 => st1 w3 ((((⟨a1, 0, none⟩ : Addr).add 1).add 1).add 32) (.slice none 0 0) fun w4 =>
        ld (.pair (.I .i64) (.pair (.I .i64) (.pair (.row 32) (.pair .L .nil)))) w4 ⟨a1, 0, none⟩ fun r => K r w4 := by
    intro u l' K hgu h1 hr ht hK
    refine finRec h1 rc0 rc0_one fun u' hg' hs' => hK u' ⟨grown_new hgu hg' (by omega), ?_⟩
    rw [ht]
    exact ⟨rfl, l', rdk hr hg' (by omega)⟩
  obtain ⟨k, hk⟩ : ∃ k, lookS l = k := ⟨_, rfl⟩
  have ht : takeS l = _ := takeS.eq_1 l
  rw [hk] at hb10 hr10 ht
  obtain ⟨s, hs⟩ : ∃ s, lookS (l.drop k.2.1) = s := ⟨_, rfl⟩
  rw [hs] at hb10 hr10 ht
  generalize hl2 : (l.drop k.2.1).drop s.2.1 = l2 at *
  dsimp only at ht
  have hj : ∀ y : Bool, (y = true ↔ (k.2.2 ≠ 0 ∨ s.2.2 ≠ 0)) → j1 y w10 := by
    intro y hy
    show bif y then _ else _
    cases y with
    | true =>
      refine bT rfl ?_
      refine fail w10 l2 hg10' h110 hr10 (by rw [ht, if_pos (hy.1 rfl)]) fun u' hu => hu
    | false =>
      refine bF rfl ?_
      have hno : ¬(k.2.2 ≠ 0 ∨ s.2.2 ≠ 0) := fun h => by have := hy.2 h; cases this
      rw [if_neg hno] at ht
      refine lpI (fun s' w' => w.grownBy w' (some g) ∧ ∃ (i : Nat) (x : {l : List Value // l.length = 32}), i ≤ 32 ∧ i ≤ l2.length ∧ s'.1 = i ∧ Rdr w' base g (l2.drop i) ∧ x.1 = u8s (l2.take i ++ List.replicate (32 - i) 0) ∧ w'.heap[a3]? = some (.cells (rcL ((k.1 : Int), (s.1 : Int), x, ⟨none, 0, 0⟩, ()) []).toArray t_api_Record (0, 0)) ∧ w'.heap[a1]? = some (.cells (rcL rc0 []).toArray t_api_Record (0, 0))) (fun s' _ => (32 - s'.1).toNat)
        ⟨hg10', 0, zrow 32 (.int .u8 0), by decide, Nat.zero_le _, rfl, hr10, by simp [zrow, u8s], hb10, h110⟩ ?_
      rintro _ ⟨i', ⟨⟩⟩ w24 ⟨hg24, i, x, hi, hil, rfl, hr24, hx, hb24, h124⟩
      dsimp -zeta only
      refine bD ?_ ?_ <;> intro hlt
      · refine (Byte_ok hr24).mono ?_
        rintro _ w28 ⟨rfl, hr28, hg28⟩
        dsimp only
        have hg28' := hg24.trans hg28
        have h128 := stp hg24 hg28 (by omega) h124
        have hb28 := stp hg24 hg28 (by omega) hb24
        by_cases hil2 : i < l2.length
        · obtain ⟨c, t, hct⟩ : ∃ c t, l2.drop i = c :: t := ⟨l2[i], l2.drop (i + 1), List.drop_eq_getElem_cons hil2⟩
          have hc : l2[i]? = some c := by
            have := congrArg (fun z => z[0]?) hct
            simpa using this
          have htd : l2.drop (i + 1) = t := by
            have := congrArg (List.drop 1) hct
            rw [List.drop_drop] at this
            exact this
          rw [hct] at hr28 ⊢
          refine bF rfl ?_
          rw [addOff]
          refine ⟨by omega, by omega, nzS ?_⟩
          show st1 w28 (atOff ⟨a3, 0 + 2, none⟩ (i : Int) 1) _ _
          have hat : atOff ⟨a3, 0 + 2, none⟩ (i : Int) 1 = ⟨a3, 2 + i, none⟩ := by show Addr.add _ _ = _; rw [addOff]; rfl
          rw [hat]
          refine st0 hb28 (by simp [rcL_length]; omega) fun w35 hb35 hg35 hs35 => ?_
          rw [rcSetSum _ _ (by omega)] at hb35
          rw [i64w (by omega) (by omega)]
          refine ⟨⟨grown_new hg28' hg35 (by omega), i + 1, _, by omega, by omega, rfl, ?_, ?_, hb35, ?_⟩, by omega⟩
          · rw [htd]; exact rdk hr28 hg35 (by omega)
          · show x.1.set i _ = _
            rw [hx]
            have e2 : l2.take (i + 1) ++ List.replicate (32 - (i + 1)) 0 = (l2.take i ++ List.replicate (32 - i) 0).set i c := by
              rw [List.set_append_right _ _ (by rw [List.length_take]; omega), List.length_take, Nat.min_eq_left (by omega), Nat.sub_self, show 32 - i = (32 - (i + 1)) + 1 from by omega, List.replicate_succ, List.set_cons_zero, List.take_add_one, hc, List.append_assoc]
              rfl
            rw [e2]
            simp only [u8s, List.map_set]
            rfl
          · exact (hg35.block a1 (Array.getElem?_eq_some_iff.1 h128).1 (by simp; omega)).trans h128
        · have h0 : l2.drop i = [] := by rw [List.drop_eq_nil_iff]; omega
          rw [h0] at hr28 ⊢
          refine bT rfl ?_
          exact fail w28 [] hg28' h128 hr28 (by rw [ht, if_pos (by omega)]) fun u' hu => hu
      obtain rfl : i = 32 := by omega
      rw [if_neg (by omega)] at ht
      refine (Reader_Text_ok (most := 256) hr24).mono ?_
      rintro ⟨x36, e36, ⟨⟩⟩ w37 ⟨he, h36, hr37, hg37⟩
      dsimp only at he h36
      dsimp -zeta only
      obtain ⟨rfl, _⟩ := Prod.mk.inj he
      generalize rdText (l2.drop 32) 256 = tx at *
      have hg37' := hg24.trans hg37
      have hb37 := stp hg24 hg37 (by omega) hb24
      have h137 := stp hg24 hg37 (by omega) h124
      have ha3l := (Array.getElem?_eq_some_iff.1 hb24).1
      have ha1l := (Array.getElem?_eq_some_iff.1 h124).1
      have hw24 := hg24.size
      rw [addOff]
      refine st0 hb37 (by simp [rcL_length]) fun w38 hb38 hg38 hs38 => ?_
      rw [Nat.zero_add, rcSet34] at hb38
      have hg38' := grown_new hg37' hg38 (by omega)
      have h138 := (hg38.block a1 (Array.getElem?_eq_some_iff.1 h137).1 (by simp; omega)).trans h137
      have hr38 := rdk hr37 hg38 (by omega)
      have h36' : OwB w38 w.heap.size t_uint8 x36 tx.1 := (h36.mono hw24).kp (kp_grown hg38) fun ad had => by have := (h36.own ad had).1; omega
      have h36n := h36'.len
      intro j2
      have hj2 : ∀ (y : Bool) (u : World), Fr w38 u → (y = true ↔ (tx.2.1 ≠ 0 ∨ chkS k.1 s.1 tx.1.length ≠ 0)) → j2 y u := by
        intro y u hfu hy
        have hgu := grown_fr hg38' hfu
        show bif y then _ else _
        cases y with
        | true =>
          refine bT rfl ?_
          exact fail u _ hgu (hfu.heap h138) (hr38.fr hfu) (by rw [ht, if_pos (hy.1 rfl)]) fun u' hu => hu
        | false =>
          refine bF rfl ?_
          have hno2 : ¬(tx.2.1 ≠ 0 ∨ chkS k.1 s.1 tx.1.length ≠ 0) := fun h => by have := hy.2 h; cases this
          rw [if_neg hno2] at ht
          refine ldRec (pre := []) (post := []) (hfu.heap hb38) ?_
          refine finRec (hfu.heap h138) _ (by dsimp only; rw [hx]; exact u8s_one _) fun u' hg' hs' => ⟨grown_new hgu hg' (by omega), ?_⟩
          rw [ht]
          have hx32 : x.1 = u8s (l2.take 32) := by rw [hx]; simp
          refine ⟨rfl, rfl, rfl, hx32, ?_, ?_⟩
          · exact (h36'.fr hfu).kp (kp_grown hg') fun ad had => by have := (h36.own ad had).1; omega
          · exact rdk (hr38.fr hfu) hg' (by omega)
      clear_value j2
      refine bNe ?_ ?_ <;> intro he0
      · exact hj2 true w38 (Fr.refl _) ⟨fun _ => .inl (by omega), fun _ => rfl⟩
      · refine ldRec (pre := []) (post := []) hb38 ?_
        refine (Check_ok (p := ((k.1 : Int), (s.1 : Int), x, x36, ()))).mono ?_
        rintro _ w41 ⟨rfl, hf41⟩
        refine hj2 _ w41 hf41 ?_
        dsimp only
        rw [h36n, bne_iff_ne]
        exact ⟨fun h => .inr h, fun h => h.resolve_left (by omega)⟩
  clear_value j1
  refine bNe ?_ ?_ <;> intro h0
  · exact hj true ⟨fun _ => .inl (by rw [hk] at h0; omega), fun _ => rfl⟩
  · refine hj _ ?_
    rw [hk, hs, bne_iff_ne]
    rw [hk] at h0
    exact ⟨fun h => .inr (by omega), fun h => by have := h.resolve_left (by omega); omega⟩
end Go.Proofs.YtkojpppnjloikaaDoor
namespace Go.Proofs.YtkojpppnjloikaaDoor
open Go.RowKit Go.Fl

theorem rc0_sum' : rc0.2.2.1.1 = u8s (List.replicate 32 0) := by simp [rc0, zrow, u8s]
def nt0 : NtT := (0, 0, 0, 0, 0, rc0, ())
/-- A note is put into the results' block, and read there. -/
theorem finNote {w : World} {g : Nat} {q : NtT} {t : TypeId} (hg : w.heap[g]? = some (.cells (ntL q).toArray t (0, 0))) (p : NtT) (hone : ∀ v ∈ p.2.2.2.2.2.1.2.2.1.1, v.oneCell' = true) {K : NtT → World → Prop}
    (hk : ∀ w', w.grownBy w' (some g) → w'.heap.size = w.heap.size → K p w') :
    st1 w ⟨g, 0, none⟩ (.int .i64 p.1) fun w1 => st1 w1 ((⟨g, 0, none⟩ : Addr).add 1) (.int .i64 p.2.1) fun w2 => st1 w2 (((⟨g, 0, none⟩ : Addr).add 1).add 1) (.int .i64 p.2.2.1) fun w3 => st1 w3 ((((⟨g, 0, none⟩ : Addr).add 1).add 1).add 1) (.int .i64 p.2.2.2.1) fun w4 => st1 w4 (((((⟨g, 0, none⟩ : Addr).add 1).add 1).add 1).add 1) (.int .i64 p.2.2.2.2.1) fun w5 =>
      st1 w5 ((((((⟨g, 0, none⟩ : Addr).add 1).add 1).add 1).add 1).add 1) (.int .i64 p.2.2.2.2.2.1.1) fun w6 => st1 w6 (((((((⟨g, 0, none⟩ : Addr).add 1).add 1).add 1).add 1).add 1).add 1) (.int .i64 p.2.2.2.2.2.1.2.1) fun w7 => stL ((((((((⟨g, 0, none⟩ : Addr).add 1).add 1).add 1).add 1).add 1).add 1).add 1) w7 0 p.2.2.2.2.2.1.2.2.1.1 fun w8 => st1 w8 (((((((((⟨g, 0, none⟩ : Addr).add 1).add 1).add 1).add 1).add 1).add 1).add 1).add 32) (.slice p.2.2.2.2.2.1.2.2.2.1.a p.2.2.2.2.2.1.2.2.2.1.n p.2.2.2.2.2.1.2.2.2.1.c) fun w9 => ld ntK w9 ⟨g, 0, none⟩ fun r => K r w9 :=
  stNote hg p hone fun w' hb' hg' hs' => ldNote hb' (hk w' hg' hs')
/-- What a note that was read is. -/
def GetP (w : World) (own : Nat) (r : NtT × Int × Unit) : Option PN → Prop
  | some n => r.2 = (0, ()) ∧ pnOf r.1 n.d n.l = n ∧ r.1.2.2.2.2.2.1.2.2.1.1 = u8s n.d ∧ OwB w own t_uint8 r.1.2.2.2.2.2.1.2.2.2.1 n.l
  | none => r = (nt0, 100, ())
theorem Get_ok {s : Sl} {b : List UInt8} {w : World} (hs : Bs w s b) (hl : b.length ≤ 1099511627776) :
    cl Tryd.prog n_record_Get #[.slice s.a s.n s.c] (.tup (.pair ntK (.pair (.I .i64) .nil))) w fun (r : NtT × Int × Unit) w' => GetP w' w.heap.size r (getS b) ∧ Fr w w' := by
  refine record_Get.cl ?_
  unfold record_Get
  refine nwI fun a1 w2 ha1 hs2 hf2 hb1 _ => ?_
  have hb1 : w2.heap[a1]? = some (.cells (ntL nt0).toArray t_api_Note (0, 0)) := hb1
  refine (Read_ok (hs.fr hf2) hl).mono ?_
  rintro _ w4 ⟨g, rfl, hgg, hr4, hf4⟩
  refine nwI fun a5 w6 ha5 hs6 hf6 hb5 _ => ?_
  have hb5 : w6.heap[a5]? = some (.cells (ntL nt0).toArray t_api_Note (0, 0)) := hb5
  have hgl := hr4.lt
  have hf6' := (hf2.trans hf4).trans hf6
  have hb16 := (hf4.trans hf6).heap hb1
  have hr6 := hr4.fr hf6
  have la1 := (Array.getElem?_eq_some_iff.1 hb1).1
  -- the reader, the note, the result: each stays while another one is written
  have rdk : ∀ {u u' : World} {m : Nat} {l : List UInt8}, Rdr u w2.heap.size g l → u.grownBy u' (some m) → (m < w2.heap.size ∨ g < m) → Rdr u' w2.heap.size g l := fun {u u' m l} hr hk hm => hr.kp (kp_grown hk) (fun k _ hk => by omega) hgg
  have stp : ∀ {u u' : World} {m j : Nat} {o : Obj}, u.grownBy u' (some j) → j ≠ m → u.heap[m]? = some o → u'.heap[m]? = some o := fun {u u' m j o} hk hm ho => (hk.block m (Array.getElem?_eq_some_iff.1 ho).1 (by simp; omega)).trans ho
  have frg : ∀ {u u' : World} {m : Nat}, Fr w u → u.grownBy u' (some m) → w.heap.size ≤ m → Fr w u' := fun {u u' m} hf hk hm => hf.on (grown_below hk hm hf.size)
  have hz2 := hf2.size
  refine (Reader_Number_ok hr6).mono ?_
  rintro _ w8 ⟨rfl, hr8, hg8⟩
  dsimp -zeta only
  have hf8 := frg hf6' hg8 (by omega)
  have hb58 := stp hg8 (by omega) hb5
  have hb18 := stp hg8 (by omega) hb16
  refine st0 hb58 (by simp [ntL]) fun w9 hb9 hg9 hs9 => ?_
  have hf9 := frg hf8 hg9 (by omega)
  have hr9 := rdk hr8 hg9 (by omega)
  have hb19 := stp hg9 (by omega) hb18
  obtain ⟨k, hk⟩ : ∃ k, lookS b = k := ⟨_, rfl⟩
  have hc : candS b = _ := candS.eq_1 b
  rw [hk] at hb9 hr9 hc ⊢
  have hb9 : w9.heap[a5]? = some (.cells (ntL (numT (k.1 : Int) [] rc0)).toArray t_api_Note (0, 0)) := by
    rw [hb9]
    have e : ∀ o, atS (k.1 : Int) [] o = 0 := fun o => by unfold atS; split <;> simp
    simp [numT, e, ntL, nt0]
  have h0k : (ntL (numT (k.1 : Int) [] rc0)).toArray[0]? = some (.int .i64 k.1) := rfl
  refine (fields_ok hb9 h0k).mono ?_
  rintro x10 w11 ⟨hp10, hf11⟩
  have hf11' := hf9.trans hf11
  have hr11 := hr9.fr hf11
  have hb511 := hf11.heap hb9
  have hb111 := hf11.heap hb19
  have hn10 := hp10.1
  generalize hl1 : b.drop k.2.1 = l1 at *
  have hol := offs_len (k.1 : Int)
  have la5 := (Array.getElem?_eq_some_iff.1 hb9).1
  have hgc := getS_cand b
  refine lpI (fun s' w' => Fr w w' ∧ ∃ (i : Nat) (l' : List UInt8) (q : NtT), i ≤ (offs (k.1 : Int)).length ∧ s'.2.1 = i ∧ Pts w' w9.heap.size a5 (offs (k.1 : Int)) x10 ∧ w'.heap[a1]? = some (.cells (ntL nt0).toArray t_api_Note (0, 0)) ∧ Rdr w' w2.heap.size g l' ∧ w'.heap[a5]? = some (.cells (ntL q).toArray t_api_Note (0, 0)) ∧ q.1 = k.1 ∧
      ((s'.1 = 0 ∧ k.2.2 = 0 ∧ ∃ ns, numsS i l1 = some (ns, l') ∧ q = numT k.1 ns rc0) ∨ (s'.1 ≠ 0 ∧ candS b = none ∧ ∃ ns, ns.length = i ∧ q = numT k.1 ns rc0))) (fun s' _ => (x10.n - s'.2.1).toNat)
    ⟨hf11', 0, l1, _, Nat.zero_le _, rfl, hp10, hb111, hr11, hb511, rfl, ?_⟩ ?_
  · by_cases h0 : k.2.2 = 0
    · exact .inl ⟨by show (k.2.2 : Int) = 0; omega, h0, [], rfl, rfl⟩
    · exact .inr ⟨by show (k.2.2 : Int) ≠ 0; omega, by rw [hc, if_pos h0], [], rfl, rfl⟩
  rintro _ ⟨e, i', ⟨⟩⟩ w13 ⟨hf13, i, l', q, hi, rfl, hp13, hb113, hr13, hb513, hq1, hcase⟩
  dsimp -zeta only
  refine bD ?_ ?_ <;> intro hlt
  · have hio : i < (offs (k.1 : Int)).length := by omega
    refine hp13.ix hio ?_
    refine (Reader_Number_ok hr13).mono ?_
    rintro _ w19 ⟨rfl, hr19, hg19⟩
    dsimp only
    have hm := offs_mem (List.getElem_mem hio)
    have hf19 := frg hf13 hg19 (by omega)
    have hb519 := stp hg19 (by omega) hb513
    have hb119 := stp hg19 (by omega) hb113
    have hp19 := hp13.kp hg19 (by omega)
    -- the number is written
    have wr : ∀ (ns : List Int) (v : Int) {K : World → Prop}, ns.length = i → q = numT k.1 ns rc0 → (∀ u, Fr w u → Pts u w9.heap.size a5 (offs (k.1 : Int)) x10 → u.heap[a1]? = some (.cells (ntL nt0).toArray t_api_Note (0, 0)) → Rdr u w2.heap.size g (l'.drop (lookS l').2.1) → u.heap[a5]? = some (.cells (ntL (numT k.1 (ns ++ [v]) rc0)).toArray t_api_Note (0, 0)) → K u) →
        nz (some ⟨a5, (offs (k.1 : Int))[i], none⟩) fun a => st1 w19 a (.int .i64 v) K := by
      intro ns v K hns hq hK
      refine nzS ?_
      refine st0 hb519 (by rw [List.size_toArray, ntL_length]; omega) fun u hbu hgu hsu => hK u (frg hf19 hgu (by omega)) (hp19.kp hgu (by omega)) (stp hgu (by omega) hb119) (rdk hr19 hgu (by omega)) ?_
      subst hns
      rw [hbu, hq, numT_set hio]
    rcases hcase with ⟨he, hk0, ns, hns, hq⟩ | ⟨he, hcn, ns, hns, hq⟩
    · have hnl := (numsS_back hns).1
      have hsn := numsS_snoc hns
      refine bNe ?_ ?_ <;> intro hx
      · rw [if_pos (by omega)] at hsn
        refine wr ns _ hnl hq fun u hfu hpu h1u hru h5u => ?_
        rw [i64w (by omega) (by omega)]
        refine ⟨⟨hfu, i + 1, _, _, by omega, by omega, hpu, h1u, hru, h5u, rfl, .inr ⟨hx, ?_, _, by simp [hnl], rfl⟩⟩, by omega⟩
        rw [hc, if_neg (by omega), numsS_none _ hsn (by omega)]
      · rw [if_neg (by omega)] at hsn
        refine wr ns _ hnl hq fun u hfu hpu h1u hru h5u => ?_
        rw [i64w (by omega) (by omega)]
        exact ⟨⟨hfu, i + 1, _, _, by omega, by omega, hpu, h1u, hru, h5u, rfl, .inl ⟨he, hk0, _, hsn, rfl⟩⟩, by omega⟩
    · refine bNe ?_ ?_ <;> intro hx
      · refine wr ns _ hns hq fun u hfu hpu h1u hru h5u => ?_
        rw [i64w (by omega) (by omega)]
        exact ⟨⟨hfu, i + 1, _, _, by omega, by omega, hpu, h1u, hru, h5u, rfl, .inr ⟨hx, hcn, _, by simp [hns], rfl⟩⟩, by omega⟩
      · refine wr ns _ hns hq fun u hfu hpu h1u hru h5u => ?_
        rw [i64w (by omega) (by omega)]
        exact ⟨⟨hfu, i + 1, _, _, by omega, by omega, hpu, h1u, hru, h5u, rfl, .inr ⟨he, hcn, _, by simp [hns], rfl⟩⟩, by omega⟩
  have hie : i = (offs (k.1 : Int)).length := by omega
  subst hie
  intro j3
  have hone0 : ∀ v ∈ nt0.2.2.2.2.2.1.2.2.1.1, v.oneCell' = true := rc0_one
  have hj3 : ∀ (y : Int) (u : World) (q : NtT), Fr w u → u.heap[a1]? = some (.cells (ntL nt0).toArray t_api_Note (0, 0)) → u.heap[a5]? = some (.cells (ntL q).toArray t_api_Note (0, 0)) →
      ((y ≠ 0 ∧ candS b = none) ∨ (y = 0 ∧ ∃ n r3, candS b = some (n, r3) ∧ Rdr u w2.heap.size g r3 ∧ pnOf q n.d n.l = n ∧ q.2.2.2.2.2.1.2.2.1.1 = u8s n.d ∧ OwB u w.heap.size t_uint8 q.2.2.2.2.2.1.2.2.2.1 n.l ∧ ∀ ad, q.2.2.2.2.2.1.2.2.2.1.a = some ad → ad.block ≠ a1)) → j3 y u := by
    intro y u q hfu h1 h5 hcase
    unfold j3
    intro j4
    have bad : ∀ {u : World}, Fr w u → u.heap[a1]? = some (.cells (ntL nt0).toArray t_api_Note (0, 0)) → getS b = none → j4 true u := by
      intro u hfu h1 hgn
      refine bT rfl ?_
      refine finNote h1 nt0 hone0 fun w' hg' hs' => ⟨?_, frg hfu hg' (by omega)⟩
      rw [hgn]
      exact rfl
    rcases hcase with ⟨hy, hcn⟩ | ⟨hy, n, r3, hcs, hru, hpn, hsum, hown, hna⟩
    · refine bT (by simpa using hy) ?_
      exact bad hfu h1 (by rw [hgc, hcn])
    · refine bF (by simpa using hy) ?_
      rw [hcs] at hgc
      dsimp only at hgc
      refine (End_ok hru).mono ?_
      rintro _ _ ⟨rfl, rfl⟩
      by_cases hr3 : r3 = []
      · refine bF (by rw [if_pos hr3]; rfl) ?_
        refine ldNote h5 ?_
        refine (Fits_ok hsum).mono ?_
        rintro _ w83 ⟨rfl, hf83⟩
        have hfe : FitP q n.d ↔ n.fit := by rw [pnOf_fit (l := n.l) hown.len, hpn]
        by_cases hfit : n.fit
        · rw [fitS, if_pos (hfe.2 hfit)]
          rw [if_pos ⟨hr3, hfit⟩] at hgc
          show bif false then _ else _
          refine bF rfl ?_
          refine ldNote (hf83.heap h5) ?_
          refine finNote (hf83.heap h1) q (by rw [hsum]; exact u8s_one _) fun w' hg' hs' => ⟨?_, frg (hfu.trans hf83) hg' (by omega)⟩
          rw [hgc]
          exact ⟨rfl, hpn, hsum, (hown.fr hf83).kp (kp_grown hg') hna⟩
        · rw [fitS, if_neg fun h => hfit (hfe.1 h)]
          exact bad (hfu.trans hf83) (hf83.heap h1) (by rw [hgc, if_neg fun h => hfit h.2])
      · refine bT (by rw [if_neg hr3]; rfl) ?_
        exact bad hfu h1 (by rw [hgc, if_neg fun h => hr3 h.1])
  clear_value j3
  intro j1
  have hnil : ∀ ad, (rc0.2.2.2.1).a = some ad → ad.block ≠ a1 := fun ad had => by cases had
  rcases hcase with ⟨he, hk0, ns, hns, hq⟩ | ⟨he, hcn, ns, hns, hq⟩
  · rw [if_neg (by omega), hns] at hc
    dsimp only at hc
    subst hq
    refine bT (by simpa using he) ?_
    refine ldI0 hb513 (show (ntL (numT (k.1 : Int) ns rc0)).toArray[0]? = some (.int .i64 k.1) from rfl) ?_
    by_cases h2 : (k.1 : Int) = 2
    · rw [if_pos h2] at hc
      have e2 : ((k.1 : Int) == 2) = true := by simpa using h2
      rw [e2]
      refine bT rfl ?_
      refine (take_ok hr13 hgg).mono ?_
      rintro ⟨p, e33, ⟨⟩⟩ w34 ⟨hg34, ht34⟩
      have hf34 := frg hf13 hg34 (by omega)
      have hb134 := stp hg34 (by omega) hb113
      have hb534 := stp hg34 (by omega) hb513
      have la513 := (Array.getElem?_eq_some_iff.1 hb513).1
      have la113 := (Array.getElem?_eq_some_iff.1 hb113).1
      rw [addOff]
      have put : ∀ (hone : ∀ v ∈ p.2.2.1.1, v.oneCell' = true) {K : World → Prop}, (∀ u, Fr w u → w34.grownBy u (some a5) → u.heap[a1]? = some (.cells (ntL nt0).toArray t_api_Note (0, 0)) → u.heap[a5]? = some (.cells (ntL (numT k.1 ns p)).toArray t_api_Note (0, 0)) → K u) →
          st1 w34 ⟨a5, 0 + 5, none⟩ (.int .i64 p.1) fun w35 => st1 w35 ((⟨a5, 0 + 5, none⟩ : Addr).add 1) (.int .i64 p.2.1) fun w36 => stL (((⟨a5, 0 + 5, none⟩ : Addr).add 1).add 1) w36 0 p.2.2.1.1 fun w37 => st1 w37 ((((⟨a5, 0 + 5, none⟩ : Addr).add 1).add 1).add 32) (.slice p.2.2.2.1.a p.2.2.2.1.n p.2.2.2.1.c) K := by
        intro hone K hK
        refine stRec (pre := n5 (numT k.1 ns rc0)) (post := []) (q := rc0) hb534 p hone fun u hbu hgu hsu => hK u (frg hf34 hgu (by omega)) hgu (stp hgu (by omega) hb134) hbu
      cases htk : takeS l' with
      | none =>
        rw [htk] at ht34 hc
        obtain ⟨he33, l3, hr34⟩ := ht34
        dsimp only at hc
        obtain ⟨rfl, hq33⟩ := Prod.mk.inj he33
        have hx33 := (Prod.mk.inj hq33).1
        exact put rc0_one fun u hfu hgu h1u h5u => hj3 _ u _ hfu h1u h5u (.inl ⟨by show e33 ≠ 0; rw [hx33]; decide, hc⟩)
      | some xx =>
        obtain ⟨x, r3⟩ := xx
        rw [htk] at ht34 hc
        obtain ⟨he33, t1, t2, t3, t4, t5⟩ := ht34
        dsimp only at hc he33 t1 t2 t3 t4
        refine put (by rw [t3]; exact u8s_one _) fun u hfu hgu h1u h5u => hj3 _ u _ hfu h1u h5u (.inr ⟨(Prod.mk.inj he33).1, _, r3, hc, rdk t5 hgu (by omega), ?_, t3, ?_, ?_⟩)
        · simp only [pnOf, numT, mkPN, t1, t2]
        · exact (t4.mono hf13.size).kp (kp_grown hgu) fun ad had => by have := (t4.own ad had).1; omega
        · exact fun ad had => by have := (t4.own ad had).1; omega
    · rw [if_neg h2] at hc
      have e2 : ((k.1 : Int) == 2) = false := by simpa using h2
      rw [e2]
      refine bF rfl ?_
      refine hj3 _ w13 _ hf13 hb113 hb513 (.inr ⟨he, _, l', hc, hr13, ?_, rc0_sum', OwB.nil _ _ _, hnil⟩)
      rfl
  · refine bF (by simpa using he) ?_
    refine bF rfl ?_
    exact hj3 _ w13 _ hf13 hb113 hb513 (.inl ⟨he, hcn⟩)
end Go.Proofs.YtkojpppnjloikaaDoor
namespace Go.Proofs.YtkojpppnjloikaaDoor
open Go.RowKit Go.Fl

/-- The reference reader over bytes, i of them read. -/
def RR (w : World) (g : Nat) (s : Sl) (B : List UInt8) (i : Nat) : Prop :=
  w.heap[g]? = some (.cells #[.slice s.a s.n s.c, .int .i64 (i : Int)] t_flumeref02_Reader (0, 0)) ∧ Bs w s B ∧ (B ≠ [] → ∀ ad, s.a = some ad → ad.block < g) ∧ i ≤ B.length ∧ B.length ≤ 1099511627776
theorem RR.fr {w w' : World} {g : Nat} {s : Sl} {B : List UInt8} {i : Nat} (h : RR w g s B i) (hf : Fr w w') : RR w' g s B i := ⟨hf.heap h.1, h.2.1.fr hf, h.2.2⟩
theorem RR.kp {S : Nat → Prop} {w w' : World} {g : Nat} {s : Sl} {B : List UInt8} {i : Nat} (h : RR w g s B i) (hk : Kp S w w') (hg : S g) (hS : B ≠ [] → ∀ ad, s.a = some ad → S ad.block) : RR w' g s B i :=
  ⟨(hk g (Array.getElem?_eq_some_iff.1 h.1).1 hg).trans h.1, h.2.1.kpn hk hS, h.2.2⟩
theorem RR.lt {w : World} {g : Nat} {s : Sl} {B : List UInt8} {i : Nat} (h : RR w g s B i) : g < w.heap.size := (Array.getElem?_eq_some_iff.1 h.1).1

section
variable {w : World} {g : Nat} {s : Sl} {B : List UInt8} {i : Nat}
theorem RR.look (h : RR w g s B i) {K : Int × Int × Int × Unit → World → Prop}
    (hk : ∀ w', Fr w w' → RR w' g s B i → K (((lookS (B.drop i)).1 : Int), ((lookS (B.drop i)).2.1 : Int), ((lookS (B.drop i)).2.2 : Int), ()) w') :
    dr w fun w1 => nz (some ⟨g, 0, none⟩) fun a2 => ld .L w1 a2 fun (x3 : Sl) => nz (some ⟨g, 0, none⟩) fun a4 => ld (.I .i64) w1 (a4.add 1) fun (x5 : Int) => sls x3 x5 x3.n 1 fun r6 =>
      cl Tryd.prog n_flumeref02_Look #[.slice r6.a r6.n r6.c] (.tup (.pair (.I .i64) (.pair (.I .i64) (.pair (.I .i64) .nil)))) w1 fun (x7 : (Int × (Int × (Int × Unit)))) w8 => K x7 w8 := by
  intro n
  have h1 := h.fr (Fr.drewN w n)
  have hfn := Fr.drewN w n
  generalize w.drewN n = w1 at *
  obtain ⟨hb, hs, hne, hi, hl⟩ := h1
  have hn := hs.len
  show ld .L w1 ⟨g, 0, none⟩ _
  refine ldL0 hb rfl ?_
  show ld (.I .i64) w1 ⟨g, 1, none⟩ _
  refine ldI0 hb rfl ?_
  refine slsB hs (by omega) (by omega) (by omega) fun r hr _ _ => ?_
  rw [Int.toNat_natCast, Int.toNat_natCast, List.take_of_length_le (by omega)] at hr
  refine (ref_Look_ok hr (by simp; omega)).mono ?_
  rintro _ w8 ⟨rfl, hf⟩
  exact hk w8 (hfn.trans hf) (RR.fr ⟨hb, hs, hne, hi, hl⟩ hf)

theorem RR.put (h : RR w g s B i) {v : Value} {j : Nat} (hv : v = .int .i64 (j : Int)) (hj : j ≤ B.length) {K : World → Prop} (hk : ∀ w', RR w' g s B j → w.grownBy w' (some g) → K w') : st1 w ⟨g, 1, none⟩ v K := by
  obtain ⟨hb, hs, hne, hi, hl⟩ := h
  subst hv
  exact st0 hb (by simp) fun w' hb' hg _ => hk w' ⟨hb', hs.kpn (kp_grown hg) fun hB ad ha => Nat.ne_of_lt (hne hB ad ha), hne, hj, hl⟩ hg
theorem RR.put2 (h : RR w g s B i) {v : Value} {j : Nat} (hv : v = .int .i64 (j : Int)) (hj : j ≤ B.length) {K : World → Prop} (hk : ∀ w', RR w' g s B j → w.grownBy w' (some g) → K w') : nz (some ⟨g, 0, none⟩) fun a => st1 w (a.add 1) v K := h.put hv hj hk
theorem RR.step (h : RR w g s B i) {k : Nat} {kk : Int} (hkk : kk = k) (hk : i + k ≤ B.length) {K : World → Prop} (hK : ∀ w', RR w' g s B (i + k) → w.grownBy w' (some g) → K w') :
    nz (some ⟨g, 0, none⟩) fun a9 => ld (.I .i64) w (a9.add 1) fun (x10 : Int) => nz (some ⟨g, 0, none⟩) fun a11 => st1 w (a11.add 1) (.int .i64 (IntKind.i64.wrap (x10 + kk))) fun w12 => K w12 := by
  have hb := h.1
  have hl := h.2.2.2.2
  subst hkk
  show ld (.I .i64) w ⟨g, 1, none⟩ _
  refine ldI0 hb rfl ?_
  show st1 w ⟨g, 1, none⟩ _ _
  rw [i64w (by omega) (by omega)]
  exact h.put (by simp) hk hK

theorem drop_look_le (B : List UInt8) {i : Nat} (hi : i ≤ B.length) : i + (lookS (B.drop i)).2.1 ≤ B.length := by
  have := lookS_le (B.drop i)
  rw [List.length_drop] at this
  omega

theorem ref_Number_rd (h : RR w g s B i) : cl Tryd.prog n_flumeref02_Reader_Number #[.pointer (some ⟨g, 0, none⟩)] (.tup (.pair (.I .i64) (.pair (.I .i64) .nil))) w
    fun (r : Int × Int × Unit) w' => r = (((lookS (B.drop i)).1 : Int), ((lookS (B.drop i)).2.2 : Int), ()) ∧ RR w' g s B (i + (lookS (B.drop i)).2.1) ∧ w.grownBy w' (some g) := by
  have hle := drop_look_le B h.2.2.2.1
  refine flumeref02_Reader_Number.cl ?_
  unfold flumeref02_Reader_Number
  refine h.look fun w8 hf h8 => ?_
  exact h8.step rfl hle fun w' h' hg => ⟨rfl, h', World.grownBy.trans (fr_grown hf) hg⟩

theorem ref_Byte_rd (h : RR w g s B i) : cl Tryd.prog n_flumeref02_Reader_Byte #[.pointer (some ⟨g, 0, none⟩)] (.tup (.pair (.I .u8) (.pair (.I .i64) .nil))) w
    fun (r : Int × Int × Unit) w' => r = (((rdByte (B.drop i)).1 : Int), ((rdByte (B.drop i)).2.1 : Int), ()) ∧ RR w' g s B (i + (rdByte (B.drop i)).2.2) ∧ w.grownBy w' (some g) := by
  have h' := h
  obtain ⟨hb, hs, hne, hi, hl⟩ := h
  have hn := hs.len
  refine flumeref02_Reader_Byte.cl ?_
  unfold flumeref02_Reader_Byte
  show ld (.I .i64) w ⟨g, 1, none⟩ _
  refine ldI0 hb rfl ?_
  show ld .L w ⟨g, 0, none⟩ _
  refine ldL0 hb rfl ?_
  intro n
  have hfn := Fr.drewN w n
  have h1 := h'.fr hfn
  generalize w.drewN n = w1 at *
  refine bE ?_ ?_ <;> intro he
  · rw [List.drop_eq_nil_of_le (by omega)]
    exact ⟨rfl, h1, fr_grown hfn⟩
  · have hlt : i < B.length := by omega
    have hd : B.drop i = B[i] :: B.drop (i + 1) := List.drop_eq_getElem_cons hlt
    show ld (.I .i64) w1 ⟨g, 1, none⟩ _
    refine ldI0 h1.1 rfl ?_
    refine h1.put2 (j := i + 1) (by rw [i64w (by omega) (by omega)]; simp) hlt fun w9 h9 hg9 => ?_
    show ld .L w9 ⟨g, 0, none⟩ _
    refine ldL0 h9.1 rfl ?_
    show ld (.I .i64) w9 ⟨g, 1, none⟩ _
    refine ldI0 h9.1 rfl ?_
    rw [i64w (by omega) (by omega)]
    have e : (((i + 1 : Nat) : Int) - 1).toNat = i := by omega
    refine ixB h9.2.1.rd h9.2.1.len (by omega) (by omega) (Fr.refl _) ?_
    intro n
    have hfm := Fr.drewN w9 n
    rw [hd]
    simp only [e]
    exact ⟨rfl, h9.fr hfm, World.grownBy.trans (World.grownBy.trans (fr_grown hfn) hg9) (fr_grown hfm)⟩

theorem ref_Text_rd (h : RR w g s B i) {most : Int} : cl Tryd.prog n_flumeref02_Reader_Text #[.pointer (some ⟨g, 0, none⟩), .int .i64 most] (.tup (.pair .L (.pair (.I .i64) .nil))) w
    fun (r : Sl × Int × Unit) w' => r.2 = (((rdText (B.drop i) most).2.1 : Int), ()) ∧ OwB w' w.heap.size t_uint8 r.1 (rdText (B.drop i) most).1 ∧ RR w' g s B (i + (rdText (B.drop i) most).2.2) ∧ w.grownBy w' (some g) := by
  have hle := drop_look_le B h.2.2.2.1
  have hl := h.2.2.2.2
  have hi := h.2.2.2.1
  have hn := h.2.1.len
  have hglt := h.lt
  refine flumeref02_Reader_Text.cl ?_
  unfold flumeref02_Reader_Text
  refine h.look fun w8 hf h8 => ?_
  dsimp -zeta only
  have hll : (B.drop i).length = B.length - i := List.length_drop
  have hX : (lookS (B.drop i)).2.2 = 0 → (lookS (B.drop i)).1 ≤ 9223372036854775807 := fun h0 => by
    obtain ⟨n, k, e, hnk⟩ : ∃ n k e, lookS (B.drop i) = (n, k, e) := ⟨_, _, _, rfl⟩
    rw [hnk] at h0 ⊢
    dsimp only at h0 ⊢
    subst h0
    exact (look_back hnk).2.2.2
  unfold rdText
  refine bNe ?_ ?_ <;> intro he
  · rw [if_pos (by omega)]
    exact ⟨rfl, OwB.nil _ _ _, h8, fr_grown hf⟩
  · have hX := hX (by omega)
    rw [if_neg (by omega)]
    have hd : ((B.drop i).drop (lookS (B.drop i)).2.1).take (lookS (B.drop i)).1 = (B.drop (i + (lookS (B.drop i)).2.1)).take (lookS (B.drop i)).1 := by rw [List.drop_drop]
    rw [hd, hll]
    generalize (lookS (B.drop i)).2.1 = k at *
    generalize (lookS (B.drop i)).1 = n at *
    intro j1
    have hj : ∀ w', Fr w w' → RR w' g s B i → ¬((n : Int) > max most 0) → j1 w' := by
      intro w30 f30 h30 hmost
      show nz _ _
      rw [if_neg hmost]
      show ld .L w30 ⟨g, 0, none⟩ _
      refine ldL0 h30.1 rfl ?_
      show ld (.I .i64) w30 ⟨g, 1, none⟩ _
      refine ldI0 h30.1 rfl ?_
      intro m
      have hf35 := f30.trans (Fr.drewN w30 m)
      have h35 := h30.fr (Fr.drewN w30 m)
      generalize w30.drewN m = w35 at *
      rw [i64w (n := (s.n : Int) - i) (by omega) (by omega), i64w (n := (s.n : Int) - i - k) (by omega) (by omega)]
      refine bD ?_ ?_ <;> intro hc
      · rw [if_pos (by omega)]
        exact ⟨rfl, OwB.nil _ _ _, h35, fr_grown hf35⟩
      · rw [if_neg (by omega), i64w (n := (k : Int) + n) (by omega) (by omega)]
        refine h35.step (k := k + n) (by omega) (by omega) fun w39 h39 hg39 => ?_
        intro m2
        have hg40 := World.grownBy.trans (World.grownBy.trans (fr_grown hf35) hg39) (fr_grown (Fr.drewN w39 m2))
        have h40 := h39.fr (Fr.drewN w39 m2)
        generalize w39.drewN m2 = w40 at *
        show ld .L w40 ⟨g, 0, none⟩ _
        refine ldL0 h40.1 rfl ?_
        show ld (.I .i64) w40 ⟨g, 1, none⟩ _
        refine ldI0 h40.1 rfl ?_
        show ld (.I .i64) w40 ⟨g, 1, none⟩ _
        refine ldI0 h40.1 rfl ?_
        rw [i64w (by omega) (by omega)]
        refine slsB h40.2.1 (by omega) (by omega) (by omega) fun r47 h47 _ _ => ?_
        rw [show (((i + (k + n) : Nat) : Int) - n).toNat = i + k from by omega, Int.toNat_natCast] at h47
        have ht : (B.take (i + (k + n))).drop (i + k) = (B.drop (i + k)).take n := by rw [List.drop_take]; congr 1; omega
        rw [ht] at h47
        refine nwI fun b w49 hb hsz hf49 hblk _ => ⟨hf49, ?_⟩
        have hs40 := hg40.size
        refine app0B slB (base := w.heap.size) hblk (by omega) (h47.fr hf49) (by simp; omega) (by omega) fun r w51 ho hf51 => ⟨rfl, ho, ?_, ?_⟩
        · exact h40.fr (hf49.trans hf51)
        · exact World.grownBy.trans hg40 (fr_grown (hf49.trans hf51))
    refine bD ?_ ?_ <;> intro h1
    · refine bD ?_ ?_ <;> intro h2
      · rw [if_pos (by omega)]
        exact ⟨rfl, OwB.nil _ _ _, h8, fr_grown hf⟩
      · exact hj _ hf h8 (by omega)
    · exact hj _ hf h8 (by omega)
end
end Go.Proofs.YtkojpppnjloikaaDoor
namespace Go.Proofs.YtkojpppnjloikaaDoor
open Go.RowKit Go.Fl

theorem refFits_ok {p : NtT} {d : List UInt8} {w : World} (hp : p.2.2.2.2.2.1.2.2.1.1 = u8s d) : cl Tryd.prog n_flumeref10_Fits #[ntV p] (.I .i64) w fun (r : Int) w' => r = fitS p d ∧ Fr w w' := by
  refine flumeref10_Fits.cl (p0 := p) ?_
  unfold flumeref10_Fits
  rw [ntL_eq]
  have hdl : d.length = 32 := by have := p.2.2.2.2.2.1.2.2.1.2; rw [hp, u8s_length] at this; exact this
  refine nwI fun a1 w2 ha1 hs2 hf2 hb1 _ => ?_
  refine ldNote hb1 ?_
  refine (numbers_ok (p := p)).mono ?_
  rintro x4 w5 ⟨⟨hI, hnil, hnn⟩, hf5⟩
  have hb5 := hf5.heap hb1
  have hf5' := hf2.trans hf5
  have hn4 := hI.len
  rw [List.length_map] at hn4
  have at1 : ∀ {o : Nat}, o < 5 → ∀ {K : Int → Prop}, K (nv p o) → ld (.I .i64) w5 ((⟨a1, 0, none⟩ : Addr).add o) K := by
    intro o ho K hK
    rw [addOff, Nat.zero_add]
    exact ldI0 hb5 (ntL_at p ho) hK
  have at0 : ∀ {K : Int → Prop}, K p.1 → ld (.I .i64) w5 ⟨a1, 0, none⟩ K := by
    intro K hK
    exact ldI0 hb5 (ntL_at p (o := 0) (by decide)) hK
  have e2 : nv p 2 = p.2.2.1 := rfl
  have e3 : nv p 3 = p.2.2.2.1 := rfl
  have e4 : nv p 4 = p.2.2.2.2.1 := rfl
  have hl3 := offs_len p.1
  refine lpI (fun s' w' => w5 = w' ∧ ∃ i : Nat, i ≤ (offs p.1).length ∧ s'.1 = i ∧ ∀ o ∈ (offs p.1).take i, 1 ≤ nv p o ∧ nv p o ≤ 1073741824)
    (fun s' _ => ((offs p.1).length - s'.1).toNat) ⟨rfl, 0, by omega, rfl, by simp⟩ ?_
  rintro _ ⟨i', ⟨⟩⟩ _ ⟨rfl, i, hi, hii, hall⟩
  dsimp only at hii
  subst hii
  dsimp only
  rw [hn4]
  refine bD ?_ ?_ <;> intro hlt
  · have hi' : i < (offs p.1).length := by omega
    have hmem : (offs p.1)[i] ∈ offs p.1 := List.getElem_mem hi'
    rw [← hn4]
    refine ixI hI (by omega) (by rw [List.length_map]; omega) (Fr.refl _) ?_
    simp only [Int.toNat_natCast, List.getElem_map]
    refine bD ?_ ?_ <;> intro h1
    · exact ⟨by rw [fitS, if_neg fun h => by have := h.2.1 _ hmem; omega], hf5'⟩
    refine bD ?_ ?_ <;> intro h2
    · exact ⟨by rw [fitS, if_neg fun h => by have := h.2.1 _ hmem; omega], hf5'⟩
    rw [i64w (by omega) (by omega)]
    refine ⟨⟨by trivial, i + 1, by omega, rfl, fun o ho' => ?_⟩, by omega⟩
    rw [List.take_succ_eq_append_getElem hi'] at ho'
    rcases List.mem_append.1 ho' with ho' | ho'
    · exact hall o ho'
    · rw [List.mem_singleton] at ho'
      subst ho'
      omega
  obtain rfl : i = (offs p.1).length := by omega
  rw [List.take_length] at hall
  refine ⟨fun s w' => w5 = w' ∧ s.1 = !decide ((p.1 ≠ 1 → p.2.2.1 = 0 ∧ p.2.2.2.1 = 0) ∧ (p.1 ≠ 2 → p.1 ≠ 5 → p.1 ≠ 6 → p.2.2.2.2.1 = 0)), ?_, ?_⟩
  · rintro _ ⟨stray, ⟨⟩⟩ _ ⟨rfl, hstray⟩
    dsimp only at hstray
    refine ⟨fun s w' => w5 = w' ∧ s.1 = !decide (emptyR p.2.2.2.2.2.1 d), ?_, ?_⟩
    · rintro _ ⟨full, ⟨⟩⟩ _ ⟨rfl, hfull⟩
      dsimp only at hfull ⊢
      by_cases hne : offs p.1 = []
      · refine bT (by rw [hnil (by rw [hne]; rfl)]; rfl) ⟨?_, hf5'⟩
        rw [fitS, if_neg fun h => h.1 hne]
      refine bF ?_ ?_
      · cases hx : x4.a with
        | none => exact absurd hx (hnn fun h => hne (List.map_eq_nil_iff.1 h))
        | some a => rfl
      rw [hstray]
      have hsm := fit_same p d hne
      refine bB ?_ ?_ <;> intro h3
      · refine ⟨?_, hf5'⟩
        rw [fitS, if_neg fun h => by rw [Bool.not_eq_true', decide_eq_false_iff_not, ← hsm] at h3; exact h3 h.2.2.2.1]
      rw [Bool.not_eq_false', decide_eq_true_iff] at h3
      have h3' := hsm.2 h3
      refine at1 (o := 2) (by decide) ?_
      rw [e2]
      refine bD ?_ ?_ <;> intro hp1
      · refine ⟨?_, hf5'⟩
        rw [fitS, if_neg fun h => ?_]
        by_cases hk : p.1 = 1
        · have := (h.2.2.1 hk).1; omega
        · have := (h3.1 hk).1; omega
      refine at1 (o := 3) (by decide) ?_
      rw [e3]
      refine bD ?_ ?_ <;> intro hp2
      · refine ⟨?_, hf5'⟩
        rw [fitS, if_neg fun h => ?_]
        by_cases hk : p.1 = 1
        · have := (h.2.2.1 hk).2; omega
        · have := (h3.1 hk).2; omega
      have h2 : p.1 = 1 → p.2.2.1 ≤ 65535 ∧ p.2.2.2.1 ≤ 65535 := fun _ => by omega
      have chk : p.1 = 2 → ∀ {K : Int → World → Prop}, (∀ w', Fr w w' → K (fitS p d) w') → ld (.pair (.I .i64) (.pair (.I .i64) (.pair (.row 32) (.pair .L .nil)))) w5 ((⟨a1, 0, none⟩ : Addr).add 5) fun (x457 : RecT) => cl Tryd.prog n_flumeref10_Check #[rcV x457] (.I .i64) w5 fun (x458 : Int) w459 => bif (x458 != 0) then K 100 w459 else K 0 w459 := by
        intro h5 K hK
        rw [addOff]
        refine ldRec (pre := n5 p) (post := []) (p := p.2.2.2.2.2.1) hb5 ?_
        refine (refCheck_ok (p := p.2.2.2.2.2.1)).mono ?_
        rintro _ w21 ⟨rfl, hf21⟩
        have hk := hK w21 (hf5'.trans hf21)
        refine bNe ?_ ?_ <;> intro h6
        · rw [fitS, if_neg fun h => h6 (h.2.2.2.2.2 h5)] at hk; exact hk
        · rw [fitS, if_pos ⟨hne, hall, h2, h3', fun h => absurd h5 h, fun _ => h6⟩] at hk; exact hk
      refine at0 ?_
      refine bNe ?_ ?_ <;> intro h4
      · rw [hfull]
        refine bB ?_ ?_ <;> intro h5
        · refine ⟨?_, hf5'⟩
          rw [fitS, if_neg fun h => by rw [Bool.not_eq_true', decide_eq_false_iff_not] at h5; exact h5 (h.2.2.2.2.1 h4)]
        rw [Bool.not_eq_false', decide_eq_true_iff] at h5
        refine at0 ?_
        refine bE ?_ ?_ <;> intro h6
        · exact absurd h6 h4
        · refine ⟨?_, hf5'⟩
          rw [fitS, if_pos ⟨hne, hall, h2, h3', fun _ => h5, fun h => absurd h h4⟩]
      · refine at0 ?_
        refine bE ?_ ?_ <;> intro h6
        · exact chk h4 (K := fun r w' => r = fitS p d ∧ Fr w w') fun w' hf => ⟨rfl, hf⟩
        · exact absurd h4 h6
    · have c5 : (ntL p).toArray[5]? = some (.int .i64 p.2.2.2.2.2.1.1) := rfl
      have c6 : (ntL p).toArray[6]? = some (.int .i64 p.2.2.2.2.2.1.2.1) := rfl
      have c39 : (ntL p).toArray[39]? = some (slV p.2.2.2.2.2.1.2.2.2.1) := by
        have := rc_c34 p.2.2.2.2.2.1
        rw [List.getElem?_toArray] at this ⊢
        rw [ntL, List.getElem?_append_right (by simp)]
        exact this
      simp only [addOff, Nat.zero_add]
      refine ldI0 hb5 c5 ?_
      refine bNe ?_ ?_ <;> intro h1
      · exact ⟨by trivial, by rw [decide_eq_false fun h => h1 h.1]; rfl⟩
      refine ldI0 hb5 c6 ?_
      refine bNe ?_ ?_ <;> intro h2
      · exact ⟨by trivial, by rw [decide_eq_false fun h => h2 h.2.1]; rfl⟩
      refine ldRow (vs := u8s d) hb5 (by rw [← hp]; show (p.2.2.2.2.2.1.2.2.1.1 ++ [slV p.2.2.2.2.2.1.2.2.2.1]).take 32 = _; rw [List.take_left' p.2.2.2.2.2.1.2.2.1.2]) (by rw [u8s_length, hdl]) ?_
      refine ⟨⟨u8s (List.replicate 32 0), by simp [u8s]⟩, fun w' _ => (zero_Sum w').trans (by simp [u8s]; rfl), ?_⟩
      refine qnNe hdl (by simp) ?_
      refine bB ?_ ?_ <;> intro h3
      · rw [Bool.not_eq_true', decide_eq_false_iff_not] at h3
        exact ⟨by trivial, by rw [decide_eq_false fun h => h3 h.2.2.1]; rfl⟩
      · rw [Bool.not_eq_false', decide_eq_true_iff] at h3
        refine ldL0 (s := p.2.2.2.2.2.1.2.2.2.1) hb5 c39 ⟨by trivial, ?_⟩
        by_cases h4 : p.2.2.2.2.2.1.2.2.2.1.n = 0
        · have he : decide (emptyR p.2.2.2.2.2.1 d) = true := decide_eq_true ⟨h1, h2, h3, h4⟩
          rw [he, h4]; rfl
        · have he : decide (emptyR p.2.2.2.2.2.1 d) = false := decide_eq_false fun h => h4 h.2.2.2
          rw [he, decide_eq_true (by omega)]; rfl
  · have tail : ∀ {K : Bool × Unit → World → Prop}, (p.1 ≠ 1 → p.2.2.1 = 0 ∧ p.2.2.2.1 = 0) → (∀ b w', w5 = w' ∧ b = (!decide ((p.1 ≠ 1 → p.2.2.1 = 0 ∧ p.2.2.2.1 = 0) ∧ (p.1 ≠ 2 → p.1 ≠ 5 → p.1 ≠ 6 → p.2.2.2.2.1 = 0))) → K (b, ()) w') →
        ld (.I .i64) w5 ⟨a1, 0, none⟩ fun (x15 : Int) => bif (x15 != 2) then
          (ld (.I .i64) w5 ⟨a1, 0, none⟩ fun (x16 : Int) => bif (x16 != 5) then
          (ld (.I .i64) w5 ⟨a1, 0, none⟩ fun (x17 : Int) => bif (x17 != 6) then
          (ld (.I .i64) w5 ((⟨a1, 0, none⟩ : Addr).add 4) fun (x18 : Int) => K ((x18 != 0), ()) w5)
          else K (false, ()) w5)
          else K (false, ()) w5)
          else K (false, ()) w5 := by
      intro K hports hK
      refine at0 (bNe (fun h2 => at0 (bNe (fun h5 => at0 (bNe (fun h6 => at1 (o := 4) (by decide) (hK _ _ ⟨rfl, ?_⟩)) fun h6 => hK _ _ ⟨rfl, ?_⟩)) fun h5 => hK _ _ ⟨rfl, ?_⟩)) fun h2 => hK _ _ ⟨rfl, ?_⟩)
      · rw [e4]
        by_cases h : p.2.2.2.2.1 = 0
        · rw [decide_eq_true (⟨hports, fun _ _ _ => h⟩ : _ ∧ _), h]; rfl
        · rw [decide_eq_false fun hh => h (hh.2 h2 h5 h6)]; simp [h]
      · rw [decide_eq_true (⟨hports, fun _ _ h => absurd h6 h⟩ : _ ∧ _)]; rfl
      · rw [decide_eq_true (⟨hports, fun _ h => absurd h5 h⟩ : _ ∧ _)]; rfl
      · rw [decide_eq_true (⟨hports, fun h => absurd h2 h⟩ : _ ∧ _)]; rfl
    refine at0 ?_
    refine bNe ?_ ?_ <;> intro h1
    · refine at1 (o := 2) (by decide) ?_
      rw [e2]
      refine bNe ?_ ?_ <;> intro h2
      · exact ⟨rfl, by rw [decide_eq_false fun h => h2 (h.1 h1).1]; rfl⟩
      refine at1 (o := 3) (by decide) ?_
      rw [e3]
      refine bNe ?_ ?_ <;> intro h3
      · exact ⟨rfl, by rw [decide_eq_false fun h => h3 (h.1 h1).2]; rfl⟩
      exact tail (K := fun s w' => w5 = w' ∧ s.1 = !decide ((p.1 ≠ 1 → p.2.2.1 = 0 ∧ p.2.2.2.1 = 0) ∧ (p.1 ≠ 2 → p.1 ≠ 5 → p.1 ≠ 6 → p.2.2.2.2.1 = 0))) (fun _ => ⟨h2, h3⟩) fun b w' h => h
    · exact tail (K := fun s w' => w5 = w' ∧ s.1 = !decide ((p.1 ≠ 1 → p.2.2.1 = 0 ∧ p.2.2.2.1 = 0) ∧ (p.1 ≠ 2 → p.1 ≠ 5 → p.1 ≠ 6 → p.2.2.2.2.1 = 0))) (fun h => absurd h1 h) fun b w' h => h
theorem refPut_ok {p : NtT} {d l : List UInt8} {w : World} (hp : p.2.2.2.2.2.1.2.2.1.1 = u8s d) (hl : Bs w p.2.2.2.2.2.1.2.2.2.1 l) (hll : l.length ≤ 1048576) :
    cl Tryd.prog n_flumeref10_Put #[ntV p] (.tup (.pair .L (.pair (.I .i64) .nil))) w fun (r : Sl × Int × Unit) w' => Bs w' r.1 (putS p d l).1 ∧ r.2 = ((putS p d l).2, ()) ∧ Fr w w' := by
  refine flumeref10_Put.cl (p0 := p) ?_
  unfold flumeref10_Put
  rw [ntL_eq]
  refine nwI fun a1 w2 ha1 hs2 hf2 hb1 _ => ?_
  have at1 : ∀ {u : World}, Fr w2 u → ∀ {o : Nat}, o < 5 → ∀ {K : Int → Prop}, K (nv p o) → ld (.I .i64) u ⟨a1, o, none⟩ K := by
    intro u hf o ho K hK
    exact ldI0 (hf.heap hb1) (ntL_at p ho) hK
  refine ldNote hb1 ?_
  refine (refFits_ok hp).mono ?_
  rintro _ w5 ⟨rfl, hf5⟩
  refine bNe ?_ ?_ <;> intro hfit
  · have hn : ¬FitP p d := fun h => hfit (by rw [fitS, if_pos h])
    rw [putS, if_neg hn]
    exact ⟨Bs.nil _ _, rfl, hf2.trans hf5⟩
  have hF : FitP p d := by
    by_cases h : FitP p d
    · exact h
    · rw [fitS, if_neg h] at hfit; cases hfit
  rw [putS, if_pos hF]
  have hkd := offs_kind hF.1
  refine at1 hf5 (o := 0) (by decide) ?_
  refine (ref_Number_ok (s := ⟨none, 0, 0⟩) (n := nv p 0) (Bs.nil _ _) (by simp) (by show p.1 ≤ _; omega)).mono ?_
  rintro x7 w8 ⟨hx7, hf8⟩
  rw [List.nil_append] at hx7
  have hf8' := hf5.trans hf8
  refine ldNote (hf8'.heap hb1) ?_
  refine (numbers_ok (p := p)).mono ?_
  rintro x10 w10 ⟨⟨hI, _, _⟩, hf10⟩
  have hn9 := hI.len
  rw [List.length_map] at hn9
  have hf10' := hf8'.trans hf10
  have hl3 := offs_len p.1
  refine lpI (fun s' w' => Fr w10 w' ∧ ∃ i : Nat, i ≤ (offs p.1).length ∧ s'.2.1 = i ∧ OwB w' w.heap.size t_uint8 s'.1 (numB p.1.toNat ++ numsB (((offs p.1).map (nv p)).take i))) (fun s' _ => ((offs p.1).length - s'.2.1).toNat)
    ⟨Fr.refl _, 0, by omega, rfl, by simpa [numsB, nv] using (hx7.fr hf10).mono (Nat.le_trans hf2.size hf5.size)⟩ ?_
  rintro _ ⟨x, i', ⟨⟩⟩ w12 ⟨hf12, i, hi, hii, hx⟩
  dsimp only at hii hx
  subst hii
  dsimp only
  rw [hn9]
  have hlen := numsB_le (((offs p.1).map (nv p)).take i)
  have hlen1 := numB_le p.1.toNat
  rw [List.length_take, List.length_map] at hlen
  have hf12' := hf10'.trans hf12
  have hfw : Fr w w12 := hf2.trans hf12'
  refine bD ?_ ?_ <;> intro hlt
  · have hi' : i < (offs p.1).length := by omega
    have hr := hF.2.1 _ (List.getElem_mem hi')
    rw [← hn9]
    refine ixI hI (by omega) (by rw [List.length_map]; omega) hf12 ?_
    simp only [Int.toNat_natCast, List.getElem_map]
    refine (ref_Number_ok hx.bs (by simp; omega) (by omega)).mono ?_
    rintro x19 w20 ⟨h19, hf20⟩
    rw [i64w (by omega) (by omega)]
    refine ⟨⟨hf12.trans hf20, i + 1, by omega, rfl, ?_⟩, by omega⟩
    have e := numsB_take (ns := (offs p.1).map (nv p)) (k := i) (by simpa using hi')
    rw [List.getElem_map] at e
    rw [e, ← List.append_assoc]
    exact h19.mono hfw.size
  obtain rfl : i = (offs p.1).length := by omega
  rw [List.take_of_length_le (by simp)] at hx hlen
  refine at1 hf12' (o := 0) (by decide) ?_
  refine bE ?_ ?_ <;> intro h2
  · have h2 : p.1 = 2 := h2
    have hc := chkS_ok (hF.2.2.2.2.2 h2)
    intro n
    have hfn := Fr.drewN w12 n
    have hf13 := hf12'.trans hfn
    have hfw13 := hfw.trans hfn
    have hb13 := hf13.heap hb1
    have c5 : (ntL p).toArray[5]? = some (.int .i64 p.2.2.2.2.2.1.1) := rfl
    have c6 : (ntL p).toArray[6]? = some (.int .i64 p.2.2.2.2.2.1.2.1) := rfl
    have c39 : (ntL p).toArray[39]? = some (slV p.2.2.2.2.2.1.2.2.2.1) := by
      have := rc_c34 p.2.2.2.2.2.1
      rw [List.getElem?_toArray] at this ⊢
      rw [ntL, List.getElem?_append_right (by simp)]
      exact this
    simp only [addOff, Nat.zero_add]
    refine ldI0 hb13 c5 (ldI0 hb13 c6 ?_)
    refine (ref_Number_ok (hx.fr hfn).bs (by simp; omega) (by omega)).mono ?_
    rintro x24 w25 ⟨h24, hf25⟩
    refine ⟨hf25, ?_⟩
    refine (ref_Number_ok h24.bs (by have := numB_le p.2.2.2.2.2.1.1.toNat; simp; omega) (by omega)).mono ?_
    rintro x26 w27 ⟨h26, hf27⟩
    have hf27' := (hfw13.trans hf25).trans hf27
    have hb27 := hf27.heap (hf25.heap hb13)
    have hdl : d.length = 32 := by have := p.2.2.2.2.2.1.2.2.1.2; rw [hp, u8s_length] at this; exact this
    obtain ⟨A, hA⟩ : ∃ A, numB p.1.toNat ++ numsB ((offs p.1).map (nv p)) ++ numB p.2.2.2.2.2.1.1.toNat ++ numB p.2.2.2.2.2.1.2.1.toNat = A := ⟨_, rfl⟩
    have hAl : A.length ≤ 1000 := by
      have := numB_le p.2.2.2.2.2.1.1.toNat
      have := numB_le p.2.2.2.2.2.1.2.1.toNat
      rw [← hA]; simp only [List.length_append]; omega
    rw [hA] at h26
    have hnb : noteB p d l = A ++ d ++ numB l.length ++ l := by
      rw [noteB, if_pos h2, recB, ← hA]; simp [numsB]
    rw [hnb]
    clear hA hnb
    have hs27 : w.heap.size ≤ w27.heap.size := hf27'.size
    have hfw25 : Fr w w25 := hfw13.trans hf25
    have hb25 := hf25.heap hb13
    refine lpI (fun s' w' => Fr w25 w' ∧ ∃ i : Nat, i ≤ 32 ∧ s'.2.1 = i ∧ OwB w' w25.heap.size t_uint8 s'.1 (A ++ d.take i)) (fun s' _ => (32 - s'.2.1).toNat) ⟨hf27, 0, by decide, rfl, by simpa using h26⟩ ?_
    rintro _ ⟨y, j', ⟨⟩⟩ w29 ⟨hf29, j, hj, hjj, hy⟩
    dsimp only at hjj hy
    subst hjj
    dsimp only
    have hb29 := hf29.heap hb25
    refine bD ?_ ?_ <;> intro hlt2
    · have hjd : j < d.length := by omega
      refine ⟨by omega, hlt2, ?_⟩
      refine nzS ?_
      show ld (.I .u8) w29 (atOff ⟨a1, 5 + 2, none⟩ (j : Int) 1) _
      rw [show atOff ⟨a1, 5 + 2, none⟩ (j : Int) 1 = ⟨a1, 7 + j, none⟩ from (by show Addr.add _ _ = _; rw [addOff]; rfl)]
      refine ldI0 (n := (d[j].toNat : Int)) hb29 ?_ ?_
      · rw [List.getElem?_toArray, ntL, List.getElem?_append_right (by simp; omega), rcL]
        have e : 7 + j - (n5 p).length = j + 2 := by simp; omega
        rw [e, List.getElem?_cons_succ, List.getElem?_cons_succ, List.getElem?_append_left (by rw [p.2.2.2.2.2.1.2.2.1.2]; omega), hp]
        simp [u8s, hjd]
      · refine nwI fun a34 w35 ha34 hs35 hf35 hb35 hr35 => ?_
        have hf35' := hf29.trans hf35
        refine app_B slB (base := w25.heap.size) (hy.fr hf35) (m := [d[j]]) hr35 rfl (by simp; omega) hf35'.size fun r w' ho hbl _ _ => ?_
        rw [i64w (by omega) (by omega)]
        refine ⟨⟨hf35'.on hbl, j + 1, by omega, rfl, ?_⟩, by omega⟩
        rw [List.take_succ_eq_append_getElem hjd, ← List.append_assoc]
        exact ho
    · obtain rfl : j = 32 := by omega
      rw [List.take_of_length_le (by omega)] at hy
      refine ldL0 (s := p.2.2.2.2.2.1.2.2.2.1) hb29 c39 ?_
      have hfw29 := hfw25.trans hf29
      refine (ref_Text_ok hy.bs (hl.fr hfw29) (by simp; omega) (by omega)).mono ?_
      rintro x39 w40 ⟨h39, hf40⟩
      exact ⟨h39.bs, by trivial, hfw29.trans hf40⟩
  · have h2 : p.1 ≠ 2 := h2
    refine ⟨?_, rfl, hfw⟩
    rw [noteB, if_neg h2, List.append_nil]
    exact hx.bs
end Go.Proofs.YtkojpppnjloikaaDoor
namespace Go.Proofs.YtkojpppnjloikaaDoor
open Go.RowKit Go.Fl

/-- What stands behind a note's numbers. -/
def tail3 (n : PN) : List UInt8 := if n.k = 2 then recB n.rk n.rs n.d n.l else []
def tail2 (n : PN) : List UInt8 := (if n.k = 2 ∨ n.k = 5 ∨ n.k = 6 then numB n.i.toNat else []) ++ tail3 n
def tail1 (n : PN) : List UInt8 := (if n.k = 1 then numB n.b.toNat ++ numB n.c.toNat else []) ++ tail2 n
theorem bytes_tail {n : PN} (h : n.fit) : n.bytes = numB n.k.toNat ++ (numB n.a.toNat ++ tail1 n) := by
  have hk := offs_kd h.1
  unfold PN.bytes tail1 tail2 tail3
  have hk : n.k = 1 ∨ n.k = 2 ∨ n.k = 3 ∨ n.k = 4 ∨ n.k = 5 ∨ n.k = 6 := by omega
  rcases hk with hk | hk | hk | hk | hk | hk <;> simp [hk, offs, numsB_cons, numsB_nil, PN.num]
abbrev Good (b : List UInt8) (n : PN) : Prop := n.fit ∧ n.d.length = 32 ∧ n.bytes = b
theorem Good.a {b : List UInt8} {n : PN} (h : Good b n) : (1 ≤ n.k ∧ n.k ≤ 6) ∧ (1 ≤ n.a ∧ n.a ≤ 1073741824) := by
  have hk := offs_kd h.1.1
  refine ⟨hk, ?_⟩
  have hm : 1 ∈ offs n.k := by
    have hk : n.k = 1 ∨ n.k = 2 ∨ n.k = 3 ∨ n.k = 4 ∨ n.k = 5 ∨ n.k = 6 := by omega
    rcases hk with hk | hk | hk | hk | hk | hk <;> simp [hk, offs]
  exact h.1.2.1 1 hm
theorem Good.bc {b : List UInt8} {n : PN} (h : Good b n) : (n.k = 1 → 1 ≤ n.b ∧ n.b ≤ 1073741824 ∧ 1 ≤ n.c ∧ n.c ≤ 1073741824) ∧ (n.k ≠ 1 → n.b = 0 ∧ n.c = 0) := by
  refine ⟨fun hk => ?_, fun hk => ?_⟩
  · have h2 := h.1.2.1 2 (by simp [hk, offs])
    have h3 := h.1.2.1 3 (by simp [hk, offs])
    exact ⟨h2.1, h2.2, h3.1, h3.2⟩
  · have hk' := (h.a).1
    have hk : n.k = 2 ∨ n.k = 3 ∨ n.k = 4 ∨ n.k = 5 ∨ n.k = 6 := by omega
    refine ⟨h.1.2.2.2.1 2 (by simp) ?_, h.1.2.2.2.1 3 (by simp) ?_⟩ <;> (rcases hk with hk | hk | hk | hk | hk <;> simp [hk, offs])
theorem Good.i {b : List UInt8} {n : PN} (h : Good b n) : ((n.k = 2 ∨ n.k = 5 ∨ n.k = 6) → 1 ≤ n.i ∧ n.i ≤ 1073741824) ∧ (¬(n.k = 2 ∨ n.k = 5 ∨ n.k = 6) → n.i = 0) := by
  refine ⟨fun hk => ?_, fun hk => ?_⟩
  · exact h.1.2.1 4 (by rcases hk with hk | hk | hk <;> simp [hk, offs])
  · have hk' := (h.a).1
    have hk : n.k = 1 ∨ n.k = 3 ∨ n.k = 4 := by omega
    exact h.1.2.2.2.1 4 (by simp) (by rcases hk with hk | hk | hk <;> simp [hk, offs])
theorem nat_int {a : Int} (h : 0 ≤ a) : ((a.toNat : Nat) : Int) = a := by omega
theorem look_at {a : Int} (h : 0 ≤ a) (h2 : a ≤ 9223372036854775807) (r : List UInt8) : (((lookS (numB a.toNat ++ r)).1 : Nat) : Int) = a ∧ (numB a.toNat ++ r).drop (lookS (numB a.toNat ++ r)).2.1 = r := by
  rw [look_num (by omega)]
  exact ⟨nat_int h, by rw [← numB_length, List.drop_left' rfl]⟩
theorem rdText_room (l : List UInt8) : (rdText l 256).1.length ≤ 256 := by
  unfold rdText
  split
  · simp
  · split
    · simp
    · rename_i h
      split
      · simp
      · rw [List.length_take, List.length_drop]; omega
/-- What the reference reads of a note. -/
def RGetP (w : World) (r : NtT × Int × Unit) : Option PN → Prop
  | some n => r.2 = (0, ()) ∧ pnOf r.1 n.d n.l = n ∧ r.1.2.2.2.2.2.1.2.2.1.1 = u8s n.d ∧ Bs w r.1.2.2.2.2.2.1.2.2.2.1 n.l
  | none => r = (nt0, 100, ())
theorem refGet_ok {s : Sl} {b : List UInt8} {w : World} (hs : Bs w s b) (hl : b.length ≤ 1048576) :
    cl Tryd.prog n_flumeref10_Get #[.slice s.a s.n s.c] (.tup (.pair ntK (.pair (.I .i64) .nil))) w fun (r : NtT × Int × Unit) w' => RGetP w' r (getS b) ∧ Fr w w' := by
  refine flumeref10_Get.cl ?_
  unfold flumeref10_Get
  refine nwI fun a1 w2 ha1 hs2 hf2 hb1 _ => ?_
  have hb1 : w2.heap[a1]? = some (.cells (ntL nt0).toArray t_api_Note (0, 0)) := hb1
  refine nwI fun a3 w4 ha3 hs4 hf4 hb3 _ => ?_
  refine nwI fun a5 w6 ha5 hs6 hf6 hb5 _ => ?_
  have hb5 : w6.heap[a5]? = some (.cells (ntL nt0).toArray t_api_Note (0, 0)) := hb5
  have hold : b ≠ [] → ∀ ad, s.a = some ad → ad.block < w.heap.size := fun hb => hs.lt hb
  have hf4' := hf2.trans hf4
  have hf6' := hf4'.trans hf6
  have hr4 : RR w4 a3 s b 0 := ⟨hb3, hs.fr hf4', fun hb ad had => by have := hold hb ad had; omega, Nat.zero_le _, by omega⟩
  have hr6 := hr4.fr hf6
  have hb16 := (hf4.trans hf6).heap hb1
  have la1 := (Array.getElem?_eq_some_iff.1 hb1).1
  have la3 := (Array.getElem?_eq_some_iff.1 hb3).1
  have rdk : ∀ {u u' : World} {m i : Nat}, RR u a3 s b i → u.grownBy u' (some m) → m ≠ a3 → w.heap.size ≤ m → RR u' a3 s b i := fun {u u' m i} hr hk hm hw => hr.kp (kp_grown hk) (by omega) fun hb ad had => by have := hold hb ad had; omega
  have stp : ∀ {u u' : World} {m j : Nat} {o : Obj}, u.grownBy u' (some j) → j ≠ m → u.heap[m]? = some o → u'.heap[m]? = some o := fun {u u' m j o} hk hm ho => (hk.block m (Array.getElem?_eq_some_iff.1 ho).1 (by simp; omega)).trans ho
  have frg : ∀ {u u' : World} {m : Nat}, Fr w u → u.grownBy u' (some m) → w.heap.size ≤ m → Fr w u' := fun {u u' m} hf hk hm => hf.on (grown_below hk hm hf.size)
  have hone0 : ∀ v ∈ nt0.2.2.2.2.2.1.2.2.1.1, v.oneCell' = true := rc0_one
  refine stNote hb5 nt0 hone0 fun w15 hb15 hg15 hs15 => ?_
  have hf15 := frg hf6' hg15 (by omega)
  have hr15 := rdk hr6 hg15 (by omega) (by omega)
  have hb115 := stp hg15 (by omega) hb16
  -- one number is read, and put into a place of the note
  have num : ∀ {u : World} {i : Nat} {q : NtT} (o : Nat) {K : World → Prop}, o < 40 → Fr w u → RR u a3 s b i → u.heap[a1]? = some (.cells (ntL nt0).toArray t_api_Note (0, 0)) → u.heap[a5]? = some (.cells (ntL q).toArray t_api_Note (0, 0)) →
      (∀ u' i', Fr w u' → RR u' a3 s b i' → b.drop i' = (b.drop i).drop (lookS (b.drop i)).2.1 → u'.heap[a1]? = some (.cells (ntL nt0).toArray t_api_Note (0, 0)) → u'.heap[a5]? = some (.cells ((ntL q).toArray.setIfInBounds o (.int .i64 ((lookS (b.drop i)).1 : Nat))) t_api_Note (0, 0)) → K u') →
      cl Tryd.prog n_flumeref02_Reader_Number #[.pointer (some ⟨a3, 0, none⟩)] (.tup (.pair (.I .i64) (.pair (.I .i64) .nil))) u fun (x : Int × Int × Unit) u' => st1 u' ⟨a5, o, none⟩ (.int .i64 x.1) K := by
    intro u i q o K ho hfu hr h1 h5 hK
    refine (ref_Number_rd hr).mono ?_
    rintro _ u' ⟨rfl, hr', hg'⟩
    dsimp only
    refine st0 (stp hg' (by omega) h5) (by rw [List.size_toArray, ntL_length]; omega) fun u2 hb2 hg2 hs2 => ?_
    exact hK u2 _ (frg (frg hfu hg' (by omega)) hg2 (by omega)) (rdk hr' hg2 (by omega) (by omega)) (List.drop_drop ..).symm (stp hg2 (by omega) (stp hg' (by omega) h1)) hb2
  have hg0 := fun n (h : Good b n) => bytes_tail h.1
  refine num 0 (by decide) hf15 hr15 hb115 hb15 fun w18 i18 hf18 hr18 hd18 hb118 hb518 => ?_
  rw [List.drop_zero] at hd18 hb518
  obtain ⟨k, hk⟩ : ∃ k : Int, ((lookS b).1 : Int) = k := ⟨_, rfl⟩
  have hgood : ∀ n, Good b n → k = n.k ∧ b.drop i18 = numB n.a.toNat ++ tail1 n := by
    intro n h
    have e := hg0 n h
    rw [h.2.2] at e
    have := look_at (a := n.k) (by have := h.a; omega) (by have := h.a; omega) (numB n.a.toNat ++ tail1 n)
    rw [← e] at this
    rw [hd18]
    exact ⟨by rw [← hk, this.1], this.2⟩
  have hb518 : w18.heap[a5]? = some (.cells (ntL (k, 0, 0, 0, 0, rc0, ())).toArray t_api_Note (0, 0)) := by
    rw [hb518, hk]
    simp [ntL, nt0]
  refine nwI fun a19 w20 ha19 hs20 hf20 hb19 _ => ?_
  have hf20' := hf18.trans hf20
  refine lpI (fun s' w' => Fr w w' ∧ ∃ (p : Nat) (i : Nat) (f : Int), p ≤ 6 ∧ s'.1 = p ∧ RR w' a3 s b i ∧ w'.heap[a1]? = some (.cells (ntL nt0).toArray t_api_Note (0, 0)) ∧ w'.heap[a5]? = some (.cells (ntL (k, f, 0, 0, 0, rc0, ())).toArray t_api_Note (0, 0)) ∧ w'.heap[a19]? = some (.cells ([.int .i64 1, .int .i64 2, .int .i64 3, .int .i64 4, .int .i64 5, .int .i64 6] : List Value).toArray t_int (0, 0)) ∧
      ∀ n, Good b n → k = n.k ∧ ((p : Int) < k ∧ b.drop i = numB n.a.toNat ++ tail1 n ∨ k ≤ p ∧ f = n.a ∧ b.drop i = tail1 n)) (fun s' _ => (6 - s'.1).toNat)
    ⟨hf20', 0, i18, 0, by decide, rfl, hr18.fr hf20, hf20.heap hb118, hf20.heap hb518, hb19, fun n h => ⟨(hgood n h).1, .inl ⟨by have := h.a; have := (hgood n h).1; omega, (hgood n h).2⟩⟩⟩ ?_
  rintro _ ⟨p', ⟨⟩⟩ w22 ⟨hf22, p, i, f, hp, rfl, hr22, h122, h522, h1922, hgood⟩
  dsimp -zeta only
  have la19 : w18.heap.size = a19 := ha19.symm
  have hz18 := hf18.size
  have la518 := (Array.getElem?_eq_some_iff.1 hb518).1
  have la318 := hr18.lt
  refine bD ?_ ?_ <;> intro hlt
  · have hc : ([.int .i64 1, .int .i64 2, .int .i64 3, .int .i64 4, .int .i64 5, .int .i64 6] : List Value)[p]? = some (.int .i64 ((p : Int) + 1)) := by
      have : p = 0 ∨ p = 1 ∨ p = 2 ∨ p = 3 ∨ p = 4 ∨ p = 5 := by omega
      rcases this with rfl | rfl | rfl | rfl | rfl | rfl <;> rfl
    refine ixH h1922 (by omega) (by omega) (by rw [Int.toNat_natCast]; exact hc) ?_
    refine ldI0 h522 (show (ntL (k, f, 0, 0, 0, rc0, ())).toArray[0]? = some (.int .i64 k) from rfl) ?_
    refine bE ?_ ?_ <;> intro hkp
    · rw [addOff, Nat.zero_add]
      -- the table stays as well
      refine (ref_Number_rd hr22).mono ?_
      rintro _ u' ⟨rfl, hr', hg'⟩
      dsimp only
      refine st0 (stp hg' (by omega) h522) (by rw [List.size_toArray, ntL_length]; omega) fun u2 hb2 hg2 hs2 => ?_
      rw [i64w (by omega) (by omega)]
      refine ⟨⟨frg (frg hf22 hg' (by omega)) hg2 (by omega), p + 1, _, ((lookS (b.drop i)).1 : Int), by omega, by omega, rdk hr' hg2 (by omega) (by omega), stp hg2 (by omega) (stp hg' (by omega) h122), ?_, stp hg2 (by omega) (stp hg' (by omega) h1922), fun n h => ⟨(hgood n h).1, .inr ?_⟩⟩, by omega⟩
      · rw [hb2]; simp [ntL]
      · rcases (hgood n h).2 with ⟨h1, h2⟩ | ⟨h1, h2, h3⟩
        · have := look_at (a := n.a) (by have := h.a; omega) (by have := h.a; omega) (tail1 n)
          rw [← List.drop_drop, h2]
          exact ⟨by omega, this.1, this.2⟩
        · omega
    · rw [i64w (by omega) (by omega)]
      refine ⟨⟨hf22, p + 1, i, f, by omega, by omega, hr22, h122, h522, h1922, fun n h => ⟨(hgood n h).1, ?_⟩⟩, by omega⟩
      rcases (hgood n h).2 with ⟨h1, h2⟩ | ⟨h1, h2, h3⟩
      · exact .inl ⟨by omega, h2⟩
      · exact .inr ⟨by omega, h2, h3⟩
  obtain rfl : p = 6 := by omega
  have hgood : ∀ n, Good b n → k = n.k ∧ f = n.a ∧ b.drop i = tail1 n := by
    intro n h
    rcases (hgood n h).2 with ⟨h1, _⟩ | ⟨_, h2, h3⟩
    · have := h.a; have := (hgood n h).1; omega
    · exact ⟨(hgood n h).1, h2, h3⟩
  intro j9
  have hj9 : ∀ (u : World) (i : Nat) (b' c' : Int), Fr w u → RR u a3 s b i → u.heap[a1]? = some (.cells (ntL nt0).toArray t_api_Note (0, 0)) → u.heap[a5]? = some (.cells (ntL (k, f, b', c', 0, rc0, ())).toArray t_api_Note (0, 0)) →
      (∀ n, Good b n → k = n.k ∧ f = n.a ∧ b' = n.b ∧ c' = n.c ∧ b.drop i = tail2 n) → j9 u := by
    intro u i b' c' hfu hru h1u h5u hgu
    unfold j9
    intro j14
    have hj14 : ∀ (u : World) (i : Nat) (ix : Int), Fr w u → RR u a3 s b i → u.heap[a1]? = some (.cells (ntL nt0).toArray t_api_Note (0, 0)) → u.heap[a5]? = some (.cells (ntL (k, f, b', c', ix, rc0, ())).toArray t_api_Note (0, 0)) →
        (∀ n, Good b n → k = n.k ∧ f = n.a ∧ b' = n.b ∧ c' = n.c ∧ ix = n.i ∧ b.drop i = tail3 n) → j14 u := by
      intro u i ix hfu hru h1u h5u hgu
      unfold j14
      intro j16
      have hj16 : ∀ (u : World) (q : NtT) (d l : List UInt8), Fr w u → u.heap[a1]? = some (.cells (ntL nt0).toArray t_api_Note (0, 0)) → u.heap[a5]? = some (.cells (ntL q).toArray t_api_Note (0, 0)) → q.2.2.2.2.2.1.2.2.1.1 = u8s d → Bs u q.2.2.2.2.2.1.2.2.2.1 l → l.length ≤ 1048576 →
          (∀ ad, q.2.2.2.2.2.1.2.2.2.1.a = some ad → ad.block ≠ a1) → (∀ n, Good b n → pnOf q d l = n) → j16 u := by
        intro u q d l hfu h1 h5 hsum hdat hll hna hgd
        unfold j16
        have hdl : d.length = 32 := by have := q.2.2.2.2.2.1.2.2.1.2; rw [hsum, u8s_length] at this; exact this
        have hfe : FitP q d ↔ (pnOf q d l).fit := pnOf_fit (l := l) hdat.len
        refine ldNote h5 ?_
        refine (refPut_ok (p := q) hsum hdat hll).mono ?_
        rintro ⟨x406, e406, ⟨⟩⟩ w407 ⟨hx, he, hf407⟩
        dsimp only at hx he
        obtain ⟨rfl, _⟩ := Prod.mk.inj he
        intro j17
        have hfu' := hfu.trans hf407
        have bad : getS b = none → j17 true w407 := by
          intro hgn
          refine bT rfl ?_
          refine finNote (hf407.heap h1) nt0 hone0 fun w' hg' hs' => ⟨?_, frg hfu' hg' (by omega)⟩
          rw [hgn]
          exact rfl
        by_cases hfit : FitP q d
        · have hp : putS q d l = (noteB q d l, 0) := by rw [putS, if_pos hfit]
          rw [hp] at hx ⊢
          refine bF rfl ?_
          refine bstrI hx.rd hx.len.symm (Fr.refl _) ?_
          refine bstrI (hs.fr hfu').rd hs.len.symm (Fr.refl _) ?_
          rw [beqB_eq]
          by_cases hbb : noteB q d l = b
          · have e : getS b = some (pnOf q d l) := by rw [← hbb, pnOf_bytes]; exact getS_put (hfe.1 hfit) hdl
            rw [decide_eq_true hbb]
            refine bF rfl ?_
            refine ldNote (hf407.heap h5) ?_
            refine finNote (hf407.heap h1) q (by rw [hsum]; exact u8s_one _) fun w' hg' hs' => ⟨?_, frg hfu' hg' (by omega)⟩
            rw [e]
            exact ⟨rfl, rfl, hsum, (hdat.fr hf407).kpn (kp_grown hg') fun _ => hna⟩
          · rw [decide_eq_false hbb]
            refine bad ?_
            cases hg : getS b with
            | none => rfl
            | some n =>
              have hn := getS_back hg
              exact absurd (by rw [pnOf_bytes q d l, hgd n hn]; exact hn.2.2) hbb
        · have hp : putS q d l = ([], 100) := by rw [putS, if_neg hfit]
          rw [hp]
          refine bT rfl ?_
          refine bad ?_
          cases hg : getS b with
          | none => rfl
          | some n =>
            have hn := getS_back hg
            exact absurd (hfe.2 (by rw [hgd n hn]; exact hn.1)) hfit
      clear_value j16
      refine ldI0 h5u (show (ntL (k, f, b', c', ix, rc0, ())).toArray[0]? = some (.int .i64 k) from rfl) ?_
      refine bE ?_ ?_ <;> intro h2
      · rw [addOff, addOff, addOff, addOff]
        refine num (0 + 5) (by decide) hfu hru h1u h5u fun u1 i1 hf1 hr1 hd1 h11 h51 => ?_
        refine num (q := (k, f, b', c', ix, ((lookS (b.drop i)).1, 0, rc0.2.2.1, ⟨none, 0, 0⟩, ()), ())) (0 + 5 + 1) (by decide) hf1 hr1 h11 (by rw [h51]; simp [ntL, rcL, rc0]) fun u2 i2 hf2' hr2 hd2 h12 h52 => ?_
        obtain ⟨rk, hrk⟩ : ∃ rk : Int, ((lookS (b.drop i)).1 : Int) = rk := ⟨_, rfl⟩
        obtain ⟨rs, hrs⟩ : ∃ rs : Int, ((lookS (b.drop i1)).1 : Int) = rs := ⟨_, rfl⟩
        have h52 : u2.heap[a5]? = some (.cells (ntL (k, f, b', c', ix, (rk, rs, rc0.2.2.1, ⟨none, 0, 0⟩, ()), ())).toArray t_api_Note (0, 0)) := by
          rw [h52, ← hrk, ← hrs]; simp [ntL, rcL]
        have hg2 : ∀ n, Good b n → rk = n.rk ∧ rs = n.rs ∧ b.drop i2 = n.d ++ (numB n.l.length ++ n.l) ∧ n.l.length ≤ 256 := by
          intro n h
          obtain ⟨g1, g2, g3, g4, g5, g6⟩ := hgu n h
          have hc := chk_in (h.1.2.2.2.2.2 (by omega))
          have e : b.drop i = numB n.rk.toNat ++ (numB n.rs.toNat ++ (n.d ++ (numB n.l.length ++ n.l))) := by
            rw [g6, tail3, if_pos (by omega)]; simp [recB, numsB_cons, numsB_nil]
          have l1 := look_at (a := n.rk) (by omega) (by omega) (numB n.rs.toNat ++ (n.d ++ (numB n.l.length ++ n.l)))
          rw [← e, ← hd1] at l1
          have l2 := look_at (a := n.rs) (by omega) (by omega) (n.d ++ (numB n.l.length ++ n.l))
          rw [← l1.2, ← hd2] at l2
          exact ⟨by rw [← hrk]; exact l1.1, by rw [← hrs]; exact l2.1, l2.2, hc.2.2.2.2⟩
        generalize hl2 : b.drop i2 = l2 at *
        refine lpI (fun s' w' => Fr w w' ∧ ∃ (p j : Nat) (x : {l : List Value // l.length = 32}) (d : List UInt8), p ≤ 32 ∧ s'.1 = p ∧ RR w' a3 s b j ∧ w'.heap[a1]? = some (.cells (ntL nt0).toArray t_api_Note (0, 0)) ∧ x.1 = u8s d ∧ w'.heap[a5]? = some (.cells (ntL (k, f, b', c', ix, (rk, rs, x, ⟨none, 0, 0⟩, ()), ())).toArray t_api_Note (0, 0)) ∧ b.drop j = l2.drop p ∧ (p ≤ l2.length → d = l2.take p ++ List.replicate (32 - p) 0)) (fun s' _ => (32 - s'.1).toNat)
          ⟨hf2', 0, i2, rc0.2.2.1, List.replicate 32 0, by decide, rfl, hr2, h12, rc0_sum', h52, by rw [hl2]; rfl, fun _ => rfl⟩ ?_
        rintro _ ⟨p', ⟨⟩⟩ w24 ⟨hf24, p, j, x, d, hp, rfl, hr24, h124, hx, h524, hbj, hdp⟩
        dsimp -zeta only
        refine bD ?_ ?_ <;> intro hlt
        · refine (ref_Byte_rd hr24).mono ?_
          rintro _ w28 ⟨rfl, hr28, hg28⟩
          dsimp only
          have hf28 := frg hf24 hg28 (by omega)
          refine ⟨by omega, by omega, nzS ?_⟩
          show st1 w28 (atOff ⟨a5, 0 + 5 + 2, none⟩ (p : Int) 1) _ _
          have hat : atOff ⟨a5, 0 + 5 + 2, none⟩ (p : Int) 1 = ⟨a5, 7 + p, none⟩ := by show Addr.add _ _ = _; rw [addOff]; rfl
          rw [hat]
          refine st0 (stp hg28 (by omega) h524) (by rw [List.size_toArray, ntL_length]; omega) fun w35 hb35 hg35 hs35 => ?_
          rw [i64w (by omega) (by omega)]
          obtain ⟨c, hc⟩ : ∃ c : UInt8, (rdByte (b.drop j)).1 = c.toNat ∧ (p < l2.length → l2[p]? = some c) := by
            rw [hbj]
            by_cases hpl : p < l2.length
            · rw [List.drop_eq_getElem_cons hpl]
              exact ⟨l2[p], rfl, fun _ => List.getElem?_eq_getElem hpl⟩
            · have : l2.drop p = [] := by rw [List.drop_eq_nil_iff]; omega
              rw [this]
              exact ⟨0, rfl, fun h => absurd h hpl⟩
          refine ⟨⟨frg hf28 hg35 (by omega), p + 1, _, ⟨x.1.set p (.int .u8 c.toNat), by rw [List.length_set]; exact x.2⟩, d.set p c, by omega, rfl, rdk hr28 hg35 (by omega) (by omega), stp hg35 (by omega) (stp hg28 (by omega) h124), ?_, ?_, ?_, fun hpl => ?_⟩, by omega⟩
          · show x.1.set p _ = _
            rw [hx]
            simp only [u8s, List.map_set]
          · rw [hb35, hc.1]
            have hxl := x.2
            have e : ∀ (q : NtT) (v : Value), (ntL q).toArray.setIfInBounds (7 + p) v = (n5 q ++ (rcL (q.2.2.2.2.2.1.1, q.2.2.2.2.2.1.2.1, ⟨q.2.2.2.2.2.1.2.2.1.1.set p v, by rw [List.length_set]; exact q.2.2.2.2.2.1.2.2.1.2⟩, q.2.2.2.2.2.1.2.2.2.1, ()) [])).toArray := by
              intro q v
              have := rcSetSum q.2.2.2.2.2.1 [] (i := p) (by omega) v
              rw [List.setIfInBounds_toArray] at this
              rw [List.setIfInBounds_toArray, ntL, List.set_append_right _ _ (by simp; omega), show 7 + p - (n5 q).length = 2 + p from by simp; omega, List.toArray_inj this]
            rw [e]
            rfl
          · rw [← List.drop_drop, hbj]
            by_cases hpl : p < l2.length
            · rw [List.drop_eq_getElem_cons hpl]
              show List.drop 1 _ = _
              rfl
            · have h0 : l2.drop p = [] := by rw [List.drop_eq_nil_iff]; omega
              have h01 : l2.drop (p + 1) = [] := by rw [List.drop_eq_nil_iff]; omega
              rw [h0, h01]; simp
          · rw [hdp (by omega), List.set_append_right _ _ (by rw [List.length_take]; omega), List.length_take, Nat.min_eq_left (by omega), Nat.sub_self, show 32 - p = (32 - (p + 1)) + 1 from by omega, List.replicate_succ, List.set_cons_zero, List.take_add_one, hc.2 (by omega), List.append_assoc]
            rfl
        obtain rfl : p = 32 := by omega
        have hz24 := hf24.size
        have la124 := (Array.getElem?_eq_some_iff.1 h124).1
        have la524 := (Array.getElem?_eq_some_iff.1 h524).1
        refine (ref_Text_rd (most := 256) hr24).mono ?_
        rintro ⟨x36, e36, ⟨⟩⟩ w37 ⟨he, h36, hr37, hg37⟩
        dsimp only at he h36
        have hlt := rdText_room (b.drop j)
        refine st0 (stp hg37 (by omega) h524) (by rw [List.size_toArray, ntL_length]; omega) fun w38 hb38 hg38 hs38 => ?_
        have hb38 : w38.heap[a5]? = some (.cells (ntL (k, f, b', c', ix, (rk, rs, x, x36, ()), ())).toArray t_api_Note (0, 0)) := by
          rw [hb38]
          have e : ∀ (q : NtT) (s : Sl), (ntL q).toArray.setIfInBounds 39 (.slice s.a s.n s.c) = (n5 q ++ (rcL (q.2.2.2.2.2.1.1, q.2.2.2.2.2.1.2.1, q.2.2.2.2.2.1.2.2.1, s, ()) [])).toArray := by
            intro q s
            have := rcSet34 q.2.2.2.2.2.1 [] s
            rw [List.setIfInBounds_toArray] at this
            rw [List.setIfInBounds_toArray, ntL, List.set_append_right _ _ (by simp), show 39 - (n5 q).length = 34 from by simp, List.toArray_inj this]
          rw [show 0 + 5 + 34 = 39 from rfl, e]
          rfl
        have hf38 := frg (frg hf24 hg37 (by omega)) hg38 (by omega)
        refine hj16 w38 _ d (rdText (b.drop j) 256).1 hf38 (stp hg38 (by omega) (stp hg37 (by omega) h124)) hb38 hx (h36.bs.kpn (kp_grown hg38) fun _ ad had => by have := (h36.own ad had).1; omega) (by omega) (fun ad had => by have := (h36.own ad had).1; omega) ?_
        intro n h
        obtain ⟨g1, g2, g3, g4⟩ := hg2 n h
        obtain ⟨k1, k2, k3, k4, k5, k6⟩ := hgu n h
        have hdl := h.2.1
        have hd : d = n.d := by
          rw [hdp (by rw [g3, List.length_append]; omega), g3, ← hdl, List.take_left' rfl, Nat.sub_self, List.replicate_zero, List.append_nil]
        have ht : rdText (b.drop j) 256 = (n.l, 0, (numB n.l.length).length + n.l.length) := by
          rw [hbj, g3, ← hdl, List.drop_left' rfl]
          have := rdText_put (m := n.l) (most := 256) (by omega) (by omega) []
          rwa [List.append_nil] at this
        rw [ht]
        simp only [pnOf, k1, k2, k3, k4, k5, g1, g2, hd]
      · refine hj16 u (k, f, b', c', ix, rc0, ()) (List.replicate 32 0) [] hfu h1u h5u rc0_sum' (Bs.nil _ _) (by simp) (fun ad had => by cases had) ?_
        intro n h
        obtain ⟨k1, k2, k3, k4, k5, k6⟩ := hgu n h
        obtain ⟨e1, e2, e3, e4⟩ := h.1.2.2.2.2.1 (by omega)
        simp only [pnOf, k1, k2, k3, k4, k5, rc0]
        cases n
        dsimp only at e1 e2 e3 e4 ⊢
        rw [e1, e2, e3, e4]
    clear_value j14
    intro j10
    have hj10 : ∀ y : Bool, (y = true ↔ (k = 2 ∨ k = 5 ∨ k = 6)) → j10 y u := by
      intro y hy
      show bif y then _ else _
      cases y with
      | true =>
        have hk2 := hy.1 rfl
        refine bT rfl ?_
        rw [addOff]
        refine num (0 + 4) (by decide) hfu hru h1u h5u fun u1 i1 hf1 hr1 hd1 h11 h51 => ?_
        refine hj14 u1 i1 ((lookS (b.drop i)).1 : Int) hf1 hr1 h11 (by rw [h51]; simp [ntL]) fun n h => ?_
        obtain ⟨g1, g2, g3, g4, g5⟩ := hgu n h
        have hi := h.i.1 (by omega)
        have e : b.drop i = numB n.i.toNat ++ tail3 n := by rw [g5, tail2, if_pos (by omega)]
        have := look_at (a := n.i) (by omega) (by omega) (tail3 n)
        rw [← e, ← hd1] at this
        exact ⟨g1, g2, g3, g4, this.1, this.2⟩
      | false =>
        have hk2 : ¬(k = 2 ∨ k = 5 ∨ k = 6) := fun h => by have := hy.2 h; cases this
        refine bF rfl ?_
        refine hj14 u i 0 hfu hru h1u h5u fun n h => ?_
        obtain ⟨g1, g2, g3, g4, g5⟩ := hgu n h
        have hi := h.i.2 (by omega)
        exact ⟨g1, g2, g3, g4, hi.symm, by rw [g5, tail2, if_neg (by omega), List.nil_append]⟩
    clear_value j10
    have c0 : (ntL (k, f, b', c', 0, rc0, ())).toArray[0]? = some (.int .i64 k) := rfl
    refine ldI0 h5u c0 ?_
    refine bE ?_ ?_ <;> intro h2
    · exact hj10 true (by simp [h2])
    refine ldI0 h5u c0 ?_
    refine bE ?_ ?_ <;> intro h5
    · exact hj10 true (by simp [h5])
    refine ldI0 h5u c0 ?_
    exact hj10 _ (by simp [h2, h5])
  clear_value j9
  refine ldI0 h522 (show (ntL (k, f, 0, 0, 0, rc0, ())).toArray[0]? = some (.int .i64 k) from rfl) ?_
  refine bE ?_ ?_ <;> intro h1
  · rw [addOff, addOff]
    refine num (0 + 2) (by decide) hf22 hr22 h122 h522 fun u1 i1 hf1 hr1 hd1 h11 h51 => ?_
    refine num (q := (k, f, (lookS (b.drop i)).1, 0, 0, rc0, ())) (0 + 3) (by decide) hf1 hr1 h11 (by rw [h51]; simp [ntL]) fun u2 i2 hf2' hr2 hd2 h12 h52 => ?_
    refine hj9 u2 i2 ((lookS (b.drop i)).1 : Int) ((lookS (b.drop i1)).1 : Int) hf2' hr2 h12 (by rw [h52]; simp [ntL]) fun n h => ?_
    obtain ⟨g1, g2, g3⟩ := hgood n h
    have hbc := h.bc.1 (by omega)
    have e : b.drop i = numB n.b.toNat ++ (numB n.c.toNat ++ tail2 n) := by rw [g3, tail1, if_pos (by omega), List.append_assoc]
    have l1 := look_at (a := n.b) (by omega) (by omega) (numB n.c.toNat ++ tail2 n)
    rw [← e, ← hd1] at l1
    have l2 := look_at (a := n.c) (by omega) (by omega) (tail2 n)
    rw [← l1.2, ← hd2] at l2
    exact ⟨g1, g2, l1.1, l2.1, l2.2⟩
  · refine hj9 w22 i 0 0 hf22 hr22 h122 h522 fun n h => ?_
    obtain ⟨g1, g2, g3⟩ := hgood n h
    have hbc := h.bc.2 (by omega)
    exact ⟨g1, g2, hbc.1.symm, hbc.2.symm, by rw [g3, tail1, if_neg (by omega), List.nil_append]⟩
/-- Two notes alike. -/
theorem SameNote_ok {p q : NtT} {d d' l l' : List UInt8} {w : World} (hp : p.2.2.2.2.2.1.2.2.1.1 = u8s d) (hq : q.2.2.2.2.2.1.2.2.1.1 = u8s d') (hl : Bs w p.2.2.2.2.2.1.2.2.2.1 l) (hl' : Bs w q.2.2.2.2.2.1.2.2.2.1 l') :
    cl Tryd.prog n_flumeref10_SameNote #[ntV p, ntV q] .B w fun (r : Bool) w' => r = decide (pnOf p d l = pnOf q d' l') ∧ Fr w w' := by
  refine flumeref10_SameNote.cl (p0 := p) (p1 := q) ?_
  unfold flumeref10_SameNote
  rw [ntL_eq, ntL_eq]
  refine nwI fun a1 w2 ha hs2 hf2 hb1 _ => ?_
  refine nwI fun a3 w4 ha3 hs4 hf4 hb3 _ => ?_
  have hf4' := hf2.trans hf4
  have hb1 := hf4.heap hb1
  simp only [addOff, Nat.zero_add]
  have no : ∀ {P : Prop} [Decidable P], ¬P → false = decide P ∧ Fr w w4 := fun h => ⟨(decide_eq_false h).symm, hf4'⟩
  have two : ∀ (o : Nat), o < 5 → ∀ {X Y : Prop}, (nv p o = nv q o → X) → (nv p o ≠ nv q o → Y) → ld (.I .i64) w4 ⟨a1, o, none⟩ fun (x : Int) => ld (.I .i64) w4 ⟨a3, o, none⟩ fun (y : Int) => bif x == y then X else Y := fun o ho X Y hX hY => ldI0 hb1 (ntL_at p ho) (ldI0 hb3 (ntL_at q ho) (bE hX hY))
  refine two 0 (by decide) ?_ ?_ <;> intro h0
  rotate_left
  · exact no fun h => h0 (congrArg PN.k h)
  refine two 1 (by decide) ?_ ?_ <;> intro h1
  rotate_left
  · exact no fun h => h1 (congrArg PN.a h)
  refine two 2 (by decide) ?_ ?_ <;> intro h2
  rotate_left
  · exact no fun h => h2 (congrArg PN.b h)
  refine two 3 (by decide) ?_ ?_ <;> intro h3
  rotate_left
  · exact no fun h => h3 (congrArg PN.c h)
  refine two 4 (by decide) ?_ ?_ <;> intro h4
  rotate_left
  · exact no fun h => h4 (congrArg PN.i h)
  refine ldRec (pre := n5 p) (post := []) (p := p.2.2.2.2.2.1) hb1 (ldRec (pre := n5 q) (post := []) (p := q.2.2.2.2.2.1) hb3 ?_)
  refine (Same_ok hp hq (hl.fr hf4') (hl'.fr hf4')).mono ?_
  rintro _ w' ⟨rfl, hf'⟩
  refine ⟨?_, hf4'.trans hf'⟩
  rw [Bool.eq_iff_iff, decide_eq_true_iff, decide_eq_true_iff]
  refine ⟨fun ⟨k1, k2, k3, k4⟩ => ?_, fun h => ⟨congrArg PN.rk h, congrArg PN.rs h, congrArg PN.d h, congrArg PN.l h⟩⟩
  have h0 : p.1 = q.1 := h0
  have h1 : p.2.1 = q.2.1 := h1
  have h2 : p.2.2.1 = q.2.2.1 := h2
  have h3 : p.2.2.2.1 = q.2.2.2.1 := h3
  have h4 : p.2.2.2.2.1 = q.2.2.2.2.1 := h4
  simp only [pnOf, h0, h1, h2, h3, h4, k1, k2, k3, k4]
end Go.Proofs.YtkojpppnjloikaaDoor
namespace Go.Proofs.YtkojpppnjloikaaDoor
open Go.RowKit Go.Fl

theorem awake_law {w w2 : World} (hd : Dig w) (hf : Fr w w2) : cl Tryd.prog n_flumelaw10_awake #[] .B w2 fun (r : Bool) w' => r = true ∧ Fr w w' :=
  (awake10_ok (hd.fr hf)).mono fun _ _ h => ⟨h.1, hf.trans h.2⟩
theorem RecordKinds_law {w : World} {a : Option Addr} {len cap : Nat} {zs : List Int} (hd : Dig w) (h : RowK .u8 w a len cap zs) : Calls Tryd.prog n_flumelaw10_RecordKinds #[.slice a len cap] w fun e w' => e = .returned (.bool true) ∧ Below w.heap.size w w' := by
  refine lawE ?_
  obtain ⟨l, hl⟩ := rowB h
  refine flumelaw10_RecordKinds.cl (p0 := ⟨a, len, cap⟩) ?_
  unfold flumelaw10_RecordKinds
  have hn : len = l.length := hl.len
  refine bD ?_ ?_ <;> intro h1
  · exact awake_law hd (Fr.refl w)
  refine bD ?_ ?_ <;> intro h2
  · exact awake_law hd (Fr.refl w)
  dsimp only at h1 h2
  refine (Make_ok (s := ⟨a, len, cap⟩) (known := false) hd hl (by omega)).mono ?_
  rintro ⟨p, e, ⟨⟩⟩ w6 ⟨hm, hf6⟩
  unfold MakeP at hm
  rw [if_neg (by omega), if_neg (by decide)] at hm
  obtain ⟨he, hsz, hsum, hm⟩ := hm
  dsimp only at he hsz hsum hm ⊢
  obtain ⟨rfl, _⟩ := Prod.mk.inj he
  refine newRec (p := p) (by rw [hsum]; exact u8s_one _) fun a7 w12 ha hf12 hb12 hs12 => ?_
  have hf12' := hf6.trans hf12
  refine (Shorten_ok (hl.fr hf12') (by omega)).mono ?_
  rintro x13 w14 ⟨h13, hf14⟩
  have hn13 := h13.len
  have hb14 := hf14.heap hb12
  have hf14' := hf12'.trans hf14
  simp only [addOff, Nat.zero_add]
  have c0 : (rcL p []).toArray[0]? = some (.int .i64 p.1) := rfl
  refine bD ?_ ?_ <;> intro h3
  · rw [if_pos (by omega)] at hm
    refine bT rfl (ldI0 hb14 c0 (bT (by rw [hm.1]; rfl) (ldL0 (s := p.2.2.2.1) hb14 (rc_c34 p) ?_)))
    refine (Equal_ok (hm.2.fr (hf12.trans hf14)) h13.bs).mono ?_
    rintro _ _ ⟨rfl, rfl⟩
    exact bT (by simp) (awake_law hd hf14')
  · rw [if_neg (by omega)] at hm
    refine bT rfl (ldI0 hb14 c0 (bT (by rw [hm.1]; rfl) (ldL0 (s := p.2.2.2.1) hb14 (rc_c34 p) ?_)))
    refine (Equal_ok (x := ⟨a, len, cap⟩) (hm.2.fr (hf12.trans hf14)) (hl.fr hf14')).mono ?_
    rintro _ _ ⟨rfl, rfl⟩
    exact bT (by simp) (awake_law hd hf14')
end Go.Proofs.YtkojpppnjloikaaDoor
namespace Go.Proofs.YtkojpppnjloikaaDoor
open Go.RowKit Go.Fl Go.ChangeShapes Go.WideShapes Go.ChangeAt

/-- What is known of a record that came in. -/
structure RcIn (w : World) (p : RecT) (d l : List UInt8) : Prop where
  sum : p.2.2.1.1 = u8s d
  data : Bs w p.2.2.2.1 l
  k : -9223372036854775808 ≤ p.1 ∧ p.1 ≤ 9223372036854775807
  s : -9223372036854775808 ≤ p.2.1 ∧ p.2.1 ≤ 9223372036854775807
theorem u8s_of : ∀ {R : List Value}, (∀ v ∈ R, ∃ z, v = .int .u8 z ∧ (Lit.int .u8 z).wf = true) → ∃ d : List UInt8, R = u8s d
  | [], _ => ⟨[], rfl⟩
  | v :: R, h => by
    obtain ⟨d, rfl⟩ := u8s_of (R := R) fun u hu => h u (List.mem_cons_of_mem _ hu)
    obtain ⟨z, rfl, hz⟩ := h v (List.mem_cons_self ..)
    have hb : 0 ≤ z ∧ z ≤ 255 := by
      simp only [Lit.wf, IntKind.min, IntKind.max, IntKind.signed, IntKind.bits, Bool.and_eq_true] at hz
      simp at hz
      omega
    refine ⟨UInt8.ofNat z.toNat :: d, ?_⟩
    have : ((UInt8.ofNat z.toNat).toNat : Int) = z := by
      simp
      omega
    show Value.int .u8 z :: u8s d = Value.int .u8 ((UInt8.ofNat z.toNat).toNat : Int) :: u8s d
    rw [this]
theorem take1 {cs : List Value} {i : Nat} {v : Value} (h : (cs.drop i).take 1 = [v]) : cs.drop i = v :: cs.drop (i + 1) := by
  cases hd : cs.drop i with
  | nil => rw [hd] at h; cases h
  | cons a t =>
    rw [hd] at h
    simp only [List.take_succ_cons, List.take_zero, List.cons.injEq, and_true] at h
    rw [h, ← List.drop_drop, hd]
    rfl
section
variable {H : Type} {enc : TypeId × Value → H} {w : World} {fuel : Nat} {cs : List Value} {x : DataW H × List MemPlace}
theorem sum_of_cells (h : DataW.trod enc Tryd.prog w 0 (fun _ => true) true fuel t_api_Sum cs = some x) : ∃ d : List UInt8, cs = u8s d ∧ d.length = 32 := by
  obtain ⟨xs, m, rfl, rfl, hl, hxl, hel⟩ := DataW.trod_array u_api_Sum h
  have c1 : Tryd.prog.cellsOf t_uint8 = 1 := by kernel_rfl
  have c32 : Tryd.prog.cellsOf t_api_Sum = 32 := by kernel_rfl
  rw [c32] at hl
  obtain ⟨d, hd⟩ : ∃ d : List UInt8, cs = u8s d := u8s_of fun v hv => by
    obtain ⟨i, hi, rfl⟩ := List.getElem_of_mem hv
    have he := hel i (by omega)
    rw [c1, Nat.mul_one] at he
    rw [List.getElem?_eq_getElem (by omega)] at he
    obtain ⟨z, hz, _, hw⟩ := DataW.trod_int u_uint8 he
    rw [List.drop_eq_getElem_cons hi] at hz
    simp only [List.take_succ_cons, List.take_zero, List.cons.injEq, and_true] at hz
    exact ⟨z, hz, hw⟩
  exact ⟨d, hd, by rw [hd, u8s_length] at hl; exact hl⟩
theorem int_of_cells {t : TypeId} (ht : Tryd.prog.underlying t = some (.int .i64)) (h : DataW.trod enc Tryd.prog w 0 (fun _ => true) true fuel t cs = some x) : ∃ k : Int, cs = [.int .i64 k] ∧ -9223372036854775808 ≤ k ∧ k ≤ 9223372036854775807 := by
  obtain ⟨k, hk, _, hw⟩ := DataW.trod_int ht h
  exact ⟨k, hk, wfI64 hw⟩
theorem bytes_of_cells (h : DataW.trod enc Tryd.prog w 0 (fun _ => true) true fuel t_s_uint8 cs = some x) : ∃ (s : Sl) (l : List UInt8), cs = [slV s] ∧ Bs w s l := by
  rcases open_ints u_s_uint8 u_uint8 (by kernel_rfl) h with ⟨hcs, _⟩ | ⟨a, n, c, zs, hcs, _, hl, hm, hz, _, hcell, hwz⟩
  · exact ⟨⟨none, 0, 0⟩, [], hcs, Bs.nil _ _⟩
  · obtain ⟨l, hB⟩ := rowB (w := w) (a := some a) (len := n) (cap := c) (zs := zs) (.inr ⟨a, rfl, hl, hm, by simpa using hz, hcell, hwz⟩)
    exact ⟨⟨some a, n, c⟩, l, hcs, hB⟩
theorem rec_of_cells (h : DataW.trod enc Tryd.prog w 0 (fun _ => true) true fuel t_api_Record cs = some x) : ∃ (p : RecT) (d l : List UInt8), cs = rcL p [] ∧ RcIn w p d l := by
  obtain ⟨xs, n, rfl, rfl, hl, hxl, hf⟩ := DataW.trod_struct u_api_Record h
  have c1 : Tryd.prog.cellsOf t_int = 1 := by kernel_rfl
  have c2 : Tryd.prog.cellsOf t_s_uint8 = 1 := by kernel_rfl
  have c32 : Tryd.prog.cellsOf t_api_Sum = 32 := by kernel_rfl
  have c35 : Tryd.prog.cellsOf t_api_Record = 35 := by kernel_rfl
  have hxl : xs.length = 4 := hxl
  rw [c35] at hl
  have f0 := hf 0 _ rfl
  have f1 := hf 1 _ rfl
  have f2 := hf 2 _ rfl
  have f3 := hf 3 _ rfl
  rw [List.getElem?_eq_getElem (by omega)] at f0 f1 f2 f3
  obtain ⟨k, hk, hkb⟩ := int_of_cells u_int f0
  obtain ⟨s, hs, hsb⟩ := int_of_cells u_int f1
  obtain ⟨d, hd, hdl⟩ := sum_of_cells f2
  obtain ⟨sl, l, hsl, hB⟩ := bytes_of_cells f3
  have hk' : (cs.drop 0).take 1 = [.int .i64 k] := (congrArg (fun n => (cs.drop 0).take n) c1).symm.trans hk
  have hs' : (cs.drop 1).take 1 = [.int .i64 s] := (congrArg (fun n => (cs.drop 1).take n) c1).symm.trans hs
  have hd' : (cs.drop 2).take 32 = u8s d := (congrArg (fun n => (cs.drop 2).take n) c32).symm.trans hd
  have hsl' : (cs.drop 34).take 1 = [slV sl] := (congrArg (fun n => (cs.drop 34).take n) c2).symm.trans hsl
  refine ⟨(k, s, ⟨u8s d, by rw [u8s_length, hdl]⟩, sl, ()), d, l, ?_, rfl, hB, hkb, hsb⟩
  have e0 := take1 hk'
  have e1 := take1 hs'
  have e2 : cs.drop 2 = u8s d ++ cs.drop 34 := by
    have := List.take_append_drop 32 (cs.drop 2)
    rw [hd', List.drop_drop] at this
    exact this.symm
  have e3 := take1 hsl'
  rw [List.drop_of_length_le (i := 35) (by omega)] at e3
  rw [List.drop_zero] at e0
  rw [e0, e1, e2, e3]
  rfl
theorem note_of_cells (h : DataW.trod enc Tryd.prog w 0 (fun _ => true) true fuel t_api_Note cs = some x) : ∃ (p : NtT) (d l : List UInt8), cs = ntL p ∧ RcIn w p.2.2.2.2.2.1 d l ∧ ∀ o, o < 5 → -9223372036854775808 ≤ nv p o ∧ nv p o ≤ 9223372036854775807 := by
  obtain ⟨xs, n, rfl, rfl, hl, hxl, hf⟩ := DataW.trod_struct u_api_Note h
  have c1 : Tryd.prog.cellsOf t_int = 1 := by kernel_rfl
  have c35 : Tryd.prog.cellsOf t_api_Record = 35 := by kernel_rfl
  have c40 : Tryd.prog.cellsOf t_api_Note = 40 := by kernel_rfl
  have hxl : xs.length = 6 := hxl
  rw [c40] at hl
  have f0 := hf 0 _ rfl
  have f1 := hf 1 _ rfl
  have f2 := hf 2 _ rfl
  have f3 := hf 3 _ rfl
  have f4 := hf 4 _ rfl
  have f5 := hf 5 _ rfl
  rw [List.getElem?_eq_getElem (by omega)] at f0 f1 f2 f3 f4 f5
  obtain ⟨k0, h0, b0⟩ := int_of_cells u_int f0
  obtain ⟨k1, h1, b1⟩ := int_of_cells u_int f1
  obtain ⟨k2, h2, b2⟩ := int_of_cells u_int f2
  obtain ⟨k3, h3, b3⟩ := int_of_cells u_int f3
  obtain ⟨k4, h4, b4⟩ := int_of_cells u_int f4
  obtain ⟨r, d, l, hr, hR⟩ := rec_of_cells f5
  have h0' : (cs.drop 0).take 1 = [.int .i64 k0] := (congrArg (fun n => (cs.drop 0).take n) c1).symm.trans h0
  have h1' : (cs.drop 1).take 1 = [.int .i64 k1] := (congrArg (fun n => (cs.drop 1).take n) c1).symm.trans h1
  have h2' : (cs.drop 2).take 1 = [.int .i64 k2] := (congrArg (fun n => (cs.drop 2).take n) c1).symm.trans h2
  have h3' : (cs.drop 3).take 1 = [.int .i64 k3] := (congrArg (fun n => (cs.drop 3).take n) c1).symm.trans h3
  have h4' : (cs.drop 4).take 1 = [.int .i64 k4] := (congrArg (fun n => (cs.drop 4).take n) c1).symm.trans h4
  have h5' : (cs.drop 5).take 35 = rcL r [] := (congrArg (fun n => (cs.drop 5).take n) c35).symm.trans hr
  refine ⟨(k0, k1, k2, k3, k4, r, ()), d, l, ?_, hR, ?_⟩
  · have e0 := take1 h0'
    rw [List.drop_zero] at e0
    rw [e0, take1 h1', take1 h2', take1 h3', take1 h4', ← List.take_of_length_le (l := cs.drop 5) (i := 35) (by rw [List.length_drop]; omega), h5']
    rfl
  · intro o ho
    obtain rfl | rfl | rfl | rfl | rfl : o = 0 ∨ o = 1 ∨ o = 2 ∨ o = 3 ∨ o = 4 := by omega
    · exact b0
    · exact b1
    · exact b2
    · exact b3
    · exact b4
end
set_option maxRecDepth 100000 in
theorem rec_in {H : Type} {enc : TypeId × Value → H} {w : World} {base : Nat} {v : Value} {dd : DataW H} {ps : List MemPlace} (hv : Value.okWide Tryd.prog w .any base t_api_Record v) (h : DataW.Trod enc Tryd.prog w 0 (fun _ => true) true t_api_Record v dd ps) :
    ∃ (p : RecT) (d l : List UInt8), v = rcV p ∧ RcIn w p d l := by
  obtain ⟨cs, rfl, _⟩ := Go.WideShapes.okWide_struct u_api_Record hv
  obtain ⟨fuel, hf⟩ := h
  obtain ⟨p, d, l, hcs, hR⟩ := rec_of_cells hf
  refine ⟨p, d, l, ?_, hR⟩
  have h1 : cs.toList = rcL p [] := hcs
  have : cs = (rcL p []).toArray := (Array.toArray_toList (xs := cs)).symm.trans (congrArg List.toArray h1)
  exact congrArg Value.agg this
set_option maxRecDepth 100000 in
theorem note_in {H : Type} {enc : TypeId × Value → H} {w : World} {base : Nat} {v : Value} {dd : DataW H} {ps : List MemPlace} (hv : Value.okWide Tryd.prog w .any base t_api_Note v) (h : DataW.Trod enc Tryd.prog w 0 (fun _ => true) true t_api_Note v dd ps) :
    ∃ (p : NtT) (d l : List UInt8), v = ntV p ∧ RcIn w p.2.2.2.2.2.1 d l ∧ ∀ o, o < 5 → -9223372036854775808 ≤ nv p o ∧ nv p o ≤ 9223372036854775807 := by
  obtain ⟨cs, rfl, _⟩ := Go.WideShapes.okWide_struct u_api_Note hv
  obtain ⟨fuel, hf⟩ := h
  obtain ⟨p, d, l, hcs, hR⟩ := note_of_cells hf
  refine ⟨p, d, l, ?_, hR⟩
  have h1 : cs.toList = ntL p := hcs
  have : cs = (ntL p).toArray := (Array.toArray_toList (xs := cs)).symm.trans (congrArg List.toArray h1)
  exact (congrArg Value.agg this).trans (by rw [← ntL_eq])
end Go.Proofs.YtkojpppnjloikaaDoor
namespace Go.Fl

theorem alikeF_is {b : List UInt8} : ∀ {f i j m : Nat}, m < alikeF b f i j → j + m < b.length ∧ b[i + m]? = b[j + m]?
  | 0, _, _, m, h => by simp [alikeF] at h
  | f + 1, i, j, m, h => by
    unfold alikeF at h
    split at h
    · rename_i hc
      cases m with
      | zero => exact hc
      | succ m =>
        have := alikeF_is (b := b) (f := f) (i := i + 1) (j := j + 1) (m := m) (by omega)
        rw [show i + 1 + m = i + (m + 1) from by omega, show j + 1 + m = j + (m + 1) from by omega] at this
        exact this
    · omega
theorem longF_alike {b : List UInt8} {p : Nat} : ∀ {f back : Nat} {s : Nat × Nat}, (s.2 ≤ alikeF b 66 (p - s.1) p) → (longF b p f back s).2 ≤ alikeF b 66 (p - (longF b p f back s).1) p
  | 0, _, _, h => h
  | f + 1, back, s, h => by
    rw [longF]
    refine longF_alike ?_
    split
    · exact Nat.le_refl _
    · exact h
theorem longF_max {b : List UInt8} {p : Nat} : ∀ {f back : Nat} {s : Nat × Nat}, s.2 ≤ (longF b p f back s).2 ∧ ∀ k, back ≤ k → k < back + f → alikeF b 66 (p - k) p ≤ (longF b p f back s).2
  | 0, _, _ => ⟨Nat.le_refl _, fun k h1 h2 => by omega⟩
  | f + 1, back, s => by
    rw [longF]
    obtain ⟨h1, h2⟩ := longF_max (b := b) (p := p) (f := f) (back := back + 1) (s := if s.2 < alikeF b 66 (p - back) p then (back, alikeF b 66 (p - back) p) else s)
    have h3 : s.2 ≤ (if s.2 < alikeF b 66 (p - back) p then (back, alikeF b 66 (p - back) p) else s).2 ∧ alikeF b 66 (p - back) p ≤ (if s.2 < alikeF b 66 (p - back) p then (back, alikeF b 66 (p - back) p) else s).2 := by
      split
      · exact ⟨by dsimp only; omega, Nat.le_refl _⟩
      · exact ⟨Nat.le_refl _, by omega⟩
    refine ⟨by omega, fun k hk hk' => ?_⟩
    by_cases e : k = back
    · subst e; omega
    · exact h2 k (by omega) (by omega)
theorem longS_is {b : List UInt8} {p m : Nat} (h : m < (longS b p).2) : p + m < b.length ∧ b[p - (longS b p).1 + m]? = b[p + m]? :=
  alikeF_is (Nat.lt_of_lt_of_le h (longF_alike (Nat.zero_le _)))
theorem longS_max {b : List UInt8} {p k : Nat} (h1 : 1 ≤ k) (h2 : k ≤ min 512 p) : alikeF b 66 (p - k) p ≤ (longS b p).2 := longF_max.2 k h1 (by omega)

/-- A stretch back gives what stands there. -/
theorem again_take {b pre : List UInt8} {p back : Nat} (hb : 1 ≤ back) (hbp : back ≤ p) : ∀ {n : Nat}, p + n ≤ b.length → (∀ m, m < n → b[p - back + m]? = b[p + m]?) → againF back n (pre ++ b.take p) = pre ++ b.take (p + n)
  | 0, _, _ => rfl
  | n + 1, hl, h => by
    rw [againF_snoc, again_take hb hbp (by omega) (fun m hm => h m (by omega))]
    have hget : (pre ++ b.take (p + n)).getD ((pre ++ b.take (p + n)).length - back) 0 = b[p + n]'(by omega) := by
      rw [List.length_append, List.length_take, Nat.min_eq_left (by omega), List.getD_eq_getElem?_getD, List.getElem?_append_right (by omega), List.getElem?_take, if_pos (by omega)]
      have := h n (by omega)
      rw [List.getElem?_eq_getElem (by omega), List.getElem?_eq_getElem (by omega), Option.some.injEq] at this
      rw [show pre.length + (p + n) - back - pre.length = p - back + n from by omega, List.getElem?_eq_getElem (by omega), Option.getD_some]
      exact this
    rw [hget, List.append_assoc, ← List.take_succ_eq_append_getElem (by omega)]
    rfl
/-- Fuel does not matter. -/
abbrev restR (most : Int) (l out : List UInt8) : List UInt8 × Nat := restF most l.length l out
theorem restR_cons (most : Int) (c : UInt8) (t out : List UInt8) : restR most (c :: t) out =
    if (stepS out c t).2.2 ≠ 0 then ([], (stepS out c t).2.2) else if ((stepS out c t).1.length : Int) > most - out.length then ([], 71)
    else restR most ((c :: t).drop (stepS out c t).2.1) (out ++ (stepS out c t).1) := by
  unfold restR
  rw [List.length_cons, restF_step]
  by_cases h : (stepS out c t).2.2 ≠ 0
  · rw [if_pos h, if_pos h]
  · rw [if_neg h, if_neg h]
    have := (stepS_le out c t).2 (by omega)
    rw [restF_any (f := t.length) (g := ((c :: t).drop (stepS out c t).2.1).length) (by rw [List.length_drop, List.length_cons]; omega) (Nat.le_refl _)]
theorem rest_plain {most : Int} (rest : List UInt8) : ∀ (n : Nat) (l out : List UInt8), l.length ≤ n → (out.length : Int) + l.length ≤ most → restR most (plainS l ++ rest) out = restR most rest (out ++ l)
  | n, [], out, _, _ => by rw [plainS_nil, List.nil_append, List.append_nil]
  | 0, c :: l, out, h, _ => by simp at h
  | n + 1, c :: l, out, h, hm => by
    rw [plainS_step (by simp), List.cons_append, restR_cons]
    generalize hL : c :: l = L at *
    have hLl : 1 ≤ L.length := by rw [← hL]; simp
    have hc : (UInt8.ofNat (min 128 L.length - 1)).toNat = min 128 L.length - 1 := by simp; omega
    have hs : stepS out (UInt8.ofNat (min 128 L.length - 1)) (L.take 128 ++ plainS (L.drop 128) ++ rest) = (L.take 128, min 128 L.length + 1, 0) := by
      unfold stepS
      rw [hc, if_pos (by omega), if_neg (by simp; omega)]
      congr 1
      · rw [List.append_assoc, List.take_append_of_le_length (by rw [List.length_take]; omega), List.take_of_length_le (by rw [List.length_take]; omega)]
      · congr 1; omega
    rw [hs]
    simp only [ne_eq, not_true_eq_false, if_false]
    rw [if_neg (by rw [List.length_take]; omega), List.drop_succ_cons, List.append_assoc]
    have hd : ((L.take 128 ++ (plainS (L.drop 128) ++ rest)).drop (min 128 L.length)) = plainS (L.drop 128) ++ rest := by
      rw [List.drop_append_of_le_length (by rw [List.length_take]; omega), List.drop_eq_nil_of_le (by rw [List.length_take]; omega), List.nil_append]
    rw [hd, rest_plain rest n (L.drop 128) (out ++ L.take 128) (by rw [List.length_drop]; omega) (by rw [List.length_append, List.length_take, List.length_drop]; omega), List.append_assoc, List.take_append_drop]
theorem moreN_two {x : Nat} (h : x < 16384) : moreN x ≤ 1 := by
  unfold moreN moreF
  split
  · omega
  · unfold moreF
    rw [if_pos (by omega)]
    omega
theorem numB_two {x : Nat} (h : x ≤ 512) : (numB x).length ≤ 2 := by rw [numB_length]; have := moreN_two (x := x) (by omega); omega
theorem numB_one {x : Nat} (h : x < 128) : (numB x).length = 1 := by rw [numB_length]; unfold moreN moreF; rw [if_pos h]
theorem lookS_app {l rest : List UInt8} (h : (lookS l).2.2 = 0) : lookS (l ++ rest) = lookS l ∧ (lookS l).2.1 ≤ l.length := by
  obtain ⟨n, k, e, hL⟩ : ∃ n k e, lookS l = (n, k, e) := ⟨_, _, _, rfl⟩
  rw [hL] at h ⊢
  obtain rfl : e = 0 := h
  obtain ⟨h1, h2, h3, h4⟩ := look_back hL
  refine ⟨?_, h2⟩
  rw [← List.take_append_drop k l, List.append_assoc, h3, look_num h4, h1]
theorem step_match {out rest : List UInt8} {n back : Nat} (hn : 3 ≤ n) (hn' : n ≤ 66) (hb : 1 ≤ back) (hb' : back ≤ 512) (ho : back ≤ out.length) :
    stepS out (UInt8.ofNat (n + 125)) (numB back ++ rest) = (addF back n out, (numB back).length + 1, 0) := by
  have hc : (UInt8.ofNat (n + 125)).toNat = n + 125 := by simp; omega
  unfold stepS
  rw [hc, if_neg (by omega), look_num (by omega)]
  simp only
  rw [if_neg (by decide), if_neg (by omega), numB_length, Nat.add_sub_cancel]
/-- What was shortened is restored, behind whatever stood there. -/
theorem rest_short {most : Int} {b : List UInt8} (pre rest : List UInt8) (hm : (pre.length : Int) + b.length ≤ most) : ∀ (f lo p : Nat), b.length + 1 ≤ f + p → lo ≤ p → p ≤ b.length →
    restR most (shortF b f lo p ++ rest) (pre ++ b.take lo) = restR most rest (pre ++ b)
  | 0, lo, p, hf, _, hp => by omega
  | f + 1, lo, p, hf, hlo, hp => by
    rw [shortF]
    have hfit := longS_fits hp
    split
    · split
      · exact rest_short pre rest hm f lo (p + 1) (by omega) (by omega) (by omega)
      · rename_i hpl h3
        have hdl : ((b.take p).drop lo).length = p - lo := by rw [List.length_drop, List.length_take]; omega
        rw [List.append_assoc, rest_plain _ _ _ _ (Nat.le_refl _) (by rw [hdl, List.length_append, List.length_take]; omega)]
        have e : pre ++ b.take lo ++ (b.take p).drop lo = pre ++ b.take p := by
          have h := List.take_append_drop lo (b.take p)
          rw [List.take_take, Nat.min_eq_left hlo] at h
          rw [List.append_assoc, h]
        rw [e, List.cons_append, restR_cons, List.append_assoc, step_match (by omega) hfit.2.1 (hfit.2.2.2 (by omega)) (by omega) (by rw [List.length_append, List.length_take]; omega)]
        simp only [ne_eq, not_true_eq_false, if_false]
        rw [if_neg (by rw [addF_length, List.length_append, List.length_take]; omega), ← addF_spec, List.drop_succ_cons, List.drop_left,
          again_take (hfit.2.2.2 (by omega)) (by omega) (by omega) (fun m hm => (longS_is hm).2)]
        exact rest_short pre rest hm f _ _ (by omega) (Nat.le_refl _) (by omega)
    · obtain rfl : p = b.length := by omega
      rw [rest_plain _ _ _ _ (Nat.le_refl _) (by rw [List.length_drop, List.length_append, List.length_take]; omega), List.append_assoc, List.take_append_drop]
theorem rest_back (b : List UInt8) : restS (shortS b) b.length = (b, 0) := by
  have := rest_short (most := b.length) (b := b) [] [] (by simp) (b.length + 1) 0 0 (by omega) (Nat.le_refl _) (Nat.zero_le _)
  rw [List.append_nil] at this
  exact this
theorem rest_twice (a b : List UInt8) : restS (shortS a ++ shortS b) ((a.length : Int) + b.length) = (a ++ b, 0) := by
  have h1 := rest_short (most := (a.length : Int) + b.length) (b := a) [] (shortS b) (by simp; omega) (a.length + 1) 0 0 (by omega) (Nat.le_refl _) (Nat.zero_le _)
  have h2 := rest_short (most := (a.length : Int) + b.length) (b := b) a [] (by omega) (b.length + 1) 0 0 (by omega) (Nat.le_refl _) (Nat.zero_le _)
  rw [List.append_nil, List.take_zero, List.append_nil] at h2
  exact h1.trans h2

/-- How long bytes are as they are. -/
theorem plain_len : ∀ (n : Nat) (l : List UInt8), l.length ≤ n → 3 * (plainS l).length ≤ 4 * l.length + 3 ∧ (l.length ≤ 128 → (plainS l).length ≤ l.length + 1)
  | n, [], _ => by simp [plainS_nil]
  | 0, c :: l, h => by simp at h
  | n + 1, c :: l, h => by
    rw [plainS_step (by simp)]
    generalize hL : c :: l = L at *
    have hLl : 1 ≤ L.length := by rw [← hL]; simp
    obtain ⟨h1, h2⟩ := plain_len n (L.drop 128) (by rw [List.length_drop]; omega)
    rw [List.length_cons, List.length_append, List.length_take]
    rw [List.length_drop] at h1 h2
    refine ⟨?_, fun h => ?_⟩
    · by_cases h128 : L.length ≤ 128
      · have : plainS (L.drop 128) = [] := by rw [List.drop_eq_nil_of_le h128, plainS_nil]
        rw [this]
        simp
        omega
      · omega
    · have : plainS (L.drop 128) = [] := by rw [List.drop_eq_nil_of_le h, plainS_nil]
      rw [this]
      simp
      omega
theorem short_len {b : List UInt8} : ∀ (f lo p : Nat), b.length + 1 ≤ f + p → lo ≤ p → p ≤ b.length → 3 * (shortF b f lo p).length ≤ 4 * (b.length - lo) + 3
  | 0, lo, p, hf, _, hp => by omega
  | f + 1, lo, p, hf, hlo, hp => by
    rw [shortF]
    have hfit := longS_fits hp
    split
    · split
      · exact short_len f lo (p + 1) (by omega) (by omega) (by omega)
      · have hdl : ((b.take p).drop lo).length = p - lo := by rw [List.length_drop, List.length_take]; omega
        have h1 := plain_len _ ((b.take p).drop lo) (Nat.le_refl _)
        have h2 := short_len (b := b) f (p + (longS b p).2) (p + (longS b p).2) (by omega) (Nat.le_refl _) (by omega)
        have h3 := numB_two (x := (longS b p).1) (by omega)
        rw [List.length_append, List.length_cons, List.length_append]
        rw [hdl] at h1
        omega
    · have h1 := plain_len _ (b.drop lo) (Nat.le_refl _)
      rw [List.length_drop] at h1
      omega
theorem shortS_len (b : List UInt8) : (shortS b).length ≤ b.length + b.length / 3 + 1 := by
  have := short_len (b := b) (b.length + 1) 0 0 (by omega) (Nat.le_refl _) (Nat.zero_le _)
  unfold shortS
  omega
/-- A token is the same with others behind. -/
theorem step_app {out t rest : List UInt8} {c : UInt8} (h : (stepS out c t).2.2 = 0) : stepS out c (t ++ rest) = stepS out c t ∧ (stepS out c t).2.1 ≤ t.length + 1 := by
  refine ⟨?_, (stepS_le out c t).1⟩
  unfold stepS at h ⊢
  by_cases h1 : c.toNat < 128
  · simp only [h1, if_true] at h ⊢
    by_cases h2 : t.length < c.toNat + 1
    · simp only [h2, if_true] at h; exact absurd h (by decide)
    · rw [if_neg h2, if_neg (by rw [List.length_append]; omega), List.take_append_of_le_length (by omega)]
  · simp only [h1, if_false] at h ⊢
    by_cases h2 : (lookS t).2.2 = 2
    · rw [if_pos h2] at h; exact absurd h (by decide)
    · rw [if_neg h2] at h
      by_cases h3 : (lookS t).2.2 ≠ 0 ∨ c.toNat > 191 ∨ (lookS t).1 < 1 ∨ (lookS t).1 > 512 ∨ (lookS t).1 > out.length
      · rw [if_pos h3] at h; exact absurd h (by decide)
      · rw [(lookS_app (rest := rest) (by omega)).1]
theorem rest_app {most : Int} (rest : List UInt8) : ∀ (n : Nat) {l out x : List UInt8}, l.length ≤ n → restR most l out = (x, 0) → restR most (l ++ rest) out = restR most rest x
  | n, [], out, x, _, h => by
    have : x = out := by have := congrArg Prod.fst h; exact this.symm
    rw [this]; rfl
  | 0, c :: t, out, x, hn, _ => by simp at hn
  | n + 1, c :: t, out, x, hn, h => by
    rw [restR_cons] at h
    by_cases h1 : (stepS out c t).2.2 ≠ 0
    · rw [if_pos h1] at h
      have := congrArg Prod.snd h
      exact absurd this h1
    · rw [if_neg h1] at h
      by_cases h2 : ((stepS out c t).1.length : Int) > most - out.length
      · rw [if_pos h2] at h
        cases h
      · rw [if_neg h2] at h
        obtain ⟨e1, e2⟩ := step_app (rest := rest) (show (stepS out c t).2.2 = 0 by omega)
        have h3 := (stepS_le out c t).2 (by omega)
        rw [List.cons_append, restR_cons, e1, if_neg h1, if_neg h2]
        rw [← rest_app rest n (l := (c :: t).drop (stepS out c t).2.1) (by rw [List.length_drop, List.length_cons]; simp at hn; omega) h]
        rw [← List.cons_append, List.drop_append_of_le_length (by rw [List.length_cons]; omega)]
theorem rest_pre {most : Int} : ∀ (n : Nat) {l out x : List UInt8}, l.length ≤ n → restR most l out = (x, 0) → ∃ y, x = out ++ y
  | n, [], out, x, _, h => ⟨[], by have := congrArg Prod.fst h; simpa [restR, restF] using this.symm⟩
  | 0, c :: t, out, x, hn, _ => by simp at hn
  | n + 1, c :: t, out, x, hn, h => by
    rw [restR_cons] at h
    split at h
    · rename_i h1; exact absurd (congrArg Prod.snd h) h1
    · rename_i h1
      split at h
      · cases h
      · have h3 := (stepS_le out c t).2 (by omega)
        obtain ⟨y, hy⟩ := rest_pre n (l := (c :: t).drop (stepS out c t).2.1) (by rw [List.length_drop, List.length_cons]; simp at hn; omega) h
        exact ⟨(stepS out c t).1 ++ y, by rw [hy, List.append_assoc]⟩
theorem step_adds {out t : List UInt8} {c : UInt8} (h : (stepS out c t).2.2 = 0) : 1 ≤ (stepS out c t).1.length := by
  unfold stepS at h ⊢
  by_cases h1 : c.toNat < 128
  · simp only [h1, if_true] at h ⊢
    by_cases h2 : t.length < c.toNat + 1
    · simp only [h2, if_true] at h; exact absurd h (by decide)
    · rw [if_neg h2, List.length_take]; omega
  · simp only [h1, if_false] at h ⊢
    by_cases h2 : (lookS t).2.2 = 2
    · rw [if_pos h2] at h; exact absurd h (by decide)
    · rw [if_neg h2] at h ⊢
      by_cases h3 : (lookS t).2.2 ≠ 0 ∨ c.toNat > 191 ∨ (lookS t).1 < 1 ∨ (lookS t).1 > 512 ∨ (lookS t).1 > out.length
      · rw [if_pos h3] at h; exact absurd h (by decide)
      · rw [if_neg h3, addF_length]; omega
/-- What can be restored needs just its own room. -/
theorem rest_room {most most' : Int} : ∀ (n : Nat) {l out x : List UInt8}, l.length ≤ n → (out.length : Int) ≤ max most' 0 → restR most l out = (x, 0) →
    restR most' l out = if (x.length : Int) ≤ max most' 0 then (x, 0) else ([], 71)
  | n, [], out, x, _, ho, h => by
    have e : x = out := (congrArg Prod.fst h).symm
    subst e
    rw [if_pos ho]; rfl
  | 0, c :: t, out, x, hn, _, _ => by simp at hn
  | n + 1, c :: t, out, x, hn, ho, h => by
    rw [restR_cons] at h ⊢
    by_cases h1 : (stepS out c t).2.2 ≠ 0
    · rw [if_pos h1] at h
      exact absurd (congrArg Prod.snd h) h1
    · rw [if_neg h1] at h ⊢
      by_cases h2 : ((stepS out c t).1.length : Int) > most - out.length
      · rw [if_pos h2] at h
        cases h
      · rw [if_neg h2] at h
        have h3 := (stepS_le out c t).2 (by omega)
        have h4 := step_adds (out := out) (c := c) (t := t) (by omega)
        have hl : ((c :: t).drop (stepS out c t).2.1).length ≤ n := by rw [List.length_drop, List.length_cons]; simp at hn; omega
        obtain ⟨y, hy⟩ := rest_pre n hl h
        have hxl := congrArg List.length hy
        rw [List.length_append, List.length_append] at hxl
        by_cases h5 : ((stepS out c t).1.length : Int) > most' - out.length
        · rw [if_pos h5, if_neg (by omega)]
        · rw [if_neg h5]
          exact rest_room n hl (by rw [List.length_append]; omega) h
end Go.Fl
namespace Go.Proofs.YtkojpppnjloikaaDoor
open Go.RowKit Go.Fl

theorem nt_c39 (p : NtT) : (ntL p).toArray[39]? = some (slV p.2.2.2.2.2.1.2.2.2.1) := by
  have := rc_c34 p.2.2.2.2.2.1
  rw [List.getElem?_toArray] at this ⊢
  rw [ntL, List.getElem?_append_right (by simp)]
  exact this
set_option maxRecDepth 100000 in
theorem RecordChecks_law {H : Type} {enc : TypeId × Value → H} {w : World} {b0 b1 : Nat} {v0 v1 : Value} {d0 d1 : DataW H} {p0 p1 : List MemPlace} (hd : Dig w)
    (o0 : Value.okWide Tryd.prog w .any b0 t_api_Record v0) (h0 : DataW.Trod enc Tryd.prog w 0 (fun _ => true) true t_api_Record v0 d0 p0)
    (o1 : Value.okWide Tryd.prog w .any b1 t_api_Note v1) (h1 : DataW.Trod enc Tryd.prog w 0 (fun _ => true) true t_api_Note v1 d1 p1) :
    Calls Tryd.prog n_flumelaw10_RecordChecks #[v0, v1] w fun e w' => e = .returned (.bool true) ∧ Below w.heap.size w w' := by
  refine lawE ?_
  obtain ⟨r, dr, lr, rfl, hr⟩ := rec_in o0 h0
  obtain ⟨n, dn, ln, rfl, hn, _⟩ := note_in o1 h1
  refine flumelaw10_RecordChecks.cl (p0 := r) (p1 := n) ?_
  unfold flumelaw10_RecordChecks
  rw [rcL_nil, ntL_eq]
  refine nwI fun a1 w2 ha1 hs2 hf2 hb1 _ => ?_
  refine nwI fun a3 w4 ha3 hs4 hf4 hb3 _ => ?_
  have hf4' := hf2.trans hf4
  have hb1' := hf4.heap hb1
  rw [addOff, addOff, addOff]
  refine ldL0 (s := r.2.2.2.1) hb1' (rc_c34 r) ?_
  refine bD ?_ ?_ <;> intro hm1
  · exact awake_law hd hf4'
  refine ldL0 (s := n.2.2.2.2.2.1.2.2.2.1) hb3 (nt_c39 n) ?_
  refine bD ?_ ?_ <;> intro hm2
  · exact awake_law hd hf4'
  intro k
  have hfn := Fr.drewN w4 k
  refine ldRec (pre := []) (post := []) (hfn.heap hb1') (ldRec (pre := []) (post := []) (hfn.heap hb1') ?_)
  refine (Check_ok (p := r)).mono ?_
  rintro _ w15 ⟨rfl, hf15⟩
  refine ⟨hf15, ?_⟩
  refine (refCheck_ok (p := r)).mono ?_
  rintro _ w17 ⟨rfl, hf17⟩
  refine ⟨hf17, bT (by simp) ?_⟩
  have hf17' := (hfn.trans hf15).trans hf17
  have hb3' := hf17'.heap hb3
  refine ldNote hb3' (ldNote hb3' ?_)
  refine (Fits_ok hn.sum).mono ?_
  rintro _ w21 ⟨rfl, hf21⟩
  refine ⟨hf21, ?_⟩
  refine (refFits_ok hn.sum).mono ?_
  rintro _ w23 ⟨rfl, hf23⟩
  exact bT (by simp) (awake_law hd (((hf4'.trans hf17').trans hf21).trans hf23))
set_option maxRecDepth 100000 in
theorem RecordPuts_law {H : Type} {enc : TypeId × Value → H} {w : World} {b1 : Nat} {v1 : Value} {d1 : DataW H} {p1 : List MemPlace} (hd : Dig w)
    (o1 : Value.okWide Tryd.prog w .any b1 t_api_Note v1) (h1 : DataW.Trod enc Tryd.prog w 0 (fun _ => true) true t_api_Note v1 d1 p1) :
    Calls Tryd.prog n_flumelaw10_RecordPuts #[v1] w fun e w' => e = .returned (.bool true) ∧ Below w.heap.size w w' := by
  refine lawE ?_
  obtain ⟨n, dn, ln, rfl, hn, _⟩ := note_in o1 h1
  refine flumelaw10_RecordPuts.cl (p0 := n) ?_
  unfold flumelaw10_RecordPuts
  rw [ntL_eq]
  refine nwI fun a1 w2 ha1 hs2 hf2 hb1 _ => ?_
  rw [addOff, addOff]
  have hlen := hn.data.len
  refine ldL0 (s := n.2.2.2.2.2.1.2.2.2.1) hb1 (nt_c39 n) ?_
  refine bD ?_ ?_ <;> intro hm2
  · exact awake_law hd hf2
  refine ldNote hb1 ?_
  refine (Put_ok hn.sum (hn.data.fr hf2) (by omega)).mono ?_
  rintro ⟨x7, e7, ⟨⟩⟩ w8 ⟨h7, he7, hf8⟩
  dsimp only at h7 he7 ⊢
  obtain ⟨rfl, _⟩ := Prod.mk.inj he7
  refine ldNote (hf8.heap hb1) ?_
  have hf8' := hf2.trans hf8
  refine (refPut_ok hn.sum (hn.data.fr hf8') (by omega)).mono ?_
  rintro ⟨x10, e10, ⟨⟩⟩ w11 ⟨h10, he10, hf11⟩
  dsimp only at h10 he10 ⊢
  obtain ⟨rfl, _⟩ := Prod.mk.inj he10
  refine (Equal_ok (h7.fr hf11).bs h10).mono ?_
  rintro _ _ ⟨rfl, rfl⟩
  exact bT (by simp) (bT (by simp) (awake_law hd (hf8'.trans hf11)))
theorem openS_ref {s : Int} {d : List UInt8} (h1 : 1 ≤ s) (h2 : s ≤ 256) : openS 1 s d [] = ([], 110) := by
  have h : chkS 1 s ([] : List UInt8).length = 0 := by rw [chkS, if_pos ⟨.inl ⟨rfl, rfl⟩, by omega, by omega⟩]
  rw [openS, if_neg (by rw [h]; decide), if_pos rfl]
theorem openS_lz {b : List UInt8} (h1 : 1 ≤ b.length) (h2 : b.length ≤ 256) (hs : (shortS b).length < b.length) : openS 3 (b.length : Int) (dig b) (shortS b) = (b, 0) := by
  have h : chkS 3 (b.length : Int) (shortS b).length = 0 := by rw [chkS, if_pos ⟨.inr (.inr ⟨rfl, by omega⟩), by omega, by omega⟩]
  have hr := rest_back b
  rw [openS, if_neg (by rw [h]; decide), if_neg (by decide), hr, if_neg fun h => by have := h.2; simp at this, if_pos rfl, if_pos rfl]
/-- What is made of a chunk that may be: its record. -/
theorem MakeP.rec {w : World} {b : List UInt8} {known : Bool} {p : RecT} {e : Int} (h : MakeP w b known (p, e, ())) (h1 : 1 ≤ b.length) (h2 : b.length ≤ 256) :
    e = 0 ∧ p.2.1 = b.length ∧ p.2.2.1.1 = u8s (dig b) ∧ ∃ l, Bs w p.2.2.2.1 l ∧ l.length ≤ b.length ∧ (if known then p.1 = 1 ∧ l = [] else openS p.1 p.2.1 (dig b) l = (b, 0)) := by
  unfold MakeP at h
  rw [if_neg (by omega)] at h
  obtain ⟨he, hsz, hsum, hm⟩ := h
  dsimp only at he hsz hsum hm
  obtain ⟨rfl, _⟩ := Prod.mk.inj he
  refine ⟨rfl, hsz, hsum, ?_⟩
  cases known with
  | true =>
    rw [if_pos rfl] at hm
    exact ⟨[], by rw [hm.2]; exact Bs.nil _ _, by simp, by rw [if_pos rfl]; exact ⟨hm.1, rfl⟩⟩
  | false =>
    rw [if_neg (by decide)] at hm
    by_cases hs : (shortS b).length < b.length
    · rw [if_pos hs] at hm
      exact ⟨shortS b, hm.2, by omega, by rw [if_neg (by decide), hm.1, hsz, openS_lz h1 h2 hs]⟩
    · rw [if_neg hs] at hm
      exact ⟨b, hm.2, by omega, by rw [if_neg (by decide), hm.1, hsz, openS_lit h1 h2]⟩
theorem MakeP.err {w : World} {b : List UInt8} {known : Bool} {p : RecT} {e : Int} (h : MakeP w b known (p, e, ())) (h1 : b.length < 1 ∨ b.length > 256) : e = 100 ∧ p = rc0 := by
  unfold MakeP at h
  rw [if_pos h1] at h
  obtain ⟨h2, h3⟩ := Prod.mk.inj h
  exact ⟨(Prod.mk.inj h3).1, h2⟩
theorem MakeP.one {w : World} {b : List UInt8} {known : Bool} {p : RecT} {e : Int} (h : MakeP w b known (p, e, ())) : ∀ v ∈ p.2.2.1.1, v.oneCell' = true := by
  by_cases hb : b.length < 1 ∨ b.length > 256
  · rw [(h.err hb).2]; exact rc0_one
  · rw [(h.rec (by omega) (by omega)).2.2.1]; exact u8s_one _
theorem RecordBack_law {w : World} {a : Option Addr} {len cap : Nat} {zs : List Int} (hd : Dig w) (h : RowK .u8 w a len cap zs) : Calls Tryd.prog n_flumelaw10_RecordBack #[.slice a len cap] w fun e w' => e = .returned (.bool true) ∧ Below w.heap.size w w' := by
  refine lawE ?_
  obtain ⟨l, hl⟩ := rowB h
  refine flumelaw10_RecordBack.cl (p0 := ⟨a, len, cap⟩) ?_
  unfold flumelaw10_RecordBack
  have hn : len = l.length := hl.len
  refine bD ?_ ?_ <;> intro h0
  · exact awake_law hd (Fr.refl w)
  dsimp only at h0
  refine (Make_ok (s := ⟨a, len, cap⟩) (known := false) hd hl (by omega)).mono ?_
  rintro ⟨p, e, ⟨⟩⟩ w4 ⟨hm, hf4⟩
  refine newRec (p := p) hm.one fun a5 w10 ha5 hf10 hb5 hs10 => ?_
  have hf10' := hf4.trans hf10
  refine (Make_ok (s := ⟨a, len, cap⟩) (known := true) (hd.fr hf10') (hl.fr hf10') (by omega)).mono ?_
  rintro ⟨q, f, ⟨⟩⟩ w12 ⟨hk, hf12⟩
  refine newRec (p := q) hk.one fun a13 w18 ha13 hf18 hb13 hs18 => ?_
  have hf18' := (hf10'.trans hf12).trans hf18
  have hb5' := hf18.heap (hf12.heap hb5)
  dsimp only
  refine bD ?_ ?_ <;> intro h1
  · rw [(hm.err (by omega)).1, (hk.err (by omega)).1]
    exact bT rfl (bT rfl (awake_law hd hf18'))
  refine bD ?_ ?_ <;> intro h2
  · rw [(hm.err (by omega)).1, (hk.err (by omega)).1]
    exact bT rfl (bT rfl (awake_law hd hf18'))
  obtain ⟨rfl, hsz, hsum, m, hx, hml, hop⟩ := hm.rec (by omega) (by omega)
  obtain ⟨rfl, hsz2, hsum2, m2, hx2, hml2, hop2⟩ := hk.rec (by omega) (by omega)
  rw [if_neg (by decide)] at hop
  rw [if_pos rfl] at hop2
  obtain ⟨hk1, rfl⟩ := hop2
  refine ldRec (pre := []) (post := []) hb5' ?_
  refine (Open_ok (hd.fr hf18') hsum (hx.fr ((hf10.trans hf12).trans hf18)) (by omega)).mono ?_
  rintro ⟨x24, e24, ⟨⟩⟩ w25 ⟨h24, he24, hf25⟩
  dsimp only at h24 he24 ⊢
  rw [hop] at h24 he24
  obtain ⟨rfl, _⟩ := Prod.mk.inj he24
  refine ldRec (pre := []) (post := []) (hf25.heap hb13) ?_
  have hf25' := hf18'.trans hf25
  refine (Open_ok (hd.fr hf25') hsum2 (hx2.fr (hf18.trans hf25)) (by simp)).mono ?_
  rintro ⟨x27, e27, ⟨⟩⟩ w28 ⟨h27, he27, hf28⟩
  dsimp only at h27 he27 ⊢
  rw [hk1, hsz2, openS_ref (by omega) (by omega)] at h27 he27
  obtain ⟨rfl, _⟩ := Prod.mk.inj he27
  intro n
  have hfn := Fr.drewN w28 n
  have hf29 := (hf25'.trans hf28).trans hfn
  have hb5n := hfn.heap (hf28.heap (hf25.heap hb5'))
  have hb13n := hfn.heap (hf28.heap (hf25.heap hb13))
  refine bT rfl (bT rfl (bT rfl ?_))
  refine (Equal_ok (x := ⟨a, len, cap⟩) ((h24.fr hf28).fr hfn).bs (hl.fr hf29)).mono ?_
  rintro _ _ ⟨rfl, rfl⟩
  refine ⟨Fr.refl _, bT (by simp) ?_⟩
  simp only [addOff, Nat.zero_add]
  have hxn := hx.len
  have c1 : (rcL p []).toArray[1]? = some (.int .i64 p.2.1) := rfl
  have hdl := dig_length l
  refine ldL0 (s := p.2.2.2.1) hb5n (rc_c34 p) (bP (by omega) ?_)
  refine ldI0 hb5n c1 (bT (by rw [hsz, hn]; simp) ?_)
  have row : ∀ {u : World} {g : Nat} {r : RecT} {K : {l : List Value // l.length = 32} → Prop}, u.heap[g]? = some (.cells (rcL r []).toArray t_api_Record (0, 0)) → (hs : r.2.2.1.1 = u8s (dig l)) → K ⟨u8s (dig l), by rw [u8s_length, hdl]⟩ → ld (.row 32) u ⟨g, 2, none⟩ K := by
    intro u g r K hu hs hK
    refine ldRow (vs := u8s (dig l)) hu (by rw [← hs]; show (r.2.2.1.1 ++ [slV r.2.2.2.1]).take 32 = _; rw [List.take_left' r.2.2.1.2]) (by rw [u8s_length, hdl]) hK
  refine row hb5n hsum ?_
  refine nwI fun a35 w36 ha35 hs36 hf36 hb35 _ => ⟨hf36, ?_⟩
  have hf36' := hf29.trans hf36
  refine (Of_ok (x := ⟨a, len, cap⟩) (hd.fr hf36') hb35 (hl.fr hf36') (by omega)).mono ?_
  rintro ⟨x37, hx37⟩ w38 ⟨hdx, hf38⟩
  dsimp only at hdx ⊢
  subst hdx
  refine ⟨hf38, qnEq hdl hdl (bT (by simp) ?_)⟩
  have hf38' := hf36.trans hf38
  have hxn2 := hx2.len
  refine ldL0 (s := q.2.2.2.1) (hf38'.heap hb13n) (rc_c34 q) (bT (by rw [hxn2]; rfl) ?_)
  refine row (hf38'.heap hb13n) hsum2 (row (hf38'.heap hb5n) hsum ?_)
  exact qnEq hdl hdl (bT (by simp) (bT rfl (awake_law hd (hf36'.trans hf38))))
end Go.Proofs.YtkojpppnjloikaaDoor
namespace Go.Proofs.YtkojpppnjloikaaDoor
open Go.RowKit Go.Fl

theorem openS_err {k s : Int} {d l : List UInt8} (h : (openS k s d l).2 ≠ 0) : (openS k s d l).1 = [] := by
  unfold openS at h ⊢
  split at h
  · rename_i h1; rw [if_pos h1]
  · rename_i h1
    rw [if_neg h1]
    split at h
    · rename_i h2; rw [if_pos h2]
    · rename_i h2
      rw [if_neg h2]
      split at h
      · rename_i h3; rw [if_pos h3]
      · rename_i h3
        rw [if_neg h3]
        obtain ⟨b, hb⟩ : ∃ b, (if k = 3 then (restS l s).1 else l) = b := ⟨_, rfl⟩
        rw [hb] at h ⊢
        by_cases h4 : dig b = d
        · rw [if_pos h4] at h; exact absurd rfl h
        · rw [if_neg h4]
theorem openS_true {k s : Int} {d l : List UInt8} (h : (openS k s d l).2 = 0) : ((openS k s d l).1.length : Int) = s ∧ dig (openS k s d l).1 = d ∧ (openS k s d l).1.length ≤ 256 ∧ ∀ d', d' ≠ d → openS k s d' l = ([], 111) := by
  unfold openS at h ⊢
  by_cases h1 : chkS k s l.length = 0
  · have hc := chkS_ok h1
    rw [if_neg (by omega)] at h ⊢
    by_cases h2 : k = 1
    · rw [if_pos h2] at h; cases h
    · rw [if_neg h2] at h ⊢
      by_cases h3 : k = 3 ∧ ((restS l s).2 ≠ 0 ∨ ((restS l s).1.length : Int) ≠ s)
      · rw [if_pos h3] at h; cases h
      · rw [if_neg h3] at h ⊢
        obtain ⟨b, hb⟩ : ∃ b, (if k = 3 then (restS l s).1 else l) = b := ⟨_, rfl⟩
        rw [hb] at h ⊢
        have hbl : (b.length : Int) = s := by
          rw [← hb]
          by_cases hk : k = 3
          · rw [if_pos hk]; omega
          · rw [if_neg hk]; omega
        by_cases h4 : dig b = d
        · rw [if_pos h4]
          refine ⟨hbl, h4, by dsimp only; omega, fun d' hd' => ?_⟩
          rw [if_neg (by omega), if_neg h2, if_neg h3, if_neg fun h => hd' (h.symm.trans h4)]
        · rw [if_neg h4] at h; cases h
  · rw [if_pos h1] at h; cases h
set_option maxRecDepth 100000 in
theorem RecordTrue_law {H : Type} {enc : TypeId × Value → H} {w : World} {b0 : Nat} {v0 : Value} {d0 : DataW H} {p0 : List MemPlace} {at_ : Int} (hd : Dig w)
    (o0 : Value.okWide Tryd.prog w .any b0 t_api_Record v0) (h0 : DataW.Trod enc Tryd.prog w 0 (fun _ => true) true t_api_Record v0 d0 p0) (_w1 : (Lit.int .i64 at_).wf = true) :
    Calls Tryd.prog n_flumelaw10_RecordTrue #[v0, .int .i64 at_] w fun e w' => e = .returned (.bool true) ∧ Below w.heap.size w w' := by
  refine lawE ?_
  obtain ⟨r, d, l, rfl, hr⟩ := rec_in o0 h0
  refine flumelaw10_RecordTrue.cl (p0 := r) (p1 := at_) ?_
  unfold flumelaw10_RecordTrue
  rw [rcL_nil]
  have hlen := hr.data.len
  have hdl : d.length = 32 := by have := r.2.2.1.2; rw [hr.sum, u8s_length] at this; exact this
  refine nwI fun a1 w2 ha1 hs2 hf2 hb1 _ => ?_
  rw [addOff]
  refine ldL0 (s := r.2.2.2.1) hb1 (rc_c34 r) ?_
  refine bD ?_ ?_ <;> intro hm
  · exact awake_law hd hf2
  refine ldRec (pre := []) (post := []) hb1 ?_
  refine (Open_ok (hd.fr hf2) hr.sum (hr.data.fr hf2) (by omega)).mono ?_
  rintro ⟨x7, e7, ⟨⟩⟩ w8 ⟨h7, he7, hf8⟩
  have hf8' := hf2.trans hf8
  obtain ⟨he, _⟩ := Prod.mk.inj he7
  dsimp only at h7 he ⊢
  rw [he]
  have hn7 := h7.len
  refine bNe ?_ ?_ <;> intro hz
  · rw [openS_err hz] at hn7
    exact bT (by rw [hn7]; rfl) (awake_law hd hf8')
  obtain ⟨ht1, ht2, ht3, ht4⟩ := openS_true hz
  generalize openS r.1 r.2.1 d l = y at *
  refine ldRec (pre := []) (post := []) (hf8.heap hb1) ?_
  refine newRec (p := r) (by rw [hr.sum]; exact u8s_one _) fun a12 w17 ha12 hf17 hb12 hs17 => ?_
  obtain ⟨i, hi, hie⟩ : ∃ i : Nat, i < 32 ∧ IntKind.i64.wrap (Int.tmod (IntKind.u64.wrap at_) 32) = i := by
    have hu : 0 ≤ IntKind.u64.wrap at_ ∧ IntKind.u64.wrap at_ ≤ 18446744073709551615 := by
      simp only [IntKind.wrap, IntKind.bits, IntKind.signed]; simp; omega
    generalize IntKind.u64.wrap at_ = u at *
    have h32 : Int.tmod u 32 = u % 32 := Int.tmod_eq_emod_of_nonneg hu.1
    rw [h32, i64w (by omega) (by omega)]
    exact ⟨(u % 32).toNat, by omega, by omega⟩
  rw [hie]
  have hat : atOff ⟨a12, 0 + 2, none⟩ (i : Int) 1 = ⟨a12, 2 + i, none⟩ := by show Addr.add _ _ = _; rw [addOff]; rfl
  have hid : i < d.length := by omega
  have hci : (rcL r []).toArray[2 + i]? = some (.int .u8 (d[i].toNat : Int)) := by
    rw [List.getElem?_toArray, rcL, show 2 + i = i + 2 from by omega, List.getElem?_cons_succ, List.getElem?_cons_succ, List.getElem?_append_left (by rw [r.2.2.1.2]; omega), hr.sum]
    simp [u8s, hid]
  rw [addOff, addOff]
  refine ⟨by omega, by omega, nzS ?_⟩
  show ld (.I .u8) w17 (atOff ⟨a12, 0 + 2, none⟩ (i : Int) 1) _
  rw [hat]
  refine ldI0 hb12 hci ?_
  refine ⟨by omega, by omega, nzS ?_⟩
  show st1 w17 (atOff ⟨a12, 0 + 2, none⟩ (i : Int) 1) _ _
  rw [hat]
  have hx : bits .xor .u8 (d[i].toNat : Int) 1 = ((d[i] ^^^ 1).toNat : Int) := by
    rw [show (1 : Int) = ((1 : Nat) : Int) from rfl, u8_xor_nat _ _ (UInt8.toNat_lt _) (by decide), UInt8.toNat_xor]; rfl
  rw [hx]
  have hlr : (rcL r []).length = 35 := by simp [rcL_length]
  refine st0 hb12 (by simp [hlr]; omega) fun w21 hb21 hg21 hs21 => ?_
  have hd'l : (d.set i (d[i] ^^^ 1)).length = 32 := by simp [hdl]
  have hne : d.set i (d[i] ^^^ 1) ≠ d := fun h => by
    have h1 : (d.set i (d[i] ^^^ 1))[i]'(by simpa using hid) = d[i] := by simp only [h]
    rw [List.getElem_set_self] at h1
    generalize d[i] = z at h1
    have h2 : z ^^^ (z ^^^ 1) = z ^^^ z := by rw [h1]
    rw [← UInt8.xor_assoc, UInt8.xor_self, UInt8.zero_xor] at h2
    cases h2
  let r' : RecT := (r.1, r.2.1, ⟨u8s (d.set i (d[i] ^^^ 1)), by rw [u8s_length, hd'l]⟩, r.2.2.2.1, ())
  have e21 : (rcL r []).toArray.setIfInBounds (2 + i) (.int .u8 ((d[i] ^^^ 1).toNat : Int)) = (rcL r' []).toArray := by
    rw [List.setIfInBounds_toArray, rcL, rcL, show 2 + i = i + 2 from by omega, List.set_cons_succ, List.set_cons_succ, List.set_append_left _ _ (by rw [r.2.2.1.2]; omega), hr.sum]
    simp [r', u8s, List.map_set]
  rw [e21] at hb21
  have hf17' := hf8'.trans hf17
  have hf21 : Fr w w21 := hf17'.on (grown_below hg21 (by have := hf8'.size; omega) hf17'.size)
  have hf821 : Fr w8 w21 := hf17.on (grown_below hg21 ha12 hf17.size)
  refine ldRec (pre := []) (post := []) (p := r') hb21 ?_
  refine (Open_ok (p := r') (d := d.set i (d[i] ^^^ 1)) (l := l) (hd.fr hf21) rfl (hr.data.fr hf21) (by omega)).mono ?_
  rintro ⟨x23, e23, ⟨⟩⟩ w24 ⟨h23, he23, hf24⟩
  rw [show openS r'.1 r'.2.1 (d.set i (d[i] ^^^ 1)) l = ([], 111) from ht4 _ hne] at h23 he23
  obtain ⟨rfl, _⟩ := Prod.mk.inj he23
  have hn23 := h23.len
  intro n
  have hfn := Fr.drewN w24 n
  have hf25 := (hf21.trans hf24).trans hfn
  have hb25 := (hf821.trans (hf24.trans hfn)).heap (hf8.heap hb1)
  have c1 : (rcL r []).toArray[1]? = some (.int .i64 r.2.1) := rfl
  refine ldI0 hb25 c1 (bT (by rw [hn7, ht1]; simp) ?_)
  refine ldRow (vs := u8s d) hb25 (by rw [← hr.sum]; show (r.2.2.1.1 ++ [slV r.2.2.2.1]).take 32 = _; rw [List.take_left' r.2.2.1.2]) (by rw [u8s_length, hdl]) ?_
  refine nwI fun a28 w29 ha28 hs29 hf29 hb29 _ => ⟨hf29, ?_⟩
  have hf29' := hf25.trans hf29
  refine (Of_ok (x := x7) (b := y.1) (hd.fr hf29') hb29 (h7.bs.fr ((hf821.trans (hf24.trans hfn)).trans hf29)) (by omega)).mono ?_
  rintro ⟨x30, hx30⟩ w31 ⟨hdx, hf31⟩
  dsimp only at hdx ⊢
  rw [ht2] at hdx
  subst hdx
  refine ⟨hf31, qnEq hdl hdl (bT (by simp) (bT rfl (bT (by rw [hn23]; rfl) (awake_law hd (hf29'.trans hf31)))))⟩
end Go.Proofs.YtkojpppnjloikaaDoor
namespace Go.Proofs.YtkojpppnjloikaaDoor
open Go.RowKit Go.Fl

/-- What is made of a chunk, as plain data. -/
def mkS (b : List UInt8) (known : Bool) : Int × Int × List UInt8 × List UInt8 × Int :=
  if b.length < 1 ∨ b.length > 256 then (0, 0, List.replicate 32 0, [], 100)
  else if known then (1, b.length, dig b, [], 0) else if (shortS b).length < b.length then (3, b.length, dig b, shortS b, 0) else (2, b.length, dig b, b, 0)
theorem rc0_sum : rc0.2.2.1.1 = u8s (List.replicate 32 0) := by simp [rc0, zrow, u8s]
theorem MakeO.eq {w : World} {base : Nat} {b : List UInt8} {known : Bool} {p : RecT} {e : Int} (h : MakeO w base b known (p, e, ())) :
    p.1 = (mkS b known).1 ∧ p.2.1 = (mkS b known).2.1 ∧ p.2.2.1.1 = u8s (mkS b known).2.2.1 ∧ OwB w base t_uint8 p.2.2.2.1 (mkS b known).2.2.2.1 ∧ e = (mkS b known).2.2.2.2 := by
  unfold MakeO at h
  unfold mkS
  by_cases hb : b.length < 1 ∨ b.length > 256
  · rw [if_pos hb] at h ⊢
    obtain ⟨rfl, he⟩ := Prod.mk.inj h
    exact ⟨rfl, rfl, rc0_sum, OwB.nil _ _ _, (Prod.mk.inj he).1⟩
  · rw [if_neg hb] at h ⊢
    obtain ⟨he, hsz, hsum, hm⟩ := h
    dsimp only at he hsz hsum hm
    have he := (Prod.mk.inj he).1
    cases known with
    | true =>
      rw [if_pos rfl] at hm ⊢
      exact ⟨hm.1, hsz, hsum, by rw [hm.2]; exact OwB.nil _ _ _, he⟩
    | false =>
      rw [if_neg (by decide)] at hm ⊢
      by_cases hs : (shortS b).length < b.length
      · rw [if_pos hs] at hm ⊢; exact ⟨hm.1, hsz, hsum, hm.2, he⟩
      · rw [if_neg hs] at hm ⊢; exact ⟨hm.1, hsz, hsum, hm.2, he⟩
theorem MakeP.eq {w : World} {b : List UInt8} {known : Bool} {p : RecT} {e : Int} (h : MakeP w b known (p, e, ())) :
    p.1 = (mkS b known).1 ∧ p.2.1 = (mkS b known).2.1 ∧ p.2.2.1.1 = u8s (mkS b known).2.2.1 ∧ Bs w p.2.2.2.1 (mkS b known).2.2.2.1 ∧ e = (mkS b known).2.2.2.2 := by
  unfold MakeP at h
  unfold mkS
  by_cases hb : b.length < 1 ∨ b.length > 256
  · rw [if_pos hb] at h ⊢
    obtain ⟨rfl, he⟩ := Prod.mk.inj h
    exact ⟨rfl, rfl, rc0_sum, Bs.nil _ _, (Prod.mk.inj he).1⟩
  · rw [if_neg hb] at h ⊢
    obtain ⟨he, hsz, hsum, hm⟩ := h
    dsimp only at he hsz hsum hm
    have he := (Prod.mk.inj he).1
    cases known with
    | true =>
      rw [if_pos rfl] at hm ⊢
      exact ⟨hm.1, hsz, hsum, by rw [hm.2]; exact Bs.nil _ _, he⟩
    | false =>
      rw [if_neg (by decide)] at hm ⊢
      by_cases hs : (shortS b).length < b.length
      · rw [if_pos hs] at hm ⊢; exact ⟨hm.1, hsz, hsum, hm.2, he⟩
      · rw [if_neg hs] at hm ⊢; exact ⟨hm.1, hsz, hsum, hm.2, he⟩
/-- One byte of an own row is turned. -/
theorem flip1 {w : World} {base : Nat} {e : TypeId} {s : Sl} {l : List UInt8} {i : Nat} (h : OwB w base e s l) (hi : i < l.length) {K : World → Prop}
    (hk : ∀ w' l', l'.length = l.length → OwB w' base e s l' → Below base w w' → (∀ k, some k ≠ (Value.slice s.a s.n s.c).ownBlock → w'.heap[k]? = w.heap[k]?) → K w') :
    ixa s.a s.n (i : Int) 1 fun a => ld (.I .u8) w a fun (x : Int) => ixa s.a s.n (i : Int) 1 fun a' => st1 w a' (.int .u8 (bits .xor .u8 x 255)) K := by
  refine ixBc (c := l[i]) h.rd h.len (by omega) (by rw [Int.toNat_natCast]; exact List.getElem?_eq_getElem hi) (Fr.refl w) ?_
  refine stB h (by omega) (by rw [Int.toNat_natCast]; exact hi) (l[i] ^^^ 255) ?_ fun w' h' hb hk' _ => hk w' _ (by simp) h' hb hk'
  rw [show (255 : Int) = ((255 : Nat) : Int) from rfl, u8_xor_nat _ _ (UInt8.toNat_lt _) (by decide), UInt8.toNat_xor]
  rfl
theorem RecordMakes_law {w : World} {a : Option Addr} {len cap : Nat} {zs : List Int} {known : Bool} (hd : Dig w) (h : RowK .u8 w a len cap zs) : Calls Tryd.prog n_flumelaw10_RecordMakes #[.slice a len cap, .bool known] w fun e w' => e = .returned (.bool true) ∧ Below w.heap.size w w' := by
  refine lawE ?_
  obtain ⟨l, hl⟩ := rowB h
  refine flumelaw10_RecordMakes.cl (p0 := ⟨a, len, cap⟩) (p1 := known) ?_
  unfold flumelaw10_RecordMakes
  have hn : len = l.length := hl.len
  refine bD ?_ ?_ <;> intro h0
  · exact awake_law hd (Fr.refl w)
  dsimp only at h0
  refine (Clone_byte_ok (s := ⟨a, len, cap⟩) hl (by omega)).mono ?_
  rintro x3 w4 ⟨h3, hf4⟩
  refine (Make_own (known := known) (hd.fr hf4) h3.bs (by omega)).mono ?_
  rintro ⟨p, e, ⟨⟩⟩ w6 ⟨hm, hf6⟩
  obtain ⟨ek, es, esum, hdat, he⟩ := hm.eq
  have hml : (mkS l known).2.2.2.1.length ≤ 1048576 := by
    unfold mkS
    split
    · simp
    · split
      · simp
      · split
        · dsimp only; omega
        · dsimp only; omega
  refine newRec (p := p) (by rw [esum]; exact u8s_one _) fun a7 w12 ha7 hf12 hb12 hs12 => ?_
  have hf12' := hf6.trans hf12
  refine (refMake_ok (s := ⟨a, len, cap⟩) (known := known) (hl.fr (hf4.trans hf12')) (by omega)).mono ?_
  rintro ⟨q, f, ⟨⟩⟩ w14 ⟨hk, hf14⟩
  obtain ⟨qk, qs, qsum, qdat, qe⟩ := hk.eq
  refine newRec (p := q) (by rw [qsum]; exact u8s_one _) fun a15 w20 ha15 hf20 hb20 hs20 => ?_
  have hb12' := hf20.heap (hf14.heap hb12)
  have hf20' := (hf12.trans hf14).trans hf20
  intro j1
  refine ldRec (pre := []) (post := []) hb12' (ldRec (pre := []) (post := []) hb20 ?_)
  refine (Same_ok esum qsum (hdat.fr hf20').bs (qdat.fr hf20)).mono ?_
  rintro _ w24 ⟨rfl, hf24⟩
  rw [decide_eq_true ⟨ek.trans qk.symm, es.trans qs.symm, rfl, rfl⟩]
  refine bT rfl ?_
  have hef : (e == f) = true := by rw [he, qe]; simp
  dsimp only
  rw [hef]
  show ld .L w24 _ _
  rw [addOff]
  have hb24 := hf24.heap hb12'
  refine ldL0 (s := p.2.2.2.1) hb24 (rc_c34 p) ?_
  have hf24' := hf20'.trans hf24
  have hdat24 := hdat.fr hf24'
  have hn24 := hdat24.len
  have hW24 : Fr w4 w24 := hf6.trans hf24'
  have hsz6 := hf6.size
  refine lpI (fun s' w' => Below w4.heap.size w4 w' ∧ ∃ (i : Nat) (m : List UInt8), s'.1 = i ∧ m.length = (mkS l known).2.2.2.1.length ∧ OwB w' w4.heap.size t_uint8 p.2.2.2.1 m ∧ w'.heap[a7]? = some (.cells (rcL p []).toArray t_api_Record (0, 0))) (fun s' _ => (p.2.2.2.1.n - s'.1).toNat)
    ⟨hW24, 0, _, rfl, rfl, hdat24, hb24⟩ ?_
  rintro _ ⟨i', ⟨⟩⟩ w43 ⟨hb43, i, m, rfl, hm', hown, h743⟩
  dsimp only
  have hon := hown.len
  refine bD ?_ ?_ <;> intro hlt
  · refine ldL0 (s := p.2.2.2.1) h743 (rc_c34 p) ?_
    refine flip1 hown (by omega) fun w50 m' hm50 hown' hb50 hk50 => ?_
    rw [i64w (by omega) (by omega)]
    refine ⟨⟨hb43.trans hb50, i + 1, m', rfl, by omega, hown', ?_⟩, by omega⟩
    rw [hk50 a7 fun e => ?_]
    · exact h743
    · have := (hdat.block a7 e.symm).2
      omega
  · refine bT rfl ?_
    have hfw : Fr w w43 := hf4.on (hb43.mono hf4.size)
    refine (Equal_ok (x := ⟨a, len, cap⟩) (h3.bs.fr hb43) (hl.fr hfw)).mono ?_
    rintro _ _ ⟨rfl, rfl⟩
    exact bT (by simp) (awake_law hd hfw)
set_option maxRecDepth 100000 in
theorem RecordOpens_law {H : Type} {enc : TypeId × Value → H} {w : World} {b0 : Nat} {v0 : Value} {d0 : DataW H} {p0 : List MemPlace} (hd : Dig w)
    (o0 : Value.okWide Tryd.prog w .any b0 t_api_Record v0) (h0 : DataW.Trod enc Tryd.prog w 0 (fun _ => true) true t_api_Record v0 d0 p0) :
    Calls Tryd.prog n_flumelaw10_RecordOpens #[v0] w fun e w' => e = .returned (.bool true) ∧ Below w.heap.size w w' := by
  refine lawE ?_
  obtain ⟨r, d, l, rfl, hr⟩ := rec_in o0 h0
  refine flumelaw10_RecordOpens.cl (p0 := r) ?_
  unfold flumelaw10_RecordOpens
  rw [rcL_nil]
  have hlen := hr.data.len
  refine nwI fun a1 w2 ha1 hs2 hf2 hb1 _ => ?_
  rw [addOff]
  refine ldL0 (s := r.2.2.2.1) hb1 (rc_c34 r) ?_
  refine bD ?_ ?_ <;> intro hm
  · exact awake_law hd hf2
  have hone : ∀ v ∈ r.2.2.1.1, v.oneCell' = true := by rw [hr.sum]; exact u8s_one _
  refine ldRec (pre := []) (post := []) hb1 ?_
  refine newRec (p := r) hone fun a7 w12 ha7 hf12 hb12 hs12 => ?_
  have hf12' := hf2.trans hf12
  refine ldL0 (s := r.2.2.2.1) (hf12.heap hb1) (rc_c34 r) ?_
  refine (Clone_byte_ok (hr.data.fr hf12') (by omega)).mono ?_
  rintro x14 w15 ⟨h14, hf15⟩
  rw [addOff, Nat.zero_add]
  refine st0 (hf15.heap hb12) (by simp [rcL_length]) fun w16 hb16 hg16 hs16 => ?_
  let q : RecT := (r.1, r.2.1, r.2.2.1, x14, ())
  have hb16 : w16.heap[a7]? = some (.cells (rcL q []).toArray t_api_Record (0, 0)) := hb16.trans (congrArg (fun x => some (Obj.cells x t_api_Record (0, 0))) (rcSet34 _ _ _))
  have hf15' := hf12.trans hf15
  have hf16 : Fr w2 w16 := hf15'.on (grown_below hg16 (by omega) hf15'.size)
  have hf16' := hf2.trans hf16
  have hl12 := (Array.getElem?_eq_some_iff.1 hb12).1
  have h14' : Bs w16 q.2.2.2.1 l := h14.bs.kpn (kp_grown hg16) fun _ ad had => by have := (h14.own ad had).1; omega
  have hb1' : w16.heap[a1]? = _ := hf16.heap hb1
  refine ldRec (pre := []) (post := []) (p := q) hb16 ?_
  refine (Open_ok (p := q) (hd.fr hf16') hr.sum h14' (by omega)).mono ?_
  rintro ⟨x18, e18, ⟨⟩⟩ w19 ⟨h18, he18, hf19⟩
  dsimp only at h18 he18
  refine ldRec (pre := []) (post := []) (hf19.heap hb1') ?_
  have hf19' := hf16'.trans hf19
  refine (refOpen_ok (p := r) hr.sum (hr.data.fr hf19') (by omega)).mono ?_
  rintro ⟨x21, e21, ⟨⟩⟩ w22 ⟨h21, he21, hf22⟩
  intro j1
  dsimp only at h21 he21
  refine (Equal_ok (h18.fr hf22).bs h21.bs).mono ?_
  rintro _ _ ⟨rfl, rfl⟩
  refine bT (by simp [q]) ?_
  have hef : (e18 == e21) = true := by rw [(Prod.mk.inj he18).1, (Prod.mk.inj he21).1]; simp [q]
  dsimp only
  rw [hef]
  have h18' := h18.fr hf22
  have hyl : (openS q.1 q.2.1 d l).1.length ≤ 256 := by
    by_cases hz : (openS q.1 q.2.1 d l).2 = 0
    · exact (openS_true hz).2.2.1
    · rw [openS_err hz]; simp
  generalize (openS q.1 q.2.1 d l).1 = y at *
  have hon := h18'.len
  refine lpI (fun s' w' => Below w16.heap.size w16 w' ∧ ∃ (i : Nat) (m : List UInt8), s'.1 = i ∧ m.length = y.length ∧ OwB w' w16.heap.size t_uint8 x18 m) (fun s' _ => (x18.n - s'.1).toNat)
    ⟨hf19.trans hf22, 0, y, rfl, rfl, h18'⟩ ?_
  rintro _ ⟨i', ⟨⟩⟩ w43 ⟨hb43, i, m, rfl, hm', hown⟩
  dsimp only
  refine bD ?_ ?_ <;> intro hlt
  · refine flip1 hown (by omega) fun w50 m' hm50 hown' hb50 hk50 => ?_
    rw [i64w (by omega) (by omega)]
    exact ⟨⟨hb43.trans hb50, i + 1, m', rfl, by omega, hown'⟩, by omega⟩
  · refine bT rfl ?_
    have hf43 : Fr w16 w43 := hb43
    refine ldL0 (s := x14) (hf43.heap hb16) (rc_c34 q) (ldL0 (s := r.2.2.2.1) (hf43.heap hb1') (rc_c34 r) ?_)
    have hfw := hf16'.trans hf43
    refine (Equal_ok (h14'.fr hf43) (hr.data.fr hfw)).mono ?_
    rintro _ _ ⟨rfl, rfl⟩
    exact bT (by simp) (awake_law hd hfw)
end Go.Proofs.YtkojpppnjloikaaDoor
