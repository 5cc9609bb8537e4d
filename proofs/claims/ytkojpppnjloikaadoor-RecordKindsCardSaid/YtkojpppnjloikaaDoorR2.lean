/- Contracts: a note's fields, Fits, put, Put. -/
import Derived.Test.YtkojpppnjloikaaDoorR1
namespace Go.Proofs.YtkojpppnjloikaaDoor
open Go.RowKit Go.Fl

abbrev ntV (p : NtT) : Value := .agg ((([.int .i64 p.1, .int .i64 p.2.1, .int .i64 p.2.2.1, .int .i64 p.2.2.2.1, .int .i64 p.2.2.2.2.1] : List Value) ++ ((([.int .i64 p.2.2.2.2.2.1.1, .int .i64 p.2.2.2.2.2.1.2.1] : List Value) ++ (p.2.2.2.2.2.1.2.2.1.1 ++ ([.slice p.2.2.2.2.2.1.2.2.2.1.a p.2.2.2.2.2.1.2.2.2.1.n p.2.2.2.2.2.1.2.2.2.1.c] : List Value))) ++ ([] : List Value)))).toArray
theorem Pts.new {w' : World} {base g b : Nat} {t : TypeId} {k : Int} {os : List Nat} (he : offs k = os) (hb : base ≤ b) (h : w'.heap[b]? = some (.cells (os.map fun o => Value.pointer (some ⟨g, o, none⟩)).toArray t (0, 0))) : Pts w' base g (offs k) ⟨some ⟨b, 0, none⟩, os.length, os.length⟩ := by
  rw [he]
  exact ⟨rfl, fun _ => ⟨b, t, rfl, hb, h⟩⟩
theorem fields_ok {g : Nat} {cs : Array Value} {t : TypeId} {f : Nat × Nat} {k : Int} {w : World} (hg : w.heap[g]? = some (.cells cs t f)) (h0 : cs[0]? = some (.int .i64 k)) :
    cl Tryd.prog n_record_fields #[.pointer (some ⟨g, 0, none⟩)] .L w fun (r : Sl) w' => Pts w' w.heap.size g (offs k) r ∧ Fr w w' := by
  refine record_fields.cl (p0 := some ⟨g, 0, none⟩) ?_
  unfold record_fields
  refine nzS (ldI0 hg h0 ?_)
  refine bE ?_ ?_ <;> intro h1
  · intro n
    refine nzS (nzS (nzS ?_))
    simp only [addOff]
    refine nwI fun b w2 hb hs hf hblk _ => ⟨Pts.new (os := [1, 2, 3]) (by rw [offs, if_pos h1]) ?_ hblk, (Fr.drewN w n).trans hf⟩
    exact Nat.le_of_eq hb.symm
  intro j1
  have hj : ∀ y : Bool, (y = true ↔ (k = 2 ∨ k = 5 ∨ k = 6)) → j1 y w := by
    intro y hy
    show bif y then _ else _
    refine bB ?_ ?_ <;> intro hyv
    · have hk := hy.1 hyv
      intro n
      refine nzS (nzS ?_)
      simp only [addOff]
      refine nwI fun b w2 hb hs hf hblk _ => ⟨Pts.new (os := [1, 4]) (by rw [offs, if_neg h1, if_pos hk]) ?_ hblk, (Fr.drewN w n).trans hf⟩
      exact Nat.le_of_eq hb.symm
    · have hk : ¬(k = 2 ∨ k = 5 ∨ k = 6) := fun h => by rw [hy.2 h] at hyv; cases hyv
      have one : ∀ (K : Sl → World → Prop), k = 3 ∨ k = 4 → (∀ r w', Pts w' w.heap.size g (offs k) r ∧ Fr w w' → K r w') → nz (some ⟨g, 0, none⟩) fun a27 => nw w [.pointer (some (a27.add 1))] t_p_int fun a28 w29 => K ⟨(some a28), 1, 1⟩ w29 := by
        intro K h34 hK
        refine nzS ?_
        simp only [addOff]
        exact nwI fun b w2 hb hs hf hblk _ => hK _ _ ⟨Pts.new (os := [1]) (by rw [offs, if_neg h1, if_neg hk, if_pos h34]) (by omega) hblk, hf⟩
      refine bE ?_ ?_ <;> intro h3
      · refine bE ?_ ?_ <;> intro h3'
        · exact one _ (.inl h3) fun r w' h => h
        · exact absurd h3 h3'
      refine bE ?_ ?_ <;> intro h4
      · exact one _ (.inr h4) fun r w' h => h
      · have e : offs k = [] := by rw [offs, if_neg h1, if_neg hk, if_neg (by omega)]
        rw [e]
        exact ⟨⟨rfl, fun h => absurd rfl h⟩, Fr.refl w⟩
  clear_value j1
  refine bE ?_ ?_ <;> intro h2
  · exact hj _ (by simp [h2])
  refine bE ?_ ?_ <;> intro h5
  · exact hj _ (by simp [h5])
  · exact hj _ (by simp [h2, h5])
theorem zero_Sum (w : World) : (Instr.build t_api_Sum #[]).run Tryd.prog w = .ok (.agg (List.replicate 32 (Value.int .u8 0)).toArray) w := by
  have hz : (zeroValue t_api_Sum).run Tryd.prog w = .ok (.agg (List.replicate 32 (Value.int .u8 0)).toArray) w := run_zeroV (by kernel_rfl) w
  simp [Instr.build, hz, run_underlying u_api_Sum, size_u8, Instr.fill, Value.cells]
theorem Fits_ok {p : NtT} {d : List UInt8} {w : World} (hp : p.2.2.2.2.2.1.2.2.1.1 = u8s d) : cl Tryd.prog n_record_Fits #[ntV p] (.I .i64) w fun (r : Int) w' => r = fitS p d ∧ Fr w w' := by
  refine record_Fits.cl (p0 := p) ?_
  unfold record_Fits
  rw [ntL_eq]
  have hdl : d.length = 32 := by have := p.2.2.2.2.2.1.2.2.1.2; rw [hp, u8s_length] at this; exact this
  have hone : ∀ v ∈ p.2.2.2.2.2.1.2.2.1.1, v.oneCell' = true := by rw [hp]; exact u8s_one d
  refine nwI fun a1 w2 ha1 hs2 hf2 hb1 _ => ?_
  have at1 : ∀ {u : World}, Fr w2 u → ∀ {o : Nat}, o < 5 → ∀ {K : Int → Prop}, K (nv p o) → ld (.I .i64) u ⟨a1, o, none⟩ K := by
    intro u hf o ho K hK
    exact ldI0 (hf.heap hb1) (ntL_at p ho) hK
  refine at1 (Fr.refl _) (o := 0) (by decide) ?_
  simp only [addOff, Nat.zero_add]
  refine ldRec (pre := n5 p) (post := []) (p := p.2.2.2.2.2.1) hb1 ?_
  have hz : ∀ (K : Addr → World → Prop), nw w2 (([.int .i64 0, .int .i64 0, .int .i64 0, .int .i64 0, .int .i64 0] : List Value) ++ ((([.int .i64 0, .int .i64 0] : List Value) ++ ((zrow 32 (.int .u8 0)).1 ++ ([.slice none 0 0] : List Value))) ++ ([] : List Value))) t_api_Note K = nw w2 (ntL (0, 0, 0, 0, 0, rc0, ())) t_api_Note K := fun K => by rw [List.append_nil]; rfl
  rw [hz]
  refine nwI fun a5 w6 ha5 hs6 hf6 hb5 _ => ?_
  have hst := fun K hk => stNote (K := K) hb5 (nv p 0, 0, 0, 0, 0, p.2.2.2.2.2.1, ()) hone hk
  simp only [addOff, Nat.zero_add] at hst
  refine hst _ fun w15 hb15 hg15 hs15 => ?_
  have hf15 : Fr w2 w15 := hf6.on (grown_below hg15 (by omega) hf6.size)
  have hw15 : Fr w w15 := hf2.trans hf15
  refine (fields_ok (hf15.heap hb1) (ntL_at p (o := 0) (by decide))).mono ?_
  rintro x16 w17 ⟨hx16, hf17⟩
  have hk0 : nv p 0 = p.1 := rfl
  rw [hk0] at hx16 hb15
  have hn16 := hx16.1
  have e0 : ((p.1, 0, 0, 0, 0, p.2.2.2.2.2.1, ()) : NtT) = bareN p [] := by simp [bareN]
  rw [e0] at hb15
  have hok : offs p.1 = [] ∨ offs p.1 ≠ [] := by by_cases h : offs p.1 = [] <;> simp [h]
  have hsz15 : w15.heap.size ≤ w17.heap.size := hf17.size
  have h5lt : a5 < w15.heap.size := (Array.getElem?_eq_some_iff.1 hb15).1
  refine lpI (fun s' w' => Fr w2 w' ∧ ∃ i : Nat, i ≤ (offs p.1).length ∧ s'.1 = i ∧ w15.heap.size ≤ w'.heap.size ∧ Pts w' w15.heap.size a1 (offs p.1) x16 ∧ w'.heap[a5]? = some (.cells (ntL (bareN p ((offs p.1).take i))).toArray t_api_Note (0, 0)) ∧ ∀ o ∈ (offs p.1).take i, 1 ≤ nv p o ∧ nv p o ≤ 1073741824)
    (fun s' _ => ((offs p.1).length - s'.1).toNat) ⟨hf15.trans hf17, 0, by omega, rfl, hsz15, hx16, by rw [List.take_zero]; exact hf17.heap hb15, by simp⟩ ?_
  rintro _ ⟨i', ⟨⟩⟩ w19 ⟨hf19, i, hi, rfl, hsz, hx, hb5', hall⟩
  dsimp only at hx ⊢
  rw [hn16]
  refine bD ?_ ?_ <;> intro hlt
  · have hi' : i < (offs p.1).length := by omega
    have ho := offs_mem (List.getElem_mem hi')
    have ho5 : (offs p.1)[i] < 5 := by omega
    have hmem : (offs p.1)[i] ∈ offs p.1 := List.getElem_mem hi'
    rw [← hn16]
    refine hx.ix hi' (nzS (at1 hf19 ho5 ?_))
    refine bD ?_ ?_ <;> intro h1
    · refine ⟨?_, hf2.trans hf19⟩
      rw [fitS, if_neg fun h => by have := h.2.1 _ hmem; omega]
    refine nzS (at1 hf19 ho5 ?_)
    refine bD ?_ ?_ <;> intro h2
    · refine ⟨?_, hf2.trans hf19⟩
      rw [fitS, if_neg fun h => by have := h.2.1 _ hmem; omega]
    intro n
    have hfn := Fr.drewN w19 n
    refine nzS (at1 (hf19.trans hfn) ho5 ?_)
    refine (fields_ok (hfn.heap hb5') (k := p.1) (by rfl)).mono ?_
    rintro x35 w36 ⟨hx35, hf36⟩
    refine ⟨hf36, hx35.ix hi' (nzS ?_)⟩
    have hb36 := hf36.heap (hfn.heap hb5')
    refine st0 hb36 (by simp [ntL_length]; omega) fun w40 hb40 hg40 hs40 => ?_
    rw [bareN_set p _ ho, ← List.take_succ_eq_append_getElem hi'] at hb40
    have hf36' : Fr w2 w36 := hf19.trans (hfn.trans hf36)
    have hl3 := offs_len p.1
    have hs36 : w19.heap.size ≤ w36.heap.size := (hfn.trans hf36).size
    rw [i64w (by omega) (by omega)]
    refine ⟨⟨hf36'.on (grown_below hg40 (by omega) hf36'.size), i + 1, by omega, rfl, by omega, (hx.fr (hfn.trans hf36)).kp hg40 h5lt, hb40, fun o ho' => ?_⟩, by omega⟩
    rw [List.take_succ_eq_append_getElem hi'] at ho'
    rcases List.mem_append.1 ho' with ho' | ho'
    · exact hall o ho'
    · rw [List.mem_singleton] at ho'
      subst ho'
      omega
  obtain rfl : i = (offs p.1).length := by omega
  rw [List.take_length] at hb5' hall
  have hw19 : Fr w w19 := hf2.trans hf19
  refine ⟨fun s w' => w19 = w' ∧ s.1 = decide (p.1 = 1 → p.2.2.1 ≤ 65535 ∧ p.2.2.2.1 ≤ 65535), ?_, ?_⟩
  · rintro _ ⟨ports, ⟨⟩⟩ _ ⟨rfl, hports⟩
    dsimp only at hports
    refine ⟨fun s w' => w19 = w' ∧ s.1 = decide (∀ o ∈ ([1, 2, 3, 4] : List Nat), o ∉ offs p.1 → nv p o = 0), ?_, ?_⟩
    · rintro _ ⟨same, ⟨⟩⟩ _ ⟨rfl, hsame⟩
      dsimp only at hsame
      refine ⟨fun s w' => w19 = w' ∧ s.1 = decide (emptyR p.2.2.2.2.2.1 d), ?_, ?_⟩
      · rintro _ ⟨empty, ⟨⟩⟩ _ ⟨rfl, hempty⟩
        dsimp only at hempty ⊢
        refine (fields_ok (hf19.heap hb1) (ntL_at p (o := 0) (by decide))).mono ?_
        rintro x w20 ⟨hx20, hf20⟩
        have hf20' := hw19.trans hf20
        have hn20 : x.n = (offs p.1).length := hx20.1
        refine bE ?_ ?_ <;> intro h1
        · refine ⟨?_, hf20'⟩
          rw [fitS, if_neg fun h => h.1 (List.eq_nil_of_length_eq_zero (by omega))]
        have hne : offs p.1 ≠ [] := fun h => by rw [h] at hn20; exact h1 (by simp [hn20])
        rw [hports]
        refine bB ?_ ?_ <;> intro h2
        · refine ⟨?_, hf20'⟩
          rw [fitS, if_neg fun h => by rw [Bool.not_eq_true', decide_eq_false_iff_not] at h2; exact h2 h.2.2.1]
        rw [Bool.not_eq_false', decide_eq_true_iff] at h2
        rw [hsame]
        refine bB ?_ ?_ <;> intro h3
        · refine ⟨?_, hf20'⟩
          rw [fitS, if_neg fun h => by rw [Bool.not_eq_true', decide_eq_false_iff_not] at h3; exact h3 h.2.2.2.1]
        rw [Bool.not_eq_false', decide_eq_true_iff] at h3
        refine at1 (hf19.trans hf20) (o := 0) (by decide) ?_
        have chk : p.1 = 2 → ∀ {K : Int → World → Prop}, (∀ w', Fr w w' → K (fitS p d) w') → ld (.pair (.I .i64) (.pair (.I .i64) (.pair (.row 32) (.pair .L .nil)))) w20 ⟨a1, 5, none⟩ fun (x457 : RecT) => cl Tryd.prog n_record_Check #[rcV x457] (.I .i64) w20 fun (x458 : Int) w459 => bif (x458 != 0) then K 100 w459 else K 0 w459 := by
          intro h5 K hK
          refine ldRec (pre := n5 p) (post := []) (p := p.2.2.2.2.2.1) (hf20.heap (hf19.heap hb1)) ?_
          refine (Check_ok (p := p.2.2.2.2.2.1)).mono ?_
          rintro _ w21 ⟨rfl, hf21⟩
          have hk := hK w21 (hf20'.trans hf21)
          refine bNe ?_ ?_ <;> intro h6
          · rw [fitS, if_neg fun h => h6 (h.2.2.2.2.2 h5)] at hk; exact hk
          · rw [fitS, if_pos ⟨hne, hall, h2, h3, fun h => absurd h5 h, fun _ => h6⟩] at hk; exact hk
        refine bNe ?_ ?_ <;> intro h4
        · have h4 : p.1 ≠ 2 := h4
          rw [hempty]
          refine bB ?_ ?_ <;> intro h5
          · refine ⟨?_, hf20'⟩
            rw [fitS, if_neg fun h => by rw [Bool.not_eq_true', decide_eq_false_iff_not] at h5; exact h5 (h.2.2.2.2.1 h4)]
          rw [Bool.not_eq_false', decide_eq_true_iff] at h5
          refine at1 (hf19.trans hf20) (o := 0) (by decide) ?_
          refine bE ?_ ?_ <;> intro h6
          · exact absurd h6 h4
          · refine ⟨?_, hf20'⟩
            rw [fitS, if_pos ⟨hne, hall, h2, h3, fun _ => h5, fun h => absurd h h4⟩]
        · have h4 : p.1 = 2 := h4
          refine at1 (hf19.trans hf20) (o := 0) (by decide) ?_
          refine bE ?_ ?_ <;> intro h6
          · exact chk h4 (K := fun r w' => r = fitS p d ∧ Fr w w') fun w' hf => ⟨rfl, hf⟩
          · exact absurd h4 h6
      · have hb := hf19.heap hb1
        have c5 : (ntL p).toArray[5]? = some (.int .i64 p.2.2.2.2.2.1.1) := rfl
        have c6 : (ntL p).toArray[6]? = some (.int .i64 p.2.2.2.2.2.1.2.1) := rfl
        have c39 : (ntL p).toArray[39]? = some (slV p.2.2.2.2.2.1.2.2.2.1) := by
          have := rc_c34 p.2.2.2.2.2.1
          rw [List.getElem?_toArray] at this ⊢
          rw [ntL, List.getElem?_append_right (by simp)]
          exact this
        refine ldI0 hb c5 ?_
        refine bE ?_ ?_ <;> intro h1
        · refine ldI0 hb c6 ?_
          refine bE ?_ ?_ <;> intro h2
          · refine ldRow (vs := u8s d) hb (by rw [← hp]; show (p.2.2.2.2.2.1.2.2.1.1 ++ [slV p.2.2.2.2.2.1.2.2.2.1]).take 32 = _; rw [List.take_left' p.2.2.2.2.2.1.2.2.1.2]) (by rw [u8s_length, hdl]) ?_
            refine ⟨⟨u8s (List.replicate 32 0), by simp [u8s]⟩, fun w' _ => (zero_Sum w').trans (by simp [u8s]; rfl), ?_⟩
            refine qnEq hdl (by simp) ?_
            refine bB ?_ ?_ <;> intro h3
            · rw [decide_eq_true_iff] at h3
              refine ldL0 (s := p.2.2.2.2.2.1.2.2.2.1) hb c39 ⟨rfl, ?_⟩
              dsimp only
              rw [Bool.eq_iff_iff]
              simp [emptyR, h1, h2, h3]
            · rw [decide_eq_false_iff_not] at h3
              exact ⟨rfl, by rw [eq_comm, decide_eq_false_iff_not]; exact fun h => h3 h.2.2.1⟩
          · exact ⟨rfl, by rw [eq_comm, decide_eq_false_iff_not]; exact fun h => h2 h.2.1⟩
        · exact ⟨rfl, by rw [eq_comm, decide_eq_false_iff_not]; exact fun h => h1 h.1⟩
    · have hsm := bare_same p (offs p.1)
      have at5 : ∀ {o : Nat}, o < 5 → ∀ {K : Int → Prop}, K (nv (bareN p (offs p.1)) o) → ld (.I .i64) w19 ⟨a5, o, none⟩ K := by
        intro o ho K hK
        exact ldI0 hb5' (ntL_at _ ho) hK
      have go : ∀ o, o < 5 → ∀ {X Y : Prop}, (nv (bareN p (offs p.1)) o = nv p o → X) → (nv (bareN p (offs p.1)) o ≠ nv p o → Y) → ld (.I .i64) w19 ⟨a5, o, none⟩ fun x => ld (.I .i64) w19 ⟨a1, o, none⟩ fun y => bif x == y then X else Y := fun o ho X Y hX hY => at5 ho (at1 hf19 ho (bE hX hY))
      refine go 1 (by decide) ?_ ?_ <;> intro h1
      · refine go 2 (by decide) ?_ ?_ <;> intro h2
        · refine go 3 (by decide) ?_ ?_ <;> intro h3
          · refine at5 (o := 4) (by decide) (at1 hf19 (o := 4) (by decide) ⟨rfl, ?_⟩)
            dsimp only
            rw [Bool.eq_iff_iff, decide_eq_true_iff, ← hsm, beq_iff_eq]
            exact ⟨fun h => ⟨h1, h2, h3, h⟩, fun h => h.2.2.2⟩
          · exact ⟨rfl, by rw [eq_comm, decide_eq_false_iff_not, ← hsm]; exact fun h => h3 h.2.2.1⟩
        · exact ⟨rfl, by rw [eq_comm, decide_eq_false_iff_not, ← hsm]; exact fun h => h2 h.2.1⟩
      · exact ⟨rfl, by rw [eq_comm, decide_eq_false_iff_not, ← hsm]; exact fun h => h1 h.1⟩
  · refine at1 hf19 (o := 0) (by decide) ?_
    have e0 : nv p 0 = p.1 := rfl
    have e2 : nv p 2 = p.2.2.1 := rfl
    have e3 : nv p 3 = p.2.2.2.1 := rfl
    refine bNe ?_ ?_ <;> intro h1
    · exact ⟨rfl, by simp [show p.1 ≠ 1 from h1]⟩
    · refine at1 hf19 (o := 2) (by decide) ?_
      refine bD ?_ ?_ <;> intro h2
      · refine at1 hf19 (o := 3) (by decide) ⟨rfl, ?_⟩
        dsimp only
        rw [e2] at h2
        rw [Bool.eq_iff_iff, decide_eq_true_iff, decide_eq_true_iff, e3]
        exact ⟨fun h _ => ⟨h2, h⟩, fun h => (h h1).2⟩
      · rw [e2] at h2
        exact ⟨rfl, by rw [eq_comm, decide_eq_false_iff_not]; exact fun h => h2 (h h1).1⟩
end Go.Proofs.YtkojpppnjloikaaDoor
