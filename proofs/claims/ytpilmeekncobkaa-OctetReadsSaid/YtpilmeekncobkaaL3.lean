/- The law of whatever is asked of a reader, as a call that returns true and leaves what was there. -/
import Derived.Test.YtpilmeekncobkaaC5
import Derived.Test.YtpilmeekncobkaaL2
import Derived.Deep.Slices
import Derived.Deep.Strs
namespace Go.Proofs.Ytpilmeekncobkaa
open Go.RowKit Go.Fl Go.ChangeShapes Go.WideShapes Go.Deep

/-- Rows of three numbers. -/
structure As (w : World) (s : Sl) (l : List (Int × Int × Int)) : Prop where
  len : s.n = l.length
  at' : ∀ i (h : i < l.length), ∃ ad, s.a = some ad ∧ w.cell? (ad.add (i * 3)) = some (.int .i64 l[i].1) ∧ w.cell? (ad.add (i * 3 + 1)) = some (.int .i64 l[i].2.1) ∧ w.cell? (ad.add (i * 3 + 2)) = some (.int .i64 l[i].2.2)
theorem As.fr {w w' : World} {s : Sl} {l : List (Int × Int × Int)} (h : As w s l) (hf : Fr w w') : As w' s l :=
  ⟨h.len, fun i hi => by
    obtain ⟨ad, h1, h2, h3, h4⟩ := h.at' i hi
    exact ⟨ad, h1, hf.sub.cell h2, hf.sub.cell h3, hf.sub.cell h4⟩⟩

theorem Equal_q {s x : Sl} {l m : List UInt8} {w : World} {K : Bool → Prop} (hs : Bs w s l) (hx : Bs w x m) (h : K (decide (l = m))) : qcl Try.prog n_bytes_Equal #[.slice s.a s.n s.c, .slice x.a x.n x.c] .B w K := by
  refine ⟨decide (l = m), fun n => (Equal_ok (hs.fr (Fr.drewN w n)) (hx.fr (Fr.drewN w n))).mono ?_, h⟩
  rintro _ _ ⟨rfl, rfl⟩
  exact ⟨rfl, n, rfl⟩
theorem Left_q {w : World} {base g : Nat} {l : List UInt8} {K : Int → Prop} (hr : Rdr w base g l) (h : K l.length) : qcl Try.prog n_octet_Reader_Left #[.pointer (some ⟨g, 0, none⟩)] (.I .i64) w K := by
  refine ⟨(l.length : Int), fun n => (Left_ok (hr.fr (Fr.drewN w n))).mono ?_, h⟩
  rintro _ _ ⟨rfl, rfl⟩
  exact ⟨rfl, n, rfl⟩

theorem reads {w : World} {p0 p1 : Sl} {l : List UInt8} {asks : List (Int × Int × Int)} (hs : Bs w p0 l) (ha : As w p1 asks) : flumelaw02_OctetReads p0 p1 (fun r w' => r = true ∧ Fr w w') w := by
  unfold flumelaw02_OctetReads
  have hl := hs.len
  have hal := ha.len
  refine bD (fun _ => aw (Fr.refl w)) (fun hle => bD (fun _ => aw (Fr.refl w)) (fun hle' => ?_))
  refine (Clone_byte_ok hs (by omega)).mono ?_
  rintro x5 w6 ⟨h5, hf6⟩
  refine (Read_ok h5.bs (by omega)).mono ?_
  rintro _ w8 ⟨g, rfl, hg, hr8, hf8⟩
  have hglt := hr8.lt
  refine nwI fun b w10 hb hsz hf10 hblk _ => ?_
  have f10 := (hf6.trans hf8).trans hf10
  have hw6 := hf6.size
  have hw8 := hf8.size
  have hold : l ≠ [] → ∀ ad, p0.a = some ad → ad.block < w.heap.size := fun h => hs.lt h
  have rr10 : RR w10 b p0 l 0 := ⟨hblk, hs.fr f10, fun h ad had => by have := hold h ad had; omega, by omega, by omega⟩
  have hn5 := h5.len
  refine lpI (fun s' w' => ∃ k : Nat, k ≤ l.length ∧ s'.1 = k ∧ (∃ l' : List UInt8, OwB w' w.heap.size t_uint8 x5 l' ∧ l'.length = l.length) ∧ Rdr w' w6.heap.size g l ∧ RR w' b p0 l 0 ∧ Fr w w') (fun s' _ => (l.length - s'.1).toNat)
    ⟨0, by omega, rfl, ⟨l, (h5.fr hf8).fr hf10, rfl⟩, hr8.fr hf10, rr10, f10⟩ ?_
  rintro _ ⟨k, ⟨⟩⟩ w12 ⟨k, hk, rfl, ⟨l', h12, hl'⟩, hr12, rr12, f12⟩
  dsimp -zeta only
  refine bD ?_ ?_ <;> intro hlt
  · refine ixB h12.rd h12.len (by omega) (by omega) (Fr.refl _) ?_
    refine stB h12 (by omega) (by omega) (l'[((k : Nat) : Int).toNat]'(by omega) ^^^ 255) ?_ fun w18 h18 hb18 hkp _ => ?_
    · rw [show (255 : Int) = ((255 : Nat) : Int) from rfl, u8_xor_nat _ _ (UInt8.toNat_lt _) (by decide), UInt8.toNat_xor]
      rfl
    · have hown := h5.own
      have hK : Kp (fun j => j < w.heap.size ∨ w6.heap.size ≤ j) w12 w18 := fun j _ hj => hkp j fun e => by
        have : ∃ ad, x5.a = some ad ∧ ad.block = j := by
          cases hx : x5.a with
          | none => rw [hx] at e; cases e
          | some ad => rw [hx] at e; exact ⟨ad, rfl, (Option.some.inj e).symm⟩
        obtain ⟨ad, had, rfl⟩ := this
        have := hown ad had
        omega
      rw [i64w (by omega) (by omega)]
      exact ⟨⟨k + 1, by omega, by simp, ⟨_, h18, by simp [hl']⟩, hr12.kp hK (fun j h _ => .inr h) hg, rr12.kp hK (.inr (by omega)) (fun h ad had => .inl (hold h ad had)), f12.on hb18⟩, by omega⟩
  · clear hlt hk
    refine lpI (fun s' w' => ∃ k : Nat, k ≤ asks.length ∧ s'.1 = k ∧ ∃ i, Rdr w' w6.heap.size g (l.drop i) ∧ RR w' b p0 l i ∧ Fr w w') (fun s' _ => (asks.length - s'.1).toNat) ⟨0, by omega, rfl, 0, hr12, rr12, f12⟩ ?_
    rintro _ ⟨q, ⟨⟩⟩ w20 ⟨q, hq, rfl, i, hr20, rr20, f20⟩
    dsimp -zeta only
    have hil := rr20.2.2.2.1
    refine bD ?_ ?_ <;> intro hlt
    · have hq' : q < asks.length := by omega
      obtain ⟨ad, had, hc0, hc1, hc2⟩ := (ha.fr f20).at' q hq'
      refine ⟨by omega, by omega, ?_⟩
      rw [had]
      refine ⟨_, hc0, _, (by show w20.cell? ((ad.add (q * 3)).add 1) = _; rw [Fl.add_add]; exact hc1), _, (by show w20.cell? (((ad.add (q * 3)).add 1).add 1) = _; rw [Fl.add_add, Fl.add_add]; exact hc2), ?_⟩
      generalize asks[q] = ask at *
      obtain ⟨op, lo, hi⟩ := ask
      rw [ld]
      refine nwI fun b25 w26 hb25 hsz26 hf26 hk26 _ => ?_
      refine st0 hk26 (by simp) fun w27 hk27 hg27 hsz27 => ?_
      refine st0 (i := 1) hk27 (by simp) fun w28 hk28 hg28 hsz28 => ?_
      refine st0 (i := 2) hk28 (by simp) fun w29 hk29 hg29 hsz29 => ?_
      have hB : ∀ {u v : World}, Fr w20 u → u.grownBy v (some b25) → Fr w20 v := fun h k => h.on (grown_below k (by omega) h.size)
      have f29' := hB (hB (hB hf26 hg27) hg28) hg29
      have f29 := f20.trans f29'
      have hr29 := hr20.fr f29'
      have rr29 := rr20.fr f29'
      have hb25g : b25 > b := by have := rr20.lt; omega
      clear hc0 hc1 hc2 hk26 hk27 hk28 hg27 hg28 hg29
      intro j1
      have hj : ∀ (y77 y78 : Sl) (y79 y80 : Int) (y81 y82 : Bool) (y83 y84 : Int) (w85 : World), (∃ base lp, OwB w85 base t_uint8 y77 lp ∧ b < base ∧ Bs w85 y78 lp) → y79 = y80 → y81 = y82 → y83 = y84 → (∃ i, Rdr w85 w6.heap.size g (l.drop i) ∧ RR w85 b p0 l i) → Fr w w85 → j1 y77 y78 y79 y80 y81 y82 y83 y84 w85 := by
        rintro y77 y78 y79 _ y81 _ y83 _ w85 ⟨base, lp, ho, hbb, hx⟩ rfl rfl rfl ⟨i, hr, rr⟩ f85
        show bif _ then _ else _
        refine bNe (fun h => absurd rfl h) fun _ => bF (by simp) ?_
        refine Equal_q ho.bs hx ?_
        refine bF (by simp) (bNe (fun h => absurd rfl h) fun _ => ?_)
        refine Left_q hr ?_
        show ld (.I .i64) w85 ⟨b, 1, none⟩ _
        refine ldI0 rr.1 rfl ?_
        intro n
        have hfd := Fr.drewN w85 n
        have hr := hr.fr hfd
        have rr := rr.fr hfd
        have ho := ho.fr hfd
        have f93 := f85.trans hfd
        generalize w85.drewN n = w93 at *
        have hil := rr.2.2.2.1
        refine bNe (fun h => absurd ?_ h) fun _ => ?_
        · rw [i64w (by omega) (by omega), List.length_drop]
          omega
        have hln := ho.len
        refine lpI (fun s' w' => ∃ k : Nat, k ≤ y77.n ∧ s'.1 = k ∧ (∃ lp', OwB w' base t_uint8 y77 lp' ∧ lp'.length = lp.length) ∧ Rdr w' w6.heap.size g (l.drop i) ∧ RR w' b p0 l i ∧ Fr w w') (fun s' _ => (y77.n - s'.1).toNat)
          ⟨0, by omega, rfl, ⟨lp, ho, rfl⟩, hr, rr, f93⟩ ?_
        rintro _ ⟨k, ⟨⟩⟩ w95 ⟨k, hk, rfl, ⟨lp', h95, hlp⟩, hr95, rr95, f95⟩
        dsimp only
        have h140 : y77.n ≤ 9223372036854775807 := by
          rcases h95.2 with ⟨_, hn⟩ | ⟨_, cap, _, _, _, _, hnc, hcm, _⟩
          · omega
          · simp only [maxLen] at hcm; omega
        refine bD ?_ ?_ <;> intro hlt
        · refine ixB h95.rd h95.len (by omega) (by omega) (Fr.refl _) ?_
          refine stB h95 (by omega) (by omega) (lp'[((k : Nat) : Int).toNat]'(by omega) ^^^ 255) ?_ fun w101 h101 hb101 hkp _ => ?_
          · rw [show (255 : Int) = ((255 : Nat) : Int) from rfl, u8_xor_nat _ _ (UInt8.toNat_lt _) (by decide), UInt8.toNat_xor]
            rfl
          · have hK : Kp (fun j => j < base) w95 w101 := fun j _ hj => hb101.block j hj
            rw [i64w (by omega) (by omega)]
            exact ⟨⟨k + 1, by omega, by simp, ⟨_, h101, by simp [hlp]⟩, hr95.kp hK (fun j _ h => by omega) hg, rr95.kp hK hbb (fun h ad had => by have := hold h ad had; omega), f95.on (hb101.mono (by omega))⟩, by omega⟩
        · rw [i64w (by omega) (by omega)]
          exact ⟨⟨q + 1, by omega, by simp, i, hr95, rr95, f95⟩, by omega⟩
      have hgb : g < b := by omega
      have A1 : ∀ {u v : World}, RR u b p0 l i → Fr w u → u.grownBy v (some g) → RR v b p0 l i ∧ Fr w v := fun h hf hgr =>
        ⟨h.kp (kp_grown hgr) (by omega) (fun hne ad had => by have := hold hne ad had; omega), hf.on (grown_below hgr (by omega) hf.size)⟩
      have A2 : ∀ {u v : World} {L : List UInt8}, Rdr u w6.heap.size g L → Fr w u → u.grownBy v (some b) → Rdr v w6.heap.size g L ∧ Fr w v := fun h hf hgr =>
        ⟨h.kp (kp_grown hgr) (fun j _ hj => by omega) hg, hf.on (grown_below hgr (by omega) hf.size)⟩
      refine ldI0 hk29 rfl ?_
      generalize IntKind.i64.wrap (Int.tmod (IntKind.u64.wrap op) 6) = o6
      refine bE (fun _ => ?_) (fun _ => bE (fun _ => ?_) (fun _ => bE (fun _ => ?_) (fun _ => bE (fun _ => ?_) (fun _ => bE (fun _ => ?_) (fun _ => ?_)))))
      · refine (Byte_ok hr29).mono ?_
        rintro _ w32 ⟨rfl, hr32, hg32⟩
        obtain ⟨rr32, f32⟩ := A1 rr29 f29 hg32
        refine (ref_Byte_rd rr32).mono ?_
        rintro _ w34 ⟨rfl, rr34, hg34⟩
        obtain ⟨hr34, f34⟩ := A2 hr32 f32 hg34
        rw [List.drop_drop] at hr34
        exact hj _ _ _ _ _ _ _ _ _ ⟨b + 1, [], OwB.nil _ _ _, by omega, Bs.nil _ _⟩ rfl rfl rfl ⟨_, hr34, rr34⟩ f34
      · refine (Reader_Number_ok hr29).mono ?_
        rintro _ w32 ⟨rfl, hr32, hg32⟩
        obtain ⟨rr32, f32⟩ := A1 rr29 f29 hg32
        refine (ref_Number_rd rr32).mono ?_
        rintro _ w34 ⟨rfl, rr34, hg34⟩
        obtain ⟨hr34, f34⟩ := A2 hr32 f32 hg34
        rw [List.drop_drop] at hr34
        exact hj _ _ _ _ _ _ _ _ _ ⟨b + 1, [], OwB.nil _ _ _, by omega, Bs.nil _ _⟩ rfl rfl rfl ⟨_, hr34, rr34⟩ f34
      · refine ldI0 (i := 1) hk29 rfl (ldI0 (i := 2) hk29 rfl ?_)
        refine (Within_ok hr29).mono ?_
        rintro _ w32 ⟨rfl, hr32, hg32⟩
        obtain ⟨rr32, f32⟩ := A1 rr29 f29 hg32
        have hk32 := (hg32.block b25 (Array.getElem?_eq_some_iff.1 hk29).1 (fun e => by cases e; omega)).trans hk29
        refine ldI0 (i := 1) hk32 rfl (ldI0 (i := 2) hk32 rfl ?_)
        refine (ref_Within_rd rr32).mono ?_
        rintro _ w34 ⟨rfl, rr34, hg34⟩
        obtain ⟨hr34, f34⟩ := A2 hr32 f32 hg34
        rw [List.drop_drop] at hr34
        exact hj _ _ _ _ _ _ _ _ _ ⟨b + 1, [], OwB.nil _ _ _, by omega, Bs.nil _ _⟩ rfl rfl rfl ⟨_, hr34, rr34⟩ f34
      · refine ldI0 (i := 2) hk29 rfl ?_
        refine (Reader_Text_ok hr29).mono ?_
        rintro ⟨x48, e48⟩ w32 ⟨he48, ho32, hr32, hg32⟩
        obtain ⟨rr32, f32⟩ := A1 rr29 f29 hg32
        have hk32 := (hg32.block b25 (Array.getElem?_eq_some_iff.1 hk29).1 (fun e => by cases e; omega)).trans hk29
        refine ldI0 (i := 2) hk32 rfl ?_
        refine (ref_Text_rd rr32).mono ?_
        rintro ⟨x51, e51⟩ w34 ⟨he51, ho34, rr34, hg34⟩
        obtain ⟨hr34, f34⟩ := A2 hr32 f32 hg34
        rw [List.drop_drop] at hr34
        dsimp only at he48 he51 ho32 ho34
        subst he48 he51
        have hbl := rr29.lt
        have hown : OwB w34 w29.heap.size t_uint8 x48 (rdText (l.drop i) hi).1 := ho32.kp (kp_grown hg34) fun ad had => by have := (ho32.own ad had).1; omega
        exact hj _ _ _ _ _ _ _ _ _ ⟨w29.heap.size, _, hown, hbl, ho34.bs⟩ rfl rfl rfl ⟨_, hr34, rr34⟩ f34
      · refine (Reader_Flag_ok hr29).mono ?_
        rintro _ w32 ⟨rfl, hr32, hg32⟩
        obtain ⟨rr32, f32⟩ := A1 rr29 f29 hg32
        refine (ref_Flag_rd rr32).mono ?_
        rintro _ w34 ⟨rfl, rr34, hg34⟩
        obtain ⟨hr34, f34⟩ := A2 hr32 f32 hg34
        rw [List.drop_drop] at hr34
        exact hj _ _ _ _ _ _ _ _ _ ⟨b + 1, [], OwB.nil _ _ _, by omega, Bs.nil _ _⟩ rfl rfl rfl ⟨_, hr34, rr34⟩ f34
      · refine (End_ok hr29).mono ?_
        rintro _ _ ⟨rfl, rfl⟩
        refine (ref_End_rd rr29).mono ?_
        rintro _ w34 ⟨rfl, hf34⟩
        exact hj _ _ _ _ _ _ _ _ _ ⟨b + 1, [], OwB.nil _ _ _, by omega, Bs.nil _ _⟩ rfl rfl rfl ⟨i, hr29.fr hf34, rr29.fr hf34⟩ (f29.trans hf34)
    · intro n
      have hfd := Fr.drewN w20 n
      have hr := hr20.fr hfd
      have rr := rr20.fr hfd
      have f102 := f20.trans hfd
      generalize w20.drewN n = w102 at *
      show ld (.I .i64) w102 ⟨b, 1, none⟩ _
      refine ldI0 rr.1 rfl ?_
      refine (Left_ok hr).mono ?_
      rintro _ _ ⟨rfl, rfl⟩
      refine ⟨Fr.refl _, bT ?_ ?_⟩
      · rw [i64w (by omega) (by omega), List.length_drop]
        simp
        omega
      · exact (awake_ok (w := w102)).mono fun r w' h => ⟨h.2, h.1, f102.trans h.2⟩
theorem open_asks {H : Type} {enc : TypeId × Value → H} {W : World} {r : Reach} {b0 : Nat} {v : Value} {d : DataW H} {p : List MemPlace} (hv : Value.okWide Try.prog W r b0 t_s_flumelaw02_Ask v)
    (h : DataW.Trod enc Try.prog W 0 (fun _ => true) true t_s_flumelaw02_Ask v d p) : ∃ (s : Sl) (l : List (Int × Int × Int)), v = .slice s.a s.n s.c ∧ As W s l := by
  obtain ⟨a, len, cap, rfl⟩ := okWide_slice u_s_flumelaw02_Ask hv
  obtain ⟨fuel, hf⟩ := h
  rcases open_slice u_s_flumelaw02_Ask hf with ⟨hcs, _⟩ | ⟨x, l, c, m, n, D, Pl, hcs, _, hl, _, hmm, _, hi⟩
  · simp [Value.cells] at hcs
    obtain ⟨rfl, rfl, rfl⟩ := hcs
    exact ⟨⟨none, 0, 0⟩, [], rfl, rfl, fun i h => by simp at h⟩
  · simp [Value.cells] at hcs
    obtain ⟨rfl, rfl, rfl⟩ := hcs
    have hm : m = cap := by simpa using hmm
    have hC : Try.prog.cellsOf t_flumelaw02_Ask = 3 := by kernel_rfl
    have hI : Try.prog.cellsOf t_int = 1 := by kernel_rfl
    have hrow : ∀ i, i < len → ∃ z : Int × Int × Int, W.cell? (x.add (i * 3)) = some (.int .i64 z.1) ∧ W.cell? (x.add (i * 3 + 1)) = some (.int .i64 z.2.1) ∧ W.cell? (x.add (i * 3 + 2)) = some (.int .i64 z.2.2) := by
      intro i hil
      obtain ⟨cs', hc, ht⟩ := hi i (by omega)
      rw [hC] at hc
      obtain ⟨_, hlen, hat⟩ := World.cells?_some hc
      match cs', hlen with
      | [c0, c1, c2], _ =>
        obtain ⟨y0, y1, y2, n', _, _, h0, h1, h2⟩ := Go.Deep.trod_struct3 u_flumelaw02_Ask ht
        obtain ⟨z0, e0, _⟩ := DataW.trod_int u_int h0
        obtain ⟨z1, e1, _⟩ := DataW.trod_int u_int h1
        obtain ⟨z2, e2, _⟩ := DataW.trod_int u_int h2
        have k0 := hat 0 (by omega)
        have k1 := hat 1 (by omega)
        have k2 := hat 2 (by omega)
        rw [Fl.add_add] at k0 k1 k2
        rw [hI] at e0 e1 e2
        simp only [List.drop_zero, List.take_succ_cons, List.take_zero, List.drop_succ_cons, List.cons.injEq, and_true] at e0 e1 e2
        subst e0 e1 e2
        exact ⟨(z0, z1, z2), k0, k1, k2⟩
    refine ⟨⟨some x, len, cap⟩, (List.range len).map fun i => if h : i < len then Classical.choose (hrow i h) else (0, 0, 0), rfl, by simp, fun i h => ?_⟩
    have hil : i < len := by simpa using h
    refine ⟨x, rfl, ?_⟩
    have := Classical.choose_spec (hrow i hil)
    simp only [List.getElem_map, List.getElem_range, dif_pos hil]
    exact this

theorem OctetReads_law {w : World} {H : Type} {enc : TypeId × Value → H} {r : Reach} {b0 : Nat} {a0 : Option Addr} {len0 cap0 : Nat} {z0 : List Int} {v : Value} {d : DataW H} {p : List MemPlace} (w0 : RowK .u8 w a0 len0 cap0 z0)
    (hv : Value.okWide Try.prog w r b0 t_s_flumelaw02_Ask v) (h : DataW.Trod enc Try.prog w 0 (fun _ => true) true t_s_flumelaw02_Ask v d p) :
    Calls Try.prog n_flumelaw02_OctetReads #[.slice a0 len0 cap0, v] w fun e w' => e = .returned (.bool true) ∧ Below w.heap.size w w' := lawE (by
  obtain ⟨l, hs⟩ := rowB w0
  obtain ⟨s, asks, rfl, ha⟩ := open_asks hv h
  exact flumelaw02_OctetReads.cl (p0 := ⟨a0, len0, cap0⟩) (reads hs ha))
end Go.Proofs.Ytpilmeekncobkaa
