/- The laws of reading again, of lists, and of no reader, each as a call that returns true and leaves what was there. -/
import Derived.Test.YtpilmeekncobkaaL1
import Derived.Lib.SmallJoins
import Derived.Test.YtpilmeekncobkaaUn
namespace Go.Proofs.Ytpilmeekncobkaa
open Go.RowKit Go.Fl Go.ChangeShapes Go.WideShapes

theorem slI : SlT Try.prog t_s_int t_int 1 8 := SlT.mk' (z := .int .i64 0) (by kernel_rfl) (by kernel_rfl) rfl (by decide)

theorem OctetForm_law {w : World} {a0 : Option Addr} {len0 cap0 : Nat} {z0 : List Int} (w0 : RowK .u8 w a0 len0 cap0 z0) :
    Calls Try.prog n_flumelaw02_OctetForm #[.slice a0 len0 cap0] w fun e w' => e = .returned (.bool true) ∧ Below w.heap.size w w' := lawE (by
  obtain ⟨l, hs⟩ := rowB w0
  refine flumelaw02_OctetForm.cl (p0 := ⟨a0, len0, cap0⟩) ?_
  unfold flumelaw02_OctetForm
  have hl : len0 = l.length := hs.len
  refine bD (fun _ => aw (Fr.refl w)) (fun hle => ?_)
  dsimp only at hle
  refine (Read_ok hs (by omega)).mono ?_
  rintro _ w4 ⟨g, rfl, hg, hr, hf4⟩
  have hkl := lookS_le l
  refine (Reader_Number_ok hr).mono ?_
  rintro _ w6 ⟨rfl, hr, hg6⟩
  have f6 : Fr w w6 := hf4.on (grown_below hg6 hg hf4.size)
  intro j1
  have hj : ∀ w', Fr w w' → j1 w' := by
    intro w39 f39
    show cl _ _ _ _ _ _
    refine (Read_ok (hs.fr f39) (by omega)).mono ?_
    rintro _ w41 ⟨g', rfl, hg', hr, hf41⟩
    have hkt := rdText_le l (len0 : Int)
    refine (Reader_Text_ok hr).mono ?_
    rintro ⟨x42, e⟩ w43 ⟨he, h42, hr, hg43⟩
    have f43 : Fr w39 w43 := hf41.on (grown_below hg43 hg' hf41.size)
    dsimp only at he h42 hr ⊢
    subst he
    dsimp only
    refine bE ?_ ?_ <;> intro he
    · have he : (rdText l (len0 : Int)).2.1 = 0 := by omega
      have hb := rdText_back he
      have hlen := congrArg List.length hb
      rw [List.length_take, List.length_append] at hlen
      have h9 := numB_le (rdText l (len0 : Int)).1.length
      refine (octet_Text_ok (Bs.nil w43 0) h42.bs (by simp) (by omega)).mono ?_
      rintro x44 w45 ⟨h44, hf45⟩
      rw [List.nil_append, ← hb] at h44
      have hr := hr.fr hf45
      refine (Left_ok hr).mono ?_
      rintro _ _ ⟨rfl, rfl⟩
      have f45 := f39.trans (f43.trans hf45)
      rw [List.length_drop, i64w (by omega) (by omega)]
      refine slsB (hs.fr f45) (by decide) (by omega) (by omega) fun r48 h48 _ _ => ?_
      refine (Equal_ok h44.bs h48).mono ?_
      rintro _ _ ⟨rfl, rfl⟩
      refine bP ?_ (aw f45)
      rw [show ((len0 : Int) - ((l.length - (rdText l (len0 : Int)).2.2 : Nat) : Int)).toNat = (rdText l (len0 : Int)).2.2 from by omega]
      rfl
    · have he : (rdText l (len0 : Int)).2.1 ≠ 0 := by omega
      refine bT (by simpa using he) ?_
      refine (Left_ok hr).mono ?_
      rintro _ _ ⟨rfl, rfl⟩
      refine bT ?_ (aw (f39.trans f43))
      rw [(rdText_err he).1]
      simp [hl]
  dsimp only
  refine bE ?_ ?_ <;> intro he
  · have he : (lookS l).2.2 = 0 := by omega
    obtain ⟨n, k, e, hnk⟩ : ∃ n k e, lookS l = (n, k, e) := ⟨_, _, _, rfl⟩
    rw [hnk] at he hr hkl ⊢
    dsimp only at he hr hkl ⊢
    subst he
    obtain ⟨hk, hkl, ht, hn⟩ := look_back hnk
    refine (octet_Number_ok (Bs.nil w6 0) (by simp) (by omega)).mono ?_
    rintro x7 w8 ⟨h7, hf8⟩
    rw [List.nil_append, Int.toNat_natCast, ← ht] at h7
    refine (Left_ok (hr.fr hf8)).mono ?_
    rintro _ _ ⟨rfl, rfl⟩
    have f8 := f6.trans hf8
    rw [List.length_drop, i64w (by omega) (by omega)]
    refine slsB (hs.fr f8) (by decide) (by omega) (by omega) fun r11 h11 _ _ => ?_
    refine (Equal_ok h7.bs h11).mono ?_
    rintro _ _ ⟨rfl, rfl⟩
    refine bF ?_ (bF rfl (hj _ f8))
    rw [show ((len0 : Int) - ((l.length - k : Nat) : Int)).toNat = k from by omega]
    simp
  · have he : (lookS l).2.2 ≠ 0 := by omega
    refine bT (by simpa using he) ?_
    refine (Left_ok hr).mono ?_
    rintro _ _ ⟨rfl, rfl⟩
    rw [(look_err he).2]
    exact bF (by simp [hl]) (hj _ f6))

/-- The law's own argument, opened. -/
theorem open_ask {H : Type} {enc : TypeId × Value → H} {W : World} {r : Reach} {b0 : Nat} {spare : Nat → Bool} {v : Value} {d : DataW H} {p : List MemPlace} (hv : Value.okWide Try.prog W r b0 t_flumelaw02_Ask v)
    (h : DataW.Trod enc Try.prog W 0 spare true t_flumelaw02_Ask v d p) : ∃ op lo hi : Int, v = .agg #[.int .i64 op, .int .i64 lo, .int .i64 hi] := by
  obtain ⟨v0, v1, v2, y0, y1, y2, n, rfl, _, _, h0, h1, h2⟩ := Joins.open_agg3 u_flumelaw02_Ask (by kernel_rfl) (by kernel_rfl) hv h
  obtain ⟨x0, e0, _⟩ := DataW.trod_int u_int h0
  obtain ⟨x1, e1, _⟩ := DataW.trod_int u_int h1
  obtain ⟨x2, e2, _⟩ := DataW.trod_int u_int h2
  simp only [List.cons.injEq, and_true] at e0 e1 e2
  subst e0 e1 e2
  exact ⟨x0, x1, x2, rfl⟩
theorem OctetNobody_law {w : World} {H : Type} {enc : TypeId × Value → H} {r : Reach} {b0 : Nat} {v : Value} {d : DataW H} {p : List MemPlace} (hv : Value.okWide Try.prog w r b0 t_flumelaw02_Ask v) (h : DataW.Trod enc Try.prog w 0 (fun _ => true) true t_flumelaw02_Ask v d p) :
    Calls Try.prog n_flumelaw02_OctetNobody #[v] w fun e w' => e = .returned (.bool true) ∧ Below w.heap.size w w' := lawE (by
  obtain ⟨op, lo, hi, rfl⟩ := open_ask hv h
  clear hv h
  refine flumelaw02_OctetNobody.cl (p0 := (op, lo, hi, ())) ?_
  unfold flumelaw02_OctetNobody
  refine nwI fun b1 w2 hb1 hsz1 hf1 hk1 _ => nwI fun b3 w4 hb3 hsz3 hf3 hk3 _ => nwI fun b5 w6 hb5 hsz5 hf5 hk5 hrd5 => ?_
  have hk1 := (hf3.trans hf5).heap hk1
  have hk3 := hf5.heap hk3
  have f6 := (hf1.trans hf3).trans hf5
  refine lpI (fun s w' => w6 = w' ∧ ∃ i : Nat, i ≤ 2 ∧ s.1 = i) (fun s _ => (2 - s.1).toNat) ⟨rfl, 0, by omega, rfl⟩ ?_
  rintro _ ⟨i, ⟨⟩⟩ _ ⟨rfl, i, hi, rfl⟩
  dsimp only
  refine bD ?_ ?_ <;> intro h
  · have hp : ∃ p, NoRdr w6 p ∧ w6.cell? ((⟨b5, 0, none⟩ : Addr).add i) = some (.pointer p) := by
      have hc : ∀ i, w6.cell? ⟨b5, i, none⟩ = (#[Value.pointer none, Value.pointer (some ⟨b3, 0, none⟩)])[i]? := fun i => cell_of_row _ _ _ _ _ _ hk5
      rcases (show i = 0 ∨ i = 1 by omega) with rfl | rfl
      · exact ⟨none, .inl rfl, hc 0⟩
      · exact ⟨_, .inr ⟨b3, rfl, hk3⟩, hc 1⟩
    obtain ⟨p, hno, hc⟩ := hp
    refine ⟨by omega, by omega, ?_⟩
    show ld .P w6 ((⟨b5, 0, none⟩ : Addr).add i) _
    refine ⟨p, hc, ?_⟩
    refine (no_Number hno).mono ?_
    rintro _ _ ⟨rfl, rfl⟩
    show ld (.I .i64) w6 ⟨b1, 1, none⟩ _
    refine ldI0 hk1 rfl ?_
    show ld (.I .i64) w6 ⟨b1, 2, none⟩ _
    refine ldI0 hk1 rfl ?_
    refine (no_Within hno).mono ?_
    rintro _ _ ⟨rfl, rfl⟩
    show ld (.I .i64) w6 ⟨b1, 2, none⟩ _
    refine ldI0 hk1 rfl ?_
    refine (no_Text hno).mono ?_
    rintro _ _ ⟨rfl, rfl⟩
    refine (no_Flag hno).mono ?_
    rintro _ _ ⟨rfl, rfl⟩
    refine (no_Byte hno).mono ?_
    rintro _ _ ⟨rfl, rfl⟩
    refine bF rfl (bF rfl ?_)
    refine (no_Left hno).mono ?_
    rintro _ _ ⟨rfl, rfl⟩
    refine bF rfl (bF rfl (bF rfl (bF rfl (bF rfl (bF rfl ?_)))))
    refine (no_End hno).mono ?_
    rintro _ _ ⟨rfl, rfl⟩
    refine bF rfl ?_
    rw [i64w (by omega) (by omega)]
    exact ⟨⟨rfl, i + 1, by omega, rfl⟩, by omega⟩
  · exact aw f6)
theorem Clone_int_ok {s : Sl} {l : List Int} {w : World} (hs : Is w s l) (hl : l.length ≤ 1099511627776) :
    cl Try.prog n_slices_Clone_int_int #[.slice s.a s.n s.c] .L w fun (r : Sl) w' => Is w' r l ∧ Fr w w' := by
  refine slices_Clone_int_int.cl ?_
  unfold slices_Clone_int_int
  refine bB ?_ ?_ <;> intro h
  · have : l = [] := by
      rcases l with _ | ⟨b, t⟩
      · rfl
      · obtain ⟨ad, ha, _⟩ := hs.rd.at 0 (by simp)
        rw [ha] at h
        cases h
    subst this
    exact ⟨⟨Rd.nil _ _, rfl, Nat.le_refl _⟩, Fr.refl w⟩
  · refine nwI fun b w2 hb hsz hf hblk _ => ?_
    refine app_own slI (base := w.heap.size) (s := ⟨some ⟨b, 0, none⟩, 0, 0⟩) (xs := []) (OwB.new hblk (by omega)) (hs.fr hf).rd (by simp [hs.len]) ?_ ?_ ?_ hf.size fun r w3 hn ho hg _ => ?_
    · intro u hu
      rw [List.mem_map] at hu
      obtain ⟨z, _, rfl⟩ := hu
      rfl
    · have := hs.len; dsimp only; omega
    · have := hs.len; dsimp only; omega
    · refine ⟨⟨?_, ?_, ?_⟩, hf.on ((Below.refl _ _).grown hg hf.size fun k hk => by cases hk; show w.heap.size ≤ b; omega)⟩
      · exact Rd.of_own ho
      · have := ho.1; simp at this; omega
      · rcases ho.2 with ⟨hv, hn⟩ | ⟨g, cap, cur, hv, _, _, hc, _⟩
        · injection hv with _ h1 h2; omega
        · injection hv with _ h1 h2; omega

theorem Equal_int_ok {s x : Sl} {l : List Int} {w : World} (hs : Is w s l) (hx : Is w x l) (hl : l.length ≤ 1099511627776) :
    cl Try.prog n_slices_Equal_int_int #[.slice s.a s.n s.c, .slice x.a x.n x.c] .B w fun (r : Bool) w' => r = true ∧ Fr w w' := by
  refine slices_Equal_int_int.cl ?_
  unfold slices_Equal_int_int
  have h1 := hs.len
  have h2 := hx.len
  refine bNe (fun h => by omega) (fun _ => ?_)
  refine lpI (fun s' w' => Fr w w' ∧ ∃ i : Nat, i ≤ l.length ∧ s'.1 = i) (fun s' _ => (l.length - s'.1).toNat) ⟨Fr.refl w, 0, by omega, rfl⟩ ?_
  rintro _ ⟨i, ⟨⟩⟩ w2 ⟨hf, i, hi, rfl⟩
  dsimp only
  refine bD ?_ ?_ <;> intro h
  · have hi' : i < l.length := by omega
    refine ixI hs (by omega) (by simpa using hi') hf ?_
    refine ixI hx (by omega) (by simpa using hi') hf ?_
    intro n
    refine bNe (fun h => absurd rfl h) (fun _ => ?_)
    rw [i64w (by omega) (by omega)]
    exact ⟨⟨hf.trans (Fr.drewN _ _), i + 1, by omega, rfl⟩, by omega⟩
  · exact ⟨rfl, hf⟩

theorem OctetLists_law {w : World} {a0 : Option Addr} {len0 cap0 : Nat} {z0 : List Int} {a1 : Option Addr} {len1 cap1 : Nat} {z1 : List Int} (w0 : RowK .u8 w a0 len0 cap0 z0) (w1 : RowK .i64 w a1 len1 cap1 z1) :
    Calls Try.prog n_flumelaw02_OctetLists #[.slice a0 len0 cap0, .slice a1 len1 cap1] w fun e w' => e = .returned (.bool true) ∧ Below w.heap.size w w' := lawE (by
  obtain ⟨l, hs⟩ := rowB w0
  obtain ⟨ns, hn, hb⟩ := rowI w1
  refine flumelaw02_OctetLists.cl (p0 := ⟨a0, len0, cap0⟩) (p1 := ⟨a1, len1, cap1⟩) ?_
  unfold flumelaw02_OctetLists
  have hl : len0 = l.length := hs.len
  have hnl : len1 = ns.length := hn.len
  refine bD (fun _ => aw (Fr.refl w)) (fun hle => bD (fun _ => aw (Fr.refl w)) (fun hle' => ?_))
  dsimp only at hle hle'
  refine (Clone_byte_ok hs (by omega)).mono ?_
  rintro x5 w6 ⟨h5, hf6⟩
  refine lpI (fun s' w' => ∃ k : Nat, k ≤ ns.length ∧ s'.2.1 = k ∧ Bs w' s'.1 (l ++ numsB (ns.take k)) ∧ Fr w w') (fun s' _ => (ns.length - s'.2.1).toNat) ⟨0, by omega, rfl, by simpa [numsB] using h5.bs, hf6⟩ ?_
  rintro _ ⟨r, i, ⟨⟩⟩ w8 ⟨k, hk, rfl, hr, hf⟩
  dsimp only at hr ⊢
  have hlen := numsB_le (ns.take k)
  rw [List.length_take, Nat.min_eq_left hk] at hlen
  refine bD ?_ ?_ <;> intro h
  · have hk' : k < ns.length := by omega
    refine ixI hn (by omega) (by simpa using hk') hf ?_
    simp only [Int.toNat_natCast]
    refine (ref_Number_ok hr (by simp; omega) (hb _ (List.getElem_mem _)).2).mono ?_
    rintro r' w2 ⟨ho2, hf2⟩
    rw [List.append_assoc, ← numsB_take hk'] at ho2
    rw [i64w (by omega) (by omega)]
    exact ⟨⟨k + 1, by omega, by simp, ho2.bs, hf.trans hf2⟩, by omega⟩
  · obtain rfl : k = ns.length := by omega
    rw [List.take_length] at hr
    refine (Clone_int_ok (hn.fr hf) (by omega)).mono ?_
    rintro x15 w16 ⟨h15, hf16⟩
    refine (octet_Numbers_ok (hs.fr (hf.trans hf16)) h15 (by omega) fun n hn => (hb n hn).2).mono ?_
    rintro x17 w18 ⟨h17, _, hf18⟩
    have f18 := (hf.trans hf16).trans hf18
    refine (Equal_ok h17 (hr.fr (hf16.trans hf18))).mono ?_
    rintro _ _ ⟨rfl, rfl⟩
    refine bP rfl ?_
    refine (Equal_int_ok (h15.fr hf18) (hn.fr f18) (by omega)).mono ?_
    rintro _ w22 ⟨rfl, hf22⟩
    exact bT rfl (aw (f18.trans hf22)))
end Go.Proofs.Ytpilmeekncobkaa
