/- Contracts of the reference reader's methods: what each returns, and how far it stands behind it. -/
import Derived.Test.YtpilmeekncobkaaC4
namespace Go.Proofs.Ytpilmeekncobkaa
open Go.RowKit Go.Fl

/-- The reference reader over bytes, i of them read. -/
def RR (w : World) (g : Nat) (s : Sl) (B : List UInt8) (i : Nat) : Prop :=
  w.heap[g]? = some (.cells #[.slice s.a s.n s.c, .int .i64 (i : Int)] t_flumeref02_Reader (0, 0)) ∧ Bs w s B ∧ (B ≠ [] → ∀ ad, s.a = some ad → ad.block < g) ∧ i ≤ B.length ∧ B.length ≤ 1099511627776
theorem RR.fr {w w' : World} {g : Nat} {s : Sl} {B : List UInt8} {i : Nat} (h : RR w g s B i) (hf : Fr w w') : RR w' g s B i := ⟨hf.heap h.1, h.2.1.fr hf, h.2.2⟩
theorem RR.kp {S : Nat → Prop} {w w' : World} {g : Nat} {s : Sl} {B : List UInt8} {i : Nat} (h : RR w g s B i) (hk : Kp S w w') (hg : S g) (hS : B ≠ [] → ∀ ad, s.a = some ad → S ad.block) : RR w' g s B i :=
  ⟨(hk g (Array.getElem?_eq_some_iff.1 h.1).1 hg).trans h.1, h.2.1.kpn hk hS, h.2.2⟩
theorem RR.lt {w : World} {g : Nat} {s : Sl} {B : List UInt8} {i : Nat} (h : RR w g s B i) : g < w.heap.size := (Array.getElem?_eq_some_iff.1 h.1).1

section
variable {w : World} {g : Nat} {s : Sl} {B : List UInt8} {i : Nat}
theorem RR.look (h : RR w g s B i) {K : Int × Int × Int × Unit → World → Prop}
    (hk : ∀ w', Fr w w' → RR w' g s B i → K (((lookS (B.drop i)).1 : Int), ((lookS (B.drop i)).2.1 : Int), ((lookS (B.drop i)).2.2 : Int), ()) w') :
    dr w fun w1 => nz (some ⟨g, 0, none⟩) fun a2 => ld .L w1 a2 fun (x3 : Sl) => nz (some ⟨g, 0, none⟩) fun a4 => ld (.I .i64) w1 (a4.add 1) fun (x5 : Int) => sls x3 x5 x3.n 1 fun r6 =>
      cl Try.prog n_flumeref02_Look #[.slice r6.a r6.n r6.c] (.tup (.pair (.I .i64) (.pair (.I .i64) (.pair (.I .i64) .nil)))) w1 fun (x7 : (Int × (Int × (Int × Unit)))) w8 => Fr w1 w8 ∧ K x7 w8 := by
  intro n
  have h1 := h.fr (Fr.drewN w n)
  have hfn := Fr.drewN w n
  generalize w.drewN n = w1 at *
  obtain ⟨hb, hs, hne, hi, hl⟩ := h1
  have hn := hs.len
  show ld .L w1 ⟨g, 0, none⟩ _
  refine ldL0 hb rfl ?_
  show ld (.I .i64) w1 ⟨g, 1, none⟩ _
  refine ldI0 hb rfl ?_
  refine slsB hs (by omega) (by omega) (by omega) fun r hr _ _ => ?_
  rw [Int.toNat_natCast, Int.toNat_natCast, List.take_of_length_le (by omega)] at hr
  refine (ref_Look_ok hr (by simp; omega)).mono ?_
  rintro _ w8 ⟨rfl, hf⟩
  exact ⟨hf, hk w8 (hfn.trans hf) (RR.fr ⟨hb, hs, hne, hi, hl⟩ hf)⟩

theorem RR.put (h : RR w g s B i) {v : Value} {j : Nat} (hv : v = .int .i64 (j : Int)) (hj : j ≤ B.length) {K : World → Prop} (hk : ∀ w', RR w' g s B j → w.grownBy w' (some g) → K w') : st1 w ⟨g, 1, none⟩ v K := by
  obtain ⟨hb, hs, hne, hi, hl⟩ := h
  subst hv
  exact st0 hb (by simp) fun w' hb' hg _ => hk w' ⟨hb', hs.kpn (kp_grown hg) fun hB ad ha => Nat.ne_of_lt (hne hB ad ha), hne, hj, hl⟩ hg
theorem RR.put2 (h : RR w g s B i) {v : Value} {j : Nat} (hv : v = .int .i64 (j : Int)) (hj : j ≤ B.length) {K : World → Prop} (hk : ∀ w', RR w' g s B j → w.grownBy w' (some g) → K w') : nz (some ⟨g, 0, none⟩) fun a => st1 w (a.add 1) v K := h.put hv hj hk
theorem RR.step (h : RR w g s B i) {k : Nat} {kk : Int} (hkk : kk = k) (hk : i + k ≤ B.length) {K : World → Prop} (hK : ∀ w', RR w' g s B (i + k) → w.grownBy w' (some g) → K w') :
    nz (some ⟨g, 0, none⟩) fun a9 => ld (.I .i64) w (a9.add 1) fun (x10 : Int) => nz (some ⟨g, 0, none⟩) fun a11 => st1 w (a11.add 1) (.int .i64 (IntKind.i64.wrap (x10 + kk))) fun w12 => K w12 := by
  have hb := h.1
  have hl := h.2.2.2.2
  subst hkk
  show ld (.I .i64) w ⟨g, 1, none⟩ _
  refine ldI0 hb rfl ?_
  show st1 w ⟨g, 1, none⟩ _ _
  rw [i64w (by omega) (by omega)]
  exact h.put (by simp) hk hK

theorem drop_look_le (B : List UInt8) {i : Nat} (hi : i ≤ B.length) : i + (lookS (B.drop i)).2.1 ≤ B.length := by
  have := lookS_le (B.drop i)
  rw [List.length_drop] at this
  omega

theorem ref_Number_rd (h : RR w g s B i) : cl Try.prog n_flumeref02_Reader_Number #[.pointer (some ⟨g, 0, none⟩)] (.tup (.pair (.I .i64) (.pair (.I .i64) .nil))) w
    fun (r : Int × Int × Unit) w' => r = (((lookS (B.drop i)).1 : Int), ((lookS (B.drop i)).2.2 : Int), ()) ∧ RR w' g s B (i + (lookS (B.drop i)).2.1) ∧ w.grownBy w' (some g) := by
  have hle := drop_look_le B h.2.2.2.1
  refine flumeref02_Reader_Number.cl ?_
  unfold flumeref02_Reader_Number
  refine h.look fun w8 hf h8 => ?_
  exact h8.step rfl hle fun w' h' hg => ⟨rfl, h', World.grownBy.trans (fr_grown hf) hg⟩

theorem ref_Within_rd (h : RR w g s B i) {lo hi : Int} : cl Try.prog n_flumeref02_Reader_Within #[.pointer (some ⟨g, 0, none⟩), .int .i64 lo, .int .i64 hi] (.tup (.pair (.I .i64) (.pair (.I .i64) .nil))) w
    fun (r : Int × Int × Unit) w' => r = ((rdWithin (B.drop i) lo hi).1, (rdWithin (B.drop i) lo hi).2.1, ()) ∧ RR w' g s B (i + (rdWithin (B.drop i) lo hi).2.2) ∧ w.grownBy w' (some g) := by
  have hle := drop_look_le B h.2.2.2.1
  refine flumeref02_Reader_Within.cl ?_
  unfold flumeref02_Reader_Within
  refine h.look fun w8 hf h8 => ?_
  dsimp only
  unfold rdWithin
  refine bE ?_ ?_ <;> intro he
  · rw [if_neg (by omega)]
    refine bD ?_ ?_ <;> intro h1
    · rw [if_pos (.inl h1)]
      exact ⟨rfl, h8, fr_grown hf⟩
    · refine bD ?_ ?_ <;> intro h2
      · rw [if_pos (.inr h2)]
        exact ⟨rfl, h8, fr_grown hf⟩
      · rw [if_neg (by omega)]
        refine bF (by simp; omega) ?_
        exact h8.step rfl hle fun w' h' hg => ⟨rfl, h', World.grownBy.trans (fr_grown hf) hg⟩
  · rw [if_pos (by omega)]
    exact bT (by simp; omega) ⟨rfl, h8, fr_grown hf⟩

theorem ref_Flag_rd (h : RR w g s B i) : cl Try.prog n_flumeref02_Reader_Flag #[.pointer (some ⟨g, 0, none⟩)] (.tup (.pair .B (.pair (.I .i64) .nil))) w
    fun (r : Bool × Int × Unit) w' => r = ((rdFlag (B.drop i)).1, ((rdFlag (B.drop i)).2.1 : Int), ()) ∧ RR w' g s B (i + (rdFlag (B.drop i)).2.2) ∧ w.grownBy w' (some g) := by
  have hle := drop_look_le B h.2.2.2.1
  refine flumeref02_Reader_Flag.cl ?_
  unfold flumeref02_Reader_Flag
  refine h.look fun w8 hf h8 => ?_
  dsimp only
  unfold rdFlag
  refine bE ?_ ?_ <;> intro he
  · rw [if_neg (by omega)]
    refine bD ?_ ?_ <;> intro h1
    · rw [if_pos (by omega)]
      exact ⟨rfl, h8, fr_grown hf⟩
    · rw [if_neg (by omega)]
      refine bF (by simp; omega) ?_
      refine h8.step rfl hle fun w' h' hg => ⟨?_, h', World.grownBy.trans (fr_grown hf) hg⟩
      congr 1
      rw [Bool.eq_iff_iff]
      simp
      omega
  · rw [if_pos (by omega)]
    exact bT (by simp; omega) ⟨rfl, h8, fr_grown hf⟩

theorem ref_End_rd (h : RR w g s B i) : cl Try.prog n_flumeref02_Reader_End #[.pointer (some ⟨g, 0, none⟩)] (.I .i64) w fun (r : Int) w' => r = (if B.drop i = [] then 0 else 3) ∧ Fr w w' := by
  obtain ⟨hb, hs, hne, hi, hl⟩ := h
  have hn := hs.len
  refine flumeref02_Reader_End.cl ?_
  unfold flumeref02_Reader_End
  show ld (.I .i64) w ⟨g, 1, none⟩ _
  refine ldI0 hb rfl ?_
  show ld .L w ⟨g, 0, none⟩ _
  refine ldL0 hb rfl ?_
  intro n
  have hfn := Fr.drewN w n
  refine bD ?_ ?_ <;> intro h1
  · rw [if_neg (by rw [List.drop_eq_nil_iff]; omega)]
    exact ⟨rfl, hfn⟩
  · rw [if_pos (by rw [List.drop_eq_nil_iff]; omega)]
    exact ⟨rfl, hfn⟩

theorem ref_Byte_rd (h : RR w g s B i) : cl Try.prog n_flumeref02_Reader_Byte #[.pointer (some ⟨g, 0, none⟩)] (.tup (.pair (.I .u8) (.pair (.I .i64) .nil))) w
    fun (r : Int × Int × Unit) w' => r = (((rdByte (B.drop i)).1 : Int), ((rdByte (B.drop i)).2.1 : Int), ()) ∧ RR w' g s B (i + (rdByte (B.drop i)).2.2) ∧ w.grownBy w' (some g) := by
  have h' := h
  obtain ⟨hb, hs, hne, hi, hl⟩ := h
  have hn := hs.len
  refine flumeref02_Reader_Byte.cl ?_
  unfold flumeref02_Reader_Byte
  show ld (.I .i64) w ⟨g, 1, none⟩ _
  refine ldI0 hb rfl ?_
  show ld .L w ⟨g, 0, none⟩ _
  refine ldL0 hb rfl ?_
  intro n
  have hfn := Fr.drewN w n
  have h1 := h'.fr hfn
  generalize w.drewN n = w1 at *
  refine bE ?_ ?_ <;> intro he
  · rw [List.drop_eq_nil_of_le (by omega)]
    exact ⟨rfl, h1, fr_grown hfn⟩
  · have hlt : i < B.length := by omega
    have hd : B.drop i = B[i] :: B.drop (i + 1) := List.drop_eq_getElem_cons hlt
    show ld (.I .i64) w1 ⟨g, 1, none⟩ _
    refine ldI0 h1.1 rfl ?_
    refine h1.put2 (j := i + 1) (by rw [i64w (by omega) (by omega)]; simp) hlt fun w9 h9 hg9 => ?_
    show ld .L w9 ⟨g, 0, none⟩ _
    refine ldL0 h9.1 rfl ?_
    show ld (.I .i64) w9 ⟨g, 1, none⟩ _
    refine ldI0 h9.1 rfl ?_
    rw [i64w (by omega) (by omega)]
    have e : (((i + 1 : Nat) : Int) - 1).toNat = i := by omega
    refine ixB h9.2.1.rd h9.2.1.len (by omega) (by omega) (Fr.refl _) ?_
    intro n
    have hfm := Fr.drewN w9 n
    rw [hd]
    simp only [e]
    exact ⟨rfl, h9.fr hfm, World.grownBy.trans (World.grownBy.trans (fr_grown hfn) hg9) (fr_grown hfm)⟩

theorem ref_Text_rd (h : RR w g s B i) {most : Int} : cl Try.prog n_flumeref02_Reader_Text #[.pointer (some ⟨g, 0, none⟩), .int .i64 most] (.tup (.pair .L (.pair (.I .i64) .nil))) w
    fun (r : Sl × Int × Unit) w' => r.2 = (((rdText (B.drop i) most).2.1 : Int), ()) ∧ OwB w' w.heap.size t_uint8 r.1 (rdText (B.drop i) most).1 ∧ RR w' g s B (i + (rdText (B.drop i) most).2.2) ∧ w.grownBy w' (some g) := by
  have hle := drop_look_le B h.2.2.2.1
  have hl := h.2.2.2.2
  have hi := h.2.2.2.1
  have hn := h.2.1.len
  have hglt := h.lt
  refine flumeref02_Reader_Text.cl ?_
  unfold flumeref02_Reader_Text
  refine h.look fun w8 hf h8 => ?_
  dsimp -zeta only
  have hll : (B.drop i).length = B.length - i := List.length_drop
  have hX : (lookS (B.drop i)).2.2 = 0 → (lookS (B.drop i)).1 ≤ 9223372036854775807 := fun h0 => by
    obtain ⟨n, k, e, hnk⟩ : ∃ n k e, lookS (B.drop i) = (n, k, e) := ⟨_, _, _, rfl⟩
    rw [hnk] at h0 ⊢
    dsimp only at h0 ⊢
    subst h0
    exact (look_back hnk).2.2.2
  unfold rdText
  refine bNe ?_ ?_ <;> intro he
  · rw [if_pos (by omega)]
    exact ⟨rfl, OwB.nil _ _ _, h8, fr_grown hf⟩
  · have hX := hX (by omega)
    rw [if_neg (by omega)]
    have hd : ((B.drop i).drop (lookS (B.drop i)).2.1).take (lookS (B.drop i)).1 = (B.drop (i + (lookS (B.drop i)).2.1)).take (lookS (B.drop i)).1 := by rw [List.drop_drop]
    rw [hd, hll]
    generalize (lookS (B.drop i)).2.1 = k at *
    generalize (lookS (B.drop i)).1 = n at *
    intro j1
    have hj : ∀ w', Fr w w' → RR w' g s B i → ¬((n : Int) > max most 0) → j1 w' := by
      intro w30 f30 h30 hmost
      show nz _ _
      rw [if_neg hmost]
      show ld .L w30 ⟨g, 0, none⟩ _
      refine ldL0 h30.1 rfl ?_
      show ld (.I .i64) w30 ⟨g, 1, none⟩ _
      refine ldI0 h30.1 rfl ?_
      intro m
      have hf35 := f30.trans (Fr.drewN w30 m)
      have h35 := h30.fr (Fr.drewN w30 m)
      generalize w30.drewN m = w35 at *
      rw [i64w (n := (s.n : Int) - i) (by omega) (by omega), i64w (n := (s.n : Int) - i - k) (by omega) (by omega)]
      refine bD ?_ ?_ <;> intro hc
      · rw [if_pos (by omega)]
        exact ⟨rfl, OwB.nil _ _ _, h35, fr_grown hf35⟩
      · rw [if_neg (by omega), i64w (n := (k : Int) + n) (by omega) (by omega)]
        refine h35.step (k := k + n) (by omega) (by omega) fun w39 h39 hg39 => ?_
        intro m2
        have hg40 := World.grownBy.trans (World.grownBy.trans (fr_grown hf35) hg39) (fr_grown (Fr.drewN w39 m2))
        have h40 := h39.fr (Fr.drewN w39 m2)
        generalize w39.drewN m2 = w40 at *
        show ld .L w40 ⟨g, 0, none⟩ _
        refine ldL0 h40.1 rfl ?_
        show ld (.I .i64) w40 ⟨g, 1, none⟩ _
        refine ldI0 h40.1 rfl ?_
        show ld (.I .i64) w40 ⟨g, 1, none⟩ _
        refine ldI0 h40.1 rfl ?_
        rw [i64w (by omega) (by omega)]
        refine slsB h40.2.1 (by omega) (by omega) (by omega) fun r47 h47 _ _ => ?_
        rw [show (((i + (k + n) : Nat) : Int) - n).toNat = i + k from by omega, Int.toNat_natCast] at h47
        have ht : (B.take (i + (k + n))).drop (i + k) = (B.drop (i + k)).take n := by rw [List.drop_take]; congr 1; omega
        rw [ht] at h47
        refine nwI fun b w49 hb hsz hf49 hblk _ => ⟨hf49, ?_⟩
        have hs40 := hg40.size
        refine app0B slB (base := w.heap.size) hblk (by omega) (h47.fr hf49) (by simp; omega) (by omega) fun r w51 ho hf51 => ⟨hf51, rfl, ho, ?_, ?_⟩
        · exact h40.fr (hf49.trans hf51)
        · exact World.grownBy.trans hg40 (fr_grown (hf49.trans hf51))
    refine bD ?_ ?_ <;> intro h1
    · refine bD ?_ ?_ <;> intro h2
      · rw [if_pos (by omega)]
        exact ⟨rfl, OwB.nil _ _ _, h8, fr_grown hf⟩
      · exact hj _ hf h8 (by omega)
    · exact hj _ hf h8 (by omega)
end
end Go.Proofs.Ytpilmeekncobkaa
