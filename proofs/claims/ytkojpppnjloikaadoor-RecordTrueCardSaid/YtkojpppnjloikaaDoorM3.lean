/- Contracts and plain laws that the claims of this seat lean on, put together. -/
import Derived.Test.YtkojpppnjloikaaDoorM2
import Derived.ProofKit
import Derived.OpenShut
import Derived.Test.YtkojpppnjloikaaDoorRows
import Derived.Lib.LaidTab
import Derived.LaidMore
import Derived.Stop.LaidErr
import Derived.Stop.Joined
namespace Go.Proofs.YtkojpppnjloikaaDoor
open Go.RowKit Go.Fl

theorem recput_ok {s : Sl} {p : RecT} {b d l : List UInt8} {w : World} (hs : Bs w s b) (hp : p.2.2.1.1 = u8s d) (hl : Bs w p.2.2.2.1 l) (hbl : b.length ≤ 1048576) (hll : l.length ≤ 1048576) (hk : p.1 ≤ 9223372036854775807) (hz : p.2.1 ≤ 9223372036854775807) :
    cl Tryd.prog n_record_put #[.slice s.a s.n s.c, rcV p] .L w fun (r : Sl) w' => OwB w' w.heap.size t_uint8 r (b ++ recB p.1 p.2.1 d l) ∧ Fr w w' := by
  refine record_put.cl (p1 := p) ?_
  unfold record_put
  rw [rcL_nil]
  have hdl : d.length = 32 := by have := p.2.2.1.2; rw [hp, u8s_length] at this; exact this
  refine nwI fun a1 w2 ha1 hs2 hf2 hb1 _ => ?_
  have c0 : (rcL p []).toArray[0]? = some (.int .i64 p.1) := rfl
  have c1 : (rcL p []).toArray[1]? = some (.int .i64 p.2.1) := rfl
  simp only [addOff, Nat.zero_add]
  refine ldI0 hb1 c0 (ldI0 hb1 c1 ?_)
  refine nwI fun a5 w6 ha5 hs6 hf6 hb5 hr5 => ?_
  have hf6' := hf2.trans hf6
  refine (octet_Numbers_ok (x := ⟨some ⟨a5, 0, none⟩, 2, 2⟩) (ns := [p.1, p.2.1]) (hs.fr hf6') ⟨hr5, rfl, Nat.le_refl _⟩ (by simp; omega) (by simp; omega)).mono ?_
  rintro x7 w8 ⟨_, hx7, hf8⟩
  have hx7 : OwB w8 w6.heap.size t_uint8 x7 (b ++ numsB [p.1, p.2.1]) := hx7.resolve_left fun h => by cases h.1
  intro n
  have hfn := Fr.drewN w8 n
  have hf9 : Fr w (w8.drewN n) := (hf6'.trans hf8).trans hfn
  have hx9 := hx7.fr hfn
  have h19 := (hf8.trans hfn).heap (hf6.heap hb1)
  have h68 : w6.heap.size ≤ (w8.drewN n).heap.size := (hf8.trans hfn).size
  have hl9 := hl.fr hf9
  have hw6 : w.heap.size ≤ w6.heap.size := hf6'.size
  have hnl := numsB_le [p.1, p.2.1]
  simp only [List.length_cons, List.length_nil] at hnl
  have hx9' : OwB (w8.drewN n) w.heap.size t_uint8 x7 (b ++ numsB [p.1, p.2.1]) := hx9.mono hw6
  have hlb : ∀ (u : World) (r : Sl), OwB u w.heap.size t_uint8 r ((b ++ numsB [p.1, p.2.1]) ++ d) → Below w.heap.size (w8.drewN n) u → (∀ k, k < (w8.drewN n).heap.size → (Value.slice x7.a x7.n x7.c).ownBlock ≠ some k → u.heap[k]? = (w8.drewN n).heap[k]?) →
      Fr w u ∧ u.heap[a1]? = some (.cells (rcL p []).toArray t_api_Record (0, 0)) ∧ cl Tryd.prog n_octet_Text #[.slice r.a r.n r.c, .slice p.2.2.2.1.a p.2.2.2.1.n p.2.2.2.1.c] .L u fun (x : Sl) w' => OwB w' w.heap.size t_uint8 x (b ++ recB p.1 p.2.1 d l) ∧ Fr w w' := by
    intro u r hr hbu hkeep
    have hfu : Fr w u := hf9.on hbu
    refine ⟨hfu, ?_, ?_⟩
    · rw [hkeep a1 (Array.getElem?_eq_some_iff.1 h19).1 fun e => by have := (hx9.block a1 e).1; omega]; exact h19
    · refine (octet_Text_ok hr.bs (hl.fr hfu) (by simp; omega) (by omega)).mono ?_
      rintro x w' ⟨hx, hf⟩
      refine ⟨?_, hfu.trans hf⟩
      have e : b ++ recB p.1 p.2.1 d l = b ++ numsB [p.1, p.2.1] ++ d ++ numB l.length ++ l := by simp [recB]
      rw [e]
      exact hx.mono hfu.size
  have hrd : Rd (w8.drewN n) (some ⟨a1, 2, none⟩) (u8s d) := rdAt (n := 32) h19 (by rw [← hp]; show (p.2.2.1.1 ++ [slV p.2.2.2.1]).take 32 = _; rw [List.take_left' p.2.2.1.2])
  have ap : ∀ {K : Sl → World → Prop}, (∀ (r : Sl) w', OwB w' w.heap.size t_uint8 r ((b ++ numsB [p.1, p.2.1]) ++ d) → Below w.heap.size (w8.drewN n) w' → (∀ k, k < (w8.drewN n).heap.size → (Value.slice x7.a x7.n x7.c).ownBlock ≠ some k → w'.heap[k]? = (w8.drewN n).heap[k]?) → K r w') → app Tryd.prog t_s_uint8 t_s_uint8 x7 ⟨some ⟨a1, 2, none⟩, 32, 32⟩ (w8.drewN n) K := fun hK =>
    app_B slB (base := w.heap.size) hx9' hrd hdl (by simp; omega) hf9.size fun r w' h1 h2 h3 _ => hK r w' h1 h2 h3
  refine ⟨slA u_api_Sum size_u8 ⟨ap fun r w' h1 h2 h3 => ?_, ldL0 (s := p.2.2.2.1) h19 (rc_c34 p) (ap fun r w' h1 h2 h3 => (hlb w' r h1 h2 h3).2.2)⟩, ldL0 (s := p.2.2.2.1) h19 (rc_c34 p) (slA u_api_Sum size_u8 (ap fun r w' h1 h2 h3 => (hlb w' r h1 h2 h3).2.2))⟩
  exact ldL0 (s := p.2.2.2.1) (hlb w' r h1 h2 h3).2.1 (rc_c34 p) (hlb w' r h1 h2 h3).2.2
/-- What is put of a note. -/
def putS (p : NtT) (d l : List UInt8) : List UInt8 × Int := if FitP p d then (noteB p d l, 0) else ([], 100)
theorem offs_kind {k : Int} (h : offs k ≠ []) : 1 ≤ k ∧ k ≤ 6 := by
  unfold offs at h
  split at h
  · omega
  · split at h
    · omega
    · split at h
      · omega
      · exact absurd rfl h
theorem Put_ok {p : NtT} {d l : List UInt8} {w : World} (hp : p.2.2.2.2.2.1.2.2.1.1 = u8s d) (hl : Bs w p.2.2.2.2.2.1.2.2.2.1 l) (hll : l.length ≤ 1048576) :
    cl Tryd.prog n_record_Put #[ntV p] (.tup (.pair .L (.pair (.I .i64) .nil))) w fun (r : Sl × Int × Unit) w' => OwB w' w.heap.size t_uint8 r.1 (putS p d l).1 ∧ r.2 = ((putS p d l).2, ()) ∧ Fr w w' := by
  refine record_Put.cl (p0 := p) ?_
  unfold record_Put
  rw [ntL_eq]
  refine nwI fun a1 w2 ha1 hs2 hf2 hb1 _ => ?_
  have at1 : ∀ {u : World}, Fr w2 u → ∀ {o : Nat}, o < 5 → ∀ {K : Int → Prop}, K (nv p o) → ld (.I .i64) u ⟨a1, o, none⟩ K := by
    intro u hf o ho K hK
    exact ldI0 (hf.heap hb1) (ntL_at p ho) hK
  refine ldNote hb1 ?_
  refine (Fits_ok hp).mono ?_
  rintro _ w5 ⟨rfl, hf5⟩
  refine bNe ?_ ?_ <;> intro hfit
  · have hn : ¬FitP p d := fun h => hfit (by rw [fitS, if_pos h])
    rw [putS, if_neg hn, fitS, if_neg hn]
    exact ⟨OwB.nil _ _ _, rfl, hf2.trans hf5⟩
  have hF : FitP p d := by
    by_cases h : FitP p d
    · exact h
    · rw [fitS, if_neg h] at hfit; cases hfit
  rw [putS, if_pos hF]
  have hkd := offs_kind hF.1
  refine at1 hf5 (o := 0) (by decide) ?_
  refine (octet_Number_ok (s := ⟨none, 0, 0⟩) (n := nv p 0) (Bs.nil _ _) (by simp) (by show p.1 ≤ _; omega)).mono ?_
  rintro x7 w8 ⟨hx7, hf8⟩
  rw [List.nil_append] at hx7
  have hf8' := hf5.trans hf8
  refine (fields_ok (hf8'.heap hb1) (ntL_at p (o := 0) (by decide))).mono ?_
  rintro x9 w10 ⟨hx9, hf10⟩
  have hx9 : Pts w10 w8.heap.size a1 (offs p.1) x9 := hx9
  have hn9 := hx9.1
  have hf10' := hf8'.trans hf10
  have hl3 := offs_len p.1
  refine lpI (fun s' w' => Fr w10 w' ∧ ∃ i : Nat, i ≤ (offs p.1).length ∧ s'.2.1 = i ∧ OwB w' w.heap.size t_uint8 s'.1 (numB p.1.toNat ++ numsB (((offs p.1).map (nv p)).take i))) (fun s' _ => ((offs p.1).length - s'.2.1).toNat)
    ⟨Fr.refl _, 0, by omega, rfl, by simpa [numsB, nv] using (hx7.fr hf10).mono (Nat.le_trans hf2.size hf5.size)⟩ ?_
  rintro _ ⟨x, i', ⟨⟩⟩ w12 ⟨hf12, i, hi, hii, hx⟩
  dsimp only at hii hx
  subst hii
  dsimp only
  rw [hn9]
  have hlen := numsB_le (((offs p.1).map (nv p)).take i)
  have hlen1 := numB_le p.1.toNat
  rw [List.length_take, List.length_map] at hlen
  have hf12' := hf10'.trans hf12
  have hfw : Fr w w12 := hf2.trans hf12'
  refine bD ?_ ?_ <;> intro hlt
  · have hi' : i < (offs p.1).length := by omega
    have ho := offs_mem (List.getElem_mem hi')
    have hr := hF.2.1 _ (List.getElem_mem hi')
    rw [← hn9]
    refine (hx9.fr hf12).ix hi' (nzS (at1 hf12' (by omega) ?_))
    refine (octet_Number_ok hx.bs (by simp; omega) (by omega)).mono ?_
    rintro x19 w20 ⟨h19, hf20⟩
    rw [i64w (by omega) (by omega)]
    refine ⟨⟨hf12.trans hf20, i + 1, by omega, rfl, ?_⟩, by omega⟩
    have e := numsB_take (ns := (offs p.1).map (nv p)) (k := i) (by simpa using hi')
    rw [List.getElem_map] at e
    rw [e, ← List.append_assoc]
    exact h19.mono hfw.size
  obtain rfl : i = (offs p.1).length := by omega
  rw [List.take_of_length_le (by simp)] at hx hlen
  refine at1 hf12' (o := 0) (by decide) ?_
  refine bE ?_ ?_ <;> intro h2
  · have h2 : p.1 = 2 := h2
    have hc := chkS_ok (hF.2.2.2.2.2 h2)
    simp only [addOff, Nat.zero_add]
    refine ldRec (pre := n5 p) (post := []) (p := p.2.2.2.2.2.1) (hf12'.heap hb1) ?_

    refine (recput_ok hx.bs hp (hl.fr hfw) (by simp; omega) hll (by omega) (by omega)).mono ?_
    rintro x23 w24 ⟨h23, hf24⟩
    refine ⟨?_, trivial, hfw.trans hf24⟩
    rw [noteB, if_pos h2]
    exact h23.mono hfw.size
  · have h2 : p.1 ≠ 2 := h2
    refine ⟨?_, rfl, hfw⟩
    rw [noteB, if_neg h2, List.append_nil]
    exact hx
end Go.Proofs.YtkojpppnjloikaaDoor
namespace Go.Proofs.YtkojpppnjloikaaDoor
open Go.RowKit Go.Fl

theorem aw10 : putS (3, 7, 0, 0, 0, rc0, ()) (List.replicate 32 0) [] = ([3, 7], 0) := by decide +kernel
theorem awS : ¬(shortS [97, 98, 99]).length < 3 := by decide +kernel
theorem openS_lit {b : List UInt8} (h1 : 1 ≤ b.length) (h2 : b.length ≤ 256) : openS 2 (b.length : Int) (dig b) b = (b, 0) := by
  have h : chkS 2 (b.length : Int) b.length = 0 := by rw [chkS, if_pos ⟨.inr (.inl ⟨rfl, rfl⟩), by omega, by omega⟩]
  rw [openS, if_neg (by rw [h]; decide), if_neg (by decide), if_neg fun h => by have := h.1; omega, if_pos (by rw [if_neg (by decide)]), if_neg (by decide)]
/-- A record is put into a new variable. -/
theorem newRec {w : World} {p : RecT} {K : Addr → World → Prop} (hone : ∀ v ∈ p.2.2.1.1, v.oneCell' = true)
    (h : ∀ a w', w.heap.size ≤ a → Fr w w' → w'.heap[a]? = some (.cells (rcL p []).toArray t_api_Record (0, 0)) → w'.heap.size = w.heap.size + 1 → K ⟨a, 0, none⟩ w') :
    nw w (([.int .i64 0, .int .i64 0] : List Value) ++ ((zrow 32 (.int .u8 0)).1 ++ ([.slice none 0 0] : List Value))) t_api_Record fun a7 w8 => st1 w8 a7 (.int .i64 p.1) fun w9 => st1 w9 (a7.add 1) (.int .i64 p.2.1) fun w10 => stL ((a7.add 1).add 1) w10 0 p.2.2.1.1 fun w11 => st1 w11 (((a7.add 1).add 1).add 32) (.slice p.2.2.2.1.a p.2.2.2.1.n p.2.2.2.1.c) fun w12 => K a7 w12 := by
  refine nwI fun a w2 ha hs hf hb _ => ?_
  refine stRec (pre := []) (post := []) (q := rc0) hb p hone fun w3 hb3 hg3 hs3 => h a w3 (by omega) (hf.on (grown_below hg3 (by omega) hf.size)) hb3 (by omega)
theorem awake10_ok {w : World} (hd : Dig w) : cl Tryd.prog n_flumelaw10_awake #[] .B w fun (r : Bool) w' => r = true ∧ Fr w w' := by
  refine flumelaw10_awake.cl ?_
  unfold flumelaw10_awake
  obtain ⟨b, hbe⟩ : ∃ b : List UInt8, b = [97, 98, 99] := ⟨_, rfl⟩
  have hbl : b.length = 3 := by rw [hbe]; rfl
  have hsh : ¬(shortS b).length < b.length := by rw [hbl, hbe]; exact awS
  refine nwConv (l := b) u_s_uint8 u_uint8 (by rw [hbe]; rfl) hbl.symm fun r3 w4 hr3 hf4 => ?_
  refine (Make_ok (known := false) (hd.fr hf4) hr3 (by omega)).mono ?_
  rintro ⟨p, e, ⟨⟩⟩ w6 ⟨hm, hf6⟩
  unfold MakeP at hm
  rw [if_neg (by omega)] at hm
  obtain ⟨he, hsz, hsum, hm⟩ := hm
  rw [if_neg (by decide), if_neg hsh] at hm
  obtain ⟨hk, hx⟩ := hm
  dsimp only at he hsz hsum hk hx ⊢
  obtain ⟨rfl, _⟩ := Prod.mk.inj he
  have hf6' := hf4.trans hf6
  refine newRec (p := p) (by rw [hsum]; exact u8s_one _) fun a w12 ha hf12 hb12 hs12 => ?_
  refine ldRec (pre := []) (post := []) hb12 ?_
  have hf12' := hf6'.trans hf12
  refine (Open_ok (p := p) (d := dig b) (l := b) (hd.fr hf12') hsum (hx.fr hf12) (by omega)).mono ?_
  rintro ⟨x14, e14, ⟨⟩⟩ w15 ⟨h14, he14, hf15⟩
  rw [hk, hsz, openS_lit (by omega) (by omega)] at h14 he14
  dsimp only at h14 he14 ⊢
  obtain ⟨rfl, _⟩ := Prod.mk.inj he14
  have hf15' := hf12'.trans hf15
  refine (Put_ok (p := (3, 7, 0, 0, 0, rc0, ())) (d := List.replicate 32 0) (l := []) (by simp [rc0, zrow, u8s]) (Bs.nil _ _) (by simp)).mono ?_
  rintro ⟨x16, e16, ⟨⟩⟩ w17 ⟨h16, he16, hf17⟩
  rw [aw10] at h16 he16
  dsimp only at h16 he16 ⊢
  obtain ⟨rfl, _⟩ := Prod.mk.inj he16
  have hf17' := hf15'.trans hf17
  refine bT rfl ?_
  refine ldI0 (n := p.1) ((hf15.trans hf17).heap hb12) rfl ?_
  rw [hk]
  refine bT rfl (bT rfl ?_)
  have h14' := h14.fr hf17
  refine bstrI h14'.rd h14'.len.symm (Fr.refl _) ?_
  refine bT (by rw [show (⟨#[97, 98, 99]⟩ : ByteArray) = ⟨([97, 98, 99] : List UInt8).toArray⟩ from rfl, beqB_eq, hbe]; rfl) (bT rfl ?_)
  refine bstrI h16.rd h16.len.symm (Fr.refl _) ?_
  refine bT (by rw [show (⟨#[3, 7]⟩ : ByteArray) = ⟨([3, 7] : List UInt8).toArray⟩ from rfl, beqB_eq]; rfl) ?_
  refine (Check_ok (p := rc0)).mono ?_
  rintro _ w22 ⟨rfl, hf22⟩
  exact ⟨by decide +kernel, hf17'.trans hf22⟩
end Go.Proofs.YtkojpppnjloikaaDoor
namespace Go.Proofs.YtkojpppnjloikaaDoor
open Go.RowKit Go.Fl

theorem awake_law {w w2 : World} (hd : Dig w) (hf : Fr w w2) : cl Tryd.prog n_flumelaw10_awake #[] .B w2 fun (r : Bool) w' => r = true ∧ Fr w w' :=
  (awake10_ok (hd.fr hf)).mono fun _ _ h => ⟨h.1, hf.trans h.2⟩
theorem RecordKinds_law {w : World} {a : Option Addr} {len cap : Nat} {zs : List Int} (hd : Dig w) (h : RowK .u8 w a len cap zs) : Calls Tryd.prog n_flumelaw10_RecordKinds #[.slice a len cap] w fun e w' => e = .returned (.bool true) ∧ Below w.heap.size w w' := by
  refine lawE ?_
  obtain ⟨l, hl⟩ := rowB h
  refine flumelaw10_RecordKinds.cl (p0 := ⟨a, len, cap⟩) ?_
  unfold flumelaw10_RecordKinds
  have hn : len = l.length := hl.len
  refine bD ?_ ?_ <;> intro h1
  · exact awake_law hd (Fr.refl w)
  refine bD ?_ ?_ <;> intro h2
  · exact awake_law hd (Fr.refl w)
  dsimp only at h1 h2
  refine (Make_ok (s := ⟨a, len, cap⟩) (known := false) hd hl (by omega)).mono ?_
  rintro ⟨p, e, ⟨⟩⟩ w6 ⟨hm, hf6⟩
  unfold MakeP at hm
  rw [if_neg (by omega), if_neg (by decide)] at hm
  obtain ⟨he, hsz, hsum, hm⟩ := hm
  dsimp only at he hsz hsum hm ⊢
  obtain ⟨rfl, _⟩ := Prod.mk.inj he
  refine newRec (p := p) (by rw [hsum]; exact u8s_one _) fun a7 w12 ha hf12 hb12 hs12 => ?_
  have hf12' := hf6.trans hf12
  refine (Shorten_ok (hl.fr hf12') (by omega)).mono ?_
  rintro x13 w14 ⟨h13, hf14⟩
  have hn13 := h13.len
  have hb14 := hf14.heap hb12
  have hf14' := hf12'.trans hf14
  simp only [addOff, Nat.zero_add]
  have c0 : (rcL p []).toArray[0]? = some (.int .i64 p.1) := rfl
  refine bD ?_ ?_ <;> intro h3
  · rw [if_pos (by omega)] at hm
    refine bT rfl (ldI0 hb14 c0 (bT (by rw [hm.1]; rfl) (ldL0 (s := p.2.2.2.1) hb14 (rc_c34 p) ?_)))
    refine (Equal_ok (hm.2.fr (hf12.trans hf14)) h13.bs).mono ?_
    rintro _ _ ⟨rfl, rfl⟩
    exact bT (by simp) (awake_law hd hf14')
  · rw [if_neg (by omega)] at hm
    refine bT rfl (ldI0 hb14 c0 (bT (by rw [hm.1]; rfl) (ldL0 (s := p.2.2.2.1) hb14 (rc_c34 p) ?_)))
    refine (Equal_ok (x := ⟨a, len, cap⟩) (hm.2.fr (hf12.trans hf14)) (hl.fr hf14')).mono ?_
    rintro _ _ ⟨rfl, rfl⟩
    exact bT (by simp) (awake_law hd hf14')
end Go.Proofs.YtkojpppnjloikaaDoor
namespace Go.Proofs.YtkojpppnjloikaaDoor
open Go.RowKit Go.Fl Go.ChangeShapes Go.WideShapes Go.ChangeAt

/-- What is known of a record that came in. -/
structure RcIn (w : World) (p : RecT) (d l : List UInt8) : Prop where
  sum : p.2.2.1.1 = u8s d
  data : Bs w p.2.2.2.1 l
  k : -9223372036854775808 ≤ p.1 ∧ p.1 ≤ 9223372036854775807
  s : -9223372036854775808 ≤ p.2.1 ∧ p.2.1 ≤ 9223372036854775807
theorem u8s_of : ∀ {R : List Value}, (∀ v ∈ R, ∃ z, v = .int .u8 z ∧ (Lit.int .u8 z).wf = true) → ∃ d : List UInt8, R = u8s d
  | [], _ => ⟨[], rfl⟩
  | v :: R, h => by
    obtain ⟨d, rfl⟩ := u8s_of (R := R) fun u hu => h u (List.mem_cons_of_mem _ hu)
    obtain ⟨z, rfl, hz⟩ := h v (List.mem_cons_self ..)
    have hb : 0 ≤ z ∧ z ≤ 255 := by
      simp only [Lit.wf, IntKind.min, IntKind.max, IntKind.signed, IntKind.bits, Bool.and_eq_true] at hz
      simp at hz
      omega
    refine ⟨UInt8.ofNat z.toNat :: d, ?_⟩
    have : ((UInt8.ofNat z.toNat).toNat : Int) = z := by
      simp
      omega
    show Value.int .u8 z :: u8s d = Value.int .u8 ((UInt8.ofNat z.toNat).toNat : Int) :: u8s d
    rw [this]
theorem take1 {cs : List Value} {i : Nat} {v : Value} (h : (cs.drop i).take 1 = [v]) : cs.drop i = v :: cs.drop (i + 1) := by
  cases hd : cs.drop i with
  | nil => rw [hd] at h; cases h
  | cons a t =>
    rw [hd] at h
    simp only [List.take_succ_cons, List.take_zero, List.cons.injEq, and_true] at h
    rw [h, ← List.drop_drop, hd]
    rfl
section
variable {H : Type} {enc : TypeId × Value → H} {w : World} {fuel : Nat} {cs : List Value} {x : DataW H × List MemPlace}
theorem sum_of_cells (h : DataW.trod enc Tryd.prog w 0 (fun _ => true) true fuel t_api_Sum cs = some x) : ∃ d : List UInt8, cs = u8s d ∧ d.length = 32 := by
  obtain ⟨xs, m, rfl, rfl, hl, hxl, hel⟩ := DataW.trod_array u_api_Sum h
  have c1 : Tryd.prog.cellsOf t_uint8 = 1 := by kernel_rfl
  have c32 : Tryd.prog.cellsOf t_api_Sum = 32 := by kernel_rfl
  rw [c32] at hl
  obtain ⟨d, hd⟩ : ∃ d : List UInt8, cs = u8s d := u8s_of fun v hv => by
    obtain ⟨i, hi, rfl⟩ := List.getElem_of_mem hv
    have he := hel i (by omega)
    rw [c1, Nat.mul_one] at he
    rw [List.getElem?_eq_getElem (by omega)] at he
    obtain ⟨z, hz, _, hw⟩ := DataW.trod_int u_uint8 he
    rw [List.drop_eq_getElem_cons hi] at hz
    simp only [List.take_succ_cons, List.take_zero, List.cons.injEq, and_true] at hz
    exact ⟨z, hz, hw⟩
  exact ⟨d, hd, by rw [hd, u8s_length] at hl; exact hl⟩
theorem int_of_cells {t : TypeId} (ht : Tryd.prog.underlying t = some (.int .i64)) (h : DataW.trod enc Tryd.prog w 0 (fun _ => true) true fuel t cs = some x) : ∃ k : Int, cs = [.int .i64 k] ∧ -9223372036854775808 ≤ k ∧ k ≤ 9223372036854775807 := by
  obtain ⟨k, hk, _, hw⟩ := DataW.trod_int ht h
  exact ⟨k, hk, wfI64 hw⟩
theorem bytes_of_cells (h : DataW.trod enc Tryd.prog w 0 (fun _ => true) true fuel t_s_uint8 cs = some x) : ∃ (s : Sl) (l : List UInt8), cs = [slV s] ∧ Bs w s l := by
  rcases open_ints u_s_uint8 u_uint8 (by kernel_rfl) h with ⟨hcs, _⟩ | ⟨a, n, c, zs, hcs, _, hl, hm, hz, _, hcell, hwz⟩
  · exact ⟨⟨none, 0, 0⟩, [], hcs, Bs.nil _ _⟩
  · obtain ⟨l, hB⟩ := rowB (w := w) (a := some a) (len := n) (cap := c) (zs := zs) (.inr ⟨a, rfl, hl, hm, by simpa using hz, hcell, hwz⟩)
    exact ⟨⟨some a, n, c⟩, l, hcs, hB⟩
theorem rec_of_cells (h : DataW.trod enc Tryd.prog w 0 (fun _ => true) true fuel t_api_Record cs = some x) : ∃ (p : RecT) (d l : List UInt8), cs = rcL p [] ∧ RcIn w p d l := by
  obtain ⟨xs, n, rfl, rfl, hl, hxl, hf⟩ := DataW.trod_struct u_api_Record h
  have c1 : Tryd.prog.cellsOf t_int = 1 := by kernel_rfl
  have c2 : Tryd.prog.cellsOf t_s_uint8 = 1 := by kernel_rfl
  have c32 : Tryd.prog.cellsOf t_api_Sum = 32 := by kernel_rfl
  have c35 : Tryd.prog.cellsOf t_api_Record = 35 := by kernel_rfl
  have hxl : xs.length = 4 := hxl
  rw [c35] at hl
  have f0 := hf 0 _ rfl
  have f1 := hf 1 _ rfl
  have f2 := hf 2 _ rfl
  have f3 := hf 3 _ rfl
  rw [List.getElem?_eq_getElem (by omega)] at f0 f1 f2 f3
  obtain ⟨k, hk, hkb⟩ := int_of_cells u_int f0
  obtain ⟨s, hs, hsb⟩ := int_of_cells u_int f1
  obtain ⟨d, hd, hdl⟩ := sum_of_cells f2
  obtain ⟨sl, l, hsl, hB⟩ := bytes_of_cells f3
  have hk' : (cs.drop 0).take 1 = [.int .i64 k] := (congrArg (fun n => (cs.drop 0).take n) c1).symm.trans hk
  have hs' : (cs.drop 1).take 1 = [.int .i64 s] := (congrArg (fun n => (cs.drop 1).take n) c1).symm.trans hs
  have hd' : (cs.drop 2).take 32 = u8s d := (congrArg (fun n => (cs.drop 2).take n) c32).symm.trans hd
  have hsl' : (cs.drop 34).take 1 = [slV sl] := (congrArg (fun n => (cs.drop 34).take n) c2).symm.trans hsl
  refine ⟨(k, s, ⟨u8s d, by rw [u8s_length, hdl]⟩, sl, ()), d, l, ?_, rfl, hB, hkb, hsb⟩
  have e0 := take1 hk'
  have e1 := take1 hs'
  have e2 : cs.drop 2 = u8s d ++ cs.drop 34 := by
    have := List.take_append_drop 32 (cs.drop 2)
    rw [hd', List.drop_drop] at this
    exact this.symm
  have e3 := take1 hsl'
  rw [List.drop_of_length_le (i := 35) (by omega)] at e3
  rw [List.drop_zero] at e0
  rw [e0, e1, e2, e3]
  rfl
theorem note_of_cells (h : DataW.trod enc Tryd.prog w 0 (fun _ => true) true fuel t_api_Note cs = some x) : ∃ (p : NtT) (d l : List UInt8), cs = ntL p ∧ RcIn w p.2.2.2.2.2.1 d l ∧ ∀ o, o < 5 → -9223372036854775808 ≤ nv p o ∧ nv p o ≤ 9223372036854775807 := by
  obtain ⟨xs, n, rfl, rfl, hl, hxl, hf⟩ := DataW.trod_struct u_api_Note h
  have c1 : Tryd.prog.cellsOf t_int = 1 := by kernel_rfl
  have c35 : Tryd.prog.cellsOf t_api_Record = 35 := by kernel_rfl
  have c40 : Tryd.prog.cellsOf t_api_Note = 40 := by kernel_rfl
  have hxl : xs.length = 6 := hxl
  rw [c40] at hl
  have f0 := hf 0 _ rfl
  have f1 := hf 1 _ rfl
  have f2 := hf 2 _ rfl
  have f3 := hf 3 _ rfl
  have f4 := hf 4 _ rfl
  have f5 := hf 5 _ rfl
  rw [List.getElem?_eq_getElem (by omega)] at f0 f1 f2 f3 f4 f5
  obtain ⟨k0, h0, b0⟩ := int_of_cells u_int f0
  obtain ⟨k1, h1, b1⟩ := int_of_cells u_int f1
  obtain ⟨k2, h2, b2⟩ := int_of_cells u_int f2
  obtain ⟨k3, h3, b3⟩ := int_of_cells u_int f3
  obtain ⟨k4, h4, b4⟩ := int_of_cells u_int f4
  obtain ⟨r, d, l, hr, hR⟩ := rec_of_cells f5
  have h0' : (cs.drop 0).take 1 = [.int .i64 k0] := (congrArg (fun n => (cs.drop 0).take n) c1).symm.trans h0
  have h1' : (cs.drop 1).take 1 = [.int .i64 k1] := (congrArg (fun n => (cs.drop 1).take n) c1).symm.trans h1
  have h2' : (cs.drop 2).take 1 = [.int .i64 k2] := (congrArg (fun n => (cs.drop 2).take n) c1).symm.trans h2
  have h3' : (cs.drop 3).take 1 = [.int .i64 k3] := (congrArg (fun n => (cs.drop 3).take n) c1).symm.trans h3
  have h4' : (cs.drop 4).take 1 = [.int .i64 k4] := (congrArg (fun n => (cs.drop 4).take n) c1).symm.trans h4
  have h5' : (cs.drop 5).take 35 = rcL r [] := (congrArg (fun n => (cs.drop 5).take n) c35).symm.trans hr
  refine ⟨(k0, k1, k2, k3, k4, r, ()), d, l, ?_, hR, ?_⟩
  · have e0 := take1 h0'
    rw [List.drop_zero] at e0
    rw [e0, take1 h1', take1 h2', take1 h3', take1 h4', ← List.take_of_length_le (l := cs.drop 5) (i := 35) (by rw [List.length_drop]; omega), h5']
    rfl
  · intro o ho
    obtain rfl | rfl | rfl | rfl | rfl : o = 0 ∨ o = 1 ∨ o = 2 ∨ o = 3 ∨ o = 4 := by omega
    · exact b0
    · exact b1
    · exact b2
    · exact b3
    · exact b4
end
set_option maxRecDepth 100000 in
theorem rec_in {H : Type} {enc : TypeId × Value → H} {w : World} {base : Nat} {v : Value} {dd : DataW H} {ps : List MemPlace} (hv : Value.okWide Tryd.prog w .any base t_api_Record v) (h : DataW.Trod enc Tryd.prog w 0 (fun _ => true) true t_api_Record v dd ps) :
    ∃ (p : RecT) (d l : List UInt8), v = rcV p ∧ RcIn w p d l := by
  obtain ⟨cs, rfl, _⟩ := Go.WideShapes.okWide_struct u_api_Record hv
  obtain ⟨fuel, hf⟩ := h
  obtain ⟨p, d, l, hcs, hR⟩ := rec_of_cells hf
  refine ⟨p, d, l, ?_, hR⟩
  have h1 : cs.toList = rcL p [] := hcs
  have : cs = (rcL p []).toArray := (Array.toArray_toList (xs := cs)).symm.trans (congrArg List.toArray h1)
  exact congrArg Value.agg this
set_option maxRecDepth 100000 in
theorem note_in {H : Type} {enc : TypeId × Value → H} {w : World} {base : Nat} {v : Value} {dd : DataW H} {ps : List MemPlace} (hv : Value.okWide Tryd.prog w .any base t_api_Note v) (h : DataW.Trod enc Tryd.prog w 0 (fun _ => true) true t_api_Note v dd ps) :
    ∃ (p : NtT) (d l : List UInt8), v = ntV p ∧ RcIn w p.2.2.2.2.2.1 d l ∧ ∀ o, o < 5 → -9223372036854775808 ≤ nv p o ∧ nv p o ≤ 9223372036854775807 := by
  obtain ⟨cs, rfl, _⟩ := Go.WideShapes.okWide_struct u_api_Note hv
  obtain ⟨fuel, hf⟩ := h
  obtain ⟨p, d, l, hcs, hR⟩ := note_of_cells hf
  refine ⟨p, d, l, ?_, hR⟩
  have h1 : cs.toList = ntL p := hcs
  have : cs = (ntL p).toArray := (Array.toArray_toList (xs := cs)).symm.trans (congrArg List.toArray h1)
  exact (congrArg Value.agg this).trans (by rw [← ntL_eq])
end Go.Proofs.YtkojpppnjloikaaDoor
namespace Go.Proofs.YtkojpppnjloikaaDoor
open Go.RowKit Go.Fl

theorem refCheck_ok {p : RecT} {w : World} : cl Tryd.prog n_flumeref10_Check #[rcV p] (.I .i64) w fun (r : Int) w' => r = chkS p.1 p.2.1 p.2.2.2.1.n ∧ Fr w w' := by
  refine flumeref10_Check.cl (p0 := p) ?_
  unfold flumeref10_Check
  rw [rcL_nil]
  refine nwI fun a1 w2 ha hs hf hb _ => ?_
  have c0 : (rcL p []).toArray[0]? = some (.int .i64 p.1) := rfl
  have c1 : (rcL p []).toArray[1]? = some (.int .i64 p.2.1) := rfl
  have c34 := rc_c34 p
  generalize rcL p [] = cs at *
  rw [addOff, addOff]
  refine ldL0 (s := p.2.2.2.1) hb c34 ?_
  intro j1
  have hj : ∀ y : Bool, (y = true ↔ ((p.1 = 1 ∧ p.2.2.2.1.n = 0) ∨ (p.1 = 2 ∧ (p.2.2.2.1.n : Int) = p.2.1) ∨ (p.1 = 3 ∧ p.2.2.2.1.n ≤ 256))) → j1 y w2 := by
    intro y hy
    show bif (!y) then _ else _
    unfold chkS
    cases y with
    | false =>
      refine bT rfl ⟨?_, hf⟩
      rw [if_neg fun h => by have := hy.2 h.1; cases this]
    | true =>
      refine bF rfl ?_
      have h := hy.1 rfl
      refine ldI0 hb c1 (bD (fun h1 => ⟨?_, hf⟩) fun h1 => ldI0 hb c1 (bD (fun h2 => ⟨?_, hf⟩) fun h2 => ⟨?_, hf⟩))
      · rw [if_neg (by omega)]
      · rw [if_neg (by omega)]
      · rw [if_pos ⟨h, by omega, by omega⟩]
  clear_value j1
  refine ldI0 hb c0 ?_
  refine bE ?_ ?_ <;> intro h1
  · refine bE ?_ ?_ <;> intro h2
    · exact hj true (by simp [h1]; omega)
    · refine ldI0 hb c0 (bE (fun h => by omega) fun _ => ldI0 hb c0 (bE (fun h => by omega) fun _ => hj false ?_))
      simp [h1]; omega
  · refine ldI0 hb c0 ?_
    refine bE ?_ ?_ <;> intro h2
    · refine ldI0 hb c1 ?_
      refine bE ?_ ?_ <;> intro h3
      · exact hj true (by simp [h2, h3])
      · exact ldI0 hb c0 (bE (fun h => by omega) fun _ => hj false (by simp [h2, h3]))
    · refine ldI0 hb c0 ?_
      refine bE ?_ ?_ <;> intro h3
      · exact hj _ (by simp [h3]; omega)
      · exact hj false (by simp [h1, h2, h3])
/-- The numbers of a note, as a row. -/
def Nums (w : World) (os : List Int) (r : Sl) : Prop := Is w r os ∧ (os = [] → r.a = none) ∧ (os ≠ [] → r.a ≠ none)
theorem numbers_ok {p : NtT} {w : World} : cl Tryd.prog n_flumeref10_numbers #[ntV p] .L w fun (r : Sl) w' => Nums w' ((offs p.1).map (nv p)) r ∧ Fr w w' := by
  refine flumeref10_numbers.cl (p0 := p) ?_
  unfold flumeref10_numbers
  rw [ntL_eq]
  refine nwI fun a1 w2 ha1 hs2 hf2 hb1 _ => ?_
  have at1 : ∀ {o : Nat}, o < 5 → ∀ {K : Int → Prop}, K (nv p o) → ld (.I .i64) w2 ((⟨a1, 0, none⟩ : Addr).add o) K := by
    intro o ho K hK
    rw [addOff, Nat.zero_add]
    exact ldI0 hb1 (ntL_at p ho) hK
  have mk : ∀ {os : List Nat}, offs p.1 = os → os ≠ [] → ∀ {K : Sl → World → Prop}, (∀ r w', Nums w' ((offs p.1).map (nv p)) r ∧ Fr w w' → K r w') → nw w2 (os.map fun o => Value.int .i64 (nv p o)) t_int fun a w8 => K ⟨some a, os.length, os.length⟩ w8 := by
    intro os he hne K hK
    refine nwI fun b w8 hb hs hf hblk hr => hK _ _ ⟨⟨⟨?_, ?_, Nat.le_refl _⟩, ?_, ?_⟩, hf2.trans hf⟩
    · rw [he, List.map_map]; exact hr
    · rw [he, List.length_map]
    · intro h; rw [he] at h; exact absurd (List.map_eq_nil_iff.1 h) hne
    · intro _ h; cases h
  refine ldI0 hb1 (ntL_at p (o := 0) (by decide)) ?_
  refine bE ?_ ?_ <;> intro h1
  · have h1 : p.1 = 1 := h1
    refine at1 (o := 1) (by decide) (at1 (o := 2) (by decide) (at1 (o := 3) (by decide) ?_))
    exact mk (os := [1, 2, 3]) (by rw [offs, if_pos h1]) (by simp) fun r w' h => h
  have h1 : p.1 ≠ 1 := h1
  intro j1
  have hj : ∀ y : Bool, (y = true ↔ (p.1 = 2 ∨ p.1 = 5 ∨ p.1 = 6)) → j1 y w2 := by
    intro y hy
    show bif y then _ else _
    refine bB ?_ ?_ <;> intro hyv
    · have hk := hy.1 hyv
      refine at1 (o := 1) (by decide) (at1 (o := 4) (by decide) ?_)
      exact mk (os := [1, 4]) (by rw [offs, if_neg h1, if_pos hk]) (by simp) fun r w' h => h
    · have hk : ¬(p.1 = 2 ∨ p.1 = 5 ∨ p.1 = 6) := fun h => by rw [hy.2 h] at hyv; cases hyv
      refine bE ?_ ?_ <;> intro h3
      · have h3 : p.1 = 3 := h3
        refine bT (by rw [beq_iff_eq]; exact h3) (at1 (o := 1) (by decide) ?_)
        exact mk (os := [1]) (by rw [offs, if_neg h1, if_neg hk, if_pos (.inl h3)]) (by simp) fun r w' h => h
      refine bE ?_ ?_ <;> intro h4
      · have h4 : p.1 = 4 := h4
        refine at1 (o := 1) (by decide) ?_
        exact mk (os := [1]) (by rw [offs, if_neg h1, if_neg hk, if_pos (.inr h4)]) (by simp) fun r w' h => h
      · have h3 : p.1 ≠ 3 := h3
        have h4 : p.1 ≠ 4 := h4
        have e : offs p.1 = [] := by rw [offs, if_neg h1, if_neg hk, if_neg (by omega)]
        rw [e]
        exact ⟨⟨⟨Rd.nil _ _, rfl, Nat.le_refl _⟩, fun _ => rfl, fun h => absurd rfl h⟩, hf2⟩
  clear_value j1
  refine bE ?_ ?_ <;> intro h2
  · exact hj _ (by rw [beq_iff_eq]; have : p.1 = 2 := h2; simp [this, nv])
  refine bE ?_ ?_ <;> intro h5
  · exact hj _ (by rw [beq_iff_eq]; have : p.1 = 5 := h5; simp [this, nv])
  · exact hj _ (by rw [beq_iff_eq]; have h2 : p.1 ≠ 2 := h2; have h5 : p.1 ≠ 5 := h5; simp [h2, h5, nv])
theorem fit_same (p : NtT) (_d : List UInt8) (hne : offs p.1 ≠ []) :
    ((∀ o ∈ ([1, 2, 3, 4] : List Nat), o ∉ offs p.1 → nv p o = 0) ↔ ((p.1 ≠ 1 → p.2.2.1 = 0 ∧ p.2.2.2.1 = 0) ∧ (p.1 ≠ 2 → p.1 ≠ 5 → p.1 ≠ 6 → p.2.2.2.2.1 = 0))) := by
  have e1 : nv p 1 = p.2.1 := rfl
  have e2 : nv p 2 = p.2.2.1 := rfl
  have e3 : nv p 3 = p.2.2.2.1 := rfl
  have e4 : nv p 4 = p.2.2.2.2.1 := rfl
  simp only [List.mem_cons, List.not_mem_nil, or_false, forall_eq_or_imp, forall_eq, e1, e2, e3, e4]
  unfold offs at *
  by_cases h1 : p.1 = 1
  · simp [h1]
  · by_cases h2 : p.1 = 2 ∨ p.1 = 5 ∨ p.1 = 6
    · simp [h1, h2]; omega
    · by_cases h3 : p.1 = 3 ∨ p.1 = 4
      · simp [h1, h2, h3]; omega
      · simp [h1, h2, h3] at hne
end Go.Proofs.YtkojpppnjloikaaDoor
namespace Go.Proofs.YtkojpppnjloikaaDoor
open Go.RowKit Go.Fl

theorem refFits_ok {p : NtT} {d : List UInt8} {w : World} (hp : p.2.2.2.2.2.1.2.2.1.1 = u8s d) : cl Tryd.prog n_flumeref10_Fits #[ntV p] (.I .i64) w fun (r : Int) w' => r = fitS p d ∧ Fr w w' := by
  refine flumeref10_Fits.cl (p0 := p) ?_
  unfold flumeref10_Fits
  rw [ntL_eq]
  have hdl : d.length = 32 := by have := p.2.2.2.2.2.1.2.2.1.2; rw [hp, u8s_length] at this; exact this
  refine nwI fun a1 w2 ha1 hs2 hf2 hb1 _ => ?_
  refine ldNote hb1 ?_
  refine (numbers_ok (p := p)).mono ?_
  rintro x4 w5 ⟨⟨hI, hnil, hnn⟩, hf5⟩
  have hb5 := hf5.heap hb1
  have hf5' := hf2.trans hf5
  have hn4 := hI.len
  rw [List.length_map] at hn4
  have at1 : ∀ {o : Nat}, o < 5 → ∀ {K : Int → Prop}, K (nv p o) → ld (.I .i64) w5 ((⟨a1, 0, none⟩ : Addr).add o) K := by
    intro o ho K hK
    rw [addOff, Nat.zero_add]
    exact ldI0 hb5 (ntL_at p ho) hK
  have at0 : ∀ {K : Int → Prop}, K p.1 → ld (.I .i64) w5 ⟨a1, 0, none⟩ K := by
    intro K hK
    exact ldI0 hb5 (ntL_at p (o := 0) (by decide)) hK
  have e2 : nv p 2 = p.2.2.1 := rfl
  have e3 : nv p 3 = p.2.2.2.1 := rfl
  have e4 : nv p 4 = p.2.2.2.2.1 := rfl
  have hl3 := offs_len p.1
  refine lpI (fun s' w' => w5 = w' ∧ ∃ i : Nat, i ≤ (offs p.1).length ∧ s'.1 = i ∧ ∀ o ∈ (offs p.1).take i, 1 ≤ nv p o ∧ nv p o ≤ 1073741824)
    (fun s' _ => ((offs p.1).length - s'.1).toNat) ⟨rfl, 0, by omega, rfl, by simp⟩ ?_
  rintro _ ⟨i', ⟨⟩⟩ _ ⟨rfl, i, hi, hii, hall⟩
  dsimp only at hii
  subst hii
  dsimp only
  rw [hn4]
  refine bD ?_ ?_ <;> intro hlt
  · have hi' : i < (offs p.1).length := by omega
    have hmem : (offs p.1)[i] ∈ offs p.1 := List.getElem_mem hi'
    rw [← hn4]
    refine ixI hI (by omega) (by rw [List.length_map]; omega) (Fr.refl _) ?_
    simp only [Int.toNat_natCast, List.getElem_map]
    refine bD ?_ ?_ <;> intro h1
    · exact ⟨by rw [fitS, if_neg fun h => by have := h.2.1 _ hmem; omega], hf5'⟩
    refine bD ?_ ?_ <;> intro h2
    · exact ⟨by rw [fitS, if_neg fun h => by have := h.2.1 _ hmem; omega], hf5'⟩
    rw [i64w (by omega) (by omega)]
    refine ⟨⟨by trivial, i + 1, by omega, rfl, fun o ho' => ?_⟩, by omega⟩
    rw [List.take_succ_eq_append_getElem hi'] at ho'
    rcases List.mem_append.1 ho' with ho' | ho'
    · exact hall o ho'
    · rw [List.mem_singleton] at ho'
      subst ho'
      omega
  obtain rfl : i = (offs p.1).length := by omega
  rw [List.take_length] at hall
  refine ⟨fun s w' => w5 = w' ∧ s.1 = !decide ((p.1 ≠ 1 → p.2.2.1 = 0 ∧ p.2.2.2.1 = 0) ∧ (p.1 ≠ 2 → p.1 ≠ 5 → p.1 ≠ 6 → p.2.2.2.2.1 = 0)), ?_, ?_⟩
  · rintro _ ⟨stray, ⟨⟩⟩ _ ⟨rfl, hstray⟩
    dsimp only at hstray
    refine ⟨fun s w' => w5 = w' ∧ s.1 = !decide (emptyR p.2.2.2.2.2.1 d), ?_, ?_⟩
    · rintro _ ⟨full, ⟨⟩⟩ _ ⟨rfl, hfull⟩
      dsimp only at hfull ⊢
      by_cases hne : offs p.1 = []
      · refine bT (by rw [hnil (by rw [hne]; rfl)]; rfl) ⟨?_, hf5'⟩
        rw [fitS, if_neg fun h => h.1 hne]
      refine bF ?_ ?_
      · cases hx : x4.a with
        | none => exact absurd hx (hnn fun h => hne (List.map_eq_nil_iff.1 h))
        | some a => rfl
      rw [hstray]
      have hsm := fit_same p d hne
      refine bB ?_ ?_ <;> intro h3
      · refine ⟨?_, hf5'⟩
        rw [fitS, if_neg fun h => by rw [Bool.not_eq_true', decide_eq_false_iff_not, ← hsm] at h3; exact h3 h.2.2.2.1]
      rw [Bool.not_eq_false', decide_eq_true_iff] at h3
      have h3' := hsm.2 h3
      refine at1 (o := 2) (by decide) ?_
      rw [e2]
      refine bD ?_ ?_ <;> intro hp1
      · refine ⟨?_, hf5'⟩
        rw [fitS, if_neg fun h => ?_]
        by_cases hk : p.1 = 1
        · have := (h.2.2.1 hk).1; omega
        · have := (h3.1 hk).1; omega
      refine at1 (o := 3) (by decide) ?_
      rw [e3]
      refine bD ?_ ?_ <;> intro hp2
      · refine ⟨?_, hf5'⟩
        rw [fitS, if_neg fun h => ?_]
        by_cases hk : p.1 = 1
        · have := (h.2.2.1 hk).2; omega
        · have := (h3.1 hk).2; omega
      have h2 : p.1 = 1 → p.2.2.1 ≤ 65535 ∧ p.2.2.2.1 ≤ 65535 := fun _ => by omega
      have chk : p.1 = 2 → ∀ {K : Int → World → Prop}, (∀ w', Fr w w' → K (fitS p d) w') → ld (.pair (.I .i64) (.pair (.I .i64) (.pair (.row 32) (.pair .L .nil)))) w5 ((⟨a1, 0, none⟩ : Addr).add 5) fun (x457 : RecT) => cl Tryd.prog n_flumeref10_Check #[rcV x457] (.I .i64) w5 fun (x458 : Int) w459 => bif (x458 != 0) then K 100 w459 else K 0 w459 := by
        intro h5 K hK
        rw [addOff]
        refine ldRec (pre := n5 p) (post := []) (p := p.2.2.2.2.2.1) hb5 ?_
        refine (refCheck_ok (p := p.2.2.2.2.2.1)).mono ?_
        rintro _ w21 ⟨rfl, hf21⟩
        have hk := hK w21 (hf5'.trans hf21)
        refine bNe ?_ ?_ <;> intro h6
        · rw [fitS, if_neg fun h => h6 (h.2.2.2.2.2 h5)] at hk; exact hk
        · rw [fitS, if_pos ⟨hne, hall, h2, h3', fun h => absurd h5 h, fun _ => h6⟩] at hk; exact hk
      refine at0 ?_
      refine bNe ?_ ?_ <;> intro h4
      · rw [hfull]
        refine bB ?_ ?_ <;> intro h5
        · refine ⟨?_, hf5'⟩
          rw [fitS, if_neg fun h => by rw [Bool.not_eq_true', decide_eq_false_iff_not] at h5; exact h5 (h.2.2.2.2.1 h4)]
        rw [Bool.not_eq_false', decide_eq_true_iff] at h5
        refine at0 ?_
        refine bE ?_ ?_ <;> intro h6
        · exact absurd h6 h4
        · refine ⟨?_, hf5'⟩
          rw [fitS, if_pos ⟨hne, hall, h2, h3', fun _ => h5, fun h => absurd h h4⟩]
      · refine at0 ?_
        refine bE ?_ ?_ <;> intro h6
        · exact chk h4 (K := fun r w' => r = fitS p d ∧ Fr w w') fun w' hf => ⟨rfl, hf⟩
        · exact absurd h4 h6
    · have c5 : (ntL p).toArray[5]? = some (.int .i64 p.2.2.2.2.2.1.1) := rfl
      have c6 : (ntL p).toArray[6]? = some (.int .i64 p.2.2.2.2.2.1.2.1) := rfl
      have c39 : (ntL p).toArray[39]? = some (slV p.2.2.2.2.2.1.2.2.2.1) := by
        have := rc_c34 p.2.2.2.2.2.1
        rw [List.getElem?_toArray] at this ⊢
        rw [ntL, List.getElem?_append_right (by simp)]
        exact this
      simp only [addOff, Nat.zero_add]
      refine ldI0 hb5 c5 ?_
      refine bNe ?_ ?_ <;> intro h1
      · exact ⟨by trivial, by rw [decide_eq_false fun h => h1 h.1]; rfl⟩
      refine ldI0 hb5 c6 ?_
      refine bNe ?_ ?_ <;> intro h2
      · exact ⟨by trivial, by rw [decide_eq_false fun h => h2 h.2.1]; rfl⟩
      refine ldRow (vs := u8s d) hb5 (by rw [← hp]; show (p.2.2.2.2.2.1.2.2.1.1 ++ [slV p.2.2.2.2.2.1.2.2.2.1]).take 32 = _; rw [List.take_left' p.2.2.2.2.2.1.2.2.1.2]) (by rw [u8s_length, hdl]) ?_
      refine ⟨⟨u8s (List.replicate 32 0), by simp [u8s]⟩, fun w' _ => (zero_Sum w').trans (by simp [u8s]; rfl), ?_⟩
      refine qnNe hdl (by simp) ?_
      refine bB ?_ ?_ <;> intro h3
      · rw [Bool.not_eq_true', decide_eq_false_iff_not] at h3
        exact ⟨by trivial, by rw [decide_eq_false fun h => h3 h.2.2.1]; rfl⟩
      · rw [Bool.not_eq_false', decide_eq_true_iff] at h3
        refine ldL0 (s := p.2.2.2.2.2.1.2.2.2.1) hb5 c39 ⟨by trivial, ?_⟩
        by_cases h4 : p.2.2.2.2.2.1.2.2.2.1.n = 0
        · have he : decide (emptyR p.2.2.2.2.2.1 d) = true := decide_eq_true ⟨h1, h2, h3, h4⟩
          rw [he, h4]; rfl
        · have he : decide (emptyR p.2.2.2.2.2.1 d) = false := decide_eq_false fun h => h4 h.2.2.2
          rw [he, decide_eq_true (by omega)]; rfl
  · have tail : ∀ {K : Bool × Unit → World → Prop}, (p.1 ≠ 1 → p.2.2.1 = 0 ∧ p.2.2.2.1 = 0) → (∀ b w', w5 = w' ∧ b = (!decide ((p.1 ≠ 1 → p.2.2.1 = 0 ∧ p.2.2.2.1 = 0) ∧ (p.1 ≠ 2 → p.1 ≠ 5 → p.1 ≠ 6 → p.2.2.2.2.1 = 0))) → K (b, ()) w') →
        ld (.I .i64) w5 ⟨a1, 0, none⟩ fun (x15 : Int) => bif (x15 != 2) then
          (ld (.I .i64) w5 ⟨a1, 0, none⟩ fun (x16 : Int) => bif (x16 != 5) then
          (ld (.I .i64) w5 ⟨a1, 0, none⟩ fun (x17 : Int) => bif (x17 != 6) then
          (ld (.I .i64) w5 ((⟨a1, 0, none⟩ : Addr).add 4) fun (x18 : Int) => K ((x18 != 0), ()) w5)
          else K (false, ()) w5)
          else K (false, ()) w5)
          else K (false, ()) w5 := by
      intro K hports hK
      refine at0 (bNe (fun h2 => at0 (bNe (fun h5 => at0 (bNe (fun h6 => at1 (o := 4) (by decide) (hK _ _ ⟨rfl, ?_⟩)) fun h6 => hK _ _ ⟨rfl, ?_⟩)) fun h5 => hK _ _ ⟨rfl, ?_⟩)) fun h2 => hK _ _ ⟨rfl, ?_⟩)
      · rw [e4]
        by_cases h : p.2.2.2.2.1 = 0
        · rw [decide_eq_true (⟨hports, fun _ _ _ => h⟩ : _ ∧ _), h]; rfl
        · rw [decide_eq_false fun hh => h (hh.2 h2 h5 h6)]; simp [h]
      · rw [decide_eq_true (⟨hports, fun _ _ h => absurd h6 h⟩ : _ ∧ _)]; rfl
      · rw [decide_eq_true (⟨hports, fun _ h => absurd h5 h⟩ : _ ∧ _)]; rfl
      · rw [decide_eq_true (⟨hports, fun h => absurd h2 h⟩ : _ ∧ _)]; rfl
    refine at0 ?_
    refine bNe ?_ ?_ <;> intro h1
    · refine at1 (o := 2) (by decide) ?_
      rw [e2]
      refine bNe ?_ ?_ <;> intro h2
      · exact ⟨rfl, by rw [decide_eq_false fun h => h2 (h.1 h1).1]; rfl⟩
      refine at1 (o := 3) (by decide) ?_
      rw [e3]
      refine bNe ?_ ?_ <;> intro h3
      · exact ⟨rfl, by rw [decide_eq_false fun h => h3 (h.1 h1).2]; rfl⟩
      exact tail (K := fun s w' => w5 = w' ∧ s.1 = !decide ((p.1 ≠ 1 → p.2.2.1 = 0 ∧ p.2.2.2.1 = 0) ∧ (p.1 ≠ 2 → p.1 ≠ 5 → p.1 ≠ 6 → p.2.2.2.2.1 = 0))) (fun _ => ⟨h2, h3⟩) fun b w' h => h
    · exact tail (K := fun s w' => w5 = w' ∧ s.1 = !decide ((p.1 ≠ 1 → p.2.2.1 = 0 ∧ p.2.2.2.1 = 0) ∧ (p.1 ≠ 2 → p.1 ≠ 5 → p.1 ≠ 6 → p.2.2.2.2.1 = 0))) (fun h => absurd h1 h) fun b w' h => h
theorem refPut_ok {p : NtT} {d l : List UInt8} {w : World} (hp : p.2.2.2.2.2.1.2.2.1.1 = u8s d) (hl : Bs w p.2.2.2.2.2.1.2.2.2.1 l) (hll : l.length ≤ 1048576) :
    cl Tryd.prog n_flumeref10_Put #[ntV p] (.tup (.pair .L (.pair (.I .i64) .nil))) w fun (r : Sl × Int × Unit) w' => Bs w' r.1 (putS p d l).1 ∧ r.2 = ((putS p d l).2, ()) ∧ Fr w w' := by
  refine flumeref10_Put.cl (p0 := p) ?_
  unfold flumeref10_Put
  rw [ntL_eq]
  refine nwI fun a1 w2 ha1 hs2 hf2 hb1 _ => ?_
  have at1 : ∀ {u : World}, Fr w2 u → ∀ {o : Nat}, o < 5 → ∀ {K : Int → Prop}, K (nv p o) → ld (.I .i64) u ⟨a1, o, none⟩ K := by
    intro u hf o ho K hK
    exact ldI0 (hf.heap hb1) (ntL_at p ho) hK
  refine ldNote hb1 ?_
  refine (refFits_ok hp).mono ?_
  rintro _ w5 ⟨rfl, hf5⟩
  refine bNe ?_ ?_ <;> intro hfit
  · have hn : ¬FitP p d := fun h => hfit (by rw [fitS, if_pos h])
    rw [putS, if_neg hn]
    exact ⟨Bs.nil _ _, rfl, hf2.trans hf5⟩
  have hF : FitP p d := by
    by_cases h : FitP p d
    · exact h
    · rw [fitS, if_neg h] at hfit; cases hfit
  rw [putS, if_pos hF]
  have hkd := offs_kind hF.1
  refine at1 hf5 (o := 0) (by decide) ?_
  refine (ref_Number_ok (s := ⟨none, 0, 0⟩) (n := nv p 0) (Bs.nil _ _) (by simp) (by show p.1 ≤ _; omega)).mono ?_
  rintro x7 w8 ⟨hx7, hf8⟩
  rw [List.nil_append] at hx7
  have hf8' := hf5.trans hf8
  refine ldNote (hf8'.heap hb1) ?_
  refine (numbers_ok (p := p)).mono ?_
  rintro x10 w10 ⟨⟨hI, _, _⟩, hf10⟩
  have hn9 := hI.len
  rw [List.length_map] at hn9
  have hf10' := hf8'.trans hf10
  have hl3 := offs_len p.1
  refine lpI (fun s' w' => Fr w10 w' ∧ ∃ i : Nat, i ≤ (offs p.1).length ∧ s'.2.1 = i ∧ OwB w' w.heap.size t_uint8 s'.1 (numB p.1.toNat ++ numsB (((offs p.1).map (nv p)).take i))) (fun s' _ => ((offs p.1).length - s'.2.1).toNat)
    ⟨Fr.refl _, 0, by omega, rfl, by simpa [numsB, nv] using (hx7.fr hf10).mono (Nat.le_trans hf2.size hf5.size)⟩ ?_
  rintro _ ⟨x, i', ⟨⟩⟩ w12 ⟨hf12, i, hi, hii, hx⟩
  dsimp only at hii hx
  subst hii
  dsimp only
  rw [hn9]
  have hlen := numsB_le (((offs p.1).map (nv p)).take i)
  have hlen1 := numB_le p.1.toNat
  rw [List.length_take, List.length_map] at hlen
  have hf12' := hf10'.trans hf12
  have hfw : Fr w w12 := hf2.trans hf12'
  refine bD ?_ ?_ <;> intro hlt
  · have hi' : i < (offs p.1).length := by omega
    have hr := hF.2.1 _ (List.getElem_mem hi')
    rw [← hn9]
    refine ixI hI (by omega) (by rw [List.length_map]; omega) hf12 ?_
    simp only [Int.toNat_natCast, List.getElem_map]
    refine (ref_Number_ok hx.bs (by simp; omega) (by omega)).mono ?_
    rintro x19 w20 ⟨h19, hf20⟩
    rw [i64w (by omega) (by omega)]
    refine ⟨⟨hf12.trans hf20, i + 1, by omega, rfl, ?_⟩, by omega⟩
    have e := numsB_take (ns := (offs p.1).map (nv p)) (k := i) (by simpa using hi')
    rw [List.getElem_map] at e
    rw [e, ← List.append_assoc]
    exact h19.mono hfw.size
  obtain rfl : i = (offs p.1).length := by omega
  rw [List.take_of_length_le (by simp)] at hx hlen
  refine at1 hf12' (o := 0) (by decide) ?_
  refine bE ?_ ?_ <;> intro h2
  · have h2 : p.1 = 2 := h2
    have hc := chkS_ok (hF.2.2.2.2.2 h2)
    intro n
    have hfn := Fr.drewN w12 n
    have hf13 := hf12'.trans hfn
    have hfw13 := hfw.trans hfn
    have hb13 := hf13.heap hb1
    have c5 : (ntL p).toArray[5]? = some (.int .i64 p.2.2.2.2.2.1.1) := rfl
    have c6 : (ntL p).toArray[6]? = some (.int .i64 p.2.2.2.2.2.1.2.1) := rfl
    have c39 : (ntL p).toArray[39]? = some (slV p.2.2.2.2.2.1.2.2.2.1) := by
      have := rc_c34 p.2.2.2.2.2.1
      rw [List.getElem?_toArray] at this ⊢
      rw [ntL, List.getElem?_append_right (by simp)]
      exact this
    simp only [addOff, Nat.zero_add]
    refine ldI0 hb13 c5 (ldI0 hb13 c6 ?_)
    refine (ref_Number_ok (hx.fr hfn).bs (by simp; omega) (by omega)).mono ?_
    rintro x24 w25 ⟨h24, hf25⟩
    refine ⟨hf25, ?_⟩
    refine (ref_Number_ok h24.bs (by have := numB_le p.2.2.2.2.2.1.1.toNat; simp; omega) (by omega)).mono ?_
    rintro x26 w27 ⟨h26, hf27⟩
    have hf27' := (hfw13.trans hf25).trans hf27
    have hb27 := hf27.heap (hf25.heap hb13)
    have hdl : d.length = 32 := by have := p.2.2.2.2.2.1.2.2.1.2; rw [hp, u8s_length] at this; exact this
    obtain ⟨A, hA⟩ : ∃ A, numB p.1.toNat ++ numsB ((offs p.1).map (nv p)) ++ numB p.2.2.2.2.2.1.1.toNat ++ numB p.2.2.2.2.2.1.2.1.toNat = A := ⟨_, rfl⟩
    have hAl : A.length ≤ 1000 := by
      have := numB_le p.2.2.2.2.2.1.1.toNat
      have := numB_le p.2.2.2.2.2.1.2.1.toNat
      rw [← hA]; simp only [List.length_append]; omega
    rw [hA] at h26
    have hnb : noteB p d l = A ++ d ++ numB l.length ++ l := by
      rw [noteB, if_pos h2, recB, ← hA]; simp [numsB]
    rw [hnb]
    clear hA hnb
    have hs27 : w.heap.size ≤ w27.heap.size := hf27'.size
    have hfw25 : Fr w w25 := hfw13.trans hf25
    have hb25 := hf25.heap hb13
    refine lpI (fun s' w' => Fr w25 w' ∧ ∃ i : Nat, i ≤ 32 ∧ s'.2.1 = i ∧ OwB w' w25.heap.size t_uint8 s'.1 (A ++ d.take i)) (fun s' _ => (32 - s'.2.1).toNat) ⟨hf27, 0, by decide, rfl, by simpa using h26⟩ ?_
    rintro _ ⟨y, j', ⟨⟩⟩ w29 ⟨hf29, j, hj, hjj, hy⟩
    dsimp only at hjj hy
    subst hjj
    dsimp only
    have hb29 := hf29.heap hb25
    refine bD ?_ ?_ <;> intro hlt2
    · have hjd : j < d.length := by omega
      refine ⟨by omega, hlt2, ?_⟩
      refine nzS ?_
      show ld (.I .u8) w29 (atOff ⟨a1, 5 + 2, none⟩ (j : Int) 1) _
      rw [show atOff ⟨a1, 5 + 2, none⟩ (j : Int) 1 = ⟨a1, 7 + j, none⟩ from (by show Addr.add _ _ = _; rw [addOff]; rfl)]
      refine ldI0 (n := (d[j].toNat : Int)) hb29 ?_ ?_
      · rw [List.getElem?_toArray, ntL, List.getElem?_append_right (by simp; omega), rcL]
        have e : 7 + j - (n5 p).length = j + 2 := by simp; omega
        rw [e, List.getElem?_cons_succ, List.getElem?_cons_succ, List.getElem?_append_left (by rw [p.2.2.2.2.2.1.2.2.1.2]; omega), hp]
        simp [u8s, hjd]
      · refine nwI fun a34 w35 ha34 hs35 hf35 hb35 hr35 => ?_
        have hf35' := hf29.trans hf35
        refine app_B slB (base := w25.heap.size) (hy.fr hf35) (m := [d[j]]) hr35 rfl (by simp; omega) hf35'.size fun r w' ho hbl _ _ => ?_
        rw [i64w (by omega) (by omega)]
        refine ⟨⟨hf35'.on hbl, j + 1, by omega, rfl, ?_⟩, by omega⟩
        rw [List.take_succ_eq_append_getElem hjd, ← List.append_assoc]
        exact ho
    · obtain rfl : j = 32 := by omega
      rw [List.take_of_length_le (by omega)] at hy
      refine ldL0 (s := p.2.2.2.2.2.1.2.2.2.1) hb29 c39 ?_
      have hfw29 := hfw25.trans hf29
      refine (ref_Text_ok hy.bs (hl.fr hfw29) (by simp; omega) (by omega)).mono ?_
      rintro x39 w40 ⟨h39, hf40⟩
      exact ⟨h39.bs, by trivial, hfw29.trans hf40⟩
  · have h2 : p.1 ≠ 2 := h2
    refine ⟨?_, rfl, hfw⟩
    rw [noteB, if_neg h2, List.append_nil]
    exact hx.bs
end Go.Proofs.YtkojpppnjloikaaDoor
namespace Go.Fl

theorem alikeF_is {b : List UInt8} : ∀ {f i j m : Nat}, m < alikeF b f i j → j + m < b.length ∧ b[i + m]? = b[j + m]?
  | 0, _, _, m, h => by simp [alikeF] at h
  | f + 1, i, j, m, h => by
    unfold alikeF at h
    split at h
    · rename_i hc
      cases m with
      | zero => exact hc
      | succ m =>
        have := alikeF_is (b := b) (f := f) (i := i + 1) (j := j + 1) (m := m) (by omega)
        rw [show i + 1 + m = i + (m + 1) from by omega, show j + 1 + m = j + (m + 1) from by omega] at this
        exact this
    · omega
theorem longF_alike {b : List UInt8} {p : Nat} : ∀ {f back : Nat} {s : Nat × Nat}, (s.2 ≤ alikeF b 66 (p - s.1) p) → (longF b p f back s).2 ≤ alikeF b 66 (p - (longF b p f back s).1) p
  | 0, _, _, h => h
  | f + 1, back, s, h => by
    rw [longF]
    refine longF_alike ?_
    split
    · exact Nat.le_refl _
    · exact h
theorem longF_max {b : List UInt8} {p : Nat} : ∀ {f back : Nat} {s : Nat × Nat}, s.2 ≤ (longF b p f back s).2 ∧ ∀ k, back ≤ k → k < back + f → alikeF b 66 (p - k) p ≤ (longF b p f back s).2
  | 0, _, _ => ⟨Nat.le_refl _, fun k h1 h2 => by omega⟩
  | f + 1, back, s => by
    rw [longF]
    obtain ⟨h1, h2⟩ := longF_max (b := b) (p := p) (f := f) (back := back + 1) (s := if s.2 < alikeF b 66 (p - back) p then (back, alikeF b 66 (p - back) p) else s)
    have h3 : s.2 ≤ (if s.2 < alikeF b 66 (p - back) p then (back, alikeF b 66 (p - back) p) else s).2 ∧ alikeF b 66 (p - back) p ≤ (if s.2 < alikeF b 66 (p - back) p then (back, alikeF b 66 (p - back) p) else s).2 := by
      split
      · exact ⟨by dsimp only; omega, Nat.le_refl _⟩
      · exact ⟨Nat.le_refl _, by omega⟩
    refine ⟨by omega, fun k hk hk' => ?_⟩
    by_cases e : k = back
    · subst e; omega
    · exact h2 k (by omega) (by omega)
theorem longS_is {b : List UInt8} {p m : Nat} (h : m < (longS b p).2) : p + m < b.length ∧ b[p - (longS b p).1 + m]? = b[p + m]? :=
  alikeF_is (Nat.lt_of_lt_of_le h (longF_alike (Nat.zero_le _)))
theorem longS_max {b : List UInt8} {p k : Nat} (h1 : 1 ≤ k) (h2 : k ≤ min 512 p) : alikeF b 66 (p - k) p ≤ (longS b p).2 := longF_max.2 k h1 (by omega)

/-- A stretch back gives what stands there. -/
theorem again_take {b pre : List UInt8} {p back : Nat} (hb : 1 ≤ back) (hbp : back ≤ p) : ∀ {n : Nat}, p + n ≤ b.length → (∀ m, m < n → b[p - back + m]? = b[p + m]?) → againF back n (pre ++ b.take p) = pre ++ b.take (p + n)
  | 0, _, _ => rfl
  | n + 1, hl, h => by
    rw [againF_snoc, again_take hb hbp (by omega) (fun m hm => h m (by omega))]
    have hget : (pre ++ b.take (p + n)).getD ((pre ++ b.take (p + n)).length - back) 0 = b[p + n]'(by omega) := by
      rw [List.length_append, List.length_take, Nat.min_eq_left (by omega), List.getD_eq_getElem?_getD, List.getElem?_append_right (by omega), List.getElem?_take, if_pos (by omega)]
      have := h n (by omega)
      rw [List.getElem?_eq_getElem (by omega), List.getElem?_eq_getElem (by omega), Option.some.injEq] at this
      rw [show pre.length + (p + n) - back - pre.length = p - back + n from by omega, List.getElem?_eq_getElem (by omega), Option.getD_some]
      exact this
    rw [hget, List.append_assoc, ← List.take_succ_eq_append_getElem (by omega)]
    rfl
/-- Fuel does not matter. -/
abbrev restR (most : Int) (l out : List UInt8) : List UInt8 × Nat := restF most l.length l out
theorem restR_cons (most : Int) (c : UInt8) (t out : List UInt8) : restR most (c :: t) out =
    if (stepS out c t).2.2 ≠ 0 then ([], (stepS out c t).2.2) else if ((stepS out c t).1.length : Int) > most - out.length then ([], 71)
    else restR most ((c :: t).drop (stepS out c t).2.1) (out ++ (stepS out c t).1) := by
  unfold restR
  rw [List.length_cons, restF_step]
  by_cases h : (stepS out c t).2.2 ≠ 0
  · rw [if_pos h, if_pos h]
  · rw [if_neg h, if_neg h]
    have := (stepS_le out c t).2 (by omega)
    rw [restF_any (f := t.length) (g := ((c :: t).drop (stepS out c t).2.1).length) (by rw [List.length_drop, List.length_cons]; omega) (Nat.le_refl _)]
theorem rest_plain {most : Int} (rest : List UInt8) : ∀ (n : Nat) (l out : List UInt8), l.length ≤ n → (out.length : Int) + l.length ≤ most → restR most (plainS l ++ rest) out = restR most rest (out ++ l)
  | n, [], out, _, _ => by rw [plainS_nil, List.nil_append, List.append_nil]
  | 0, c :: l, out, h, _ => by simp at h
  | n + 1, c :: l, out, h, hm => by
    rw [plainS_step (by simp), List.cons_append, restR_cons]
    generalize hL : c :: l = L at *
    have hLl : 1 ≤ L.length := by rw [← hL]; simp
    have hc : (UInt8.ofNat (min 128 L.length - 1)).toNat = min 128 L.length - 1 := by simp; omega
    have hs : stepS out (UInt8.ofNat (min 128 L.length - 1)) (L.take 128 ++ plainS (L.drop 128) ++ rest) = (L.take 128, min 128 L.length + 1, 0) := by
      unfold stepS
      rw [hc, if_pos (by omega), if_neg (by simp; omega)]
      congr 1
      · rw [List.append_assoc, List.take_append_of_le_length (by rw [List.length_take]; omega), List.take_of_length_le (by rw [List.length_take]; omega)]
      · congr 1; omega
    rw [hs]
    simp only [ne_eq, not_true_eq_false, if_false]
    rw [if_neg (by rw [List.length_take]; omega), List.drop_succ_cons, List.append_assoc]
    have hd : ((L.take 128 ++ (plainS (L.drop 128) ++ rest)).drop (min 128 L.length)) = plainS (L.drop 128) ++ rest := by
      rw [List.drop_append_of_le_length (by rw [List.length_take]; omega), List.drop_eq_nil_of_le (by rw [List.length_take]; omega), List.nil_append]
    rw [hd, rest_plain rest n (L.drop 128) (out ++ L.take 128) (by rw [List.length_drop]; omega) (by rw [List.length_append, List.length_take, List.length_drop]; omega), List.append_assoc, List.take_append_drop]
theorem moreN_two {x : Nat} (h : x < 16384) : moreN x ≤ 1 := by
  unfold moreN moreF
  split
  · omega
  · unfold moreF
    rw [if_pos (by omega)]
    omega
theorem numB_two {x : Nat} (h : x ≤ 512) : (numB x).length ≤ 2 := by rw [numB_length]; have := moreN_two (x := x) (by omega); omega
theorem numB_one {x : Nat} (h : x < 128) : (numB x).length = 1 := by rw [numB_length]; unfold moreN moreF; rw [if_pos h]
theorem lookS_app {l rest : List UInt8} (h : (lookS l).2.2 = 0) : lookS (l ++ rest) = lookS l ∧ (lookS l).2.1 ≤ l.length := by
  obtain ⟨n, k, e, hL⟩ : ∃ n k e, lookS l = (n, k, e) := ⟨_, _, _, rfl⟩
  rw [hL] at h ⊢
  obtain rfl : e = 0 := h
  obtain ⟨h1, h2, h3, h4⟩ := look_back hL
  refine ⟨?_, h2⟩
  rw [← List.take_append_drop k l, List.append_assoc, h3, look_num h4, h1]
theorem step_match {out rest : List UInt8} {n back : Nat} (hn : 3 ≤ n) (hn' : n ≤ 66) (hb : 1 ≤ back) (hb' : back ≤ 512) (ho : back ≤ out.length) :
    stepS out (UInt8.ofNat (n + 125)) (numB back ++ rest) = (addF back n out, (numB back).length + 1, 0) := by
  have hc : (UInt8.ofNat (n + 125)).toNat = n + 125 := by simp; omega
  unfold stepS
  rw [hc, if_neg (by omega), look_num (by omega)]
  simp only
  rw [if_neg (by decide), if_neg (by omega), numB_length, Nat.add_sub_cancel]
/-- What was shortened is restored, behind whatever stood there. -/
theorem rest_short {most : Int} {b : List UInt8} (pre rest : List UInt8) (hm : (pre.length : Int) + b.length ≤ most) : ∀ (f lo p : Nat), b.length + 1 ≤ f + p → lo ≤ p → p ≤ b.length →
    restR most (shortF b f lo p ++ rest) (pre ++ b.take lo) = restR most rest (pre ++ b)
  | 0, lo, p, hf, _, hp => by omega
  | f + 1, lo, p, hf, hlo, hp => by
    rw [shortF]
    have hfit := longS_fits hp
    split
    · split
      · exact rest_short pre rest hm f lo (p + 1) (by omega) (by omega) (by omega)
      · rename_i hpl h3
        have hdl : ((b.take p).drop lo).length = p - lo := by rw [List.length_drop, List.length_take]; omega
        rw [List.append_assoc, rest_plain _ _ _ _ (Nat.le_refl _) (by rw [hdl, List.length_append, List.length_take]; omega)]
        have e : pre ++ b.take lo ++ (b.take p).drop lo = pre ++ b.take p := by
          have h := List.take_append_drop lo (b.take p)
          rw [List.take_take, Nat.min_eq_left hlo] at h
          rw [List.append_assoc, h]
        rw [e, List.cons_append, restR_cons, List.append_assoc, step_match (by omega) hfit.2.1 (hfit.2.2.2 (by omega)) (by omega) (by rw [List.length_append, List.length_take]; omega)]
        simp only [ne_eq, not_true_eq_false, if_false]
        rw [if_neg (by rw [addF_length, List.length_append, List.length_take]; omega), ← addF_spec, List.drop_succ_cons, List.drop_left,
          again_take (hfit.2.2.2 (by omega)) (by omega) (by omega) (fun m hm => (longS_is hm).2)]
        exact rest_short pre rest hm f _ _ (by omega) (Nat.le_refl _) (by omega)
    · obtain rfl : p = b.length := by omega
      rw [rest_plain _ _ _ _ (Nat.le_refl _) (by rw [List.length_drop, List.length_append, List.length_take]; omega), List.append_assoc, List.take_append_drop]
theorem rest_back (b : List UInt8) : restS (shortS b) b.length = (b, 0) := by
  have := rest_short (most := b.length) (b := b) [] [] (by simp) (b.length + 1) 0 0 (by omega) (Nat.le_refl _) (Nat.zero_le _)
  rw [List.append_nil] at this
  exact this
theorem rest_twice (a b : List UInt8) : restS (shortS a ++ shortS b) ((a.length : Int) + b.length) = (a ++ b, 0) := by
  have h1 := rest_short (most := (a.length : Int) + b.length) (b := a) [] (shortS b) (by simp; omega) (a.length + 1) 0 0 (by omega) (Nat.le_refl _) (Nat.zero_le _)
  have h2 := rest_short (most := (a.length : Int) + b.length) (b := b) a [] (by omega) (b.length + 1) 0 0 (by omega) (Nat.le_refl _) (Nat.zero_le _)
  rw [List.append_nil, List.take_zero, List.append_nil] at h2
  exact h1.trans h2

/-- How long bytes are as they are. -/
theorem plain_len : ∀ (n : Nat) (l : List UInt8), l.length ≤ n → 3 * (plainS l).length ≤ 4 * l.length + 3 ∧ (l.length ≤ 128 → (plainS l).length ≤ l.length + 1)
  | n, [], _ => by simp [plainS_nil]
  | 0, c :: l, h => by simp at h
  | n + 1, c :: l, h => by
    rw [plainS_step (by simp)]
    generalize hL : c :: l = L at *
    have hLl : 1 ≤ L.length := by rw [← hL]; simp
    obtain ⟨h1, h2⟩ := plain_len n (L.drop 128) (by rw [List.length_drop]; omega)
    rw [List.length_cons, List.length_append, List.length_take]
    rw [List.length_drop] at h1 h2
    refine ⟨?_, fun h => ?_⟩
    · by_cases h128 : L.length ≤ 128
      · have : plainS (L.drop 128) = [] := by rw [List.drop_eq_nil_of_le h128, plainS_nil]
        rw [this]
        simp
        omega
      · omega
    · have : plainS (L.drop 128) = [] := by rw [List.drop_eq_nil_of_le h, plainS_nil]
      rw [this]
      simp
      omega
theorem short_len {b : List UInt8} : ∀ (f lo p : Nat), b.length + 1 ≤ f + p → lo ≤ p → p ≤ b.length → 3 * (shortF b f lo p).length ≤ 4 * (b.length - lo) + 3
  | 0, lo, p, hf, _, hp => by omega
  | f + 1, lo, p, hf, hlo, hp => by
    rw [shortF]
    have hfit := longS_fits hp
    split
    · split
      · exact short_len f lo (p + 1) (by omega) (by omega) (by omega)
      · have hdl : ((b.take p).drop lo).length = p - lo := by rw [List.length_drop, List.length_take]; omega
        have h1 := plain_len _ ((b.take p).drop lo) (Nat.le_refl _)
        have h2 := short_len (b := b) f (p + (longS b p).2) (p + (longS b p).2) (by omega) (Nat.le_refl _) (by omega)
        have h3 := numB_two (x := (longS b p).1) (by omega)
        rw [List.length_append, List.length_cons, List.length_append]
        rw [hdl] at h1
        omega
    · have h1 := plain_len _ (b.drop lo) (Nat.le_refl _)
      rw [List.length_drop] at h1
      omega
theorem shortS_len (b : List UInt8) : (shortS b).length ≤ b.length + b.length / 3 + 1 := by
  have := short_len (b := b) (b.length + 1) 0 0 (by omega) (Nat.le_refl _) (Nat.zero_le _)
  unfold shortS
  omega
/-- A token is the same with others behind. -/
theorem step_app {out t rest : List UInt8} {c : UInt8} (h : (stepS out c t).2.2 = 0) : stepS out c (t ++ rest) = stepS out c t ∧ (stepS out c t).2.1 ≤ t.length + 1 := by
  refine ⟨?_, (stepS_le out c t).1⟩
  unfold stepS at h ⊢
  by_cases h1 : c.toNat < 128
  · simp only [h1, if_true] at h ⊢
    by_cases h2 : t.length < c.toNat + 1
    · simp only [h2, if_true] at h; exact absurd h (by decide)
    · rw [if_neg h2, if_neg (by rw [List.length_append]; omega), List.take_append_of_le_length (by omega)]
  · simp only [h1, if_false] at h ⊢
    by_cases h2 : (lookS t).2.2 = 2
    · rw [if_pos h2] at h; exact absurd h (by decide)
    · rw [if_neg h2] at h
      by_cases h3 : (lookS t).2.2 ≠ 0 ∨ c.toNat > 191 ∨ (lookS t).1 < 1 ∨ (lookS t).1 > 512 ∨ (lookS t).1 > out.length
      · rw [if_pos h3] at h; exact absurd h (by decide)
      · rw [(lookS_app (rest := rest) (by omega)).1]
theorem rest_app {most : Int} (rest : List UInt8) : ∀ (n : Nat) {l out x : List UInt8}, l.length ≤ n → restR most l out = (x, 0) → restR most (l ++ rest) out = restR most rest x
  | n, [], out, x, _, h => by
    have : x = out := by have := congrArg Prod.fst h; exact this.symm
    rw [this]; rfl
  | 0, c :: t, out, x, hn, _ => by simp at hn
  | n + 1, c :: t, out, x, hn, h => by
    rw [restR_cons] at h
    by_cases h1 : (stepS out c t).2.2 ≠ 0
    · rw [if_pos h1] at h
      have := congrArg Prod.snd h
      exact absurd this h1
    · rw [if_neg h1] at h
      by_cases h2 : ((stepS out c t).1.length : Int) > most - out.length
      · rw [if_pos h2] at h
        cases h
      · rw [if_neg h2] at h
        obtain ⟨e1, e2⟩ := step_app (rest := rest) (show (stepS out c t).2.2 = 0 by omega)
        have h3 := (stepS_le out c t).2 (by omega)
        rw [List.cons_append, restR_cons, e1, if_neg h1, if_neg h2]
        rw [← rest_app rest n (l := (c :: t).drop (stepS out c t).2.1) (by rw [List.length_drop, List.length_cons]; simp at hn; omega) h]
        rw [← List.cons_append, List.drop_append_of_le_length (by rw [List.length_cons]; omega)]
theorem rest_pre {most : Int} : ∀ (n : Nat) {l out x : List UInt8}, l.length ≤ n → restR most l out = (x, 0) → ∃ y, x = out ++ y
  | n, [], out, x, _, h => ⟨[], by have := congrArg Prod.fst h; simpa [restR, restF] using this.symm⟩
  | 0, c :: t, out, x, hn, _ => by simp at hn
  | n + 1, c :: t, out, x, hn, h => by
    rw [restR_cons] at h
    split at h
    · rename_i h1; exact absurd (congrArg Prod.snd h) h1
    · rename_i h1
      split at h
      · cases h
      · have h3 := (stepS_le out c t).2 (by omega)
        obtain ⟨y, hy⟩ := rest_pre n (l := (c :: t).drop (stepS out c t).2.1) (by rw [List.length_drop, List.length_cons]; simp at hn; omega) h
        exact ⟨(stepS out c t).1 ++ y, by rw [hy, List.append_assoc]⟩
theorem step_adds {out t : List UInt8} {c : UInt8} (h : (stepS out c t).2.2 = 0) : 1 ≤ (stepS out c t).1.length := by
  unfold stepS at h ⊢
  by_cases h1 : c.toNat < 128
  · simp only [h1, if_true] at h ⊢
    by_cases h2 : t.length < c.toNat + 1
    · simp only [h2, if_true] at h; exact absurd h (by decide)
    · rw [if_neg h2, List.length_take]; omega
  · simp only [h1, if_false] at h ⊢
    by_cases h2 : (lookS t).2.2 = 2
    · rw [if_pos h2] at h; exact absurd h (by decide)
    · rw [if_neg h2] at h ⊢
      by_cases h3 : (lookS t).2.2 ≠ 0 ∨ c.toNat > 191 ∨ (lookS t).1 < 1 ∨ (lookS t).1 > 512 ∨ (lookS t).1 > out.length
      · rw [if_pos h3] at h; exact absurd h (by decide)
      · rw [if_neg h3, addF_length]; omega
/-- What can be restored needs just its own room. -/
theorem rest_room {most most' : Int} : ∀ (n : Nat) {l out x : List UInt8}, l.length ≤ n → (out.length : Int) ≤ max most' 0 → restR most l out = (x, 0) →
    restR most' l out = if (x.length : Int) ≤ max most' 0 then (x, 0) else ([], 71)
  | n, [], out, x, _, ho, h => by
    have e : x = out := (congrArg Prod.fst h).symm
    subst e
    rw [if_pos ho]; rfl
  | 0, c :: t, out, x, hn, _, _ => by simp at hn
  | n + 1, c :: t, out, x, hn, ho, h => by
    rw [restR_cons] at h ⊢
    by_cases h1 : (stepS out c t).2.2 ≠ 0
    · rw [if_pos h1] at h
      exact absurd (congrArg Prod.snd h) h1
    · rw [if_neg h1] at h ⊢
      by_cases h2 : ((stepS out c t).1.length : Int) > most - out.length
      · rw [if_pos h2] at h
        cases h
      · rw [if_neg h2] at h
        have h3 := (stepS_le out c t).2 (by omega)
        have h4 := step_adds (out := out) (c := c) (t := t) (by omega)
        have hl : ((c :: t).drop (stepS out c t).2.1).length ≤ n := by rw [List.length_drop, List.length_cons]; simp at hn; omega
        obtain ⟨y, hy⟩ := rest_pre n hl h
        have hxl := congrArg List.length hy
        rw [List.length_append, List.length_append] at hxl
        by_cases h5 : ((stepS out c t).1.length : Int) > most' - out.length
        · rw [if_pos h5, if_neg (by omega)]
        · rw [if_neg h5]
          exact rest_room n hl (by rw [List.length_append]; omega) h
end Go.Fl
namespace Go.Proofs.YtkojpppnjloikaaDoor
open Go.RowKit Go.Fl

theorem nt_c39 (p : NtT) : (ntL p).toArray[39]? = some (slV p.2.2.2.2.2.1.2.2.2.1) := by
  have := rc_c34 p.2.2.2.2.2.1
  rw [List.getElem?_toArray] at this ⊢
  rw [ntL, List.getElem?_append_right (by simp)]
  exact this
set_option maxRecDepth 100000 in
theorem RecordChecks_law {H : Type} {enc : TypeId × Value → H} {w : World} {b0 b1 : Nat} {v0 v1 : Value} {d0 d1 : DataW H} {p0 p1 : List MemPlace} (hd : Dig w)
    (o0 : Value.okWide Tryd.prog w .any b0 t_api_Record v0) (h0 : DataW.Trod enc Tryd.prog w 0 (fun _ => true) true t_api_Record v0 d0 p0)
    (o1 : Value.okWide Tryd.prog w .any b1 t_api_Note v1) (h1 : DataW.Trod enc Tryd.prog w 0 (fun _ => true) true t_api_Note v1 d1 p1) :
    Calls Tryd.prog n_flumelaw10_RecordChecks #[v0, v1] w fun e w' => e = .returned (.bool true) ∧ Below w.heap.size w w' := by
  refine lawE ?_
  obtain ⟨r, dr, lr, rfl, hr⟩ := rec_in o0 h0
  obtain ⟨n, dn, ln, rfl, hn, _⟩ := note_in o1 h1
  refine flumelaw10_RecordChecks.cl (p0 := r) (p1 := n) ?_
  unfold flumelaw10_RecordChecks
  rw [rcL_nil, ntL_eq]
  refine nwI fun a1 w2 ha1 hs2 hf2 hb1 _ => ?_
  refine nwI fun a3 w4 ha3 hs4 hf4 hb3 _ => ?_
  have hf4' := hf2.trans hf4
  have hb1' := hf4.heap hb1
  rw [addOff, addOff, addOff]
  refine ldL0 (s := r.2.2.2.1) hb1' (rc_c34 r) ?_
  refine bD ?_ ?_ <;> intro hm1
  · exact awake_law hd hf4'
  refine ldL0 (s := n.2.2.2.2.2.1.2.2.2.1) hb3 (nt_c39 n) ?_
  refine bD ?_ ?_ <;> intro hm2
  · exact awake_law hd hf4'
  intro k
  have hfn := Fr.drewN w4 k
  refine ldRec (pre := []) (post := []) (hfn.heap hb1') (ldRec (pre := []) (post := []) (hfn.heap hb1') ?_)
  refine (Check_ok (p := r)).mono ?_
  rintro _ w15 ⟨rfl, hf15⟩
  refine ⟨hf15, ?_⟩
  refine (refCheck_ok (p := r)).mono ?_
  rintro _ w17 ⟨rfl, hf17⟩
  refine ⟨hf17, bT (by simp) ?_⟩
  have hf17' := (hfn.trans hf15).trans hf17
  have hb3' := hf17'.heap hb3
  refine ldNote hb3' (ldNote hb3' ?_)
  refine (Fits_ok hn.sum).mono ?_
  rintro _ w21 ⟨rfl, hf21⟩
  refine ⟨hf21, ?_⟩
  refine (refFits_ok hn.sum).mono ?_
  rintro _ w23 ⟨rfl, hf23⟩
  exact bT (by simp) (awake_law hd (((hf4'.trans hf17').trans hf21).trans hf23))
set_option maxRecDepth 100000 in
theorem RecordPuts_law {H : Type} {enc : TypeId × Value → H} {w : World} {b1 : Nat} {v1 : Value} {d1 : DataW H} {p1 : List MemPlace} (hd : Dig w)
    (o1 : Value.okWide Tryd.prog w .any b1 t_api_Note v1) (h1 : DataW.Trod enc Tryd.prog w 0 (fun _ => true) true t_api_Note v1 d1 p1) :
    Calls Tryd.prog n_flumelaw10_RecordPuts #[v1] w fun e w' => e = .returned (.bool true) ∧ Below w.heap.size w w' := by
  refine lawE ?_
  obtain ⟨n, dn, ln, rfl, hn, _⟩ := note_in o1 h1
  refine flumelaw10_RecordPuts.cl (p0 := n) ?_
  unfold flumelaw10_RecordPuts
  rw [ntL_eq]
  refine nwI fun a1 w2 ha1 hs2 hf2 hb1 _ => ?_
  rw [addOff, addOff]
  have hlen := hn.data.len
  refine ldL0 (s := n.2.2.2.2.2.1.2.2.2.1) hb1 (nt_c39 n) ?_
  refine bD ?_ ?_ <;> intro hm2
  · exact awake_law hd hf2
  refine ldNote hb1 ?_
  refine (Put_ok hn.sum (hn.data.fr hf2) (by omega)).mono ?_
  rintro ⟨x7, e7, ⟨⟩⟩ w8 ⟨h7, he7, hf8⟩
  dsimp only at h7 he7 ⊢
  obtain ⟨rfl, _⟩ := Prod.mk.inj he7
  refine ldNote (hf8.heap hb1) ?_
  have hf8' := hf2.trans hf8
  refine (refPut_ok hn.sum (hn.data.fr hf8') (by omega)).mono ?_
  rintro ⟨x10, e10, ⟨⟩⟩ w11 ⟨h10, he10, hf11⟩
  dsimp only at h10 he10 ⊢
  obtain ⟨rfl, _⟩ := Prod.mk.inj he10
  refine (Equal_ok (h7.fr hf11).bs h10).mono ?_
  rintro _ _ ⟨rfl, rfl⟩
  exact bT (by simp) (bT (by simp) (awake_law hd (hf8'.trans hf11)))
theorem openS_ref {s : Int} {d : List UInt8} (h1 : 1 ≤ s) (h2 : s ≤ 256) : openS 1 s d [] = ([], 110) := by
  have h : chkS 1 s ([] : List UInt8).length = 0 := by rw [chkS, if_pos ⟨.inl ⟨rfl, rfl⟩, by omega, by omega⟩]
  rw [openS, if_neg (by rw [h]; decide), if_pos rfl]
theorem openS_lz {b : List UInt8} (h1 : 1 ≤ b.length) (h2 : b.length ≤ 256) (hs : (shortS b).length < b.length) : openS 3 (b.length : Int) (dig b) (shortS b) = (b, 0) := by
  have h : chkS 3 (b.length : Int) (shortS b).length = 0 := by rw [chkS, if_pos ⟨.inr (.inr ⟨rfl, by omega⟩), by omega, by omega⟩]
  have hr := rest_back b
  rw [openS, if_neg (by rw [h]; decide), if_neg (by decide), hr, if_neg fun h => by have := h.2; simp at this, if_pos rfl, if_pos rfl]
/-- What is made of a chunk that may be: its record. -/
theorem MakeP.rec {w : World} {b : List UInt8} {known : Bool} {p : RecT} {e : Int} (h : MakeP w b known (p, e, ())) (h1 : 1 ≤ b.length) (h2 : b.length ≤ 256) :
    e = 0 ∧ p.2.1 = b.length ∧ p.2.2.1.1 = u8s (dig b) ∧ ∃ l, Bs w p.2.2.2.1 l ∧ l.length ≤ b.length ∧ (if known then p.1 = 1 ∧ l = [] else openS p.1 p.2.1 (dig b) l = (b, 0)) := by
  unfold MakeP at h
  rw [if_neg (by omega)] at h
  obtain ⟨he, hsz, hsum, hm⟩ := h
  dsimp only at he hsz hsum hm
  obtain ⟨rfl, _⟩ := Prod.mk.inj he
  refine ⟨rfl, hsz, hsum, ?_⟩
  cases known with
  | true =>
    rw [if_pos rfl] at hm
    exact ⟨[], by rw [hm.2]; exact Bs.nil _ _, by simp, by rw [if_pos rfl]; exact ⟨hm.1, rfl⟩⟩
  | false =>
    rw [if_neg (by decide)] at hm
    by_cases hs : (shortS b).length < b.length
    · rw [if_pos hs] at hm
      exact ⟨shortS b, hm.2, by omega, by rw [if_neg (by decide), hm.1, hsz, openS_lz h1 h2 hs]⟩
    · rw [if_neg hs] at hm
      exact ⟨b, hm.2, by omega, by rw [if_neg (by decide), hm.1, hsz, openS_lit h1 h2]⟩
theorem MakeP.err {w : World} {b : List UInt8} {known : Bool} {p : RecT} {e : Int} (h : MakeP w b known (p, e, ())) (h1 : b.length < 1 ∨ b.length > 256) : e = 100 ∧ p = rc0 := by
  unfold MakeP at h
  rw [if_pos h1] at h
  obtain ⟨h2, h3⟩ := Prod.mk.inj h
  exact ⟨(Prod.mk.inj h3).1, h2⟩
theorem MakeP.one {w : World} {b : List UInt8} {known : Bool} {p : RecT} {e : Int} (h : MakeP w b known (p, e, ())) : ∀ v ∈ p.2.2.1.1, v.oneCell' = true := by
  by_cases hb : b.length < 1 ∨ b.length > 256
  · rw [(h.err hb).2]; exact rc0_one
  · rw [(h.rec (by omega) (by omega)).2.2.1]; exact u8s_one _
theorem RecordBack_law {w : World} {a : Option Addr} {len cap : Nat} {zs : List Int} (hd : Dig w) (h : RowK .u8 w a len cap zs) : Calls Tryd.prog n_flumelaw10_RecordBack #[.slice a len cap] w fun e w' => e = .returned (.bool true) ∧ Below w.heap.size w w' := by
  refine lawE ?_
  obtain ⟨l, hl⟩ := rowB h
  refine flumelaw10_RecordBack.cl (p0 := ⟨a, len, cap⟩) ?_
  unfold flumelaw10_RecordBack
  have hn : len = l.length := hl.len
  refine bD ?_ ?_ <;> intro h0
  · exact awake_law hd (Fr.refl w)
  dsimp only at h0
  refine (Make_ok (s := ⟨a, len, cap⟩) (known := false) hd hl (by omega)).mono ?_
  rintro ⟨p, e, ⟨⟩⟩ w4 ⟨hm, hf4⟩
  refine newRec (p := p) hm.one fun a5 w10 ha5 hf10 hb5 hs10 => ?_
  have hf10' := hf4.trans hf10
  refine (Make_ok (s := ⟨a, len, cap⟩) (known := true) (hd.fr hf10') (hl.fr hf10') (by omega)).mono ?_
  rintro ⟨q, f, ⟨⟩⟩ w12 ⟨hk, hf12⟩
  refine newRec (p := q) hk.one fun a13 w18 ha13 hf18 hb13 hs18 => ?_
  have hf18' := (hf10'.trans hf12).trans hf18
  have hb5' := hf18.heap (hf12.heap hb5)
  dsimp only
  refine bD ?_ ?_ <;> intro h1
  · rw [(hm.err (by omega)).1, (hk.err (by omega)).1]
    exact bT rfl (bT rfl (awake_law hd hf18'))
  refine bD ?_ ?_ <;> intro h2
  · rw [(hm.err (by omega)).1, (hk.err (by omega)).1]
    exact bT rfl (bT rfl (awake_law hd hf18'))
  obtain ⟨rfl, hsz, hsum, m, hx, hml, hop⟩ := hm.rec (by omega) (by omega)
  obtain ⟨rfl, hsz2, hsum2, m2, hx2, hml2, hop2⟩ := hk.rec (by omega) (by omega)
  rw [if_neg (by decide)] at hop
  rw [if_pos rfl] at hop2
  obtain ⟨hk1, rfl⟩ := hop2
  refine ldRec (pre := []) (post := []) hb5' ?_
  refine (Open_ok (hd.fr hf18') hsum (hx.fr ((hf10.trans hf12).trans hf18)) (by omega)).mono ?_
  rintro ⟨x24, e24, ⟨⟩⟩ w25 ⟨h24, he24, hf25⟩
  dsimp only at h24 he24 ⊢
  rw [hop] at h24 he24
  obtain ⟨rfl, _⟩ := Prod.mk.inj he24
  refine ldRec (pre := []) (post := []) (hf25.heap hb13) ?_
  have hf25' := hf18'.trans hf25
  refine (Open_ok (hd.fr hf25') hsum2 (hx2.fr (hf18.trans hf25)) (by simp)).mono ?_
  rintro ⟨x27, e27, ⟨⟩⟩ w28 ⟨h27, he27, hf28⟩
  dsimp only at h27 he27 ⊢
  rw [hk1, hsz2, openS_ref (by omega) (by omega)] at h27 he27
  obtain ⟨rfl, _⟩ := Prod.mk.inj he27
  intro n
  have hfn := Fr.drewN w28 n
  have hf29 := (hf25'.trans hf28).trans hfn
  have hb5n := hfn.heap (hf28.heap (hf25.heap hb5'))
  have hb13n := hfn.heap (hf28.heap (hf25.heap hb13))
  refine bT rfl (bT rfl (bT rfl ?_))
  refine (Equal_ok (x := ⟨a, len, cap⟩) ((h24.fr hf28).fr hfn).bs (hl.fr hf29)).mono ?_
  rintro _ _ ⟨rfl, rfl⟩
  refine ⟨Fr.refl _, bT (by simp) ?_⟩
  simp only [addOff, Nat.zero_add]
  have hxn := hx.len
  have c1 : (rcL p []).toArray[1]? = some (.int .i64 p.2.1) := rfl
  have hdl := dig_length l
  refine ldL0 (s := p.2.2.2.1) hb5n (rc_c34 p) (bP (by omega) ?_)
  refine ldI0 hb5n c1 (bT (by rw [hsz, hn]; simp) ?_)
  have row : ∀ {u : World} {g : Nat} {r : RecT} {K : {l : List Value // l.length = 32} → Prop}, u.heap[g]? = some (.cells (rcL r []).toArray t_api_Record (0, 0)) → (hs : r.2.2.1.1 = u8s (dig l)) → K ⟨u8s (dig l), by rw [u8s_length, hdl]⟩ → ld (.row 32) u ⟨g, 2, none⟩ K := by
    intro u g r K hu hs hK
    refine ldRow (vs := u8s (dig l)) hu (by rw [← hs]; show (r.2.2.1.1 ++ [slV r.2.2.2.1]).take 32 = _; rw [List.take_left' r.2.2.1.2]) (by rw [u8s_length, hdl]) hK
  refine row hb5n hsum ?_
  refine nwI fun a35 w36 ha35 hs36 hf36 hb35 _ => ⟨hf36, ?_⟩
  have hf36' := hf29.trans hf36
  refine (Of_ok (x := ⟨a, len, cap⟩) (hd.fr hf36') hb35 (hl.fr hf36') (by omega)).mono ?_
  rintro ⟨x37, hx37⟩ w38 ⟨hdx, hf38⟩
  dsimp only at hdx ⊢
  subst hdx
  refine ⟨hf38, qnEq hdl hdl (bT (by simp) ?_)⟩
  have hf38' := hf36.trans hf38
  have hxn2 := hx2.len
  refine ldL0 (s := q.2.2.2.1) (hf38'.heap hb13n) (rc_c34 q) (bT (by rw [hxn2]; rfl) ?_)
  refine row (hf38'.heap hb13n) hsum2 (row (hf38'.heap hb5n) hsum ?_)
  exact qnEq hdl hdl (bT (by simp) (bT rfl (awake_law hd (hf36'.trans hf38))))
end Go.Proofs.YtkojpppnjloikaaDoor
namespace Go.Proofs.YtkojpppnjloikaaDoor
open Go.RowKit Go.Fl

theorem openS_err {k s : Int} {d l : List UInt8} (h : (openS k s d l).2 ≠ 0) : (openS k s d l).1 = [] := by
  unfold openS at h ⊢
  split at h
  · rename_i h1; rw [if_pos h1]
  · rename_i h1
    rw [if_neg h1]
    split at h
    · rename_i h2; rw [if_pos h2]
    · rename_i h2
      rw [if_neg h2]
      split at h
      · rename_i h3; rw [if_pos h3]
      · rename_i h3
        rw [if_neg h3]
        obtain ⟨b, hb⟩ : ∃ b, (if k = 3 then (restS l s).1 else l) = b := ⟨_, rfl⟩
        rw [hb] at h ⊢
        by_cases h4 : dig b = d
        · rw [if_pos h4] at h; exact absurd rfl h
        · rw [if_neg h4]
theorem openS_true {k s : Int} {d l : List UInt8} (h : (openS k s d l).2 = 0) : ((openS k s d l).1.length : Int) = s ∧ dig (openS k s d l).1 = d ∧ (openS k s d l).1.length ≤ 256 ∧ ∀ d', d' ≠ d → openS k s d' l = ([], 111) := by
  unfold openS at h ⊢
  by_cases h1 : chkS k s l.length = 0
  · have hc := chkS_ok h1
    rw [if_neg (by omega)] at h ⊢
    by_cases h2 : k = 1
    · rw [if_pos h2] at h; cases h
    · rw [if_neg h2] at h ⊢
      by_cases h3 : k = 3 ∧ ((restS l s).2 ≠ 0 ∨ ((restS l s).1.length : Int) ≠ s)
      · rw [if_pos h3] at h; cases h
      · rw [if_neg h3] at h ⊢
        obtain ⟨b, hb⟩ : ∃ b, (if k = 3 then (restS l s).1 else l) = b := ⟨_, rfl⟩
        rw [hb] at h ⊢
        have hbl : (b.length : Int) = s := by
          rw [← hb]
          by_cases hk : k = 3
          · rw [if_pos hk]; omega
          · rw [if_neg hk]; omega
        by_cases h4 : dig b = d
        · rw [if_pos h4]
          refine ⟨hbl, h4, by dsimp only; omega, fun d' hd' => ?_⟩
          rw [if_neg (by omega), if_neg h2, if_neg h3, if_neg fun h => hd' (h.symm.trans h4)]
        · rw [if_neg h4] at h; cases h
  · rw [if_pos h1] at h; cases h
set_option maxRecDepth 100000 in
theorem RecordTrue_law {H : Type} {enc : TypeId × Value → H} {w : World} {b0 : Nat} {v0 : Value} {d0 : DataW H} {p0 : List MemPlace} {at_ : Int} (hd : Dig w)
    (o0 : Value.okWide Tryd.prog w .any b0 t_api_Record v0) (h0 : DataW.Trod enc Tryd.prog w 0 (fun _ => true) true t_api_Record v0 d0 p0) (_w1 : (Lit.int .i64 at_).wf = true) :
    Calls Tryd.prog n_flumelaw10_RecordTrue #[v0, .int .i64 at_] w fun e w' => e = .returned (.bool true) ∧ Below w.heap.size w w' := by
  refine lawE ?_
  obtain ⟨r, d, l, rfl, hr⟩ := rec_in o0 h0
  refine flumelaw10_RecordTrue.cl (p0 := r) (p1 := at_) ?_
  unfold flumelaw10_RecordTrue
  rw [rcL_nil]
  have hlen := hr.data.len
  have hdl : d.length = 32 := by have := r.2.2.1.2; rw [hr.sum, u8s_length] at this; exact this
  refine nwI fun a1 w2 ha1 hs2 hf2 hb1 _ => ?_
  rw [addOff]
  refine ldL0 (s := r.2.2.2.1) hb1 (rc_c34 r) ?_
  refine bD ?_ ?_ <;> intro hm
  · exact awake_law hd hf2
  refine ldRec (pre := []) (post := []) hb1 ?_
  refine (Open_ok (hd.fr hf2) hr.sum (hr.data.fr hf2) (by omega)).mono ?_
  rintro ⟨x7, e7, ⟨⟩⟩ w8 ⟨h7, he7, hf8⟩
  have hf8' := hf2.trans hf8
  obtain ⟨he, _⟩ := Prod.mk.inj he7
  dsimp only at h7 he ⊢
  rw [he]
  have hn7 := h7.len
  refine bNe ?_ ?_ <;> intro hz
  · rw [openS_err hz] at hn7
    exact bT (by rw [hn7]; rfl) (awake_law hd hf8')
  obtain ⟨ht1, ht2, ht3, ht4⟩ := openS_true hz
  generalize openS r.1 r.2.1 d l = y at *
  refine ldRec (pre := []) (post := []) (hf8.heap hb1) ?_
  refine newRec (p := r) (by rw [hr.sum]; exact u8s_one _) fun a12 w17 ha12 hf17 hb12 hs17 => ?_
  obtain ⟨i, hi, hie⟩ : ∃ i : Nat, i < 32 ∧ IntKind.i64.wrap (Int.tmod (IntKind.u64.wrap at_) 32) = i := by
    have hu : 0 ≤ IntKind.u64.wrap at_ ∧ IntKind.u64.wrap at_ ≤ 18446744073709551615 := by
      simp only [IntKind.wrap, IntKind.bits, IntKind.signed]; simp; omega
    generalize IntKind.u64.wrap at_ = u at *
    have h32 : Int.tmod u 32 = u % 32 := Int.tmod_eq_emod_of_nonneg hu.1
    rw [h32, i64w (by omega) (by omega)]
    exact ⟨(u % 32).toNat, by omega, by omega⟩
  rw [hie]
  have hat : atOff ⟨a12, 0 + 2, none⟩ (i : Int) 1 = ⟨a12, 2 + i, none⟩ := by show Addr.add _ _ = _; rw [addOff]; rfl
  have hid : i < d.length := by omega
  have hci : (rcL r []).toArray[2 + i]? = some (.int .u8 (d[i].toNat : Int)) := by
    rw [List.getElem?_toArray, rcL, show 2 + i = i + 2 from by omega, List.getElem?_cons_succ, List.getElem?_cons_succ, List.getElem?_append_left (by rw [r.2.2.1.2]; omega), hr.sum]
    simp [u8s, hid]
  rw [addOff, addOff]
  refine ⟨by omega, by omega, nzS ?_⟩
  show ld (.I .u8) w17 (atOff ⟨a12, 0 + 2, none⟩ (i : Int) 1) _
  rw [hat]
  refine ldI0 hb12 hci ?_
  refine ⟨by omega, by omega, nzS ?_⟩
  show st1 w17 (atOff ⟨a12, 0 + 2, none⟩ (i : Int) 1) _ _
  rw [hat]
  have hx : bits .xor .u8 (d[i].toNat : Int) 1 = ((d[i] ^^^ 1).toNat : Int) := by
    rw [show (1 : Int) = ((1 : Nat) : Int) from rfl, u8_xor_nat _ _ (UInt8.toNat_lt _) (by decide), UInt8.toNat_xor]; rfl
  rw [hx]
  have hlr : (rcL r []).length = 35 := by simp [rcL_length]
  refine st0 hb12 (by simp [hlr]; omega) fun w21 hb21 hg21 hs21 => ?_
  have hd'l : (d.set i (d[i] ^^^ 1)).length = 32 := by simp [hdl]
  have hne : d.set i (d[i] ^^^ 1) ≠ d := fun h => by
    have h1 : (d.set i (d[i] ^^^ 1))[i]'(by simpa using hid) = d[i] := by simp only [h]
    rw [List.getElem_set_self] at h1
    generalize d[i] = z at h1
    have h2 : z ^^^ (z ^^^ 1) = z ^^^ z := by rw [h1]
    rw [← UInt8.xor_assoc, UInt8.xor_self, UInt8.zero_xor] at h2
    cases h2
  let r' : RecT := (r.1, r.2.1, ⟨u8s (d.set i (d[i] ^^^ 1)), by rw [u8s_length, hd'l]⟩, r.2.2.2.1, ())
  have e21 : (rcL r []).toArray.setIfInBounds (2 + i) (.int .u8 ((d[i] ^^^ 1).toNat : Int)) = (rcL r' []).toArray := by
    rw [List.setIfInBounds_toArray, rcL, rcL, show 2 + i = i + 2 from by omega, List.set_cons_succ, List.set_cons_succ, List.set_append_left _ _ (by rw [r.2.2.1.2]; omega), hr.sum]
    simp [r', u8s, List.map_set]
  rw [e21] at hb21
  have hf17' := hf8'.trans hf17
  have hf21 : Fr w w21 := hf17'.on (grown_below hg21 (by have := hf8'.size; omega) hf17'.size)
  have hf821 : Fr w8 w21 := hf17.on (grown_below hg21 ha12 hf17.size)
  refine ldRec (pre := []) (post := []) (p := r') hb21 ?_
  refine (Open_ok (p := r') (d := d.set i (d[i] ^^^ 1)) (l := l) (hd.fr hf21) rfl (hr.data.fr hf21) (by omega)).mono ?_
  rintro ⟨x23, e23, ⟨⟩⟩ w24 ⟨h23, he23, hf24⟩
  rw [show openS r'.1 r'.2.1 (d.set i (d[i] ^^^ 1)) l = ([], 111) from ht4 _ hne] at h23 he23
  obtain ⟨rfl, _⟩ := Prod.mk.inj he23
  have hn23 := h23.len
  intro n
  have hfn := Fr.drewN w24 n
  have hf25 := (hf21.trans hf24).trans hfn
  have hb25 := (hf821.trans (hf24.trans hfn)).heap (hf8.heap hb1)
  have c1 : (rcL r []).toArray[1]? = some (.int .i64 r.2.1) := rfl
  refine ldI0 hb25 c1 (bT (by rw [hn7, ht1]; simp) ?_)
  refine ldRow (vs := u8s d) hb25 (by rw [← hr.sum]; show (r.2.2.1.1 ++ [slV r.2.2.2.1]).take 32 = _; rw [List.take_left' r.2.2.1.2]) (by rw [u8s_length, hdl]) ?_
  refine nwI fun a28 w29 ha28 hs29 hf29 hb29 _ => ⟨hf29, ?_⟩
  have hf29' := hf25.trans hf29
  refine (Of_ok (x := x7) (b := y.1) (hd.fr hf29') hb29 (h7.bs.fr ((hf821.trans (hf24.trans hfn)).trans hf29)) (by omega)).mono ?_
  rintro ⟨x30, hx30⟩ w31 ⟨hdx, hf31⟩
  dsimp only at hdx ⊢
  rw [ht2] at hdx
  subst hdx
  refine ⟨hf31, qnEq hdl hdl (bT (by simp) (bT rfl (bT (by rw [hn23]; rfl) (awake_law hd (hf29'.trans hf31)))))⟩
end Go.Proofs.YtkojpppnjloikaaDoor
namespace Go.Proofs.YtkojpppnjloikaaDoor
open Go.RowKit Go.Fl

abbrev laid2 : List (String × DataW Unit) := [("flume/digest.first", Rows.laid_flume_digest_first), ("flume/digest.rounds", Rows.laid_flume_digest_rounds)]
/-- The door's own heap meets the condition. -/
theorem door_met (os : Os) (args : Array Value) : laidMetH Tryd.prog laid2 ((World.doorLaid Tryd.prog 400 os).forCall (fun _ _ => 0) ⟨#[], args, []⟩).memory :=
  laidMetH_of_parts3 (fuel := 8) (laidMet_of_run' 8 (by kernel_rfl) (by kernel_rfl)) (by kernel_rfl) (by kernel_rfl)
theorem glob_of_tab {W : World} {name : String} {zs : List Int} {g : Nat} (h : Lib.TabIs Tryd.prog W name .u32 zs) (hg : Tryd.prog.globalNamed name = some g) : Glob W g zs := fun i hi => by
  rw [h.cell hg i hi, List.getD_eq_getElem?_getD, List.getElem?_eq_getElem hi]
  rfl
def tabTyB (P : Program) (g n : Nat) : Bool := match (P.globals[g]?).map (·.type) with
  | some t => match P.underlying t with
    | some (.array m e) => match P.underlying e with
      | some (.int .u32) => m == n && P.cellsOf e == 1 && P.cellsOf t == n
      | _ => false
    | _ => false
  | none => false
theorem tab_of {P : Program} {W : World} {name : String} {zs : List Int} {rest : List (String × DataW Unit)} {g n : Nat} (hg : P.globalNamed name = some g) (hB : tabTyB P g n = true) (h : laidMet P ((name, Lib.tabData .u32 zs) :: rest) W) : Lib.TabIs P W name .u32 zs := by
  unfold tabTyB at hB
  split at hB
  · rename_i t ht
    split at hB
    · rename_i m e hu
      split at hB
      · rename_i he
        simp only [Bool.and_eq_true, beq_iff_eq] at hB
        obtain ⟨⟨rfl, h1⟩, h2⟩ := hB
        exact Lib.tabIs_of_head hg ht hu he h1 h2 h
      · cases hB
    · cases hB
  · cases hB
theorem dig_of_laid {W : World} (h : laidMetH Tryd.prog laid2 W) : Dig W := by
  rw [MakeChecks.laidMetH_plain _ _ _ (by kernel_rfl)] at h
  have h1 : laidMet Tryd.prog (("flume/digest.first", Lib.tabData .u32 F0) :: [("flume/digest.rounds", Lib.tabData .u32 K0)]) W := h
  exact ⟨glob_of_tab (tab_of (g := g_digest_first) (n := 8) (by kernel_rfl) (by kernel_rfl) h1) (by kernel_rfl), glob_of_tab (tab_of (g := g_digest_rounds) (n := 64) (by kernel_rfl) (by kernel_rfl) h1.tail) (by kernel_rfl)⟩
end Go.Proofs.YtkojpppnjloikaaDoor
