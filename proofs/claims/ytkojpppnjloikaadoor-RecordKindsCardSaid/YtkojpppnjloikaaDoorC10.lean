/- Contracts: lz.Shorten. -/
import Derived.Test.YtkojpppnjloikaaDoorC9
namespace Go.Proofs.YtkojpppnjloikaaDoor
open Go.RowKit Go.Fl

theorem bestS_lt {b : List UInt8} {p : Nat} : (bestS b p).2 < 3 ↔ (longS b p).2 < 3 := by
  unfold bestS filt
  split
  · rename_i h; exact ⟨fun _ => h, fun _ => by decide⟩
  · exact Iff.rfl
theorem bestS_eq {b : List UInt8} {p : Nat} (h : ¬(longS b p).2 < 3) : bestS b p = longS b p := by unfold bestS filt; rw [if_neg h]
theorem chn_new {sb : Sl} {b : List UInt8} {w0 w1 w2 w3 : World} {r g c : Nat} (hb : Bs w0 sb b) (h1 : w1 = w0.alloc (.map #[] 0)) (hr : r = w0.heap.size) (hg : w2.heap[g]? = some (.cells (List.replicate b.length (Value.int .i64 0)).toArray t_int (0, 0))) (hgr : g = w1.heap.size) (hf2 : Fr w1 w2)
    (hc : w3.heap[c]? = some (.cells #[.slice sb.a sb.n sb.c, .map (some r), .slice (some ⟨g, 0, none⟩) b.length b.length] t_lz_chains (0, 0))) (hcw : c = w2.heap.size) (hf3 : Fr w2 w3) : Chn w3 c sb b r g 0 := by
  subst h1 hr
  have hf1 : Fr w0 (w0.alloc (.map #[] 0)) := Fr.alloc _ _
  have hs1 : (w0.alloc (.map #[] 0)).heap.size = w0.heap.size + 1 := by simp
  have hm := MapF.new w0 (keyB (n := 3))
  have hgl := (Array.getElem?_eq_some_iff.1 hg).1
  refine ⟨hc, ((hb.fr hf1).fr hf2).fr hf3, hb.lt, ?_, ?_, by omega, by omega⟩
  · have : headF b 0 = fun _ => none := by funext k; unfold headF lastP; rfl
    rw [this]
    exact hm.sub ((hf3.block _ (by omega)).trans (hf2.block _ (by omega)))
  · have : prevL b 0 = List.replicate b.length (Value.int .i64 0) := by
      unfold prevL
      apply List.ext_getElem?
      intro i
      rw [List.getElem?_map, List.getElem?_replicate]
      by_cases hi : i < b.length
      · rw [List.getElem?_range hi, if_pos hi]; simp
      · rw [List.getElem?_eq_none (by simp; omega), if_neg hi]; rfl
    rw [this]
    exact (hf3.block g hgl).trans hg
theorem Shorten_ok {s : Sl} {b : List UInt8} {w : World} (hs : Bs w s b) (hl : b.length ≤ 1073741824) :
    cl Tryd.prog n_lz_Shorten #[.slice s.a s.n s.c] .L w fun (r : Sl) w' => OwB w' w.heap.size t_uint8 r (shortS b) ∧ Fr w w' := by
  refine lz_Shorten.cl ?_
  unfold lz_Shorten
  have hn := hs.len
  refine ⟨some w.heap.size, w.alloc (.map #[] 0), run_makeMap _ _, ?_⟩
  have hf1 : Fr w (w.alloc (.map #[] 0)) := Fr.alloc _ _
  refine mksN (z := .int .i64 0) (bytes := 8) u_s_int (by kernel_rfl) rfl w.heap.size b.length (by omega) (by omega) (by omega) hf1.size fun w4 ho4 hg4 hs4 hf4 => ?_
  refine nwI fun c w6 hc hs6 hf6 hc6 _ => ?_
  have hC := chn_new (sb := s) (b := b) (w0 := w) hs rfl rfl hg4 rfl hf4 hc6 hc hf6
  have hf : Fr w w6 := (hf1.trans hf4).trans hf6
  have hcw : w.heap.size ≤ c := by have := (hf1.trans hf4).size; omega
  have hold := hC.old
  have hrg := hC.rg
  have hgc := hC.gc
  generalize (w.alloc (.map #[] 0)).heap.size = g at *
  clear hg4 hs4 hs6 ho4
  have sub : ∀ {w' : World} {r : Sl}, (∀ ad, r.a = some ad → ∃ ad', s.a = some ad' ∧ ad.block = ad'.block) → ∀ {l : List UInt8}, (l ≠ [] → b ≠ []) → l ≠ [] → ∀ ad, r.a = some ad → ad.block < c + 1 := fun {w' r} h {l} hlb hl0 ad ha => by
    obtain ⟨ad', h1, h2⟩ := h ad ha
    have := hold (hlb hl0) ad' h1
    omega
  refine lpI (fun s' w' => Fr w w' ∧ ∃ (lo p : Nat) (o : List UInt8), lo ≤ p ∧ p ≤ b.length ∧ s'.2.1 = lo ∧ s'.2.2.1 = p ∧ o.length ≤ 20 * lo ∧ OwB w' (c + 1) t_uint8 s'.1 o ∧ Chn w' c s b w.heap.size g p ∧ o ++ shortF b (b.length + 1 - p) lo p = shortS b) (fun s' _ => (b.length - s'.2.2.1).toNat)
    ⟨hf, 0, 0, [], Nat.le_refl _, Nat.zero_le _, rfl, rfl, by simp, OwB.nil _ _ _, hC, rfl⟩ ?_
  clear hC hc6 hf6 hf4 hf1 hf
  rintro _ ⟨out, from', p', ⟨⟩⟩ w8 ⟨hf8, lo, p, o, hlo, hp, rfl, rfl, hol, ho, hC, heq⟩
  dsimp only at ho ⊢
  have hfit := bestS_fits hp
  have hclt := hC.lt
  refine bD ?_ ?_ <;> intro hlt
  · have hpl : p < b.length := by omega
    rw [show b.length + 1 - p = (b.length - p) + 1 from by omega, shortF, if_pos hpl] at heq
    refine (best_ok hC hp (by omega)).mono ?_
    rintro _ w12 ⟨rfl, hf12⟩
    dsimp only
    have ho := ho.fr hf12
    have hC := hC.fr hf12
    have hf12' := hf8.trans hf12
    have hsz := hf12'.size
    refine bD ?_ ?_ <;> intro h3
    · rw [if_pos (bestS_lt.1 (by omega))] at heq
      refine (put_ok hC hp (by omega)).mono ?_
      rintro _ w14 ⟨hC14, hB14, hK14⟩
      rw [i64w (by omega) (by omega)]
      refine ⟨⟨hf12'.on hB14, lo, p + 1, o, by omega, by omega, rfl, by simp, hol, ho.kp hK14 (fun ad had => by have := (ho.own ad had).1; omega), hC14, ?_⟩, by omega⟩
      rw [← heq, show b.length + 1 - (p + 1) = b.length - p from by omega]
    · have hl3 : ¬(longS b p).2 < 3 := fun h => h3 (by have := bestS_lt.2 h; omega)
      rw [if_neg hl3, ← bestS_eq hl3] at heq
      generalize (bestS b p).2 = n at *
      generalize (bestS b p).1 = back at *
      have hpl2 := plainS_len ((b.take p).drop lo)
      rw [List.length_drop, List.length_take] at hpl2
      refine slsB hC.bs (by omega) (by omega) (by omega) fun r15 h15 hblk15 _ => ?_
      rw [Int.toNat_natCast, Int.toNat_natCast] at h15
      refine (literals_ok ho h15 (sub (w' := w12) hblk15 (fun h e => h (by rw [e]; simp))) (by have := hC.lt; omega) (by simp; omega) (by omega)).mono ?_
      rintro x16 w17 ⟨h16, hb16⟩
      have hC17 := hC.low hb16
      have hf17 : Fr w w17 := hf12'.on (hb16.mono (by omega))
      have hc : IntKind.u8.wrap (IntKind.i64.wrap (IntKind.i64.wrap (128 + (n : Int)) - 3)) = ((UInt8.ofNat (n + 125)).toNat : Int) := by
        rw [i64w (n := 128 + (n : Int)) (by omega) (by omega), i64w (by omega) (by omega), u8w, u8_ofNat]; omega
      rw [hc]
      refine nwI fun b18 w19 hb18 hs18 hf19 hblk19 hrd19 => ?_
      have hs17 := hf17.size
      have hc17 := hC17.lt
      refine app_B slB (base := c + 1) (m := [UInt8.ofNat (n + 125)]) (h16.fr hf19) hrd19 rfl (by simp; omega) (by omega) fun r20 w21 h20 hb20 _ _ => ?_
      have hC21 := (hC17.fr hf19).low hb20
      have hf21 : Fr w w21 := (hf17.trans hf19).on (hb20.mono (by omega))
      refine (octet_Number_ok h20.bs (by simp; omega) (by omega)).mono ?_
      rintro x22 w23 ⟨h22, hf23⟩
      rw [Int.toNat_natCast] at h22
      have h22 := h22.mono (show c + 1 ≤ w21.heap.size from hC21.lt)
      have h9 := numB_le back
      refine lpI (fun s' w' => Fr w w' ∧ ∃ m : Nat, m ≤ n ∧ s'.1 = ((p + m : Nat) : Int) ∧ s'.2.1 = m ∧ OwB w' (c + 1) t_uint8 x22 (o ++ plainS ((b.take p).drop lo) ++ [UInt8.ofNat (n + 125)] ++ numB back) ∧ Chn w' c s b w.heap.size g (p + m)) (fun s' _ => (n - s'.2.1).toNat)
        ⟨hf21.trans hf23, 0, Nat.zero_le _, rfl, rfl, h22, hC21.fr hf23⟩ ?_
      rintro _ ⟨i', m', ⟨⟩⟩ w25 ⟨hf25, m, hm, rfl, rfl, h25, hC25⟩
      dsimp only at h25 ⊢
      refine bD ?_ ?_ <;> intro hmn
      · refine (put_ok hC25 (by omega) (by omega)).mono ?_
        rintro _ w29 ⟨hC29, hB29, hK29⟩
        rw [i64w (n := ((p + m : Nat) : Int) + 1) (by omega) (by omega), i64w (n := (m : Int) + 1) (by omega) (by omega)]
        exact ⟨⟨hf25.on hB29, m + 1, by omega, by omega, by simp, h25.kp hK29 (fun ad had => by have := (h25.own ad had).1; omega), hC29⟩, by omega⟩
      · obtain rfl : m = n := by omega
        refine ⟨⟨hf25, p + m, p + m, _, Nat.le_refl _, by omega, rfl, rfl, ?_, h25, hC25, ?_⟩, by omega⟩
        · simp; omega
        · rw [← heq, shortF_any (f := b.length + 1 - (p + m)) (g := b.length - p) (by omega) (by omega) (by omega)]
          simp
  · obtain rfl : p = b.length := by omega
    rw [show b.length + 1 - b.length = 0 + 1 from by omega, shortF, if_neg (by omega)] at heq
    have hpl2 := plainS_len (b.drop lo)
    rw [List.length_drop] at hpl2
    refine slsB hC.bs (by omega) (by omega) (by omega) fun r30 h30 hblk30 _ => ?_
    have e30 : (b.take (s.n : Int).toNat).drop (lo : Int).toNat = b.drop lo := by rw [List.take_of_length_le (by omega), Int.toNat_natCast]
    rw [e30] at h30
    refine (literals_ok ho h30 (sub (w' := w8) hblk30 (fun h e => h (by rw [e]; simp))) (by omega) (by simp; omega) (by omega)).mono ?_
    rintro x31 w32 ⟨h31, hb31⟩
    rw [heq] at h31
    exact ⟨h31.mono (by omega), hf8.on (hb31.mono (by omega))⟩
end Go.Proofs.YtkojpppnjloikaaDoor
