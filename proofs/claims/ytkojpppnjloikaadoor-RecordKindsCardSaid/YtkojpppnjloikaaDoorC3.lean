/- Contracts of the reference's numbers, texts and flags: they are the same bytes as octet's. -/
import Derived.Test.YtkojpppnjloikaaDoorC1
namespace Go.Proofs.YtkojpppnjloikaaDoor
open Go.RowKit Go.Fl

theorem Follow_ok {x : Nat} {w : World} (h1 : x ≤ 9223372036854775807) : cl Tryd.prog n_flumeref02_Follow #[.int .i64 (x : Int)] (.I .i64) w fun (r : Int) w' => r = moreN x ∧ w = w' := by
  refine flumeref02_Follow.cl ?_
  unfold flumeref02_Follow
  refine lpI (fun s w' => w = w' ∧ ∃ k : Nat, k ≤ 8 ∧ s.2.1 = k ∧ s.1 = ((x / 128 ^ k : Nat) : Int) ∧ ∀ j, j < k → 128 ^ (j + 1) ≤ x) (fun s _ => (8 - s.2.1).toNat) ⟨rfl, 0, by omega, rfl, by simp, fun j h => by omega⟩ ?_
  rintro _ ⟨n, s, ⟨⟩⟩ w' ⟨rfl, k, hk, rfl, rfl, hn⟩
  dsimp only
  have hd : Int.tdiv ((x / 128 ^ k : Nat) : Int) 128 = ((x / 128 ^ (k + 1) : Nat) : Int) := by
    rw [Nat.pow_succ, ← Nat.div_div_eq_div_mul]
    exact (Int.ofNat_tdiv _ _).symm
  have hle : x / 128 ^ (k + 1) ≤ x := Nat.div_le_self _ _
  rw [hd]
  have hpos : 0 < 128 ^ (k + 1) := Nat.pow_pos (by decide)
  have hiff : x / 128 ^ (k + 1) > 0 ↔ 128 ^ (k + 1) ≤ x := by show 0 < _ ↔ _; rw [Nat.div_pos_iff]; omega
  generalize hq : x / 128 ^ (k + 1) = q at *
  rw [i64w (n := (q : Int)) (by omega) (by omega)]
  refine bD ?_ ?_ <;> intro h8
  · refine bD ?_ ?_ <;> intro hp
    · rw [i64w (by omega) (by omega)]
      refine ⟨⟨rfl, k + 1, by omega, rfl, by rw [hq], fun j hj => ?_⟩, by omega⟩
      by_cases hjk : j = k
      · subst hjk; exact hiff.1 (by omega)
      · exact hn j (by omega)
    · refine ⟨?_, rfl⟩
      rw [moreN, moreF_of (k := k) (by omega) (by have := mt hiff.2; omega) hn]
  · obtain rfl : k = 8 := by omega
    refine ⟨?_, rfl⟩
    rw [moreN, moreF_top hn]

theorem Lead_ok {k : Nat} {w : World} (hk : k ≤ 8) : cl Tryd.prog n_flumeref02_Lead #[.int .i64 (k : Int)] (.I .i64) w fun (r : Int) w' => r = ((256 - 2 ^ (8 - k) : Nat) : Int) ∧ w = w' := by
  refine flumeref02_Lead.cl ?_
  unfold flumeref02_Lead
  refine lpI (fun s w' => w = w' ∧ ∃ i : Nat, i ≤ k ∧ s.2.2.1 = i ∧ s.1 = ((256 - 2 ^ (8 - i) : Nat) : Int) ∧ s.2.1 = ((128 / 2 ^ i : Nat) : Int)) (fun s _ => (k - s.2.2.1).toNat) ⟨rfl, 0, by omega, rfl, by simp, by simp⟩ ?_
  rintro _ ⟨n, b, i, ⟨⟩⟩ w' ⟨rfl, i, hi, rfl, rfl, rfl⟩
  dsimp only
  refine bD ?_ ?_ <;> intro h
  · have hi' : i < 8 := by omega
    refine ⟨⟨rfl, i + 1, by omega, by rw [i64w (by omega) (by omega)]; rfl, ?_, ?_⟩, by rw [i64w (by omega) (by omega)]; omega⟩
    · clear h hi hk
      revert i
      decide +kernel
    · clear h hi hk
      revert i
      decide +kernel
  · obtain rfl : i = k := by omega
    exact ⟨rfl, rfl⟩

theorem low_tail {x k : Nat} : [UInt8.ofNat (x / 256 ^ k)] ++ lowB x k = lowB x (k + 1) := rfl
theorem ref_Number_ok {s : Sl} {n : Int} {l : List UInt8} {w : World} (hs : Bs w s l) (hl : l.length ≤ 1099511627776) (hn : n ≤ 9223372036854775807) :
    cl Tryd.prog n_flumeref02_Number #[.slice s.a s.n s.c, .int .i64 n] .L w fun (r : Sl) w' => OwB w' w.heap.size t_uint8 r (l ++ numB n.toNat) ∧ Fr w w' := by
  refine flumeref02_Number.cl ?_
  unfold flumeref02_Number
  have hx : max n 0 = (n.toNat : Int) := by omega
  rw [hx]
  generalize hxx : n.toNat = x
  refine (Follow_ok (by omega)).mono ?_
  rintro _ _ ⟨rfl, rfl⟩
  have hk8 := moreN_le x
  have hsp := (moreF_spec (f := 8) (x := x)).1
  change moreN x < 8 → x < 128 ^ (moreN x + 1) at hsp
  have hlt := leadB_lt hsp hk8
  have hnum : numB x = UInt8.ofNat (leadB x (moreN x)) :: lowB x (moreN x) := rfl
  generalize moreN x = k at *
  refine lpI (fun s w' => ∃ i : Nat, i ≤ k ∧ s.2.2.1 = i ∧ s.1 = ((x / 256 ^ i : Nat) : Int) ∧ OwB w' w.heap.size t_uint8 s.2.1 (lowB x i) ∧ Fr w w') (fun s _ => (k - s.2.2.1).toNat) ⟨0, by omega, rfl, by simp, OwB.nil _ _ _, Fr.refl w⟩ ?_
  rintro _ ⟨n', t, i, ⟨⟩⟩ w1 ⟨i, hi, rfl, rfl, ht, hf⟩
  dsimp only at ht ⊢
  have hle : x / 256 ^ i ≤ x := Nat.div_le_self _ _
  refine bD ?_ ?_ <;> intro h
  · have hc : IntKind.u8.wrap (Int.tmod ((x / 256 ^ i : Nat) : Int) 256) = ((UInt8.ofNat (x / 256 ^ i)).toNat : Int) := by
      rw [u8w, u8_ofNat]
      have : Int.tmod ((x / 256 ^ i : Nat) : Int) 256 = ((x / 256 ^ i % 256 : Nat) : Int) := (Int.ofNat_tmod _ _).symm
      rw [this]
      omega
    rw [hc]
    refine nwI fun b w2 hb hsz hf2 hblk hrd => ?_
    have hh := hf.size
    refine app_B slB (base := w.heap.size) (l := [UInt8.ofNat (x / 256 ^ i)]) (m := lowB x i) ⟨rfl, .inr ⟨b, 1, _, rfl, by omega, hblk, Nat.le_refl _, by decide, rfl, rfl⟩⟩ (ht.fr hf2).rd ht.len.symm (by simp [lowB_length]; omega) (by omega) fun r w3 ho hb3 _ _ => ?_
    have hd : Int.tdiv ((x / 256 ^ i : Nat) : Int) 256 = ((x / 256 ^ (i + 1) : Nat) : Int) := by
      rw [Nat.pow_succ, ← Nat.div_div_eq_div_mul]
      exact (Int.ofNat_tdiv _ _).symm
    have hle' : x / 256 ^ (i + 1) ≤ x := Nat.div_le_self _ _
    rw [hd, i64w (n := (i : Int) + 1) (by omega) (by omega)]
    refine ⟨⟨i + 1, by omega, rfl, ?_, ho, (hf.trans hf2).on hb3⟩, by omega⟩
    generalize x / 256 ^ (i + 1) = q at *
    exact i64w (by omega) (by omega)
  · obtain rfl : i = k := by omega
    refine nwI fun b w2 hb hsz hf2 hblk _ => ?_
    have hh := hf.size
    refine app_B slB (base := w1.heap.size) (l := []) (OwB.new hblk (by omega)) (hs.fr (hf.trans hf2)).rd hs.len.symm (by simp; omega) (by omega) fun r w3 ho hb3 _ _ => ?_
    have hf3 : Fr w1 w3 := hf2.on hb3
    refine (Lead_ok hk8).mono ?_
    rintro _ _ ⟨rfl, rfl⟩
    have hlead : IntKind.u8.wrap (IntKind.i64.wrap (((256 - 2 ^ (8 - i) : Nat) : Int) + ((x / 256 ^ i : Nat) : Int))) = ((UInt8.ofNat (leadB x i)).toNat : Int) := by
      have e : leadB x i = 256 - 2 ^ (8 - i) + x / 256 ^ i := by
        unfold leadB
        split
        · rfl
        · obtain rfl : i = 8 := by omega
          rw [Nat.div_eq_of_lt (show x < 256 ^ 8 by omega)]
      rw [u8_ofNat, u8w, e]
      generalize x / 256 ^ i = q at *
      generalize 256 - 2 ^ (8 - i) = p at *
      rw [i64w (by omega) (by omega)]
      omega
    rw [hlead]
    refine nwI fun b4 w4 hb4 hsz4 hf4 hblk4 hrd4 => ?_
    have hh3 := hf3.size
    refine app_B slB (base := w1.heap.size) (m := [UInt8.ofNat (leadB x i)]) (ho.fr hf4) hrd4 rfl (by simp; omega) (by omega) fun r5 w5 ho5 hb5 _ _ => ?_
    have hf5 : Fr w1 w5 := (hf3.trans hf4).on hb5
    have hh5 := hf5.size
    refine app_B slB (base := w1.heap.size) ho5 (ht.fr hf5).rd ht.len.symm (by simp [lowB_length]; omega) (by omega) fun r6 w6 ho6 hb6 _ _ => ⟨?_, hf.trans (hf5.on hb6)⟩
    rw [hnum]
    simpa using ho6.mono hh

theorem ref_Text_ok {s x : Sl} {l m : List UInt8} {w : World} (hs : Bs w s l) (hx : Bs w x m) (hl : l.length ≤ 549755813888) (hm : m.length ≤ 549755813888) :
    cl Tryd.prog n_flumeref02_Text #[.slice s.a s.n s.c, .slice x.a x.n x.c] .L w fun (r : Sl) w' => OwB w' w.heap.size t_uint8 r (l ++ numB m.length ++ m) ∧ Fr w w' := by
  refine flumeref02_Text.cl ?_
  unfold flumeref02_Text
  have hn := hx.len
  have h9 := numB_le m.length
  refine (ref_Number_ok hs (by omega) (by omega)).mono ?_
  rintro r w1 ⟨ho, hf⟩
  rw [Int.toNat_natCast, hn] at ho
  refine app_B slB (base := w.heap.size) ho (hx.fr hf).rd hn.symm (by simp; omega) hf.size fun r w2 ho2 hb2 _ _ => ⟨ho2, hf.on hb2⟩

end Go.Proofs.YtkojpppnjloikaaDoor
