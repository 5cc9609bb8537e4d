import Derived.Test.YtkojpppnjloikaaDoorAll
import Derived.Test.YtkojpppnjloikaaDoorFlUse
import Derived.Test.YtkojpppnjloikaaDoorFlNum
namespace Go.Proofs.YtkojpppnjloikaaDoor
open Go.RowKit Go.Fl
theorem slB : SlT Tryd.prog t_s_uint8 t_uint8 1 1 := SlT.mk' (z := .int .u8 0) (by kernel_rfl) (by kernel_rfl) rfl (by decide)

theorem pow7 (k : Nat) : (2 : Nat) ^ (7 * k) = 128 ^ k := by rw [Nat.pow_mul]
theorem pow7i (k : Nat) : (2 : Int) ^ (7 * k) = ((128 ^ k : Nat) : Int) := by rw [← pow7]; simp
theorem octet_more_ok {x : Int} {w : World} (h0 : 0 ≤ x) (h1 : x ≤ 18446744073709551615) : cl Tryd.prog n_octet_more #[.int .u64 x] (.I .i64) w fun r w' => r = moreN x.toNat ∧ w = w' := by
  refine octet_more.cl ?_
  unfold octet_more
  refine lpI (fun s w' => w = w' ∧ ∃ k : Nat, k ≤ 8 ∧ s.1 = k ∧ ∀ j, j < k → 128 ^ (j + 1) ≤ x.toNat) (fun s _ => (8 - s.1).toNat) ⟨rfl, 0, by omega, rfl, fun j h => by omega⟩ ?_
  rintro _ ⟨s, ⟨⟩⟩ w' ⟨rfl, k, hk, rfl, hn⟩
  dsimp only
  rw [i64w (n := (k : Int) + 1) (by omega) (by omega), i64w (n := 7 * ((k : Int) + 1)) (by omega) (by omega)]
  have e : min (7 * ((k : Int) + 1)).toNat 64 = 7 * (k + 1) ∨ k = 8 := by omega
  refine bD (fun h8 => bP (by omega) ?_) (fun h8 => ⟨?_, rfl⟩)
  · rw [e.resolve_right (by omega), Int.one_mul, pow7i]
    have hp : (128 : Nat) ^ (k + 1) ≤ 72057594037927936 := Nat.pow_le_pow_right (n := 128) (i := k + 1) (j := 8) (by decide) (by omega)
    have hM := moreF_of (f := 8) (k := k) (x := x.toNat) (by omega)
    obtain ⟨B, hB⟩ : ∃ B, (128 : Nat) ^ (k + 1) = B := ⟨_, rfl⟩
    rw [hB] at hp hM ⊢
    rw [u64w (by omega) (by omega)]
    refine bD (fun hx => ⟨?_, rfl⟩) (fun hx => ⟨⟨rfl, k + 1, by omega, rfl, fun j hj => ?_⟩, by omega⟩)
    · rw [moreN, hM (by omega) hn]
    · by_cases hjk : j = k
      · subst hjk; rw [hB]; omega
      · exact hn j (by omega)
  · obtain rfl : k = 8 := by omega
    rw [moreN, moreF_top hn]; rfl

theorem u8_ofNat (n : Nat) : (((UInt8.ofNat n).toNat : Nat) : Int) = (n : Int) % 256 := by simp
theorem pow256i (k : Nat) : (2 : Int) ^ (8 * k) = ((256 ^ k : Nat) : Int) := by
  have : (2 : Nat) ^ (8 * k) = 256 ^ k := by rw [Nat.pow_mul]
  rw [← this]; simp
theorem u8s_single (x : UInt8) : u8s [x] = [.int .u8 x.toNat] := rfl

theorem octet_Number_ok {s : Sl} {n : Int} {l : List UInt8} {w : World} (hs : Bs w s l) (hl : l.length ≤ 1099511627776) (hn : n ≤ 9223372036854775807) :
    cl Tryd.prog n_octet_Number #[.slice s.a s.n s.c, .int .i64 n] .L w fun (r : Sl) w' => OwB w' w.heap.size t_uint8 r (l ++ numB n.toNat) ∧ Fr w w' := by
  refine octet_Number.cl ?_
  unfold octet_Number
  have hx : max n 0 = (n.toNat : Int) := by omega
  rw [hx, u64w (by omega) (by omega)]
  generalize hxx : n.toNat = x
  refine (octet_more_ok (by omega) (by omega)).mono ?_
  rintro k w' ⟨rfl, rfl⟩
  rw [Int.toNat_natCast]
  have hk8 := moreN_le x
  have hsp := (moreF_spec (f := 8) (x := x)).1
  change moreN x < 8 → x < 128 ^ (moreN x + 1) at hsp
  have hnum : numB x = UInt8.ofNat (leadB x (moreN x)) :: lowB x (moreN x) := rfl
  generalize moreN x = k at hk8 hsp hnum
  rw [i64w (n := 8 - (k : Int)) (by omega) (by omega)]
  refine bP (by omega) ?_
  intro j1
  have hln := hs.len
  have hj : ∀ (y : Int) (w' : World), y = ((UInt8.ofNat (leadB x k)).toNat : Int) → w = w' → j1 y w' := by
    rintro y w' rfl rfl
    show mks _ _ _ _ _ _
    rw [i64w (by omega) (by omega)]
    refine mks0 slB w.heap.size (s.n + 9) (by omega) (by omega) (by omega) (Nat.le_refl _) fun w1 ho1 hf1 => ?_
    refine app_B slB (base := w.heap.size) (l := []) (m := l) ho1 (hs.fr hf1).rd hs.len.symm (by simp; omega) hf1.size fun r w2 ho2 hb2 _ _ => ?_
    have hf2 : Fr w w2 := hf1.on hb2
    refine nwI fun b w3 hb hsz hf3 hblk hrd => ?_
    refine app_B slB (base := w.heap.size) (m := [UInt8.ofNat (leadB x k)]) (ho2.fr hf3) hrd rfl (by simp; omega) (by have := hf2.size; have := hf3.size; omega) fun r w4 ho4 hb4 _ _ => ?_
    have hf4 : Below w.heap.size w w4 := (hf2.trans hf3).on hb4
    rw [i64w (n := (k : Int) - 1) (by omega) (by omega)]
    refine lpI (fun s w'' => ∃ m : Nat, m ≤ k ∧ s.2.1 = (k : Int) - 1 - m ∧ OwB w'' w.heap.size t_uint8 s.1 (l ++ (UInt8.ofNat (leadB x k) :: (lowB x k).take m)) ∧ Fr w w'') (fun s _ => (s.2.1 + 1).toNat)
      ⟨0, by omega, by simp, by simpa using ho4, hf4⟩ ?_
    rintro _ ⟨s', i, ⟨⟩⟩ w5 ⟨m, hm, hi, ho5, hf5⟩
    simp only at hi ho5
    subst hi
    dsimp only
    refine bD (fun h0 => bP ?_ ?_) (fun h0 => ⟨?_, hf5⟩)
    · rw [i64w (by omega) (by omega)]; omega
    · rw [i64w (n := 8 * _) (by omega) (by omega), i64w (by omega) (by omega)]
      have e : min (8 * ((k : Int) - 1 - m)).toNat 64 = 8 * (k - 1 - m) := by omega
      rw [e, pow256i, u8w]
      have hcell : (x : Int) / ((256 ^ (k - 1 - m) : Nat) : Int) % 256 = ((UInt8.ofNat (x / 256 ^ (k - 1 - m))).toNat : Int) := by rw [u8_ofNat]; simp
      rw [hcell]
      refine nwI fun b w6 hb hsz hf6 hblk hrd => ?_
      refine app_B slB (base := w.heap.size) (m := [UInt8.ofNat (x / 256 ^ (k - 1 - m))]) (ho5.fr hf6) hrd rfl ?_ (by have := hf5.size; have := hf6.size; omega) fun r w7 ho7 hb7 _ _ => ?_
      · simp [lowB_length]; omega
      · refine ⟨⟨m + 1, by omega, by simp; omega, ?_, (hf5.trans hf6).on hb7⟩, by simp; omega⟩
        rw [lowB_take (by omega)]
        simpa using ho7
    · obtain rfl : m = k := by omega
      rw [hnum]
      rwa [List.take_of_length_le (by rw [lowB_length]; exact Nat.le_refl _)] at ho5
  refine bD ?_ ?_ <;> intro h8
  · rw [i64w (n := 8 * (k : Int)) (by omega) (by omega)]
    refine bP (by omega) ?_
    refine hj _ _ ?_ rfl
    rw [show min (8 * (k : Int)).toNat 64 = 8 * k from by omega, pow256i, u8w, u8w, show min (8 - (k : Int)).toNat 8 = 8 - k from by omega]
    have ho := or_lead (x := x) (k := k) (by omega) (hsp (by omega))
    have hlt := lead_small (x := x) (k := k) (by omega) (hsp (by omega))
    have h7 : (2 : Nat) ^ (7 - k) ≤ 2 ^ 7 := Nat.pow_le_pow_right (by decide) (by omega)
    have e1 : (255 : Int) * 2 ^ (8 - k) % 256 = ((255 * 2 ^ (8 - k) % 256 : Nat) : Int) := by simp
    have e2 : (x : Int) / ((256 ^ k : Nat) : Int) % 256 = ((x / 256 ^ k : Nat) : Int) := by
      rw [← Int.natCast_ediv]
      generalize x / 256 ^ k = q at hlt
      omega
    rw [e1, e2, u8_or_nat _ _ (by omega) (by generalize x / 256 ^ k = q at hlt; omega), ho, u8_ofNat]
    have := leadB_lt hsp hk8
    omega
  · obtain rfl : k = 8 := by omega
    refine hj _ _ ?_ rfl
    simp [leadB, u8w]

theorem Lz8_ok {x : Int} {w : World} (h0 : 0 ≤ x) (h1 : x < 256) : cl Tryd.prog n_math_bits_LeadingZeros8 #[.int .u8 x] (.I .i64) w fun (r : Int) w' => r = ones (255 - x.toNat) ∧ w = w' := by
  refine math_bits_LeadingZeros8.cl ?_
  unfold math_bits_LeadingZeros8
  obtain ⟨n, rfl⟩ : ∃ n : Nat, x = n := ⟨x.toNat, by omega⟩
  refine cl.mono (K := fun (r : Int) w' => r = (8 : Int) - (ones (255 - n) : Int) ∧ w = w') (math_bits_Len8.cl ?_) ?_
  · unfold math_bits_Len8
    refine ⟨h0, (by refine Eq.mp ?_ h1; kernel_rfl), ?_, rfl⟩
    have h1' : n < 256 := by omega
    rw [Int.toNat_natCast]
    clear h0 h1
    revert n
    decide +kernel
  · rintro r w' ⟨rfl, rfl⟩
    have := ones_le (255 - n)
    rw [i64w (by omega) (by omega)]
    exact ⟨by simp; omega, rfl⟩

theorem xor255 {x : Nat} (h : x < 256) : bits .xor .u8 255 (x : Int) = ((255 - x : Nat) : Int) := by
  have := u8_xor_nat 255 x (by decide) h
  rw [show ((255 : Nat) : Int) = 255 from rfl] at this
  rw [this]
  congr 1
  revert x
  decide +kernel

/-- look. -/
theorem octet_look_ok {s : Sl} {l : List UInt8} {w : World} (hs : Bs w s l) (hl : l.length ≤ 1099511627776) :
    cl Tryd.prog n_octet_look #[.slice s.a s.n s.c] (.tup (.pair (.I .i64) (.pair (.I .i64) (.pair (.I .i64) .nil)))) w
      fun (r : Int × Int × Int × Unit) w' => r = (((lookS l).1 : Int), ((lookS l).2.1 : Int), ((lookS l).2.2 : Int), ()) ∧ w = w' := by
  refine octet_look.cl ?_
  unfold octet_look
  have hn := hs.len
  cases l with
  | nil => exact bT (by simp [hn]) ⟨rfl, rfl⟩
  | cons b t =>
    refine bF (by simp [hn]; omega) ?_
    have hb := b.toNat_lt
    have ho := ones_le b.toNat
    refine ixB0 hs.rd hs.len (Fr.refl w) ?_
    rw [xor255 (by omega)]
    refine (Lz8_ok (by omega) (by omega)).mono ?_
    rintro k w' ⟨rfl, rfl⟩
    rw [Int.toNat_natCast, show 255 - (255 - b.toNat) = b.toNat from by omega]
    generalize hk : ones b.toNat = k at ho
    rw [lookS_cons, hk]
    refine bD ?_ ?_ <;> intro hlen
    · rw [if_pos (by simp [hn] at hlen; omega)]; exact ⟨rfl, rfl⟩
    · have hlen' : k ≤ t.length := by simp [hn] at hlen; omega
      rw [if_neg (by omega)]
      refine ixB0 hs.rd hs.len (Fr.refl w) ?_
      intro j1
      have hj : ∀ (y : Nat) (w' : World), (y < 2 ^ (7 - k) ∧ k < 8 ∨ y = 0) → y = (if k < 8 then b.toNat % 2 ^ (7 - k) else 0) → w = w' → j1 y w' := by
        rintro y w' hy hyk rfl
        show sls _ _ _ _ _
        rw [i64w (n := (k : Int) + 1) (by omega) (by omega)]
        refine slsB hs (by decide) (by omega) (by simp; omega) fun r hr _ _ => ?_
        simp only [Int.toNat_one, show ((k : Int) + 1).toNat = k + 1 from by omega, List.take_succ_cons, List.drop_succ_cons, List.drop_zero] at hr
        have hrl := hr.len
        rw [List.length_take, Nat.min_eq_left hlen'] at hrl
        have hBk : beN y (t.take k) < 18446744073709551616 := by
          rcases hy with ⟨hy, hk8⟩ | rfl
          · have h1 := beN_lt (l := t.take k) hy
            rw [List.length_take, Nat.min_eq_left hlen'] at h1
            refine Nat.lt_of_lt_of_le h1 ?_
            match k, hk8 with
            | 0, _ | 1, _ | 2, _ | 3, _ | 4, _ | 5, _ | 6, _ | 7, _ => decide
          · have h1 := beN_lt (a := 0) (B := 1) (l := t.take k) (by decide)
            rw [List.length_take, Nat.min_eq_left hlen', Nat.one_mul] at h1
            refine Nat.lt_of_lt_of_le h1 ?_
            exact Nat.pow_le_pow_right (n := 256) (i := k) (j := 8) (by decide) ho
        refine lpI (fun s w' => w = w' ∧ ∃ i : Nat, i ≤ k ∧ s.2.1 = i ∧ s.1 = (beN y (t.take i) : Nat)) (fun s _ => (k - s.2.1).toNat) ⟨rfl, 0, by omega, rfl, by simp [beN]⟩ ?_
        rintro _ ⟨z, i, ⟨⟩⟩ w' ⟨rfl, i, hik, rfl, rfl⟩
        dsimp only
        refine bD ?_ ?_ <;> intro hi
        · have hik' : i < k := by omega
          refine ixB hr.rd hr.len (by omega) (by simp [List.length_take]; omega) (Fr.refl w) ?_
          have hlt' : beN y (t.take (i + 1)) ≤ beN y (t.take k) := by
            have hsp := List.take_append_drop (i + 1) (t.take k)
            rw [List.take_take, Nat.min_eq_left (by omega)] at hsp
            rw [← hsp, beN_append]
            exact beN_ge _ _
          have hst : t.take (i + 1) = t.take i ++ [t[i]] := by rw [List.take_succ_eq_append_getElem (by omega)]
          have hstep : beN y (t.take (i + 1)) = beN y (t.take i) * 256 + t[i].toNat := by rw [hst, beN_append]; rfl
          have hc := t[i].toNat_lt
          simp only [Int.toNat_natCast, List.getElem_take]
          rw [show min 8 64 = 8 from rfl, u64w (n := _ * 2 ^ 8) (by omega) (by omega), u64w (n := ((t[i].toNat : Nat) : Int)) (by omega) (by omega)]
          have e1 : ((beN y (t.take i) : Nat) : Int) * 2 ^ 8 = ((beN y (t.take i) * 256 : Nat) : Int) := by simp
          rw [e1, u64_or_nat _ _ (by omega) (by omega), i64w (by omega) (by omega)]
          refine ⟨⟨trivial, i + 1, by omega, rfl, ?_⟩, by omega⟩

          rw [hstep]
          congr 1
          rw [show beN y (t.take i) * 256 = 2 ^ 8 * beN y (t.take i) from by omega, ← Nat.two_pow_add_eq_or_of_lt (by omega)]
        · obtain rfl : i = k := by omega
          simp only [← hyk]
          generalize beN y (t.take i) = X at hBk
          refine bD ?_ ?_ <;> intro hX
          · rw [if_pos (by omega)]; exact ⟨rfl, trivial⟩
          · rw [if_neg (by omega)]
            refine (octet_more_ok (by omega) (by omega)).mono ?_
            rintro m w' ⟨rfl, rfl⟩
            rw [Int.toNat_natCast]
            refine bNe ?_ ?_ <;> intro hm
            · rw [if_pos (by omega)]; exact ⟨rfl, rfl⟩
            · rw [if_neg (by omega), i64w (by omega) (by omega)]; exact ⟨by simp, rfl⟩
      refine bD ?_ ?_ <;> intro h8
      · refine bP (by omega) ?_
        have h7 : (2 : Nat) ^ (7 - k) ≤ 2 ^ 7 := Nat.pow_le_pow_right (by decide) (by omega)
        have hm : b.toNat % 2 ^ (7 - k) < 2 ^ (7 - k) := Nat.mod_lt _ (Nat.pow_pos (by decide))
        have e : bits .and .u64 (IntKind.u64.wrap (b.toNat : Int)) (127 / 2 ^ min ((k : Int)).toNat 64) = ((b.toNat % 2 ^ (7 - k) : Nat) : Int) := by
          rw [u64w (by omega) (by omega), show min ((k : Int)).toNat 64 = k from by omega]
          have e2 : (127 : Int) / 2 ^ k = ((2 ^ (7 - k) - 1 : Nat) : Int) := by
            match k, (show k < 8 by omega) with
            | 0, _ | 1, _ | 2, _ | 3, _ | 4, _ | 5, _ | 6, _ | 7, _ => decide
          rw [e2, u64_and_nat _ _ (by omega) (by omega), Nat.and_two_pow_sub_one_eq_mod]
        rw [e]
        exact hj _ _ (.inl ⟨hm, by omega⟩) (by rw [if_pos (by omega)]) rfl
      · exact hj 0 _ (.inr rfl) (by rw [if_neg (by omega)]) rfl
end Go.Proofs.YtkojpppnjloikaaDoor
