/- Contracts and plain laws that the claims of this seat lean on, put together. -/
import Derived.Test.YtmhibpcbdbhfoaaDoorM1
import Derived.Stop.BytesEq
import Derived.MapKept
namespace Go.Proofs.YtmhibpcbdbhfoaaDoor
open Go.RowKit Go.Fl

theorem nib_int {j : Nat} (h : j < 16) : Nib.getD j 0 = ((nibN j : Nat) : Int) := by
  have : ∀ j, j < 16 → Nib.getD j 0 = ((nibN j : Nat) : Int) := by decide
  exact this j h
theorem nib_ix {c : Nat} (h : c < 4294967296) : bits .and .u32 (c : Int) 15 = ((c % 16 : Nat) : Int) := by
  rw [show (15 : Int) = ((15 : Nat) : Int) from rfl, u32_and_nat _ _ h (by decide), show 15 = 2 ^ 4 - 1 from rfl, Nat.and_two_pow_sub_one_eq_mod]
theorem nib_sh (c : Nat) : (c : Int) / 2 ^ (min 4 32) = ((c / 16 : Nat) : Int) := by
  rw [show min 4 32 = 4 from rfl]; omega
/-- The table of four bits. -/
def Crc (w : World) : Prop := Glob w g_sums_nibbles Nib
theorem Crc.fr {w w' : World} (h : Crc w) (hf : Fr w w') : Crc w' := Glob.fr h hf
theorem sums_Crc_ok {x : Sl} {b : List UInt8} {a : Nat} {w : World} (hd : Crc w) (ha : w.heap[a]? = some (.cells #[.slice x.a x.n x.c] t_s_uint8 (0, 0))) (hx : Bs w x b) (hl : b.length ≤ 140737488351232) :
    cl Tryd.prog n_sums_Crc #[.slice (some ⟨a, 0, none⟩) 1 1] (.I .u32) w fun (r : Int) w' => r = crcN b ∧ w = w' := by
  refine sums_Crc.cl (p0 := ⟨some ⟨a, 0, none⟩, 1, 1⟩) ?_
  unfold sums_Crc
  have hn := hx.len
  refine lpI (fun s' w' => w = w' ∧ ((s'.2.1 = 0 ∧ s'.1 = 4294967295) ∨ (s'.2.1 = 1 ∧ s'.1 = cfold b))) (fun s' _ => (1 - s'.2.1).toNat) ⟨rfl, .inl ⟨rfl, rfl⟩⟩ ?_
  rintro D ⟨c, i', ⟨⟩⟩ _ ⟨rfl, (⟨h0, h1⟩ | ⟨h0, h1⟩)⟩
  · dsimp only at h0 h1 ⊢
    subst h0 h1
    refine bP (by decide) ?_
    refine ⟨by decide, by decide, ?_⟩
    show ld .L _ (atOff ⟨a, 0, none⟩ 0 1) _
    rw [atH]
    refine ldL0 (s := x) ha rfl ?_
    refine lpI (fun s' w' => w = w' ∧ ∃ i : Nat, i ≤ b.length ∧ s'.2.1 = i ∧ s'.1 = cfold (b.take i)) (fun s' _ => (b.length - s'.2.1).toNat) ⟨rfl, 0, Nat.zero_le _, rfl, rfl⟩ ?_
    rintro D2 ⟨c, i', ⟨⟩⟩ _ ⟨rfl, i, hi, h2, h3⟩
    dsimp only at h2 h3 ⊢
    subst h2 h3
    refine bD ?_ ?_ <;> intro hlt
    · have hib : i < b.length := by omega
      have hc := cfold_lt (b.take i)
      have hx256 := b[i].toNat_lt
      refine ixBc (c := b[i]) hx.rd hx.len (by omega) (by rw [Int.toNat_natCast]; exact List.getElem?_eq_getElem hib) (Fr.refl _) ?_
      rw [u32w, show ((b[i].toNat : Nat) : Int) % 4294967296 = ((b[i].toNat : Nat) : Int) from by omega, u32_xor_nat _ _ hc (by omega)]
      have h1 := lt_xor hc (show b[i].toNat < 4294967296 by omega)
      have hs : cfold (b.take (i + 1)) = cstep (cfold (b.take i)) b[i] := by
        rw [List.take_succ_eq_append_getElem hib, cfold, List.foldl_append]; rfl
      have hs' : cstep (cfold (b.take i)) b[i] = nstep (nstep (cfold (b.take i) ^^^ b[i].toNat)) := rfl
      rw [hs'] at hs
      generalize cfold (b.take i) ^^^ b[i].toNat = c1 at *
      have h2 := nstep_lt h1
      rw [nib_ix h1, nib_sh]
      refine ixGlob hd (show c1 % 16 < Nib.length from Nat.mod_lt _ (by decide)) rfl ?_
      rw [nib_int (Nat.mod_lt _ (by decide)), u32_xor_nat _ _ (by omega) (nibN_lt _)]
      have e1 : c1 / 16 ^^^ nibN (c1 % 16) = nstep c1 := rfl
      rw [e1, nib_ix h2, nib_sh]
      refine ixGlob hd (show nstep c1 % 16 < Nib.length from Nat.mod_lt _ (by decide)) rfl ?_
      rw [nib_int (Nat.mod_lt _ (by decide)), u32_xor_nat _ _ (by omega) (nibN_lt _)]
      rw [i64w (by omega) (by omega)]
      refine ⟨⟨rfl, i + 1, by omega, rfl, ?_⟩, by omega⟩
      show ((nstep (nstep c1) : Nat) : Int) = _
      rw [hs]
    · obtain rfl : i = b.length := by omega
      rw [List.take_length]
      exact ⟨⟨rfl, .inr ⟨rfl, rfl⟩⟩, by decide⟩
  · dsimp only at h0 h1 ⊢
    subst h0 h1
    refine bN (by decide) ⟨?_, rfl⟩
    rw [show (4294967295 : Int) = ((4294967295 : Nat) : Int) from rfl, u32_xor_nat _ _ (by decide) (cfold_lt b)]
    rfl
theorem le4_cells {c : Nat} : ([.int .u8 (IntKind.u8.wrap (c : Int)), .int .u8 (IntKind.u8.wrap ((c : Int) / 2 ^ (min 8 32))), .int .u8 (IntKind.u8.wrap ((c : Int) / 2 ^ (min 16 32))), .int .u8 (IntKind.u8.wrap ((c : Int) / 2 ^ (min 24 32)))] : List Value) = u8s (le4 c) := by
  have e : ∀ n : Nat, IntKind.u8.wrap (n : Int) = ((UInt8.ofNat (n % 256)).toNat : Int) := fun n => by
    rw [u8w, u8_ofNat]; omega
  have e1 : (c : Int) / 2 ^ (min 8 32) = ((c / 256 : Nat) : Int) := by rw [show min 8 32 = 8 from rfl]; omega
  have e2 : (c : Int) / 2 ^ (min 16 32) = ((c / 65536 : Nat) : Int) := by rw [show min 16 32 = 16 from rfl]; omega
  have e3 : (c : Int) / 2 ^ (min 24 32) = ((c / 16777216 : Nat) : Int) := by rw [show min 24 32 = 24 from rfl]; omega
  rw [e1, e2, e3, e, e, e, e]
  rfl
theorem Seal_ok {x : Sl} {b : List UInt8} {w : World} (hd : Crc w) (hx : Bs w x b) (hl : b.length ≤ 140737488351232) :
    cl Tryd.prog n_sums_Seal #[.slice x.a x.n x.c] .L w fun (r : Sl) w' => OwB w' w.heap.size t_uint8 r (sealB b) ∧ Fr w w' := by
  refine sums_Seal.cl ?_
  unfold sums_Seal
  have hn := hx.len
  refine nwI fun a1 w2 ha1 hs2 hf2 hb1 _ => ?_
  refine (sums_Crc_ok (hd.fr hf2) hb1 (hx.fr hf2) hl).mono ?_
  rintro _ _ ⟨rfl, rfl⟩
  refine mks0 slB w.heap.size (b.length + 4) (by rw [i64w (by omega) (by omega)]; omega) (by omega) (by omega) hf2.size fun w6 ho6 hf6 => ?_
  have hf6' := hf2.trans hf6
  refine app_B slB (base := w.heap.size) (l := []) ho6 (hx.fr hf6').rd hx.len.symm (by simp; omega) hf6'.size fun r7 w8 h7 hb8 _ _ => ?_
  rw [List.nil_append] at h7
  have hf8 := hf6'.on hb8
  rw [le4_cells]
  refine nwI fun a9 w10 ha9 hs10 hf10 hb10 hr10 => ?_
  refine app_B slB (base := w.heap.size) (m := le4 (crcN b)) (h7.fr hf10) hr10 rfl (by simp [le4]; omega) (hf8.trans hf10).size fun r11 w12 h11 hb12 _ _ => ⟨h11, (hf8.trans hf10).on hb12⟩
theorem or_le4 {a b c d : UInt8} {n : Nat} (hn : n < 4294967296) :
    (bits .or .u32 (bits .or .u32 (bits .or .u32 (IntKind.u32.wrap (a.toNat : Int)) (IntKind.u32.wrap ((IntKind.u32.wrap (b.toNat : Int)) * 2 ^ (min 8 32)))) (IntKind.u32.wrap ((IntKind.u32.wrap (c.toNat : Int)) * 2 ^ (min 16 32)))) (IntKind.u32.wrap ((IntKind.u32.wrap (d.toNat : Int)) * 2 ^ (min 24 32)))) = ((n : Nat) : Int) ↔ le4 n = [a, b, c, d] := by
  have ha := a.toNat_lt
  have hb := b.toNat_lt
  have hc := c.toNat_lt
  have hd := d.toNat_lt
  have e1 : IntKind.u32.wrap (a.toNat : Int) = ((a.toNat : Nat) : Int) := by rw [u32w]; omega
  have e2 : IntKind.u32.wrap ((IntKind.u32.wrap (b.toNat : Int)) * 2 ^ (min 8 32)) = ((b.toNat * 2 ^ 8 : Nat) : Int) := by rw [u32w, u32w, show min 8 32 = 8 from rfl]; omega
  have e3 : IntKind.u32.wrap ((IntKind.u32.wrap (c.toNat : Int)) * 2 ^ (min 16 32)) = ((c.toNat * 2 ^ 16 : Nat) : Int) := by rw [u32w, u32w, show min 16 32 = 16 from rfl]; omega
  have e4 : IntKind.u32.wrap ((IntKind.u32.wrap (d.toNat : Int)) * 2 ^ (min 24 32)) = ((d.toNat * 2 ^ 24 : Nat) : Int) := by rw [u32w, u32w, show min 24 32 = 24 from rfl]; omega
  have o1 : a.toNat ||| b.toNat * 2 ^ 8 = b.toNat * 2 ^ 8 + a.toNat := by rw [Nat.or_comm]; exact or_add (by omega)
  have o2 : (b.toNat * 2 ^ 8 + a.toNat) ||| c.toNat * 2 ^ 16 = c.toNat * 2 ^ 16 + (b.toNat * 2 ^ 8 + a.toNat) := by rw [Nat.or_comm]; exact or_add (by omega)
  have o3 : (c.toNat * 2 ^ 16 + (b.toNat * 2 ^ 8 + a.toNat)) ||| d.toNat * 2 ^ 24 = d.toNat * 2 ^ 24 + (c.toNat * 2 ^ 16 + (b.toNat * 2 ^ 8 + a.toNat)) := by rw [Nat.or_comm]; exact or_add (by omega)
  rw [e1, e2, e3, e4, u32_or_nat _ _ (by omega) (by omega), o1, u32_or_nat _ _ (by omega) (by omega), o2, u32_or_nat _ _ (by omega) (by omega), o3]
  have eq : ∀ (m : Nat) (x : UInt8), UInt8.ofNat (m % 256) = x ↔ m % 256 = x.toNat := fun m x => by
    constructor
    · rintro rfl; simp
    · intro h; apply UInt8.toNat_inj.1; simp [h]
  simp only [le4, List.cons.injEq, and_true, eq]
  omega
theorem take4 {l : List UInt8} (h : l.length = 4) : ∃ a b c d, l = [a, b, c, d] := by
  match l, h with
  | [a, b, c, d], _ => exact ⟨a, b, c, d, rfl⟩
theorem Open_sum_ok {x : Sl} {b : List UInt8} {w : World} (hd : Crc w) (hx : Bs w x b) (hl : b.length ≤ 140737488351232) :
    cl Tryd.prog n_sums_Open #[.slice x.a x.n x.c] (.tup (.pair .L (.pair (.I .i64) .nil))) w fun (r : Sl × Int × Unit) w' => OwB w' w.heap.size t_uint8 r.1 (openB b).1 ∧ r.2 = (((openB b).2 : Int), ()) ∧ Fr w w' := by
  refine sums_Open.cl ?_
  unfold sums_Open
  have hn := hx.len
  rw [i64w (n := (x.n : Int) - 4) (by omega) (by omega)]
  refine bD ?_ ?_ <;> intro h4
  · have e : openB b = ([], 2) := by rw [openB, if_pos (by omega)]
    rw [e]
    exact ⟨OwB.nil _ _ _, rfl, Fr.refl w⟩
  obtain ⟨c0, c1, c2, c3, hc⟩ := take4 (l := b.drop (b.length - 4)) (by rw [List.length_drop]; omega)
  have byt : ∀ (j : Nat) (c : UInt8) (i : Int) {K : Int → Prop}, (b.drop (b.length - 4))[j]? = some c → i = (x.n : Int) - 4 + j → K c.toNat → ixa x.a x.n i 1 fun a => ld (.I .u8) w a K := by
    intro j c i K hj hi hK
    have hj4 : j < 4 := by
      have := (List.getElem?_eq_some_iff.1 hj).1
      rw [List.length_drop] at this; omega
    refine ixBc (c := c) hx.rd hx.len (by omega) ?_ (Fr.refl w) hK
    rw [List.getElem?_drop] at hj
    rw [show i.toNat = b.length - 4 + j from by omega]
    exact hj
  rw [i64w (n := (x.n : Int) - 4 + 1) (by omega) (by omega), i64w (n := (x.n : Int) - 4 + 2) (by omega) (by omega), i64w (n := (x.n : Int) - 4 + 3) (by omega) (by omega)]
  refine byt 0 c0 _ (by rw [hc]; rfl) (by omega) (byt 1 c1 _ (by rw [hc]; rfl) (by omega) (byt 2 c2 _ (by rw [hc]; rfl) (by omega) (byt 3 c3 _ (by rw [hc]; rfl) (by omega) ?_)))
  intro n
  have hf9 := Fr.drewN w n
  have hx9 := hx.fr hf9
  refine slsB hx9 (by decide) (by omega) (by omega) fun r10 h10 _ _ => ?_
  rw [Int.toNat_zero, List.drop_zero, show ((x.n : Int) - 4).toNat = b.length - 4 from by omega] at h10
  refine nwI fun a11 w12 ha11 hs12 hf12 hb11 _ => ?_
  have hf12' := hf9.trans hf12
  refine (sums_Crc_ok (x := r10) (hd.fr hf12') hb11 (h10.fr hf12) (by rw [List.length_take]; omega)).mono ?_
  rintro _ _ ⟨rfl, rfl⟩
  have key := or_le4 (a := c0) (b := c1) (c := c2) (d := c3) (crcN_lt (b.take (b.length - 4)))
  rw [← hc] at key
  refine bNe ?_ ?_ <;> intro hne
  · have e : openB b = ([], 10) := by rw [openB, if_neg (by omega), if_neg fun h => hne (key.2 h)]
    rw [e]
    exact ⟨OwB.nil _ _ _, rfl, hf12'⟩
  · have e : openB b = (b.take (b.length - 4), 0) := by rw [openB, if_neg (by omega), if_pos (key.1 hne)]
    rw [e]
    refine nwI fun a15 w16 ha15 hs16 hf16 hb15 _ => ?_
    have hf16' := hf12'.trans hf16
    refine slsB (hx.fr hf16') (by decide) (by omega) (by omega) fun r17 h17 _ _ => ?_
    rw [Int.toNat_zero, List.drop_zero, show ((x.n : Int) - 4).toNat = b.length - 4 from by omega] at h17
    refine app0B slB (base := w.heap.size) hb15 (by have := hf12'.size; omega) h17 (by rw [List.length_take]; omega) hf16'.size fun r18 w19 h18 hf19 => ⟨h18, rfl, hf16'.trans hf19⟩
theorem refCrc_ok {x : Sl} {b : List UInt8} {w : World} (hx : Bs w x b) (hl : b.length ≤ 140737488351232) :
    cl Tryd.prog n_flumeref01_Crc #[.slice x.a x.n x.c] (.I .u32) w fun (r : Int) w' => r = crcN b ∧ w = w' := by
  refine flumeref01_Crc.cl ?_
  unfold flumeref01_Crc
  have hn := hx.len
  refine lpI (fun s' w' => w = w' ∧ ∃ i : Nat, i ≤ b.length ∧ s'.2.1 = i ∧ s'.1 = cfold (b.take i)) (fun s' _ => (b.length - s'.2.1).toNat) ⟨rfl, 0, Nat.zero_le _, rfl, rfl⟩ ?_
  rintro D2 ⟨c, i', ⟨⟩⟩ _ ⟨rfl, i, hi, h2, h3⟩
  dsimp only at h2 h3 ⊢
  subst h2 h3
  refine bD ?_ ?_ <;> intro hlt
  · have hib : i < b.length := by omega
    have hc := cfold_lt (b.take i)
    have hx256 := b[i].toNat_lt
    refine ixBc (c := b[i]) hx.rd hx.len (by omega) (by rw [Int.toNat_natCast]; exact List.getElem?_eq_getElem hib) (Fr.refl _) ?_
    rw [u32w, show ((b[i].toNat : Nat) : Int) % 4294967296 = ((b[i].toNat : Nat) : Int) from by omega, u32_xor_nat _ _ hc (by omega)]
    have h1 := lt_xor hc (show b[i].toNat < 4294967296 by omega)
    have hs : cfold (b.take (i + 1)) = cstep (cfold (b.take i)) b[i] := by
      rw [List.take_succ_eq_append_getElem hib, cfold, List.foldl_append]; rfl
    have hs' : cstep (cfold (b.take i)) b[i] = nstep (nstep (cfold (b.take i) ^^^ b[i].toNat)) := rfl
    rw [hs', ← bstep8] at hs
    generalize cfold (b.take i) ^^^ b[i].toNat = c1 at *
    refine lpI (fun s' w' => w = w' ∧ ∃ (k n : Nat), k ≤ 8 ∧ s'.2.1 = k ∧ n < 4294967296 ∧ s'.1 = n ∧ Nat.repeat bstep (8 - k) n = bstep (bstep (bstep (bstep (bstep (bstep (bstep (bstep c1)))))))) (fun s' _ => (8 - s'.2.1).toNat) ⟨rfl, 0, c1, by decide, rfl, h1, rfl, rfl⟩ ?_
    rintro D3 ⟨c, k', ⟨⟩⟩ _ ⟨rfl, k, n, hk, h4, hnl, h5, hrep⟩
    dsimp only at h4 h5 ⊢
    subst h4 h5
    refine bD ?_ ?_ <;> intro hlt2
    · have hr : Nat.repeat bstep (8 - (k + 1)) (bstep n) = Nat.repeat bstep (8 - k) n := by
        have : ∀ (m : Nat) (z : Nat), Nat.repeat bstep m (bstep z) = Nat.repeat bstep (m + 1) z := by
          intro m
          induction m with
          | zero => intro z; rfl
          | succ m ih => intro z; show bstep (Nat.repeat bstep m (bstep z)) = _; rw [ih]; rfl
        rw [show 8 - k = (8 - (k + 1)) + 1 from by omega]
        exact this _ _
      have e2 : IntKind.u32.wrap (Int.tdiv (n : Int) 2) = ((n / 2 : Nat) : Int) := by
        rw [show Int.tdiv (n : Int) 2 = ((n / 2 : Nat) : Int) from by rw [Int.ofNat_tdiv]; rfl, u32w]; omega
      have e3 : Int.tmod (n : Int) 2 = ((n % 2 : Nat) : Int) := by rw [Int.tmod_eq_emod_of_nonneg (by omega)]; omega
      rw [e2, e3, i64w (by omega) (by omega)]
      refine bE ?_ ?_ <;> intro ho
      · have eb : bstep n = n / 2 ^^^ 3988292384 := by unfold bstep; rw [if_pos (by omega)]
        rw [show (3988292384 : Int) = ((3988292384 : Nat) : Int) from rfl, u32_xor_nat _ _ (by omega) (by decide), ← eb]
        exact ⟨⟨rfl, k + 1, bstep n, by omega, rfl, bstep_lt hnl, rfl, hr.trans hrep⟩, by omega⟩
      · have eb : bstep n = n / 2 := by unfold bstep; rw [if_neg (by omega), Nat.xor_zero]
        rw [← eb]
        exact ⟨⟨rfl, k + 1, bstep n, by omega, rfl, bstep_lt hnl, rfl, hr.trans hrep⟩, by omega⟩
    · obtain rfl : k = 8 := by omega
      have hrep : n = _ := hrep
      rw [i64w (by omega) (by omega)]
      exact ⟨⟨rfl, i + 1, by omega, rfl, by rw [hs, hrep]⟩, by omega⟩
  · obtain rfl : i = b.length := by omega
    rw [List.take_length]
    refine ⟨?_, rfl⟩
    have := not_ref (x := ((cfold b : Nat) : Int)) (by omega) (by have := cfold_lt b; omega)
    rw [show IntKind.u32.wrap (4294967295 - ((cfold b : Nat) : Int)) = bits .xor .u32 4294967295 ((cfold b : Nat) : Int) from this, show (4294967295 : Int) = ((4294967295 : Nat) : Int) from rfl, u32_xor_nat _ _ (by decide) (cfold_lt b)]
    rfl
theorem le4_ref {c : Nat} (h : c < 4294967296) : ([.int .u8 (IntKind.u8.wrap (Int.tmod (c : Int) 256)), .int .u8 (IntKind.u8.wrap (Int.tmod (IntKind.u32.wrap (Int.tdiv (c : Int) 256)) 256)), .int .u8 (IntKind.u8.wrap (Int.tmod (IntKind.u32.wrap (Int.tdiv (c : Int) 65536)) 256)), .int .u8 (IntKind.u8.wrap (IntKind.u32.wrap (Int.tdiv (c : Int) 16777216)))] : List Value) = u8s (le4 c) := by
  have e : ∀ n : Nat, IntKind.u8.wrap (n : Int) = ((UInt8.ofNat (n % 256)).toNat : Int) := fun n => by
    rw [u8w, u8_ofNat]; omega
  have d : ∀ k : Nat, 0 < k → IntKind.u32.wrap (Int.tdiv (c : Int) (k : Int)) = ((c / k : Nat) : Int) := fun k hk => by
    have := Nat.div_le_self c k
    rw [show Int.tdiv (c : Int) (k : Int) = ((c / k : Nat) : Int) from (Int.ofNat_tdiv c k).symm ▸ rfl, u32w]
    generalize c / k = q at *
    omega
  have m : ∀ n : Nat, Int.tmod (n : Int) 256 = ((n % 256 : Nat) : Int) := fun n => by rw [Int.tmod_eq_emod_of_nonneg (by omega)]; omega
  have d1 := d 256 (by decide)
  have d2 := d 65536 (by decide)
  have d3 := d 16777216 (by decide)
  rw [show IntKind.u32.wrap (Int.tdiv (c : Int) 256) = _ from d1, show IntKind.u32.wrap (Int.tdiv (c : Int) 65536) = _ from d2, show IntKind.u32.wrap (Int.tdiv (c : Int) 16777216) = _ from d3, m, m, m, e, e, e, e, Nat.mod_mod, Nat.mod_mod, Nat.mod_mod]
  rfl
theorem refSeal_ok {x : Sl} {b : List UInt8} {w : World} (hx : Bs w x b) (hl : b.length ≤ 140737488351232) :
    cl Tryd.prog n_flumeref01_Seal #[.slice x.a x.n x.c] .L w fun (r : Sl) w' => OwB w' w.heap.size t_uint8 r (sealB b) ∧ Fr w w' := by
  refine flumeref01_Seal.cl ?_
  unfold flumeref01_Seal
  refine (refCrc_ok hx hl).mono ?_
  rintro _ _ ⟨rfl, rfl⟩
  refine nwI fun a3 w4 ha3 hs4 hf4 hb3 _ => ?_
  refine app0B slB (base := w.heap.size) hb3 (by omega) (hx.fr hf4) (by omega) hf4.size fun r5 w6 h5 hf6 => ?_
  have hf6' := hf4.trans hf6
  rw [le4_ref (crcN_lt b)]
  refine nwI fun a7 w8 ha7 hs8 hf8 hb7 hr7 => ?_
  refine app_B slB (base := w.heap.size) (m := le4 (crcN b)) (h5.fr hf8) hr7 rfl (by simp [le4]; omega) (hf6'.trans hf8).size fun r9 w10 h9 hb10 _ _ => ⟨h9, (hf6'.trans hf8).on hb10⟩
theorem refOpenB_ok {x : Sl} {b : List UInt8} {w : World} (hx : Bs w x b) (hl : b.length ≤ 140737488351232) :
    cl Tryd.prog n_flumeref01_Open #[.slice x.a x.n x.c] (.tup (.pair .L (.pair (.I .i64) .nil))) w fun (r : Sl × Int × Unit) w' => OwB w' w.heap.size t_uint8 r.1 (openB b).1 ∧ r.2 = (((openB b).2 : Int), ()) ∧ Fr w w' := by
  refine flumeref01_Open.cl ?_
  unfold flumeref01_Open
  have hn := hx.len
  refine bD ?_ ?_ <;> intro h4
  · have e : openB b = ([], 2) := by rw [openB, if_pos (by omega)]
    rw [e]
    exact ⟨OwB.nil _ _ _, rfl, Fr.refl w⟩
  refine nwI fun a1 w2 ha1 hs2 hf2 hb1 _ => ?_
  rw [i64w (n := (x.n : Int) - 4) (by omega) (by omega)]
  refine slsB (hx.fr hf2) (by decide) (by omega) (by omega) fun r3 h3 _ _ => ?_
  rw [Int.toNat_zero, List.drop_zero, show ((x.n : Int) - 4).toNat = b.length - 4 from by omega] at h3
  refine app0B slB (base := w.heap.size) hb1 (by omega) h3 (by rw [List.length_take]; omega) hf2.size fun r4 w5 h4' hf5 => ?_
  intro n
  have hf6 := (hf2.trans hf5).trans (Fr.drewN w5 n)
  refine bstrI (hx.fr hf6).rd hx.len.symm (Fr.refl _) ?_
  refine (refSeal_ok (h4'.fr (Fr.drewN w5 n)).bs (by rw [List.length_take]; omega)).mono ?_
  rintro x8 w9 ⟨h8, hf9⟩
  refine ⟨hf9, bstrI h8.rd h8.len.symm (Fr.refl _) ?_⟩
  rw [beqB_eq]
  have key : sealB (b.take (b.length - 4)) = b ↔ le4 (crcN (b.take (b.length - 4))) = b.drop (b.length - 4) := by
    conv => lhs; rhs; rw [← List.take_append_drop (b.length - 4) b]
    rw [sealB, List.append_cancel_left_eq]
  by_cases h : le4 (crcN (b.take (b.length - 4))) = b.drop (b.length - 4)
  · have e : openB b = (b.take (b.length - 4), 0) := by rw [openB, if_neg (by omega), if_pos h]
    rw [e]
    refine bF (by rw [decide_eq_true (key.2 h)]; rfl) ?_
    exact ⟨(h4'.fr (Fr.drewN w5 n)).fr hf9, rfl, hf6.trans hf9⟩
  · have e : openB b = ([], 10) := by rw [openB, if_neg (by omega), if_neg h]
    rw [e]
    refine bT (by rw [decide_eq_false fun hh => h (key.1 hh)]; rfl) ?_
    exact ⟨OwB.nil _ _ _, rfl, hf6.trans hf9⟩
end Go.Proofs.YtmhibpcbdbhfoaaDoor
namespace Go.Fl

theorem lookS_le (l : List UInt8) : (lookS l).2.1 ≤ l.length := by
  cases l with
  | nil => simp [lookS]
  | cons b t =>
    rw [lookS_cons]
    generalize beN (if ones b.toNat < 8 then b.toNat % 2 ^ (7 - ones b.toNat) else 0) (t.take (ones b.toNat)) = X
    split
    · simp
    · split
      · simp
      · split
        · simp
        · simp; omega
theorem look_err {l : List UInt8} (h : (lookS l).2.2 ≠ 0) : (lookS l).1 = 0 ∧ (lookS l).2.1 = 0 := by
  cases l with
  | nil => simp [lookS]
  | cons b t =>
    rw [lookS_cons] at h ⊢
    generalize beN (if ones b.toNat < 8 then b.toNat % 2 ^ (7 - ones b.toNat) else 0) (t.take (ones b.toNat)) = X at *
    split
    · simp
    · split
      · simp
      · split
        · simp
        · rename_i h1 h2 h3
          rw [if_neg h1, if_neg h2, if_neg h3] at h
          simp at h
theorem look_short {x j : Nat} (hj : j < (numB x).length) : lookS ((numB x).take j) = (0, 0, 2) := by
  cases j with
  | zero => rfl
  | succ j =>
    rw [numB_length] at hj
    have hsp := (moreF_spec (f := 8) (x := x)).1
    change moreN x < 8 → x < 128 ^ (moreN x + 1) at hsp
    have hlt := leadB_lt hsp (moreN_le x)
    have hb : (UInt8.ofNat (leadB x (moreN x))).toNat = leadB x (moreN x) := by simp; omega
    rw [numB, List.take_succ_cons, lookS_cons, hb, ones_lead, if_pos (by simp [lowB_length]; omega)]
/-- The next byte; its error; how many bytes are read. -/
def rdByte : List UInt8 → Nat × Nat × Nat
  | [] => (0, 2, 0)
  | b :: _ => (b.toNat, 0, 1)
/-- The next number from lo to hi; its error; how many bytes are read. -/
def rdWithin (l : List UInt8) (lo hi : Int) : Int × Int × Nat :=
  if (lookS l).2.2 ≠ 0 then (0, (lookS l).2.2, 0) else if ((lookS l).1 : Int) < lo ∨ ((lookS l).1 : Int) > hi then (0, 5, 0) else ((lookS l).1, 0, (lookS l).2.1)
/-- The next yes or no. -/
def rdFlag (l : List UInt8) : Bool × Nat × Nat :=
  if (lookS l).2.2 ≠ 0 then (false, (lookS l).2.2, 0) else if (lookS l).1 > 1 then (false, 20, 0) else (decide ((lookS l).1 = 1), 0, (lookS l).2.1)
/-- The next text; its error; how many bytes are read. -/
def rdText (l : List UInt8) (most : Int) : List UInt8 × Nat × Nat :=
  if (lookS l).2.2 ≠ 0 then ([], (lookS l).2.2, 0) else if ((lookS l).1 : Int) > max most 0 then ([], 4, 0) else
  if (lookS l).1 > l.length - (lookS l).2.1 then ([], 2, 0) else ((l.drop (lookS l).2.1).take (lookS l).1, 0, (lookS l).2.1 + (lookS l).1)
theorem rdText_le (l : List UInt8) (most : Int) : (rdText l most).2.2 ≤ l.length := by
  have := lookS_le l
  unfold rdText
  repeat' split
  all_goals simp
  omega
theorem rdFlag_le (l : List UInt8) : (rdFlag l).2.2 ≤ l.length := by
  have := lookS_le l
  unfold rdFlag
  repeat' split
  all_goals simp
  omega
theorem rdWithin_le (l : List UInt8) (lo hi : Int) : (rdWithin l lo hi).2.2 ≤ l.length := by
  have := lookS_le l
  unfold rdWithin
  repeat' split
  all_goals simp
  omega
theorem rdByte_le (l : List UInt8) : (rdByte l).2.2 ≤ l.length := by cases l <;> simp [rdByte]
theorem rdText_err {l : List UInt8} {most : Int} (h : (rdText l most).2.1 ≠ 0) : (rdText l most).2.2 = 0 ∧ (rdText l most).1 = [] := by
  unfold rdText at h ⊢
  split
  · simp
  · split
    · simp
    · split
      · simp
      · rename_i h1 h2 h3
        rw [if_neg h1, if_neg h2, if_neg h3] at h
        simp at h
/-- A text that was put is read. -/
theorem rdText_put {m : List UInt8} {most : Int} (hm : m.length ≤ 9223372036854775807) (hh : (m.length : Int) ≤ max most 0) (rest : List UInt8) : rdText (numB m.length ++ (m ++ rest)) most = (m, 0, (numB m.length).length + m.length) := by
  unfold rdText
  rw [look_num hm]
  simp only [numB_length]
  rw [if_neg (by simp), if_neg (by omega), if_neg (by simp [numB_length])]
  have : (numB m.length ++ (m ++ rest)).drop (moreN m.length + 1) = m ++ rest := by rw [← numB_length, List.drop_left]
  rw [this, List.take_left]
theorem rdFlag_put (y : Bool) (rest : List UInt8) : rdFlag (numB (bif y then 1 else 0) ++ rest) = (y, 0, (numB (bif y then 1 else 0)).length) := by
  unfold rdFlag
  have h : (bif y then 1 else 0) ≤ 1 := by cases y <;> decide
  rw [look_num (by omega)]
  simp only [numB_length]
  rw [if_neg (by simp), if_neg (by omega)]
  cases y <;> simp
/-- A text's beginning is too short. -/
theorem rdText_short {m : List UInt8} {most : Int} (hm : m.length ≤ 9223372036854775807) (hh : (m.length : Int) ≤ max most 0) {j : Nat} (hj : j < (numB m.length).length + m.length) : (rdText ((numB m.length ++ m).take j) most).2.1 = 2 := by
  rcases Nat.lt_or_ge j (numB m.length).length with h | h
  · rw [List.take_append_of_le_length (by omega)]
    unfold rdText
    rw [look_short h]
    simp
  · rw [List.take_append, List.take_of_length_le h]
    unfold rdText
    rw [look_num hm]
    simp only [List.length_append, List.length_take]
    rw [if_neg (by simp), if_neg (by omega), if_pos (by rw [numB_length] at *; omega)]
/-- What is read, put again, is what was read. -/
theorem rdText_back {l : List UInt8} {most : Int} (h : (rdText l most).2.1 = 0) : l.take (rdText l most).2.2 = numB (rdText l most).1.length ++ (rdText l most).1 := by
  unfold rdText at h ⊢
  have hle := lookS_le l
  split
  · rename_i h1; rw [if_pos h1] at h; exact absurd h h1
  · rename_i h1
    rw [if_neg h1] at h
    split
    · rename_i h2; rw [if_pos h2] at h; simp at h
    · rename_i h2
      rw [if_neg h2] at h
      split
      · rename_i h3; rw [if_pos h3] at h; simp at h
      · rename_i h3
        obtain ⟨n, k, e, hl⟩ : ∃ n k e, lookS l = (n, k, e) := ⟨_, _, _, rfl⟩
        rw [hl] at h1 h2 h3 hle ⊢
        have h1 := Decidable.not_not.1 h1
        dsimp only at h1 h2 h3 hle ⊢
        subst h1
        obtain ⟨hk, hkl, ht, hn⟩ := look_back hl
        rw [List.length_take, List.length_drop, Nat.min_eq_left (by omega), List.take_add, ht]
end Go.Fl
namespace Go.Proofs.YtmhibpcbdbhfoaaDoor
open Go.RowKit Go.Fl

/-- A reader over bytes. -/
def Rdr (w : World) (base g : Nat) (l : List UInt8) : Prop :=
  ∃ s : Sl, w.heap[g]? = some (.cells #[.slice s.a s.n s.c, .bool true] t_octet_Reader (0, 0)) ∧ Bs w s l ∧ (∀ ad, s.a = some ad → base ≤ ad.block ∧ ad.block < g) ∧ l.length ≤ 140737488351232
theorem Rdr.fr {w w' : World} {base g : Nat} {l : List UInt8} (h : Rdr w base g l) (hf : Fr w w') : Rdr w' base g l := by
  obtain ⟨s, h1, h2, h3⟩ := h
  exact ⟨s, hf.heap h1, h2.fr hf, h3⟩
theorem Rdr.kp {S : Nat → Prop} {w w' : World} {base g : Nat} {l : List UInt8} (h : Rdr w base g l) (hk : Kp S w w') (hS : ∀ k, base ≤ k → k ≤ g → S k) (hg : base ≤ g) : Rdr w' base g l := by
  obtain ⟨s, h1, h2, h3, h4⟩ := h
  exact ⟨s, (hk g (Array.getElem?_eq_some_iff.1 h1).1 (hS g hg (Nat.le_refl _))).trans h1, h2.kp hk fun ad ha => hS _ (h3 ad ha).1 (Nat.le_of_lt (h3 ad ha).2), h3, h4⟩
theorem Rdr.lt {w : World} {base g : Nat} {l : List UInt8} (h : Rdr w base g l) : g < w.heap.size := by
  obtain ⟨s, h1, _⟩ := h
  exact (Array.getElem?_eq_some_iff.1 h1).1

/-- The reader goes on. -/
theorem Rdr.adv {w : World} {base g : Nat} {l : List UInt8} (h : Rdr w base g l) {i : Int} {k : Nat} (hi : i = k) (hk : k ≤ l.length) {K : World → Prop}
    (hK : ∀ w', Rdr w' base g (l.drop k) → w.grownBy w' (some g) → w'.heap.size = w.heap.size → K w') :
    nz (some ⟨g, 0, none⟩) fun a => ld .L w a fun (x : Sl) => sls x i x.n 1 fun r => nz (some ⟨g, 0, none⟩) fun a' => st1 w a' (.slice r.a r.n r.c) fun w' => K w' := by
  obtain ⟨s, h1, h2, h3, h4⟩ := h
  have hl := h2.len
  subst hi
  show ld .L w ⟨g, 0, none⟩ _
  refine ldL0 h1 rfl ?_
  refine slsB h2 (by omega) (by omega) (by omega) fun r hr ha _ => ?_
  show st1 w ⟨g, 0, none⟩ _ _
  refine st0 h1 (by simp) fun w' hb hg hsz => hK w' ⟨r, hb, ?_, ?_, by simp; omega⟩ hg hsz
  · rw [Int.toNat_natCast, Int.toNat_natCast, List.take_of_length_le (by omega)] at hr
    refine hr.kp (kp_grown hg) fun ad had => ?_
    obtain ⟨ad', h5, h6⟩ := ha ad had
    rw [h6]
    exact Nat.ne_of_lt (h3 ad' h5).2
  · intro ad had
    obtain ⟨ad', h5, h6⟩ := ha ad had
    rw [h6]
    exact h3 ad' h5

theorem Read_ok {s : Sl} {l : List UInt8} {w : World} (hs : Bs w s l) (hl : l.length ≤ 140737488351232) :
    cl Tryd.prog n_octet_Read #[.slice s.a s.n s.c] .P w fun (r : Option Addr) w' => ∃ g, r = some ⟨g, 0, none⟩ ∧ w.heap.size ≤ g ∧ Rdr w' w.heap.size g l ∧ Fr w w' := by
  refine octet_Read.cl ?_
  unfold octet_Read
  refine copyB slB hs (by omega) fun r w1 ho hf => ?_
  refine nwI fun b w2 hb hsz hf2 hblk _ => ?_
  have hh := hf.size
  exact ⟨b, rfl, by omega, ⟨r, hblk, ho.bs.fr hf2, fun ad ha => ⟨(ho.own ad ha).1, by have := (ho.own ad ha).2; omega⟩, hl⟩, hf.trans hf2⟩

section
variable {w : World} {base g : Nat} {l : List UInt8}
/-- The next number, its error, how many bytes it has. -/
theorem Reader_Number_ok (h : Rdr w base g l) : cl Tryd.prog n_octet_Reader_Number #[.pointer (some ⟨g, 0, none⟩)] (.tup (.pair (.I .i64) (.pair (.I .i64) .nil))) w
    fun (r : Int × Int × Unit) w' => r = (((lookS l).1 : Int), ((lookS l).2.2 : Int), ()) ∧ Rdr w' base g (l.drop (lookS l).2.1) ∧ w.grownBy w' (some g) := by
  have h' := h
  obtain ⟨s, h1, h2, h3, h4⟩ := h
  refine octet_Reader_Number.cl ?_
  unfold octet_Reader_Number
  refine bF rfl ?_
  show ld .B w ⟨g, 1, none⟩ _
  refine ldB0 h1 rfl (bF rfl ?_)
  show ld .L w ⟨g, 0, none⟩ _
  refine ldL0 h1 rfl ?_
  refine (octet_look_ok h2 h4).mono ?_
  rintro _ _ ⟨rfl, rfl⟩
  exact h'.adv rfl (lookS_le l) fun w' hr hg _ => ⟨rfl, hr, hg⟩

theorem End_ok (h : Rdr w base g l) : cl Tryd.prog n_octet_Reader_End #[.pointer (some ⟨g, 0, none⟩)] (.I .i64) w fun (r : Int) w' => r = (if l = [] then 0 else 3) ∧ w = w' := by
  obtain ⟨s, h1, h2, h3, h4⟩ := h
  refine octet_Reader_End.cl ?_
  unfold octet_Reader_End
  refine bF rfl ?_
  show ld .B w ⟨g, 1, none⟩ _
  refine ldB0 h1 rfl (bF rfl ?_)
  show ld .L w ⟨g, 0, none⟩ _
  refine ldL0 h1 rfl ?_
  have hl := h2.len
  cases l with
  | nil => exact bN (by simp [hl]) ⟨rfl, rfl⟩
  | cons b t => exact bP (by simp [hl]) ⟨rfl, rfl⟩

theorem Reader_Text_ok (h : Rdr w base g l) {most : Int} : cl Tryd.prog n_octet_Reader_Text #[.pointer (some ⟨g, 0, none⟩), .int .i64 most] (.tup (.pair .L (.pair (.I .i64) .nil))) w
    fun (r : Sl × Int × Unit) w' => r.2 = (((rdText l most).2.1 : Int), ()) ∧ OwB w' w.heap.size t_uint8 r.1 (rdText l most).1 ∧ Rdr w' base g (l.drop (rdText l most).2.2) ∧ w.grownBy w' (some g) := by
  have h' := h
  obtain ⟨s, h1, h2, h3, h4⟩ := h
  refine octet_Reader_Text.cl ?_
  unfold octet_Reader_Text
  refine bF rfl ?_
  show ld .B w ⟨g, 1, none⟩ _
  refine ldB0 h1 rfl (bF rfl ?_)
  show ld .L w ⟨g, 0, none⟩ _
  refine ldL0 h1 rfl ?_
  refine (octet_look_ok h2 h4).mono ?_
  rintro _ _ ⟨rfl, rfl⟩
  dsimp only
  have hle := lookS_le l
  have hn := h2.len
  unfold rdText
  refine bNe ?_ ?_ <;> intro he
  · rw [if_pos (by omega)]
    exact ⟨rfl, OwB.nil _ _ _, h', World.grownBy.refl _ _⟩
  · rw [if_neg (by omega)]
    refine bD ?_ ?_ <;> intro hm
    · rw [if_pos hm]
      exact ⟨rfl, OwB.nil _ _ _, h', World.grownBy.refl _ _⟩
    · rw [if_neg hm]
      show ld .L w ⟨g, 0, none⟩ _
      refine ldL0 h1 rfl ?_
      rw [i64w (n := (s.n : Int) - _) (by omega) (by omega)]
      refine bD ?_ ?_ <;> intro hs
      · rw [if_pos (by omega)]
        exact ⟨rfl, OwB.nil _ _ _, h', World.grownBy.refl _ _⟩
      · rw [if_neg (by omega)]
        generalize (lookS l).2.1 = k at *
        generalize (lookS l).1 = n at *
        refine nwI fun b w1 hb hsz hf hblk _ => ?_
        show ld .L w1 ⟨g, 0, none⟩ _
        refine ldL0 (hf.heap h1) rfl ?_
        rw [i64w (n := (k : Int) + n) (by omega) (by omega)]
        refine slsB (h2.fr hf) (by omega) (by omega) (by omega) fun x hx _ _ => ?_
        rw [show ((k : Int) + n).toNat = k + n from by omega, Int.toNat_natCast] at hx
        refine app_B slB (base := w.heap.size) (l := []) (OwB.new hblk (by omega)) hx.rd hx.len.symm (by simp; omega) hf.size fun r w2 ho hb2 hkp hor => ?_
        have hf2 : Fr w w2 := hf.on hb2
        refine (h'.fr hf2).adv (k := k + n) (by omega) (by omega) fun w3 hr hg hsz3 => ⟨rfl, ?_, hr, ?_⟩
        · have hlt := h'.lt
          have e : (l.take (k + n)).drop k = (l.drop k).take n := by rw [List.drop_take, Nat.add_sub_cancel_left]
          rw [List.nil_append, e] at ho
          refine ho.kp (kp_grown hg) fun ad ha => ?_
          have := (ho.own ad ha).1
          omega
        · exact World.grownBy.trans (fr_grown hf2) hg
end

/-- No reader: none, or one that no call made. -/
def NoRdr (w : World) (p : Option Addr) : Prop := p = none ∨ ∃ g, p = some ⟨g, 0, none⟩ ∧ w.heap[g]? = some (.cells #[.slice none 0 0, .bool false] t_octet_Reader (0, 0))
section
variable {w : World} {p : Option Addr}
theorem no_Number (h : NoRdr w p) : cl Tryd.prog n_octet_Reader_Number #[.pointer p] (.tup (.pair (.I .i64) (.pair (.I .i64) .nil))) w fun (r : Int × Int × Unit) w' => r = (0, 6, ()) ∧ w = w' := by
  refine octet_Reader_Number.cl ?_
  unfold octet_Reader_Number
  rcases h with rfl | ⟨g, rfl, h1⟩
  · exact bT rfl ⟨rfl, rfl⟩
  · refine bF rfl ?_
    show ld .B w ⟨g, 1, none⟩ _
    exact ldB0 h1 rfl (bT rfl ⟨rfl, rfl⟩)
theorem no_Text (h : NoRdr w p) {most : Int} : cl Tryd.prog n_octet_Reader_Text #[.pointer p, .int .i64 most] (.tup (.pair .L (.pair (.I .i64) .nil))) w fun (r : Sl × Int × Unit) w' => r = (⟨none, 0, 0⟩, 6, ()) ∧ w = w' := by
  refine octet_Reader_Text.cl ?_
  unfold octet_Reader_Text
  rcases h with rfl | ⟨g, rfl, h1⟩
  · exact bT rfl ⟨rfl, rfl⟩
  · refine bF rfl ?_
    show ld .B w ⟨g, 1, none⟩ _
    exact ldB0 h1 rfl (bT rfl ⟨rfl, rfl⟩)
theorem no_End (h : NoRdr w p) : cl Tryd.prog n_octet_Reader_End #[.pointer p] (.I .i64) w fun (r : Int) w' => r = 6 ∧ w = w' := by
  refine octet_Reader_End.cl ?_
  unfold octet_Reader_End
  rcases h with rfl | ⟨g, rfl, h1⟩
  · exact bT rfl ⟨rfl, rfl⟩
  · refine bF rfl ?_
    show ld .B w ⟨g, 1, none⟩ _
    exact ldB0 h1 rfl (bT rfl ⟨rfl, rfl⟩)
end
end Go.Proofs.YtmhibpcbdbhfoaaDoor
namespace Go.Proofs.YtmhibpcbdbhfoaaDoor
open Go.RowKit Go.Fl

theorem Follow_ok {x : Nat} {w : World} (h1 : x ≤ 9223372036854775807) : cl Tryd.prog n_flumeref02_Follow #[.int .i64 (x : Int)] (.I .i64) w fun (r : Int) w' => r = moreN x ∧ w = w' := by
  refine flumeref02_Follow.cl ?_
  unfold flumeref02_Follow
  refine lpI (fun s w' => w = w' ∧ ∃ k : Nat, k ≤ 8 ∧ s.2.1 = k ∧ s.1 = ((x / 128 ^ k : Nat) : Int) ∧ ∀ j, j < k → 128 ^ (j + 1) ≤ x) (fun s _ => (8 - s.2.1).toNat) ⟨rfl, 0, by omega, rfl, by simp, fun j h => by omega⟩ ?_
  rintro _ ⟨n, s, ⟨⟩⟩ w' ⟨rfl, k, hk, rfl, rfl, hn⟩
  dsimp only
  have hd : Int.tdiv ((x / 128 ^ k : Nat) : Int) 128 = ((x / 128 ^ (k + 1) : Nat) : Int) := by
    rw [Nat.pow_succ, ← Nat.div_div_eq_div_mul]
    exact (Int.ofNat_tdiv _ _).symm
  have hle : x / 128 ^ (k + 1) ≤ x := Nat.div_le_self _ _
  rw [hd]
  have hpos : 0 < 128 ^ (k + 1) := Nat.pow_pos (by decide)
  have hiff : x / 128 ^ (k + 1) > 0 ↔ 128 ^ (k + 1) ≤ x := by show 0 < _ ↔ _; rw [Nat.div_pos_iff]; omega
  generalize hq : x / 128 ^ (k + 1) = q at *
  rw [i64w (n := (q : Int)) (by omega) (by omega)]
  refine bD ?_ ?_ <;> intro h8
  · refine bD ?_ ?_ <;> intro hp
    · rw [i64w (by omega) (by omega)]
      refine ⟨⟨rfl, k + 1, by omega, rfl, by rw [hq], fun j hj => ?_⟩, by omega⟩
      by_cases hjk : j = k
      · subst hjk; exact hiff.1 (by omega)
      · exact hn j (by omega)
    · refine ⟨?_, rfl⟩
      rw [moreN, moreF_of (k := k) (by omega) (by have := mt hiff.2; omega) hn]
  · obtain rfl : k = 8 := by omega
    refine ⟨?_, rfl⟩
    rw [moreN, moreF_top hn]

theorem Lead_ok {k : Nat} {w : World} (hk : k ≤ 8) : cl Tryd.prog n_flumeref02_Lead #[.int .i64 (k : Int)] (.I .i64) w fun (r : Int) w' => r = ((256 - 2 ^ (8 - k) : Nat) : Int) ∧ w = w' := by
  refine flumeref02_Lead.cl ?_
  unfold flumeref02_Lead
  refine lpI (fun s w' => w = w' ∧ ∃ i : Nat, i ≤ k ∧ s.2.2.1 = i ∧ s.1 = ((256 - 2 ^ (8 - i) : Nat) : Int) ∧ s.2.1 = ((128 / 2 ^ i : Nat) : Int)) (fun s _ => (k - s.2.2.1).toNat) ⟨rfl, 0, by omega, rfl, by simp, by simp⟩ ?_
  rintro _ ⟨n, b, i, ⟨⟩⟩ w' ⟨rfl, i, hi, rfl, rfl, rfl⟩
  dsimp only
  refine bD ?_ ?_ <;> intro h
  · have hi' : i < 8 := by omega
    refine ⟨⟨rfl, i + 1, by omega, by rw [i64w (by omega) (by omega)]; rfl, ?_, ?_⟩, by rw [i64w (by omega) (by omega)]; omega⟩
    · clear h hi hk
      revert i
      decide +kernel
    · clear h hi hk
      revert i
      decide +kernel
  · obtain rfl : i = k := by omega
    exact ⟨rfl, rfl⟩

theorem low_tail {x k : Nat} : [UInt8.ofNat (x / 256 ^ k)] ++ lowB x k = lowB x (k + 1) := rfl
theorem ref_Number_ok {s : Sl} {n : Int} {l : List UInt8} {w : World} (hs : Bs w s l) (hl : l.length ≤ 1099511627776) (hn : n ≤ 9223372036854775807) :
    cl Tryd.prog n_flumeref02_Number #[.slice s.a s.n s.c, .int .i64 n] .L w fun (r : Sl) w' => OwB w' w.heap.size t_uint8 r (l ++ numB n.toNat) ∧ Fr w w' := by
  refine flumeref02_Number.cl ?_
  unfold flumeref02_Number
  have hx : max n 0 = (n.toNat : Int) := by omega
  rw [hx]
  generalize hxx : n.toNat = x
  refine (Follow_ok (by omega)).mono ?_
  rintro _ _ ⟨rfl, rfl⟩
  have hk8 := moreN_le x
  have hsp := (moreF_spec (f := 8) (x := x)).1
  change moreN x < 8 → x < 128 ^ (moreN x + 1) at hsp
  have hlt := leadB_lt hsp hk8
  have hnum : numB x = UInt8.ofNat (leadB x (moreN x)) :: lowB x (moreN x) := rfl
  generalize moreN x = k at *
  refine lpI (fun s w' => ∃ i : Nat, i ≤ k ∧ s.2.2.1 = i ∧ s.1 = ((x / 256 ^ i : Nat) : Int) ∧ OwB w' w.heap.size t_uint8 s.2.1 (lowB x i) ∧ Fr w w') (fun s _ => (k - s.2.2.1).toNat) ⟨0, by omega, rfl, by simp, OwB.nil _ _ _, Fr.refl w⟩ ?_
  rintro _ ⟨n', t, i, ⟨⟩⟩ w1 ⟨i, hi, rfl, rfl, ht, hf⟩
  dsimp only at ht ⊢
  have hle : x / 256 ^ i ≤ x := Nat.div_le_self _ _
  refine bD ?_ ?_ <;> intro h
  · have hc : IntKind.u8.wrap (Int.tmod ((x / 256 ^ i : Nat) : Int) 256) = ((UInt8.ofNat (x / 256 ^ i)).toNat : Int) := by
      rw [u8w, u8_ofNat]
      have : Int.tmod ((x / 256 ^ i : Nat) : Int) 256 = ((x / 256 ^ i % 256 : Nat) : Int) := (Int.ofNat_tmod _ _).symm
      rw [this]
      omega
    rw [hc]
    refine nwI fun b w2 hb hsz hf2 hblk hrd => ?_
    have hh := hf.size
    refine app_B slB (base := w.heap.size) (l := [UInt8.ofNat (x / 256 ^ i)]) (m := lowB x i) ⟨rfl, .inr ⟨b, 1, _, rfl, by omega, hblk, Nat.le_refl _, by decide, rfl, rfl⟩⟩ (ht.fr hf2).rd ht.len.symm (by simp [lowB_length]; omega) (by omega) fun r w3 ho hb3 _ _ => ?_
    have hd : Int.tdiv ((x / 256 ^ i : Nat) : Int) 256 = ((x / 256 ^ (i + 1) : Nat) : Int) := by
      rw [Nat.pow_succ, ← Nat.div_div_eq_div_mul]
      exact (Int.ofNat_tdiv _ _).symm
    have hle' : x / 256 ^ (i + 1) ≤ x := Nat.div_le_self _ _
    rw [hd, i64w (n := (i : Int) + 1) (by omega) (by omega)]
    refine ⟨⟨i + 1, by omega, rfl, ?_, ho, (hf.trans hf2).on hb3⟩, by omega⟩
    generalize x / 256 ^ (i + 1) = q at *
    exact i64w (by omega) (by omega)
  · obtain rfl : i = k := by omega
    refine nwI fun b w2 hb hsz hf2 hblk _ => ?_
    have hh := hf.size
    refine app_B slB (base := w1.heap.size) (l := []) (OwB.new hblk (by omega)) (hs.fr (hf.trans hf2)).rd hs.len.symm (by simp; omega) (by omega) fun r w3 ho hb3 _ _ => ?_
    have hf3 : Fr w1 w3 := hf2.on hb3
    refine (Lead_ok hk8).mono ?_
    rintro _ _ ⟨rfl, rfl⟩
    have hlead : IntKind.u8.wrap (IntKind.i64.wrap (((256 - 2 ^ (8 - i) : Nat) : Int) + ((x / 256 ^ i : Nat) : Int))) = ((UInt8.ofNat (leadB x i)).toNat : Int) := by
      have e : leadB x i = 256 - 2 ^ (8 - i) + x / 256 ^ i := by
        unfold leadB
        split
        · rfl
        · obtain rfl : i = 8 := by omega
          rw [Nat.div_eq_of_lt (show x < 256 ^ 8 by omega)]
      rw [u8_ofNat, u8w, e]
      generalize x / 256 ^ i = q at *
      generalize 256 - 2 ^ (8 - i) = p at *
      rw [i64w (by omega) (by omega)]
      omega
    rw [hlead]
    refine nwI fun b4 w4 hb4 hsz4 hf4 hblk4 hrd4 => ?_
    have hh3 := hf3.size
    refine app_B slB (base := w1.heap.size) (m := [UInt8.ofNat (leadB x i)]) (ho.fr hf4) hrd4 rfl (by simp; omega) (by omega) fun r5 w5 ho5 hb5 _ _ => ?_
    have hf5 : Fr w1 w5 := (hf3.trans hf4).on hb5
    have hh5 := hf5.size
    refine app_B slB (base := w1.heap.size) ho5 (ht.fr hf5).rd ht.len.symm (by simp [lowB_length]; omega) (by omega) fun r6 w6 ho6 hb6 _ _ => ⟨?_, hf.trans (hf5.on hb6)⟩
    rw [hnum]
    simpa using ho6.mono hh

theorem ref_Text_ok {s x : Sl} {l m : List UInt8} {w : World} (hs : Bs w s l) (hx : Bs w x m) (hl : l.length ≤ 549755813888) (hm : m.length ≤ 549755813888) :
    cl Tryd.prog n_flumeref02_Text #[.slice s.a s.n s.c, .slice x.a x.n x.c] .L w fun (r : Sl) w' => OwB w' w.heap.size t_uint8 r (l ++ numB m.length ++ m) ∧ Fr w w' := by
  refine flumeref02_Text.cl ?_
  unfold flumeref02_Text
  have hn := hx.len
  have h9 := numB_le m.length
  refine (ref_Number_ok hs (by omega) (by omega)).mono ?_
  rintro r w1 ⟨ho, hf⟩
  rw [Int.toNat_natCast, hn] at ho
  refine app_B slB (base := w.heap.size) ho (hx.fr hf).rd hn.symm (by simp; omega) hf.size fun r w2 ho2 hb2 _ _ => ⟨ho2, hf.on hb2⟩

end Go.Proofs.YtmhibpcbdbhfoaaDoor
namespace Go.Proofs.YtmhibpcbdbhfoaaDoor
open Go.RowKit Go.Fl

theorem Lead_q {k : Nat} {w : World} {K : Int → Prop} (hk : k ≤ 8) (h : K ((256 - 2 ^ (8 - k) : Nat) : Int)) : qcl Tryd.prog n_flumeref02_Lead #[.int .i64 (k : Int)] (.I .i64) w K := by
  refine ⟨((256 - 2 ^ (8 - k) : Nat) : Int), fun n => (Lead_ok hk).mono ?_, h⟩
  rintro _ _ ⟨rfl, rfl⟩
  exact ⟨rfl, n, rfl⟩

theorem ref_Look_ok {s : Sl} {l : List UInt8} {w : World} (hs : Bs w s l) (hl : l.length ≤ 140737488351232) :
    cl Tryd.prog n_flumeref02_Look #[.slice s.a s.n s.c] (.tup (.pair (.I .i64) (.pair (.I .i64) (.pair (.I .i64) .nil)))) w
      fun (r : Int × Int × Int × Unit) w' => r = (((lookS l).1 : Int), ((lookS l).2.1 : Int), ((lookS l).2.2 : Int), ()) ∧ Fr w w' := by
  refine flumeref02_Look.cl ?_
  unfold flumeref02_Look
  have hn := hs.len
  cases l with
  | nil => exact bT (by simp [hn]) ⟨rfl, Fr.refl w⟩
  | cons b t =>
    refine bF (by simp [hn]; omega) ?_
    have hb := b.toNat_lt
    have ho := ones_le b.toNat
    rw [List.length_cons] at hn hl
    intro j1
    have hj : ∀ w', Fr w w' → j1 (ones b.toNat : Int) w' := by
      intro w' hf
      have hoy := ones_y hb
      have hsp := (ones_spec hb).1
      show bif _ then _ else _
      rw [lookS_cons, hoy]
      have hiff : ∀ X, X = beN (b.toNat - (256 - 2 ^ (8 - ones b.toNat))) (t.take (ones b.toNat)) → ones b.toNat ≤ t.length → X ≤ 9223372036854775807 → (numB X = b :: t.take (ones b.toNat) ↔ moreN X = ones b.toNat) := fun X h1 h2 h3 => num_iff h1 h2 h3
      generalize ones b.toNat = k at *
      rw [i64w (n := (k : Int) + 1) (by omega) (by omega)]
      refine bD ?_ ?_ <;> intro hlen
      · rw [if_pos (by omega)]; exact ⟨rfl, hf⟩
      · rw [if_neg (by omega)]
        refine ixB0 hs.rd (by simp [hn]) hf ?_
        refine Lead_q ho ?_
        intro n1
        have hf1 : Fr w (w'.drewN n1) := hf.trans (Fr.drewN _ _)
        generalize w'.drewN n1 = w1 at hf1
        generalize hy : b.toNat - (256 - 2 ^ (8 - k)) = y at *
        have hkt : k ≤ t.length := by omega
        refine lpI (fun s' w'' => Fr w w'' ∧ ∃ i : Nat, i ≤ k ∧ s'.2.1 = (i : Int) + 1 ∧ s'.1 = (beN y (t.take i) : Nat) ∧ beN y (t.take i) ≤ 9223372036854775807) (fun s' _ => (k + 1 - s'.2.1).toNat) ⟨hf1, 0, by omega, rfl, ?_, ?_⟩ ?_
        · rw [i64w (n := (b.toNat : Int)) (by omega) (by omega), i64w (by omega) (by omega)]
          show _ = ((y : Nat) : Int)
          omega
        · show y ≤ _
          omega
        · rintro _ ⟨z, i, ⟨⟩⟩ w2 ⟨hf2, i, hik, rfl, rfl, h63⟩
          dsimp only
          refine bD ?_ ?_ <;> intro hi
          · have hik' : i < k := by omega
            have hX : beN y (t.take k) = beN (beN y (t.take i)) ((t.take k).drop i) := by
              rw [← beN_append]
              congr 1
              have := List.take_append_drop i (t.take k)
              rw [List.take_take, Nat.min_eq_left (by omega)] at this
              exact this.symm
            refine bD ?_ ?_ <;> intro hbig
            · have := beN_far (l := t.take k) (k := i) (show beN y (t.take i) ≥ 36028797018963968 by omega) (by rw [List.length_take]; omega)
              rw [hX, if_pos this]
              exact ⟨rfl, hf2⟩
            · refine ixB hs.rd (by simp [hn]) (by omega) (by rw [List.length_cons]; omega) hf2 ?_
              have e1 : ((i : Int) + 1).toNat = i + 1 := by omega
              have hst : t.take (i + 1) = t.take i ++ [t[i]] := by rw [List.take_succ_eq_append_getElem (by omega)]
              have hstep : beN y (t.take (i + 1)) = beN y (t.take i) * 256 + t[i].toNat := by rw [hst, beN_append]; rfl
              have hc := t[i].toNat_lt
              simp only [e1, List.getElem_cons_succ]
              rw [i64w (n := 256 * _) (by omega) (by omega), i64w (n := ((t[i].toNat : Nat) : Int)) (by omega) (by omega), i64w (by omega) (by omega), i64w (by omega) (by omega)]
              refine ⟨⟨hf2, i + 1, by omega, by simp, ?_, by omega⟩, by omega⟩
              rw [hstep]
              omega
          · obtain rfl : i = k := by omega
            have hiff := hiff _ rfl hkt h63
            generalize beN y (t.take i) = X at *
            rw [if_neg (by omega)]
            intro n2
            have hf3 : Fr w (w2.drewN n2) := hf2.trans (Fr.drewN _ _)
            generalize w2.drewN n2 = w3 at hf3
            refine slsB (hs.fr hf3) (by decide) (by omega) (by rw [List.length_cons]; omega) fun r hr _ _ => ?_
            rw [show ((i : Int) + 1).toNat = i + 1 from by omega, Int.toNat_zero, List.drop_zero, List.take_succ_cons] at hr
            refine bstrI hr.rd hr.len.symm (Fr.refl _) ?_
            refine (ref_Number_ok (Bs.nil w3 0) (by simp) (by omega)).mono ?_
            rintro x w4 ⟨hx, hf4⟩
            rw [List.nil_append, Int.toNat_natCast] at hx
            refine ⟨hf4, bstrI hx.rd hx.len.symm (Fr.refl _) ?_⟩
            rw [beqB_eq]
            by_cases hm : moreN X = i
            · rw [if_neg (by omega)]
              refine bF (by rw [decide_eq_true (hiff.2 hm)]; rfl) ⟨?_, hf3.trans hf4⟩
              simp
            · rw [if_pos hm]
              exact bT (by rw [decide_eq_false (fun h => hm (hiff.1 h))]; rfl) ⟨rfl, hf3.trans hf4⟩
    refine lpI (fun s' w' => Fr w w' ∧ ∃ k : Nat, k ≤ 8 ∧ s'.1 = k ∧ ∀ j, j ≤ k → 256 - 2 ^ (8 - j) ≤ b.toNat) (fun s' _ => (8 - s'.1).toNat) ⟨Fr.refl w, 0, by omega, rfl, fun j hj => by rw [Nat.le_zero.1 hj]; simp⟩ ?_
    rintro _ ⟨k, ⟨⟩⟩ w' ⟨hf, k, hk, rfl, hle⟩
    dsimp only
    refine bD ?_ ?_ <;> intro h8
    · refine ixB0 hs.rd (by simp [hn]) hf ?_
      rw [i64w (n := (k : Int) + 1) (by omega) (by omega), show (k : Int) + 1 = ((k + 1 : Nat) : Int) from by simp]
      refine Lead_q (by omega) ?_
      intro n
      have hf' : Fr w (w'.drewN n) := hf.trans (Fr.drewN _ _)
      rw [i64w (n := (b.toNat : Int)) (by omega) (by omega)]
      refine bD ?_ ?_ <;> intro hge
      · refine ⟨⟨hf', k + 1, by omega, rfl, fun j hj => ?_⟩, by omega⟩
        by_cases hjk : j ≤ k
        · exact hle j hjk
        · obtain rfl : j = k + 1 := by omega
          omega
      · have : ones b.toNat = k := ones_of (by omega) (hle k (Nat.le_refl _)) (by rw [show 7 - k = 8 - (k + 1) from by omega]; omega)
        rw [← this]
        exact hj _ hf'
    · obtain rfl : k = 8 := by omega
      have h255 := hle 8 (Nat.le_refl _)
      have h1 : ones b.toNat = 8 := by
        have : b.toNat = 255 := by simp at h255; omega
        rw [this]; rfl
      intro n
      have := hj (w'.drewN n) (hf.trans (Fr.drewN _ _))
      rwa [h1] at this
end Go.Proofs.YtmhibpcbdbhfoaaDoor
namespace Go.Proofs.YtmhibpcbdbhfoaaDoor
open Go.RowKit Go.Fl

/-- The reference reader over bytes, i of them read. -/
def RR (w : World) (g : Nat) (s : Sl) (B : List UInt8) (i : Nat) : Prop :=
  w.heap[g]? = some (.cells #[.slice s.a s.n s.c, .int .i64 (i : Int)] t_flumeref02_Reader (0, 0)) ∧ Bs w s B ∧ (B ≠ [] → ∀ ad, s.a = some ad → ad.block < g) ∧ i ≤ B.length ∧ B.length ≤ 140737488351232
theorem RR.fr {w w' : World} {g : Nat} {s : Sl} {B : List UInt8} {i : Nat} (h : RR w g s B i) (hf : Fr w w') : RR w' g s B i := ⟨hf.heap h.1, h.2.1.fr hf, h.2.2⟩
theorem RR.kp {S : Nat → Prop} {w w' : World} {g : Nat} {s : Sl} {B : List UInt8} {i : Nat} (h : RR w g s B i) (hk : Kp S w w') (hg : S g) (hS : B ≠ [] → ∀ ad, s.a = some ad → S ad.block) : RR w' g s B i :=
  ⟨(hk g (Array.getElem?_eq_some_iff.1 h.1).1 hg).trans h.1, h.2.1.kpn hk hS, h.2.2⟩
theorem RR.lt {w : World} {g : Nat} {s : Sl} {B : List UInt8} {i : Nat} (h : RR w g s B i) : g < w.heap.size := (Array.getElem?_eq_some_iff.1 h.1).1

section
variable {w : World} {g : Nat} {s : Sl} {B : List UInt8} {i : Nat}
theorem RR.look (h : RR w g s B i) {K : Int × Int × Int × Unit → World → Prop}
    (hk : ∀ w', Fr w w' → RR w' g s B i → K (((lookS (B.drop i)).1 : Int), ((lookS (B.drop i)).2.1 : Int), ((lookS (B.drop i)).2.2 : Int), ()) w') :
    dr w fun w1 => nz (some ⟨g, 0, none⟩) fun a2 => ld .L w1 a2 fun (x3 : Sl) => nz (some ⟨g, 0, none⟩) fun a4 => ld (.I .i64) w1 (a4.add 1) fun (x5 : Int) => sls x3 x5 x3.n 1 fun r6 =>
      cl Tryd.prog n_flumeref02_Look #[.slice r6.a r6.n r6.c] (.tup (.pair (.I .i64) (.pair (.I .i64) (.pair (.I .i64) .nil)))) w1 fun (x7 : (Int × (Int × (Int × Unit)))) w8 => K x7 w8 := by
  intro n
  have h1 := h.fr (Fr.drewN w n)
  have hfn := Fr.drewN w n
  generalize w.drewN n = w1 at *
  obtain ⟨hb, hs, hne, hi, hl⟩ := h1
  have hn := hs.len
  show ld .L w1 ⟨g, 0, none⟩ _
  refine ldL0 hb rfl ?_
  show ld (.I .i64) w1 ⟨g, 1, none⟩ _
  refine ldI0 hb rfl ?_
  refine slsB hs (by omega) (by omega) (by omega) fun r hr _ _ => ?_
  rw [Int.toNat_natCast, Int.toNat_natCast, List.take_of_length_le (by omega)] at hr
  refine (ref_Look_ok hr (by simp; omega)).mono ?_
  rintro _ w8 ⟨rfl, hf⟩
  exact hk w8 (hfn.trans hf) (RR.fr ⟨hb, hs, hne, hi, hl⟩ hf)

theorem RR.put (h : RR w g s B i) {v : Value} {j : Nat} (hv : v = .int .i64 (j : Int)) (hj : j ≤ B.length) {K : World → Prop} (hk : ∀ w', RR w' g s B j → w.grownBy w' (some g) → K w') : st1 w ⟨g, 1, none⟩ v K := by
  obtain ⟨hb, hs, hne, hi, hl⟩ := h
  subst hv
  exact st0 hb (by simp) fun w' hb' hg _ => hk w' ⟨hb', hs.kpn (kp_grown hg) fun hB ad ha => Nat.ne_of_lt (hne hB ad ha), hne, hj, hl⟩ hg
theorem RR.put2 (h : RR w g s B i) {v : Value} {j : Nat} (hv : v = .int .i64 (j : Int)) (hj : j ≤ B.length) {K : World → Prop} (hk : ∀ w', RR w' g s B j → w.grownBy w' (some g) → K w') : nz (some ⟨g, 0, none⟩) fun a => st1 w (a.add 1) v K := h.put hv hj hk
theorem RR.step (h : RR w g s B i) {k : Nat} {kk : Int} (hkk : kk = k) (hk : i + k ≤ B.length) {K : World → Prop} (hK : ∀ w', RR w' g s B (i + k) → w.grownBy w' (some g) → K w') :
    nz (some ⟨g, 0, none⟩) fun a9 => ld (.I .i64) w (a9.add 1) fun (x10 : Int) => nz (some ⟨g, 0, none⟩) fun a11 => st1 w (a11.add 1) (.int .i64 (IntKind.i64.wrap (x10 + kk))) fun w12 => K w12 := by
  have hb := h.1
  have hl := h.2.2.2.2
  subst hkk
  show ld (.I .i64) w ⟨g, 1, none⟩ _
  refine ldI0 hb rfl ?_
  show st1 w ⟨g, 1, none⟩ _ _
  rw [i64w (by omega) (by omega)]
  exact h.put (by simp) hk hK

theorem drop_look_le (B : List UInt8) {i : Nat} (hi : i ≤ B.length) : i + (lookS (B.drop i)).2.1 ≤ B.length := by
  have := lookS_le (B.drop i)
  rw [List.length_drop] at this
  omega

theorem ref_Number_rd (h : RR w g s B i) : cl Tryd.prog n_flumeref02_Reader_Number #[.pointer (some ⟨g, 0, none⟩)] (.tup (.pair (.I .i64) (.pair (.I .i64) .nil))) w
    fun (r : Int × Int × Unit) w' => r = (((lookS (B.drop i)).1 : Int), ((lookS (B.drop i)).2.2 : Int), ()) ∧ RR w' g s B (i + (lookS (B.drop i)).2.1) ∧ w.grownBy w' (some g) := by
  have hle := drop_look_le B h.2.2.2.1
  refine flumeref02_Reader_Number.cl ?_
  unfold flumeref02_Reader_Number
  refine h.look fun w8 hf h8 => ?_
  exact h8.step rfl hle fun w' h' hg => ⟨rfl, h', World.grownBy.trans (fr_grown hf) hg⟩

theorem ref_Text_rd (h : RR w g s B i) {most : Int} : cl Tryd.prog n_flumeref02_Reader_Text #[.pointer (some ⟨g, 0, none⟩), .int .i64 most] (.tup (.pair .L (.pair (.I .i64) .nil))) w
    fun (r : Sl × Int × Unit) w' => r.2 = (((rdText (B.drop i) most).2.1 : Int), ()) ∧ OwB w' w.heap.size t_uint8 r.1 (rdText (B.drop i) most).1 ∧ RR w' g s B (i + (rdText (B.drop i) most).2.2) ∧ w.grownBy w' (some g) := by
  have hle := drop_look_le B h.2.2.2.1
  have hl := h.2.2.2.2
  have hi := h.2.2.2.1
  have hn := h.2.1.len
  have hglt := h.lt
  refine flumeref02_Reader_Text.cl ?_
  unfold flumeref02_Reader_Text
  refine h.look fun w8 hf h8 => ?_
  dsimp -zeta only
  have hll : (B.drop i).length = B.length - i := List.length_drop
  have hX : (lookS (B.drop i)).2.2 = 0 → (lookS (B.drop i)).1 ≤ 9223372036854775807 := fun h0 => by
    obtain ⟨n, k, e, hnk⟩ : ∃ n k e, lookS (B.drop i) = (n, k, e) := ⟨_, _, _, rfl⟩
    rw [hnk] at h0 ⊢
    dsimp only at h0 ⊢
    subst h0
    exact (look_back hnk).2.2.2
  unfold rdText
  refine bNe ?_ ?_ <;> intro he
  · rw [if_pos (by omega)]
    exact ⟨rfl, OwB.nil _ _ _, h8, fr_grown hf⟩
  · have hX := hX (by omega)
    rw [if_neg (by omega)]
    have hd : ((B.drop i).drop (lookS (B.drop i)).2.1).take (lookS (B.drop i)).1 = (B.drop (i + (lookS (B.drop i)).2.1)).take (lookS (B.drop i)).1 := by rw [List.drop_drop]
    rw [hd, hll]
    generalize (lookS (B.drop i)).2.1 = k at *
    generalize (lookS (B.drop i)).1 = n at *
    intro j1
    have hj : ∀ w', Fr w w' → RR w' g s B i → ¬((n : Int) > max most 0) → j1 w' := by
      intro w30 f30 h30 hmost
      show nz _ _
      rw [if_neg hmost]
      show ld .L w30 ⟨g, 0, none⟩ _
      refine ldL0 h30.1 rfl ?_
      show ld (.I .i64) w30 ⟨g, 1, none⟩ _
      refine ldI0 h30.1 rfl ?_
      intro m
      have hf35 := f30.trans (Fr.drewN w30 m)
      have h35 := h30.fr (Fr.drewN w30 m)
      generalize w30.drewN m = w35 at *
      rw [i64w (n := (s.n : Int) - i) (by omega) (by omega), i64w (n := (s.n : Int) - i - k) (by omega) (by omega)]
      refine bD ?_ ?_ <;> intro hc
      · rw [if_pos (by omega)]
        exact ⟨rfl, OwB.nil _ _ _, h35, fr_grown hf35⟩
      · rw [if_neg (by omega), i64w (n := (k : Int) + n) (by omega) (by omega)]
        refine h35.step (k := k + n) (by omega) (by omega) fun w39 h39 hg39 => ?_
        intro m2
        have hg40 := World.grownBy.trans (World.grownBy.trans (fr_grown hf35) hg39) (fr_grown (Fr.drewN w39 m2))
        have h40 := h39.fr (Fr.drewN w39 m2)
        generalize w39.drewN m2 = w40 at *
        show ld .L w40 ⟨g, 0, none⟩ _
        refine ldL0 h40.1 rfl ?_
        show ld (.I .i64) w40 ⟨g, 1, none⟩ _
        refine ldI0 h40.1 rfl ?_
        show ld (.I .i64) w40 ⟨g, 1, none⟩ _
        refine ldI0 h40.1 rfl ?_
        rw [i64w (by omega) (by omega)]
        refine slsB h40.2.1 (by omega) (by omega) (by omega) fun r47 h47 _ _ => ?_
        rw [show (((i + (k + n) : Nat) : Int) - n).toNat = i + k from by omega, Int.toNat_natCast] at h47
        have ht : (B.take (i + (k + n))).drop (i + k) = (B.drop (i + k)).take n := by rw [List.drop_take]; congr 1; omega
        rw [ht] at h47
        refine nwI fun b w49 hb hsz hf49 hblk _ => ⟨hf49, ?_⟩
        have hs40 := hg40.size
        refine app0B slB (base := w.heap.size) hblk (by omega) (h47.fr hf49) (by simp; omega) (by omega) fun r w51 ho hf51 => ⟨rfl, ho, ?_, ?_⟩
        · exact h40.fr (hf49.trans hf51)
        · exact World.grownBy.trans hg40 (fr_grown (hf49.trans hf51))
    refine bD ?_ ?_ <;> intro h1
    · refine bD ?_ ?_ <;> intro h2
      · rw [if_pos (by omega)]
        exact ⟨rfl, OwB.nil _ _ _, h8, fr_grown hf⟩
      · exact hj _ hf h8 (by omega)
    · exact hj _ hf h8 (by omega)
end
end Go.Proofs.YtmhibpcbdbhfoaaDoor
namespace Go.Fl

abbrev RecT := Int × Int × {l : List Value // l.length = 32} × Sl × Unit
abbrev slV (s : Sl) : Value := .slice s.a s.n s.c
/-- A record's cells, ahead of others. -/
def rcL (p : RecT) (post : List Value) : List Value := .int .i64 p.1 :: .int .i64 p.2.1 :: (p.2.2.1.1 ++ (slV p.2.2.2.1 :: post))
theorem rcL_nil (p : RecT) : (([.int .i64 p.1, .int .i64 p.2.1] : List Value) ++ (p.2.2.1.1 ++ ([.slice p.2.2.2.1.a p.2.2.2.1.n p.2.2.2.1.c] : List Value))) = rcL p [] := rfl
theorem rcL_length (p : RecT) (post : List Value) : (rcL p post).length = 35 + post.length := by
  simp only [rcL, List.length_cons, List.length_append, p.2.2.1.2]; omega
/-- A row is stored, from a place on. -/
theorem stL_at {g o : Nat} {t : TypeId} : ∀ {vs : List Value} {cs : List Value} {i : Nat} {w : World} {K : World → Prop}, w.heap[g]? = some (.cells cs.toArray t (0, 0)) → o + i + vs.length ≤ cs.length → (∀ v ∈ vs, v.oneCell' = true) →
    (∀ w', w'.heap[g]? = some (.cells (cs.take (o + i) ++ vs ++ cs.drop (o + i + vs.length)).toArray t (0, 0)) → w.grownBy w' (some g) → w'.heap.size = w.heap.size → K w') → stL ⟨g, o, none⟩ w i vs K
  | [], cs, i, w, K, h, _, _, hk => by
    refine hk w ?_ (World.grownBy.refl _ _) rfl
    simpa using h
  | v :: vs, cs, i, w, K, h, hi, h1, hk => by
    simp only [List.length_cons] at hi
    refine ⟨h1 v (by simp), ?_⟩
    rw [addOff]
    refine st0 h (by simp; omega) fun w' hb hg hs => ?_
    refine stL_at (cs := cs.set (o + i) v) (i := i + 1) (by simpa using hb) (by simp; omega) (fun u hu => h1 u (by simp [hu])) fun w2 hb2 hg2 hs2 => hk w2 ?_ (hg.trans hg2) (hs2.trans hs)
    have e : (cs.set (o + i) v).take (o + (i + 1)) ++ vs ++ (cs.set (o + i) v).drop (o + (i + 1) + vs.length) = cs.take (o + i) ++ (v :: vs) ++ cs.drop (o + i + (v :: vs).length) := by
      rw [← Nat.add_assoc o i 1, List.take_set, List.drop_set_of_lt (by omega), List.take_succ_eq_append_getElem (by omega), List.set_append_right _ _ (by simp; omega), List.length_take, List.length_cons, Nat.min_eq_left (by omega), Nat.sub_self]
      simp [Nat.add_assoc, Nat.add_comm 1]
    rw [hb2, e]
theorem set_mid (pre rest : List Value) (x v : Value) : (pre ++ x :: rest).set pre.length v = pre ++ v :: rest := by
  rw [List.set_append_right _ _ (Nat.le_refl _), Nat.sub_self, List.set_cons_zero]
theorem mid3 (A R R' X : List Value) {o m : Nat} (ho : A.length = o) (hm : R.length = m) (hR : R'.length = m) : (A ++ (R' ++ X)).take o ++ R ++ (A ++ (R' ++ X)).drop (o + m) = A ++ R ++ X := by
  subst ho hm
  rw [List.take_left' rfl, ← hR, List.drop_append, List.drop_eq_nil_of_le (by omega), Nat.add_sub_cancel_left, List.drop_left' rfl]
  simp
/-- A record is stored into a block. -/
theorem stRec {w : World} {g : Nat} {pre post : List Value} {q : RecT} {t : TypeId} (hg : w.heap[g]? = some (.cells (pre ++ rcL q post).toArray t (0, 0))) (p : RecT) (hone : ∀ v ∈ p.2.2.1.1, v.oneCell' = true) {K : World → Prop}
    (hk : ∀ w', w'.heap[g]? = some (.cells (pre ++ rcL p post).toArray t (0, 0)) → w.grownBy w' (some g) → w'.heap.size = w.heap.size → K w') :
    st1 w ⟨g, pre.length, none⟩ (.int .i64 p.1) fun w1 => st1 w1 ((⟨g, pre.length, none⟩ : Addr).add 1) (.int .i64 p.2.1) fun w2 => stL (((⟨g, pre.length, none⟩ : Addr).add 1).add 1) w2 0 p.2.2.1.1 fun w3 => st1 w3 ((((⟨g, pre.length, none⟩ : Addr).add 1).add 1).add 32) (.slice p.2.2.2.1.a p.2.2.2.1.n p.2.2.2.1.c) K := by
  have hp := p.2.2.1.2
  have hq := q.2.2.1.2
  refine st0 hg (by simp [rcL]) fun w1 h1 g1 s1 => ?_
  rw [List.setIfInBounds_toArray, rcL, set_mid] at h1
  rw [addOff]
  refine st0 h1 (by simp) fun w2 h2 g2 s2 => ?_
  have e2 : (pre ++ .int .i64 p.1 :: .int .i64 q.2.1 :: (q.2.2.1.1 ++ (slV q.2.2.2.1 :: post))) = (pre ++ [.int .i64 p.1]) ++ .int .i64 q.2.1 :: (q.2.2.1.1 ++ (slV q.2.2.2.1 :: post)) := by simp
  rw [List.setIfInBounds_toArray, e2, show pre.length + 1 = (pre ++ [Value.int .i64 p.1]).length from by simp, set_mid] at h2
  rw [addOff, show pre.length + 1 + 1 = pre.length + 2 from rfl]
  refine stL_at h2 (by simp [hp, hq]; omega) hone fun w3 h3 g3 s3 => ?_
  have e3 : ((pre ++ [Value.int .i64 p.1]) ++ .int .i64 p.2.1 :: (q.2.2.1.1 ++ (slV q.2.2.2.1 :: post))).take (pre.length + 2 + 0) ++ p.2.2.1.1 ++ ((pre ++ [Value.int .i64 p.1]) ++ .int .i64 p.2.1 :: (q.2.2.1.1 ++ (slV q.2.2.2.1 :: post))).drop (pre.length + 2 + 0 + p.2.2.1.1.length) =
      (pre ++ [Value.int .i64 p.1, .int .i64 p.2.1] ++ p.2.2.1.1) ++ slV q.2.2.2.1 :: post := by
    have e : ((pre ++ [Value.int .i64 p.1]) ++ .int .i64 p.2.1 :: (q.2.2.1.1 ++ (slV q.2.2.2.1 :: post))) = (pre ++ [Value.int .i64 p.1, .int .i64 p.2.1]) ++ (q.2.2.1.1 ++ (slV q.2.2.2.1 :: post)) := by simp
    rw [e, Nat.add_zero]
    exact (mid3 _ _ _ _ (by simp) rfl (hq.trans hp.symm)).trans (by simp)
  rw [e3] at h3
  rw [addOff]
  refine st0 h3 (by simp [hp]; omega) fun w4 h4 g4 s4 => hk w4 ?_ (((g1.trans g2).trans g3).trans g4) (by omega)
  rw [List.setIfInBounds_toArray, show pre.length + 2 + 32 = (pre ++ [Value.int .i64 p.1, .int .i64 p.2.1] ++ p.2.2.1.1).length from by simp [hp], set_mid] at h4
  rw [h4]
  simp [rcL]
/-- A record's kind and data are written. -/
theorem stKD {w : World} {g : Nat} {p : RecT} {t : TypeId} {k : Int} {s : Sl} {K : World → Prop} (hg : w.heap[g]? = some (.cells (rcL p []).toArray t (0, 0)))
    (hk : ∀ w', w'.heap[g]? = some (.cells (rcL (k, p.2.1, p.2.2.1, s, ()) []).toArray t (0, 0)) → w.grownBy w' (some g) → w'.heap.size = w.heap.size → K w') :
    st1 w ⟨g, 0, none⟩ (.int .i64 k) fun w1 => st1 w1 ((⟨g, 0, none⟩ : Addr).add 34) (.slice s.a s.n s.c) K := by
  have hp := p.2.2.1.2
  refine st0 hg (by simp [rcL]) fun w1 h1 g1 s1 => ?_
  rw [addOff]
  have e1 : (rcL p []).toArray.setIfInBounds 0 (.int .i64 k) = ((Value.int .i64 k :: .int .i64 p.2.1 :: p.2.2.1.1) ++ (slV p.2.2.2.1 :: [])).toArray := by
    rw [List.setIfInBounds_toArray]; simp [rcL]
  rw [e1] at h1
  refine st0 h1 (by simp [hp]) fun w2 h2 g2 s2 => hk w2 ?_ (g1.trans g2) (by omega)
  rw [List.setIfInBounds_toArray, show 0 + 34 = (Value.int .i64 k :: .int .i64 p.2.1 :: p.2.2.1.1).length from by simp [hp], set_mid] at h2
  rw [h2]
  simp [rcL]
/-- A record is read. -/
theorem ldRec {w : World} {g : Nat} {pre post : List Value} {p : RecT} {t : TypeId} {f : Nat × Nat} (hg : w.heap[g]? = some (.cells (pre ++ rcL p post).toArray t f)) {K : RecT → Prop} (hk : K p) :
    ld (.pair (.I .i64) (.pair (.I .i64) (.pair (.row 32) (.pair .L .nil)))) w ⟨g, pre.length, none⟩ K := by
  obtain ⟨k, s, r, sl, ⟨⟩⟩ := p
  have hr := r.2
  refine ⟨k, ?_, s, ?_, ?_⟩
  · rw [cell_of_row w g _ _ t f hg]; simp [rcL]
  · show w.cell? ((⟨g, pre.length, none⟩ : Addr).add 1) = _
    rw [addOff, cell_of_row w g _ _ t f hg]; simp [rcL]
  · show ld (.row 32) w (((⟨g, pre.length, none⟩ : Addr).add 1).add 1) _
    rw [addOff, addOff]
    refine ldRow (vs := r.1) hg ?_ hr ?_
    · have e : pre ++ rcL (k, s, r, sl, ()) post = (pre ++ [.int .i64 k, .int .i64 s]) ++ (r.1 ++ (slV sl :: post)) := by simp [rcL]
      rw [e, List.drop_left' (by simp), List.take_left' hr]
    · refine ⟨sl, ?_, hk⟩
      show w.cell? (Addr.add ⟨g, pre.length + 1 + 1, none⟩ 32) = _
      rw [addOff, cell_of_row w g _ _ t f hg]
      have e : pre ++ rcL (k, s, r, sl, ()) post = (pre ++ [.int .i64 k, .int .i64 s] ++ r.1) ++ (slV sl :: post) := by simp [rcL]
      have hl : (pre ++ [Value.int .i64 k, .int .i64 s] ++ r.1).length = pre.length + 1 + 1 + 32 := by simp [hr]
      rw [show (pre ++ rcL (k, s, r, sl, PUnit.unit) post) = (pre ++ [.int .i64 k, .int .i64 s] ++ r.1) ++ (slV sl :: post) from e, List.getElem?_toArray, List.getElem?_append_right (by omega), hl, Nat.sub_self]
      rfl
end Go.Fl
namespace Go.Fl
open Go.RowKit

/-- What is asked of a type of keys. -/
structure KeyM (P : Program) (kt : TypeId) {κ : Type} (key : κ → Value) : Prop where
  inj : ∀ a b, key a = key b → a = b
  check : ∀ em w k, (Instr.checkKey em 10000 kt (key k)).run P w = .ok () w
  find : ∀ w k (es : List MapEntry), (∀ e ∈ es, ∃ k', e.key = key k') →
    ((Instr.findKey kt (key k) es).run P w = .ok none w ∧ ∀ e ∈ es, e.key ≠ key k) ∨ ∃ j e, (Instr.findKey kt (key k) es).run P w = .ok (some (j, e.val)) w ∧ es[j]? = some e ∧ e.key = key k
  same : ∀ k, Instr.sameBits 10000 (key k) (key k) = true

theorem findAsking_of {P : Program} {kt : TypeId} {κ : Type} {key : κ → Value} (w : World) (heq : ∀ a b, ∃ r : Bool, (Op.equal kt (key a) (key b)).run P w = .ok r w ∧ (r = true ↔ a = b)) (k : κ) :
    ∀ (es : List MapEntry) (i : Nat), (∀ e ∈ es, ∃ k', e.key = key k') →
      ((Instr.findAsking kt (key k) es i).run P w = .ok none w ∧ ∀ e ∈ es, ∀ k', e.key = key k' → k ≠ k') ∨
      ∃ j e, (Instr.findAsking kt (key k) es i).run P w = .ok (some (i + j, e.val)) w ∧ es[j]? = some e ∧ e.key = key k
  | [], i, _ => Or.inl ⟨by simp [Instr.findAsking], by simp⟩
  | e :: es, i, hall => by
    obtain ⟨k', hk'⟩ := hall e (by simp)
    obtain ⟨r, hr, hiff⟩ := heq k k'
    rw [← hk'] at hr
    cases r
    · rcases findAsking_of w heq k es (i + 1) (fun y hy => hall y (by simp [hy])) with ⟨h1, h2⟩ | ⟨j, e', h1, h2, h3⟩
      · left
        refine ⟨by simp [Instr.findAsking, hr, h1], fun y hy k2 hk2 he => ?_⟩
        rcases List.mem_cons.1 hy with rfl | hy
        · obtain ⟨r2, hr2, hiff2⟩ := heq k k2
          rw [hk2, hr2] at hr
          cases hr
          exact absurd (hiff2.2 he) (by decide)
        · exact h2 y hy k2 hk2 he
      · right
        exact ⟨j + 1, e', by simp [Instr.findAsking, hr, h1, Nat.add_assoc, Nat.add_comm 1 j], by simpa using h2, h3⟩
    · right
      exact ⟨0, e, by simp [Instr.findAsking, hr], rfl, by rw [hk', hiff.1 rfl]⟩

/-- Rows of bytes as keys. -/
def keyB {n : Nat} (l : {l : List UInt8 // l.length = n}) : Value := .agg (u8s l.1).toArray
theorem u8s_inj : ∀ {a b : List UInt8}, u8s a = u8s b → a = b
  | [], [], _ => rfl
  | [], _ :: _, h => by simp [u8s] at h
  | _ :: _, [], h => by simp [u8s] at h
  | x :: a, y :: b, h => by
    simp only [u8s, List.map_cons, List.cons.injEq, Value.int.injEq, true_and] at h
    have := u8s_inj (a := a) (b := b) h.2
    have e : x = y := UInt8.toNat_inj.1 (by omega)
    rw [this, e]
theorem sameBits_u8s (n : Nat) : ∀ l : List UInt8, ((u8s l).zip (u8s l)).all (fun (x, y) => Instr.sameBits n x y) = true
  | [] => rfl
  | x :: l => by
    have := sameBits_u8s n l
    simp only [u8s, List.map_cons, List.zip_cons_cons, List.all_cons, Bool.and_eq_true] at this ⊢
    exact ⟨by cases n <;> simp [Instr.sameBits], this⟩
theorem run_checkKey_bytes {P : Program} (em : Bool) (d : Nat) (t e : TypeId) (n : Nat) (ht : P.underlying t = some (.array n e)) (he : P.underlying e = some (.int .u8)) (hsz : ∀ w, (sizeOf e).run P w = .ok 1 w) (xs : List UInt8) (hx : xs.length = n) (w : World) :
    (Instr.checkKey em (d + 2) t (.agg (u8s xs).toArray)).run P w = .ok () w := by
  rw [Instr.checkKey]
  simp only [Sem.run_bind, run_underlying ht, Result.andThen_ok, Std.Legacy.Range.forIn_eq_forIn_range', Std.Legacy.Range.size, Nat.sub_zero, Nat.add_sub_cancel, Nat.div_one]
  have hl : ∀ i ∈ List.range' 0 n 1, i < n := fun i hi => by simpa using (List.mem_range'_1.1 hi).2
  generalize List.range' 0 n 1 = l at hl ⊢
  induction l with
  | nil => simp
  | cons i l ih =>
    have hi : i < n := hl i (by simp)
    have px : (part e (u8s xs).toArray (i * 1)).run P w = .ok (.int .u8 (xs.getD i 0).toNat) w := by
      simp [part, isAgg, run_underlying he, u8s, List.getD, List.getElem?_eq_getElem (show i < xs.length by omega)]
    have pc : (Instr.checkKey em (d + 1) e (.int .u8 (xs.getD i 0).toNat)).run P w = .ok () w := by
      rw [Instr.checkKey]
      simp [run_underlying he]
    simp only [List.forIn_cons, Sem.run_bind, hsz, px, pc, Result.andThen_ok, Sem.run_pure] at ih ⊢
    exact ih fun j hj => hl j (by simp [hj])
theorem keyM_bytes {P : Program} {t e : TypeId} {n : Nat} (ht : P.underlying t = some (.array n e)) (he : P.underlying e = some (.int .u8)) (hsz : ∀ w, (sizeOf e).run P w = .ok 1 w) : KeyM P t (keyB (n := n)) where
  inj a b h := by
    unfold keyB at h
    rw [Value.agg.injEq] at h
    exact Subtype.ext (u8s_inj (by simpa using h))
  check em w k := run_checkKey_bytes em 9998 t e n ht he hsz k.1 k.2 w
  find w k es hes := by
    have heq : ∀ a b : {l : List UInt8 // l.length = n}, ∃ r : Bool, (Op.equal t (keyB a) (keyB b)).run P w = .ok r w ∧ (r = true ↔ a = b) := fun a b =>
      ⟨a.1 == b.1, run_equalIn_bytes w 9998 t e n ht he hsz a.1 b.1 a.2 b.2, by rw [beq_iff_eq]; exact Subtype.ext_iff.symm⟩
    have hfind : (Instr.findKey t (keyB k) es).run P w = (Instr.findAsking t (keyB k) es 0).run P w := by
      cases es with
      | nil => simp [Instr.findKey, run_underlying ht, Instr.findNow, Instr.findAsking]
      | cons x es => simp [Instr.findKey, run_underlying ht, Instr.findNow, Instr.sameNow]
    rw [hfind]
    rcases findAsking_of w heq k es 0 hes with ⟨h1, h2⟩ | ⟨j, x, h1, h2, h3⟩
    · exact .inl ⟨h1, fun x hx h => h2 x hx k h rfl⟩
    · exact .inr ⟨j, x, by simpa using h1, h2, h3⟩
  same k := by
    unfold keyB
    simp only [Instr.sameBits, BEq.rfl, Bool.true_and]
    exact sameBits_u8s _ _
/-- Integers as keys. -/
theorem keyM_int {P : Program} {t : TypeId} {q : IntKind} (ht : P.underlying t = some (.int q)) : KeyM P t (Value.int q) where
  inj a b h := by injection h
  check em w k := by rw [Instr.checkKey]; simp [run_underlying ht]
  find w k es hes := by
    have key : ∀ (es : List MapEntry) (i : Nat), (∀ e ∈ es, ∃ k', e.key = Value.int q k') →
        (Instr.findNow (.int q) (.int q k) es i = some none ∧ ∀ e ∈ es, e.key ≠ .int q k) ∨ ∃ j e, Instr.findNow (.int q) (.int q k) es i = some (some (i + j, e.val)) ∧ es[j]? = some e ∧ e.key = .int q k := by
      intro es
      induction es with
      | nil => exact fun i _ => .inl ⟨rfl, by simp⟩
      | cons e es ih =>
        intro i hall
        obtain ⟨k', hk'⟩ := hall e (by simp)
        by_cases h : k = k'
        · exact .inr ⟨0, e, by simp [Instr.findNow, Instr.sameNow, hk', h], rfl, by rw [hk', h]⟩
        · have hb : (k == k') = false := by simpa using h
          rcases ih (i + 1) (fun y hy => hall y (by simp [hy])) with ⟨h1, h2⟩ | ⟨j, e', h1, h2, h3⟩
          · refine .inl ⟨by simp only [Instr.findNow, Instr.sameNow, hk', if_true, hb]; exact h1, fun y hy => ?_⟩
            rcases List.mem_cons.1 hy with rfl | hy
            · rw [hk']; intro e; injection e with _ e; exact h e.symm
            · exact h2 y hy
          · exact .inr ⟨j + 1, e', by simp only [Instr.findNow, Instr.sameNow, hk', if_true, hb]; rw [h1]; simp [Nat.add_assoc, Nat.add_comm 1 j], by simpa using h2, h3⟩
    rcases key es 0 hes with ⟨h1, h2⟩ | ⟨j, x, h1, h2, h3⟩
    · exact .inl ⟨by simp [Instr.findKey, run_underlying ht, h1], h2⟩
    · exact .inr ⟨j, x, by simp [Instr.findKey, run_underlying ht, h1], h2, h3⟩
  same k := by simp [Instr.sameBits]

/-- A map's block, as a function. -/
structure MapF {κ : Type} (key : κ → Value) (w : World) (r : Nat) (f : κ → Option Value) : Prop where
  mk ::
  ex : ∃ es clock, w.heap[r]? = some (.map es clock) ∧ (∀ e ∈ es.toList, ∃ k, e.key = key k ∧ f k = some e.val) ∧ (es.toList.map (·.key)).Nodup ∧ ∀ k v, f k = some v → ∃ e ∈ es.toList, e.key = key k ∧ e.val = v
section
variable {κ : Type} {key : κ → Value} {w : World} {r : Nat} {f : κ → Option Value} {P : Program} {t kt et : TypeId}
theorem MapF.sub {w' : World} (h : MapF key w r f) (hb : w'.heap[r]? = w.heap[r]?) : MapF key w' r f := by
  obtain ⟨es, clock, h1, h2⟩ := h.ex
  exact ⟨es, clock, hb.trans h1, h2⟩
theorem MapF.lt (h : MapF key w r f) : r < w.heap.size := by
  obtain ⟨es, clock, h1, _⟩ := h.ex
  exact (Array.getElem?_eq_some_iff.1 h1).1
theorem MapF.new (w : World) (key : κ → Value) : MapF key (w.alloc (.map #[] 0)) w.heap.size (fun _ => none) :=
  ⟨#[], 0, heap_alloc_new w _, by simp, by simp, by simp⟩
theorem run_lookM (K : KeyM P kt key) (ht : P.underlying t = some (.map kt et)) {z : Value} (hz : ∀ w, (zeroValue et).run P w = .ok z w) (h : MapF key w r f) (k : κ) (ok : Bool) :
    (Instr.lookup t (.map (some r)) (key k) ok).run P w = .ok (if ok then .tuple #[(f k).getD z, .bool (f k).isSome] else (f k).getD z) w := by
  obtain ⟨es, clock, h1, h2, h3, h4⟩ := h.ex
  rcases K.find w k es.toList (fun e he => (h2 e he).imp fun k h => h.1) with ⟨hf, hn⟩ | ⟨j, e, hf, hj, hk⟩
  · have hfk : f k = none := by
      cases hfk : f k with
      | none => rfl
      | some v =>
        obtain ⟨e, he, hek, _⟩ := h4 k v hfk
        exact absurd hek (hn e he)
    cases ok <;> simp [Instr.lookup, run_underlying ht, Go.MapKept.run_getObj_map h1, K.check, hf, hz, hfk]
  · have hfk : f k = some e.val := by
      obtain ⟨k', hk', hv⟩ := h2 e (List.mem_of_getElem? hj)
      rw [hk] at hk'
      rw [K.inj _ _ hk']; exact hv
    cases ok <;> simp [Instr.lookup, run_underlying ht, Go.MapKept.run_getObj_map h1, K.check, hf, hfk]
/-- A key is looked up. -/
theorem qnM (K : KeyM P kt key) (ht : P.underlying t = some (.map kt et)) {z : Value} (hz : ∀ w, (zeroValue et).run P w = .ok z w) (h : MapF key w r f) (k : κ) {ok : Bool} {kd : Kd} {Q : kd.T → Prop} (x : kd.T)
    (hx : (kd.av x).val = if ok then .tuple #[(f k).getD z, .bool (f k).isSome] else (f k).getD z) (hQ : Q x) : qn P (Instr.lookup t (.map (some r)) (key k) ok) kd w Q :=
  ⟨x, fun w' hw' => by rw [hx]; exact run_lookM K ht hz (h.sub (hw' r h.lt)) k ok, hQ⟩
/-- A key is put. -/
theorem ruM [DecidableEq κ] (K : KeyM P kt key) (ht : P.underlying t = some (.map kt et)) (h : MapF key w r f) (k : κ) (v : Value) {Q : World → Prop}
    (hQ : ∀ w', MapF key w' r (fun k' => if k' = k then some v else f k') → w.grownBy w' (some r) → w'.heap.size = w.heap.size → Q w') : ru P (Instr.mapUpdate t (.map (some r)) (key k) v) w Q := by
  obtain ⟨es, clock, h1, h2, h3, h4⟩ := h.ex
  have hr := h.lt
  have hgrow : ∀ o : Obj, w.grownBy { w with heap := w.heap.setIfInBounds r o } (some r) := fun o =>
    ⟨rfl, rfl, rfl, by simp, fun k _ hk => by
      have : r ≠ k := fun e => hk (by rw [e])
      simp [this]⟩
  rcases K.find w k es.toList (fun e he => (h2 e he).imp fun k h => h.1) with ⟨hf, hn⟩ | ⟨j, e, hf, hj, hk⟩
  · refine ⟨{ w with heap := w.heap.setIfInBounds r (.map (es.push { key := key k, val := v, born := clock }) (clock + 1)) }, ?_, hQ _ ⟨es.push { key := key k, val := v, born := clock }, clock + 1, ?_, ?_, ?_, ?_⟩ (hgrow _) (by simp)⟩
    · simp [Instr.mapUpdate, run_underlying ht, Go.MapKept.run_getObj_map h1, K.check, hf, Go.MapKept.run_setObj_map _ h1]
    · simp [hr]
    · intro x hx
      rw [Array.toList_push, List.mem_append, List.mem_singleton] at hx
      rcases hx with hx | rfl
      · obtain ⟨k', hk', hv⟩ := h2 x hx
        refine ⟨k', hk', ?_⟩
        rw [if_neg fun e => hn x hx (by rw [hk', e])]; exact hv
      · exact ⟨k, rfl, if_pos rfl⟩
    · rw [Array.toList_push, List.map_append, List.nodup_append]
      refine ⟨h3, by simp, ?_⟩
      intro a ha b hb
      simp only [List.map_cons, List.map_nil, List.mem_singleton] at hb
      obtain ⟨x, hx, rfl⟩ := List.mem_map.1 ha
      rw [hb]; exact hn x hx
    · intro k' v' hv'
      rw [Array.toList_push]
      by_cases e : k' = k
      · rw [if_pos e] at hv'
        exact ⟨_, List.mem_append_right _ (List.mem_singleton.2 rfl), by rw [e], Option.some.inj hv'⟩
      · rw [if_neg e] at hv'
        obtain ⟨x, hx, h5⟩ := h4 k' v' hv'
        exact ⟨x, List.mem_append_left _ hx, h5⟩
  · have hjl : j < es.toList.length := (List.getElem?_eq_some_iff.1 hj).1
    have hjs : j < es.size := by simpa using hjl
    have hj' : es[j]? = some e := by simpa using hj
    refine ⟨{ w with heap := w.heap.setIfInBounds r (.map (es.modify j fun x => { x with key := key k, val := v }) clock) }, ?_, hQ _ ⟨es.modify j fun x => { x with key := key k, val := v }, clock, ?_, ?_, ?_, ?_⟩ (hgrow _) (by simp)⟩
    · have hs : (Instr.keyThatStays e.key (key k)).run P w = .ok (key k) w := by
        rw [hk]; simp [Instr.keyThatStays, K.same]
      simp [Instr.mapUpdate, run_underlying ht, Go.MapKept.run_getObj_map h1, K.check, hf, hj', hs, Go.MapKept.run_setObj_map _ h1]
    · simp [hr]
    all_goals rw [show (es.modify j fun x => { x with key := key k, val := v }).toList = es.toList.set j { e with key := key k, val := v } from by
      apply List.ext_getElem?
      intro i
      rw [Array.toList_modify, List.getElem?_modify, List.getElem?_set]
      by_cases h : j = i
      · subst h
        rw [hj]
        simp only [if_true]
        rw [if_pos hjl]
        rfl
      · simp [h]]
    · intro x hx
      obtain ⟨i, hi⟩ := List.mem_iff_getElem?.1 hx
      rw [List.getElem?_set] at hi
      by_cases h : j = i
      · subst h
        rw [if_pos rfl, if_pos hjl, Option.some.injEq] at hi
        subst hi
        exact ⟨k, rfl, if_pos rfl⟩
      · rw [if_neg h] at hi
        obtain ⟨k', hk', hv⟩ := h2 x (List.mem_of_getElem? hi)
        refine ⟨k', hk', ?_⟩
        rw [if_neg]
        · exact hv
        · rintro rfl
          have e1 : (es.toList.map (·.key))[i]? = some (key k') := by rw [List.getElem?_map, hi]; simp [hk']
          have e2 : (es.toList.map (·.key))[j]? = some (key k') := by rw [List.getElem?_map, hj]; simp [hk]
          have hil : i < (es.toList.map (·.key)).length := (List.getElem?_eq_some_iff.1 e1).1
          exact h (((List.getElem?_inj hil h3).1 (e1.trans e2.symm)).symm)
    · rw [List.map_set]
      have : (es.toList.map (·.key)).set j (key k) = es.toList.map (·.key) := by
        apply List.ext_getElem?
        intro i
        rw [List.getElem?_set]
        split
        · rename_i h
          subst h
          rw [List.getElem?_map, hj]
          simp [hk, hjs]
        · rfl
      rw [this]; exact h3
    · intro k' v' hv'
      by_cases hkk : k' = k
      · rw [if_pos hkk] at hv'
        exact ⟨_, List.mem_iff_getElem?.2 ⟨j, by rw [List.getElem?_set, if_pos rfl, if_pos hjl]⟩, by rw [hkk], Option.some.inj hv'⟩
      · rw [if_neg hkk] at hv'
        obtain ⟨x, hx, h5, h6⟩ := h4 k' v' hv'
        obtain ⟨i, hi⟩ := List.mem_iff_getElem?.1 hx
        refine ⟨x, List.mem_iff_getElem?.2 ⟨i, ?_⟩, h5, h6⟩
        rw [List.getElem?_set, if_neg]
        · exact hi
        · rintro rfl
          rw [hj] at hi
          cases hi
          exact hkk (K.inj _ _ (h5.symm.trans hk))
/-- A key is taken out. -/
theorem rnD [DecidableEq κ] {ty : TypeId} (K : KeyM P kt key) (ht : P.underlying t = some (.map kt et)) (h : MapF key w r f) (k : κ) {Q : Unit → World → Prop}
    (hQ : ∀ w', MapF key w' r (fun k' => if k' = k then none else f k') → w.grownBy w' (some r) → w'.heap.size = w.heap.size → Q () w') : rn P (Builtin.delete_ #[t, kt] ty #[.map (some r), key k]) (.tup .nil) w Q := by
  obtain ⟨es, clock, h1, h2, h3, h4⟩ := h.ex
  have hr := h.lt
  have hgrow : ∀ o : Obj, w.grownBy { w with heap := w.heap.setIfInBounds r o } (some r) := fun o =>
    ⟨rfl, rfl, rfl, by simp, fun k _ hk => by
      have : r ≠ k := fun e => hk (by rw [e])
      simp [this]⟩
  rcases K.find w k es.toList (fun e he => (h2 e he).imp fun k h => h.1) with ⟨hf, hn⟩ | ⟨j, e, hf, hj, hk⟩
  · refine ⟨(), { w with heap := w.heap.setIfInBounds r (.map es clock) }, ?_, hQ _ ⟨es, clock, ?_, ?_, h3, ?_⟩ (hgrow _) (by simp)⟩
    · simp [Builtin.delete_, run_underlying ht, Go.MapKept.run_getObj_map h1, K.check, hf, Go.MapKept.run_setObj_map _ h1]
      rfl
    · simp [hr]
    · intro x hx
      obtain ⟨k', hk', hv⟩ := h2 x hx
      refine ⟨k', hk', ?_⟩
      rw [if_neg fun e => hn x hx (by rw [hk', e])]; exact hv
    · intro k' v' hv'
      by_cases e : k' = k
      · rw [if_pos e] at hv'; cases hv'
      · rw [if_neg e] at hv'; exact h4 k' v' hv'
  · have hjl : j < es.toList.length := (List.getElem?_eq_some_iff.1 hj).1
    refine ⟨(), { w with heap := w.heap.setIfInBounds r (.map (es.eraseIdxIfInBounds j) clock) }, ?_, hQ _ ⟨es.eraseIdxIfInBounds j, clock, ?_, ?_, ?_, ?_⟩ (hgrow _) (by simp)⟩
    · simp [Builtin.delete_, run_underlying ht, Go.MapKept.run_getObj_map h1, K.check, hf, Go.MapKept.run_setObj_map _ h1]
      rfl
    · simp [hr]
    all_goals rw [show (es.eraseIdxIfInBounds j).toList = es.toList.eraseIdx j from by simp [Array.eraseIdxIfInBounds]; split <;> simp_all]
    · intro x hx
      obtain ⟨i, hij, hi⟩ := List.mem_eraseIdx_iff_getElem?.1 hx
      obtain ⟨k', hk', hv⟩ := h2 x (List.mem_of_getElem? hi)
      refine ⟨k', hk', ?_⟩
      rw [if_neg]
      · exact hv
      · rintro rfl
        have e1 : (es.toList.map (·.key))[i]? = some (key k') := by rw [List.getElem?_map, hi]; simp [hk']
        have e2 : (es.toList.map (·.key))[j]? = some (key k') := by rw [List.getElem?_map, hj]; simp [hk]
        have hil : i < (es.toList.map (·.key)).length := (List.getElem?_eq_some_iff.1 e1).1
        exact hij (((List.getElem?_inj hil h3).1 (e1.trans e2.symm)))
    · exact h3.sublist ((List.eraseIdx_sublist _ _).map _)
    · intro k' v' hv'
      by_cases hkk : k' = k
      · rw [if_pos hkk] at hv'; cases hv'
      · rw [if_neg hkk] at hv'
        obtain ⟨x, hx, h5, h6⟩ := h4 k' v' hv'
        obtain ⟨i, hi⟩ := List.mem_iff_getElem?.1 hx
        refine ⟨x, List.mem_eraseIdx_iff_getElem?.2 ⟨i, ?_, hi⟩, h5, h6⟩
        rintro rfl
        rw [hj] at hi
        cases hi
        exact hkk (K.inj _ _ (h5.symm.trans hk))
end
/-- A new map. -/
theorem rnNewM {P : Program} {t : TypeId} {κ : Type} {key : κ → Value} {w : World} {Q : Option Nat → World → Prop} (hQ : ∀ m w', m = w.heap.size → MapF key w' m (fun _ => none) → Fr w w' → w'.heap.size = w.heap.size + 1 → Q (some m) w') : rn P (Instr.makeMap t none) .M w Q :=
  ⟨some w.heap.size, w.alloc (.map #[] 0), run_makeMap _ _, hQ _ _ rfl (MapF.new w key) (Fr.alloc _ _) (by simp)⟩
end Go.Fl
namespace Go.Fl

abbrev NtT := Int × Int × Int × Int × Int × RecT × Unit
abbrev n5 (p : NtT) : List Value := [.int .i64 p.1, .int .i64 p.2.1, .int .i64 p.2.2.1, .int .i64 p.2.2.2.1, .int .i64 p.2.2.2.2.1]
/-- A note's cells. -/
def ntL (p : NtT) : List Value := n5 p ++ rcL p.2.2.2.2.2.1 []
theorem ntL_eq (p : NtT) : (([.int .i64 p.1, .int .i64 p.2.1, .int .i64 p.2.2.1, .int .i64 p.2.2.2.1, .int .i64 p.2.2.2.2.1] : List Value) ++ ((([.int .i64 p.2.2.2.2.2.1.1, .int .i64 p.2.2.2.2.2.1.2.1] : List Value) ++ (p.2.2.2.2.2.1.2.2.1.1 ++ ([.slice p.2.2.2.2.2.1.2.2.2.1.a p.2.2.2.2.2.1.2.2.2.1.n p.2.2.2.2.2.1.2.2.2.1.c] : List Value))) ++ ([] : List Value))) = ntL p := by
  rw [List.append_nil]; rfl
theorem ntL_length (p : NtT) : (ntL p).length = 40 := by simp [ntL, rcL_length]
theorem nzS {a : Addr} {K : Addr → Prop} (h : K a) : nz (some a) K := h
theorem rdAt {w : World} {g i n : Nat} {cs vs : List Value} {t : TypeId} {f : Nat × Nat} (h : w.heap[g]? = some (.cells cs.toArray t f)) (hv : (cs.drop i).take n = vs) : Rd w (some ⟨g, i, none⟩) vs := by
  intro j u hu
  refine ⟨_, rfl, ?_⟩
  rw [addOff, cell_of_row w g (i + j) cs.toArray t f h]
  have : ((cs.drop i).take n)[j]? = some u := by rw [hv]; exact hu
  rw [List.getElem?_take] at this
  split at this
  · rw [List.getElem?_drop] at this; simpa using this
  · cases this
theorem slA {P : Program} {t e : TypeId} {n : Nat} (ht : P.underlying t = some (.array n e)) (hs : ∀ w, (sizeOf e).run P w = .ok 1 w) {a : Addr} {w : World} {K : Sl → Prop} (k : K ⟨some a, n, n⟩) : qn P (Instr.sliceAt t (.pointer (some a)) none none none) .L w K :=
  ⟨_, fun w' _ => by
    simp [Instr.sliceAt, Instr.sliceBounds, run_underlying ht, Instr.sureAddr, hs, Addr.add]
    rfl, k⟩
/-- A pointer of a known block is read. -/
theorem ixP {w : World} {g n : Nat} {cs : List Value} {t : TypeId} {f : Nat × Nat} {i : Int} {v : Option Addr} {K : Option Addr → Prop} (h : w.heap[g]? = some (.cells cs.toArray t f)) (h0 : 0 ≤ i) (hn : i < n) (hi : cs[i.toNat]? = some (.pointer v)) (k : K v) :
    ixa (some ⟨g, 0, none⟩) n i 1 fun a => ld .P w a K := by
  refine ⟨h0, hn, ?_⟩
  show ld .P w (atOff ⟨g, 0, none⟩ i 1) K
  rw [atH]
  exact ldP0 h (by simpa using hi) k

/-- A note is stored into a block. -/
theorem stNote {w : World} {g : Nat} {q : NtT} {t : TypeId} (hg : w.heap[g]? = some (.cells (ntL q).toArray t (0, 0))) (p : NtT) (hone : ∀ v ∈ p.2.2.2.2.2.1.2.2.1.1, v.oneCell' = true) {K : World → Prop}
    (hk : ∀ w', w'.heap[g]? = some (.cells (ntL p).toArray t (0, 0)) → w.grownBy w' (some g) → w'.heap.size = w.heap.size → K w') :
    st1 w ⟨g, 0, none⟩ (.int .i64 p.1) fun w1 => st1 w1 ((⟨g, 0, none⟩ : Addr).add 1) (.int .i64 p.2.1) fun w2 => st1 w2 (((⟨g, 0, none⟩ : Addr).add 1).add 1) (.int .i64 p.2.2.1) fun w3 => st1 w3 ((((⟨g, 0, none⟩ : Addr).add 1).add 1).add 1) (.int .i64 p.2.2.2.1) fun w4 => st1 w4 (((((⟨g, 0, none⟩ : Addr).add 1).add 1).add 1).add 1) (.int .i64 p.2.2.2.2.1) fun w5 =>
      st1 w5 ((((((⟨g, 0, none⟩ : Addr).add 1).add 1).add 1).add 1).add 1) (.int .i64 p.2.2.2.2.2.1.1) fun w6 => st1 w6 (((((((⟨g, 0, none⟩ : Addr).add 1).add 1).add 1).add 1).add 1).add 1) (.int .i64 p.2.2.2.2.2.1.2.1) fun w7 => stL ((((((((⟨g, 0, none⟩ : Addr).add 1).add 1).add 1).add 1).add 1).add 1).add 1) w7 0 p.2.2.2.2.2.1.2.2.1.1 fun w8 => st1 w8 (((((((((⟨g, 0, none⟩ : Addr).add 1).add 1).add 1).add 1).add 1).add 1).add 1).add 32) (.slice p.2.2.2.2.2.1.2.2.2.1.a p.2.2.2.2.2.1.2.2.2.1.n p.2.2.2.2.2.1.2.2.2.1.c) K := by
  refine st0 hg (by simp [ntL_length]) fun w1 h1 g1 s1 => ?_
  rw [addOff]
  have k1 : w1.heap[g]? = some (.cells (((.int .i64 p.1 :: (ntL q).tail) : List Value)).toArray t (0, 0)) := by rw [h1]; simp [ntL]
  refine st0 k1 (by simp [ntL_length]) fun w2 h2 g2 s2 => ?_
  rw [addOff]
  have k2 : w2.heap[g]? = some (.cells (((.int .i64 p.1 :: .int .i64 p.2.1 :: (ntL q).tail.tail) : List Value)).toArray t (0, 0)) := by rw [h2]; simp [ntL]
  refine st0 k2 (by simp [ntL_length]) fun w3 h3 g3 s3 => ?_
  rw [addOff]
  have k3 : w3.heap[g]? = some (.cells (((.int .i64 p.1 :: .int .i64 p.2.1 :: .int .i64 p.2.2.1 :: (ntL q).tail.tail.tail) : List Value)).toArray t (0, 0)) := by rw [h3]; simp [ntL]
  refine st0 k3 (by simp [ntL_length]) fun w4 h4 g4 s4 => ?_
  rw [addOff]
  have k4 : w4.heap[g]? = some (.cells (((.int .i64 p.1 :: .int .i64 p.2.1 :: .int .i64 p.2.2.1 :: .int .i64 p.2.2.2.1 :: (ntL q).tail.tail.tail.tail) : List Value)).toArray t (0, 0)) := by rw [h4]; simp [ntL]
  refine st0 k4 (by simp [ntL_length]) fun w5 h5 g5 s5 => ?_
  rw [addOff]
  have k5 : w5.heap[g]? = some (.cells (n5 p ++ rcL q.2.2.2.2.2.1 []).toArray t (0, 0)) := by rw [h5]; simp [ntL]
  refine stRec (pre := n5 p) (post := []) (q := q.2.2.2.2.2.1) k5 p.2.2.2.2.2.1 hone fun w' hb hg' hs' => hk w' hb (((((g1.trans g2).trans g3).trans g4).trans g5).trans hg') (by omega)
abbrev ntK : Kd := .pair (.I .i64) (.pair (.I .i64) (.pair (.I .i64) (.pair (.I .i64) (.pair (.I .i64) (.pair (.pair (.I .i64) (.pair (.I .i64) (.pair (.row 32) (.pair .L .nil)))) .nil)))))
/-- A note is read. -/
theorem ldNote {w : World} {g : Nat} {p : NtT} {t : TypeId} {f : Nat × Nat} (hg : w.heap[g]? = some (.cells (ntL p).toArray t f)) {K : NtT → Prop} (hk : K p) : ld ntK w ⟨g, 0, none⟩ K := by
  obtain ⟨k, a, b, c, d, r, ⟨⟩⟩ := p
  refine ⟨k, ?_, a, ?_, b, ?_, c, ?_, d, ?_, ?_⟩
  · rw [cell_of_row w g _ _ t f hg]; rfl
  · show w.cell? ((⟨g, 0, none⟩ : Addr).add 1) = _
    rw [addOff, cell_of_row w g _ _ t f hg]; rfl
  · show w.cell? (((⟨g, 0, none⟩ : Addr).add 1).add 1) = _
    rw [addOff, addOff, cell_of_row w g _ _ t f hg]; rfl
  · show w.cell? ((((⟨g, 0, none⟩ : Addr).add 1).add 1).add 1) = _
    rw [addOff, addOff, addOff, cell_of_row w g _ _ t f hg]; rfl
  · show w.cell? (((((⟨g, 0, none⟩ : Addr).add 1).add 1).add 1).add 1) = _
    rw [addOff, addOff, addOff, addOff, cell_of_row w g _ _ t f hg]; rfl
  · show ld _ w ((((((⟨g, 0, none⟩ : Addr).add 1).add 1).add 1).add 1).add 1) _
    rw [addOff, addOff, addOff, addOff, addOff]
    exact ldRec (pre := n5 (k, a, b, c, d, r, ())) (post := []) hg (K := fun r => K (k, a, b, c, d, r, ())) hk

/-- Which numbers a note of a kind has. -/
def offs (k : Int) : List Nat := if k = 1 then [1, 2, 3] else if k = 2 ∨ k = 5 ∨ k = 6 then [1, 4] else if k = 3 ∨ k = 4 then [1] else []
theorem offs_mem {k : Int} {o : Nat} (h : o ∈ offs k) : o = 1 ∨ o = 2 ∨ o = 3 ∨ o = 4 := by
  unfold offs at h
  split at h
  · simp at h; omega
  · split at h
    · simp at h; omega
    · split at h
      · simp at h; omega
      · simp at h
theorem offs_len (k : Int) : (offs k).length ≤ 3 := by
  unfold offs
  repeat (split; simp)
  simp
/-- A note's numbers. -/
def nv (p : NtT) (o : Nat) : Int := ([p.1, p.2.1, p.2.2.1, p.2.2.2.1, p.2.2.2.2.1] : List Int).getD o 0
theorem ntL_at (p : NtT) {o : Nat} (h : o < 5) : (ntL p).toArray[o]? = some (.int .i64 (nv p o)) := by
  obtain rfl | rfl | rfl | rfl | rfl : o = 0 ∨ o = 1 ∨ o = 2 ∨ o = 3 ∨ o = 4 := by omega
  all_goals rfl
/-- A note with some of the numbers alone. -/
def bareN (p : NtT) (os : List Nat) : NtT := (p.1, if 1 ∈ os then p.2.1 else 0, if 2 ∈ os then p.2.2.1 else 0, if 3 ∈ os then p.2.2.2.1 else 0, if 4 ∈ os then p.2.2.2.2.1 else 0, p.2.2.2.2.2.1, ())
theorem bareN_set (p : NtT) (os : List Nat) {o : Nat} (h : o = 1 ∨ o = 2 ∨ o = 3 ∨ o = 4) : (ntL (bareN p os)).toArray.setIfInBounds o (.int .i64 (nv p o)) = (ntL (bareN p (os ++ [o]))).toArray := by
  rcases h with rfl | rfl | rfl | rfl <;> simp [ntL, bareN, nv]
/-- A row of pointers to a block's cells. -/
def Pts (w : World) (base g : Nat) (os : List Nat) (r : Sl) : Prop := r.n = os.length ∧ (os ≠ [] → ∃ b t, r.a = some ⟨b, 0, none⟩ ∧ base ≤ b ∧ w.heap[b]? = some (.cells (os.map fun o => Value.pointer (some ⟨g, o, none⟩)).toArray t (0, 0)))
theorem Pts.fr {w w' : World} {base g : Nat} {os : List Nat} {r : Sl} (h : Pts w base g os r) (hf : Fr w w') : Pts w' base g os r :=
  ⟨h.1, fun hne => by obtain ⟨b, t, ha, hb, hh⟩ := h.2 hne; exact ⟨b, t, ha, hb, hf.heap hh⟩⟩
theorem Pts.kp {w w' : World} {base g c : Nat} {os : List Nat} {r : Sl} (h : Pts w base g os r) (hg : w.grownBy w' (some c)) (hc : c < base) : Pts w' base g os r :=
  ⟨h.1, fun hne => by
    obtain ⟨b, t, ha, hb, hh⟩ := h.2 hne
    exact ⟨b, t, ha, hb, (hg.block b (Array.getElem?_eq_some_iff.1 hh).1 (by simp; omega)).trans hh⟩⟩
theorem Pts.ix {w : World} {base g : Nat} {os : List Nat} {r : Sl} (h : Pts w base g os r) {i : Nat} (hi : i < os.length) {K : Option Addr → Prop} (k : K (some ⟨g, os[i], none⟩)) : ixa r.a r.n (i : Int) 1 fun a => ld .P w a K := by
  obtain ⟨b, t, ha, hb, hh⟩ := h.2 (by intro e; rw [e] at hi; simp at hi)
  rw [ha, h.1]
  exact ixP hh (by omega) (by omega) (by rw [Int.toNat_natCast, List.getElem?_map, List.getElem?_eq_getElem hi]; rfl) k
/-- Is the record empty? -/
def emptyR (q : RecT) (d : List UInt8) : Prop := q.1 = 0 ∧ q.2.1 = 0 ∧ d = List.replicate 32 0 ∧ q.2.2.2.1.n = 0
instance (q : RecT) (d : List UInt8) : Decidable (emptyR q d) := by unfold emptyR; infer_instance
/-- May a record be? -/
def chkS (k s : Int) (n : Nat) : Int := if ((k = 1 ∧ n = 0) ∨ (k = 2 ∧ (n : Int) = s) ∨ (k = 3 ∧ n ≤ 256)) ∧ 1 ≤ s ∧ s ≤ 256 then 0 else 100
/-- May a note be? -/
def FitP (p : NtT) (d : List UInt8) : Prop := offs p.1 ≠ [] ∧ (∀ o ∈ offs p.1, 1 ≤ nv p o ∧ nv p o ≤ 1073741824) ∧ (p.1 = 1 → p.2.2.1 ≤ 65535 ∧ p.2.2.2.1 ≤ 65535) ∧ (∀ o ∈ ([1, 2, 3, 4] : List Nat), o ∉ offs p.1 → nv p o = 0) ∧
  (p.1 ≠ 2 → emptyR p.2.2.2.2.2.1 d) ∧ (p.1 = 2 → chkS p.2.2.2.2.2.1.1 p.2.2.2.2.2.1.2.1 p.2.2.2.2.2.1.2.2.2.1.n = 0)
instance (p : NtT) (d : List UInt8) : Decidable (FitP p d) := by unfold FitP; infer_instance
def fitS (p : NtT) (d : List UInt8) : Int := if FitP p d then 0 else 100
theorem bare_same (p : NtT) (os : List Nat) : (((bareN p os).2.1 = p.2.1 ∧ (bareN p os).2.2.1 = p.2.2.1 ∧ (bareN p os).2.2.2.1 = p.2.2.2.1 ∧ (bareN p os).2.2.2.2.1 = p.2.2.2.2.1) ↔ ∀ o ∈ ([1, 2, 3, 4] : List Nat), o ∉ os → nv p o = 0) := by
  have e (x : Int) (P : Prop) [Decidable P] : ((if P then x else 0) = x) ↔ (¬P → x = 0) := by
    split
    · rename_i h; simp [h]
    · rename_i h; simp [h]; exact eq_comm
  simp only [bareN, e, List.mem_cons, List.not_mem_nil, or_false, forall_eq_or_imp, forall_eq]
  rfl
/-- A record's bytes. -/
def recB (k s : Int) (d l : List UInt8) : List UInt8 := numsB [k, s] ++ d ++ (numB l.length ++ l)
/-- A note's bytes. -/
def noteB (p : NtT) (d l : List UInt8) : List UInt8 := numB p.1.toNat ++ numsB ((offs p.1).map (nv p)) ++ (if p.1 = 2 then recB p.2.2.2.2.2.1.1 p.2.2.2.2.2.1.2.1 d l else [])
end Go.Fl
namespace Go.Fl

/-- A note. -/
structure PN where
  k : Int
  a : Int
  b : Int
  c : Int
  i : Int
  rk : Int
  rs : Int
  d : List UInt8
  l : List UInt8
deriving DecidableEq
def PN.num (n : PN) (o : Nat) : Int := ([n.k, n.a, n.b, n.c, n.i] : List Int).getD o 0
/-- May it be? -/
def PN.fit (n : PN) : Prop := offs n.k ≠ [] ∧ (∀ o ∈ offs n.k, 1 ≤ n.num o ∧ n.num o ≤ 1073741824) ∧ (n.k = 1 → n.b ≤ 65535 ∧ n.c ≤ 65535) ∧ (∀ o ∈ ([1, 2, 3, 4] : List Nat), o ∉ offs n.k → n.num o = 0) ∧
  (n.k ≠ 2 → n.rk = 0 ∧ n.rs = 0 ∧ n.d = List.replicate 32 0 ∧ n.l = []) ∧ (n.k = 2 → chkS n.rk n.rs n.l.length = 0)
instance (n : PN) : Decidable n.fit := by unfold PN.fit; infer_instance
def PN.bytes (n : PN) : List UInt8 := numB n.k.toNat ++ numsB ((offs n.k).map n.num) ++ (if n.k = 2 then recB n.rk n.rs n.d n.l else [])
/-- What a note in memory is. -/
def pnOf (p : NtT) (d l : List UInt8) : PN := ⟨p.1, p.2.1, p.2.2.1, p.2.2.2.1, p.2.2.2.2.1, p.2.2.2.2.2.1.1, p.2.2.2.2.2.1.2.1, d, l⟩
theorem pnOf_fit {p : NtT} {d l : List UInt8} (h : p.2.2.2.2.2.1.2.2.2.1.n = l.length) : FitP p d ↔ (pnOf p d l).fit := by
  unfold FitP PN.fit emptyR
  rw [h]
  simp only [List.length_eq_zero_iff]
  rfl
theorem pnOf_bytes (p : NtT) (d l : List UInt8) : noteB p d l = (pnOf p d l).bytes := rfl
/-- Numbers off the front. -/
def numsS : Nat → List UInt8 → Option (List Int × List UInt8)
  | 0, l => some ([], l)
  | n + 1, l => if (lookS l).2.2 ≠ 0 then none else (numsS n (l.drop (lookS l).2.1)).map fun x => (((lookS l).1 : Int) :: x.1, x.2)
abbrev TkT := Int × Int × List UInt8 × List UInt8
/-- A record off the front. -/
def takeS (l : List UInt8) : Option (TkT × List UInt8) :=
  if (lookS l).2.2 ≠ 0 ∨ (lookS (l.drop (lookS l).2.1)).2.2 ≠ 0 then none else
  let l2 := (l.drop (lookS l).2.1).drop (lookS (l.drop (lookS l).2.1)).2.1
  if l2.length < 32 then none else
  if (rdText (l2.drop 32) 256).2.1 ≠ 0 ∨ chkS (lookS l).1 (lookS (l.drop (lookS l).2.1)).1 (rdText (l2.drop 32) 256).1.length ≠ 0 then none else
  some (((lookS l).1, (lookS (l.drop (lookS l).2.1)).1, l2.take 32, (rdText (l2.drop 32) 256).1), (l2.drop 32).drop (rdText (l2.drop 32) 256).2.2)
def atS (k : Int) (ns : List Int) (o : Nat) : Int := if o ∈ offs k then ns.getD ((offs k).idxOf o) 0 else 0
def mkPN (k : Int) (ns : List Int) (x : TkT) : PN := ⟨k, atS k ns 1, atS k ns 2, atS k ns 3, atS k ns 4, x.1, x.2.1, x.2.2.1, x.2.2.2⟩
/-- The note of which some bytes are. -/
def getS (b : List UInt8) : Option PN :=
  if (lookS b).2.2 ≠ 0 then none else
  match numsS (offs (lookS b).1).length (b.drop (lookS b).2.1) with
  | none => none
  | some (ns, r) => match (if ((lookS b).1 : Int) = 2 then takeS r else some ((0, 0, List.replicate 32 0, []), r)) with
    | none => none
    | some (x, r3) => if r3 = [] ∧ (mkPN (lookS b).1 ns x).fit then some (mkPN (lookS b).1 ns x) else none

theorem numsS_back : ∀ {n : Nat} {l : List UInt8} {ns : List Int} {r : List UInt8}, numsS n l = some (ns, r) → ns.length = n ∧ numsB ns ++ r = l ∧ ∀ x ∈ ns, 0 ≤ x ∧ x ≤ 9223372036854775807
  | 0, l, ns, r, h => by
    simp only [numsS, Option.some.injEq, Prod.mk.injEq] at h
    obtain ⟨rfl, rfl⟩ := h
    exact ⟨rfl, rfl, by simp⟩
  | n + 1, l, ns, r, h => by
    unfold numsS at h
    split at h
    · cases h
    · rename_i h0
      obtain ⟨⟨ms, r'⟩, h1, h2⟩ := Option.map_eq_some_iff.1 h
      simp only [Prod.mk.injEq] at h2
      obtain ⟨rfl, rfl⟩ := h2
      obtain ⟨i1, i2, i3⟩ := numsS_back h1
      obtain ⟨x, k, e⟩ : ∃ x k, lookS l = (x, k, 0) := ⟨(lookS l).1, (lookS l).2.1, by rw [← Decidable.not_not.1 h0]⟩
      obtain ⟨b1, b2, b3, b4⟩ := look_back e
      rw [e] at i2 ⊢
      dsimp only at i2 ⊢
      refine ⟨by simp [i1], ?_, fun y hy => ?_⟩
      · rw [numsB_cons, List.append_assoc, i2, Int.toNat_natCast, ← b3, List.take_append_drop]
      · rcases List.mem_cons.1 hy with rfl | hy
        · omega
        · exact i3 y hy
theorem numsS_put (r : List UInt8) : ∀ {ns : List Int}, (∀ x ∈ ns, 0 ≤ x ∧ x ≤ 9223372036854775807) → numsS ns.length (numsB ns ++ r) = some (ns, r)
  | [], _ => rfl
  | x :: ns, h => by
    have hx := h x (by simp)
    have ih := numsS_put r (ns := ns) fun y hy => h y (by simp [hy])
    rw [List.length_cons, numsB_cons, List.append_assoc, numsS, look_num (by omega), if_neg (by simp)]
    dsimp only
    rw [← numB_length, List.drop_left' rfl, ih]
    simp only [Option.map_some, Option.some.injEq, Prod.mk.injEq, List.cons.injEq, and_true]
    omega
theorem takeS_back {l : List UInt8} {x : TkT} {r : List UInt8} (h : takeS l = some (x, r)) : recB x.1 x.2.1 x.2.2.1 x.2.2.2 ++ r = l ∧ x.2.2.1.length = 32 ∧ chkS x.1 x.2.1 x.2.2.2.length = 0 := by
  unfold takeS at h
  split at h
  · cases h
  rename_i h0
  obtain ⟨k, n, e⟩ : ∃ k n, lookS l = (k, n, 0) := ⟨(lookS l).1, (lookS l).2.1, by rw [← Decidable.not_not.1 fun h => h0 (.inl h)]⟩
  obtain ⟨b1, b2, b3, b4⟩ := look_back e
  rw [e] at h h0
  dsimp only at h h0
  obtain ⟨s, m, e2⟩ : ∃ s m, lookS (l.drop n) = (s, m, 0) := by
    have hz : (lookS (l.drop n)).2.2 = 0 := Decidable.not_not.1 fun h => h0 (.inr h)
    exact ⟨(lookS (l.drop n)).1, (lookS (l.drop n)).2.1, by rw [← hz]⟩
  obtain ⟨c1, c2, c3, c4⟩ := look_back e2
  rw [e2] at h
  dsimp only at h
  generalize hl2 : (l.drop n).drop m = l2 at h
  split at h
  · cases h
  rename_i h32
  split at h
  · cases h
  rename_i ht
  simp only [Option.some.injEq, Prod.mk.injEq] at h
  obtain ⟨rfl, rfl⟩ := h
  have ht1 : (rdText (l2.drop 32) 256).2.1 = 0 := Decidable.not_not.1 fun h => ht (.inl h)
  have ht2 := Decidable.not_not.1 fun h => ht (.inr h)
  have hb := rdText_back ht1
  refine ⟨?_, by rw [List.length_take]; omega, ht2⟩
  dsimp only
  rw [recB, ← hb, numsB_cons, numsB_cons, numsB_nil, List.append_nil, Int.toNat_natCast, Int.toNat_natCast, ← b3, ← c3]
  simp only [List.append_assoc]
  rw [List.take_append_drop, List.take_append_drop, ← hl2, List.take_append_drop, List.take_append_drop]
theorem takeS_put {rk rs : Int} {d l : List UInt8} (r : List UInt8) (h : chkS rk rs l.length = 0) (hd : d.length = 32) (hl : l.length ≤ 256) (hk : 0 ≤ rk ∧ rk ≤ 9223372036854775807) (hs : 0 ≤ rs ∧ rs ≤ 9223372036854775807) : takeS (recB rk rs d l ++ r) = some ((rk, rs, d, l), r) := by
  have e : recB rk rs d l ++ r = numB rk.toNat ++ (numB rs.toNat ++ (d ++ (numB l.length ++ (l ++ r)))) := by
    simp [recB, numsB_cons, numsB_nil]
  have t := rdText_put (m := l) (most := 256) (by omega) (by omega) r
  rw [e]
  unfold takeS
  rw [look_num (by omega)]
  dsimp only
  rw [← numB_length, List.drop_left' rfl, look_num (by omega)]
  dsimp only
  rw [← numB_length, List.drop_left' rfl, if_neg (by simp), if_neg (by rw [List.length_append]; omega), ← hd, List.drop_left' rfl, List.take_left' rfl, t]
  dsimp only
  have ek : ((rk.toNat : Nat) : Int) = rk := by omega
  have es : ((rs.toNat : Nat) : Int) = rs := by omega
  rw [ek, es, if_neg (by simp [h])]
  rw [← List.append_assoc (numB l.length), List.drop_left' (by simp)]
theorem atS_map {n : PN} (h : ∀ o ∈ ([1, 2, 3, 4] : List Nat), o ∉ offs n.k → n.num o = 0) {o : Nat} (ho : o ∈ ([1, 2, 3, 4] : List Nat)) : atS n.k ((offs n.k).map n.num) o = n.num o := by
  unfold atS
  by_cases hm : o ∈ offs n.k
  · rw [if_pos hm, List.getD_eq_getElem?_getD, List.getElem?_map, List.getElem?_eq_getElem (List.idxOf_lt_length_iff.2 hm), List.getElem_idxOf]
    rfl
  · rw [if_neg hm, h o ho hm]
theorem offs_kd {k : Int} (h : offs k ≠ []) : 1 ≤ k ∧ k ≤ 6 := by
  unfold offs at h
  split at h
  · omega
  · split at h
    · omega
    · split at h
      · omega
      · exact absurd rfl h
theorem chk_in {k s : Int} {n : Nat} (h : chkS k s n = 0) : 1 ≤ k ∧ k ≤ 3 ∧ 1 ≤ s ∧ s ≤ 256 ∧ n ≤ 256 := by
  unfold chkS at h
  split at h
  · omega
  · cases h
theorem getS_put {n : PN} (h : n.fit) (hd : n.d.length = 32) : getS n.bytes = some n := by
  obtain ⟨h1, h2, h3, h4, h5, h6⟩ := h
  have hk := offs_kd h1
  have hk2 : ((n.k.toNat : Nat) : Int) = n.k := by omega
  have hat : ∀ x, mkPN n.k ((offs n.k).map n.num) x = { n with rk := x.1, rs := x.2.1, d := x.2.2.1, l := x.2.2.2 } := by
    intro x
    unfold mkPN
    rw [atS_map h4 (by simp), atS_map h4 (by simp), atS_map h4 (by simp), atS_map h4 (by simp)]
    rfl
  have hn : ∀ x ∈ (offs n.k).map n.num, 0 ≤ x ∧ x ≤ 9223372036854775807 := by
    intro x hx
    obtain ⟨o, ho, rfl⟩ := List.mem_map.1 hx
    have := h2 o ho
    omega
  have hfit : n.fit := ⟨h1, h2, h3, h4, h5, h6⟩
  unfold getS
  have e : n.bytes = numB n.k.toNat ++ (numsB ((offs n.k).map n.num) ++ (if n.k = 2 then recB n.rk n.rs n.d n.l else [])) := by simp [PN.bytes]
  rw [e, look_num (by omega), if_neg (by simp)]
  dsimp only
  have hp := numsS_put (if n.k = 2 then recB n.rk n.rs n.d n.l else []) hn
  rw [List.length_map] at hp
  rw [hk2, ← numB_length, List.drop_left' rfl, hp]
  dsimp only
  by_cases h22 : n.k = 2
  · rw [if_pos h22, if_pos h22]
    have hc := chk_in (h6 h22)
    have ht := takeS_put [] (h6 h22) hd (by omega) (by omega) (by omega)
    rw [List.append_nil] at ht
    rw [ht]
    dsimp only
    rw [hat, if_pos ⟨rfl, hfit⟩]
  · rw [if_neg h22, if_neg h22]
    dsimp only
    obtain ⟨e1, e2, e3, e4⟩ := h5 h22
    have en : mkPN n.k ((offs n.k).map n.num) (0, 0, List.replicate 32 0, []) = n := by
      rw [hat]
      cases n
      dsimp only at e1 e2 e3 e4 ⊢
      rw [e1, e2, e3, e4]
    rw [en, if_pos ⟨rfl, hfit⟩]
theorem getS_back {b : List UInt8} {n : PN} (h : getS b = some n) : n.fit ∧ n.d.length = 32 ∧ n.bytes = b := by
  unfold getS at h
  split at h
  · cases h
  rename_i h0
  obtain ⟨k, m, e⟩ : ∃ k m, lookS b = (k, m, 0) := ⟨(lookS b).1, (lookS b).2.1, by rw [← Decidable.not_not.1 h0]⟩
  obtain ⟨b1, b2, b3, b4⟩ := look_back e
  rw [e] at h
  dsimp only at h
  split at h
  · cases h
  rename_i ns r hns
  obtain ⟨c1, c2, c3⟩ := numsS_back hns
  split at h
  · cases h
  rename_i x r3 hx
  split at h
  · rename_i hf
    obtain ⟨rfl, hfit⟩ := hf
    simp only [Option.some.injEq] at h
    have hmap : (offs (k : Int)).map (mkPN k ns x).num = ns := by
      refine List.ext_getElem (by simp [c1]) fun i h1 h2 => ?_
      rw [List.getElem_map]
      rw [List.length_map] at h1
      have hat : ∀ o ∈ offs (k : Int), (mkPN k ns x).num o = ns.getD ((offs (k : Int)).idxOf o) 0 := by
        intro o ho
        have hm := offs_mem ho
        rcases hm with rfl | rfl | rfl | rfl <;> (show atS k ns _ = _; rw [atS, if_pos ho])
      rw [hat _ (List.getElem_mem h1)]
      have hnd : (offs (k : Int)).Nodup := by
        unfold offs
        split
        · decide
        · split
          · decide
          · split <;> decide
      rw [hnd.idxOf_getElem i h1, List.getD_eq_getElem?_getD, List.getElem?_eq_getElem h2, Option.getD_some]
    by_cases h22 : (k : Int) = 2
    · rw [if_pos h22] at hx
      obtain ⟨t1, t2, t3⟩ := takeS_back hx
      rw [List.append_nil] at t1
      rw [← h]
      refine ⟨hfit, t2, ?_⟩
      show numB ((k : Int)).toNat ++ numsB ((offs (k : Int)).map (mkPN k ns x).num) ++ (if (k : Int) = 2 then recB x.1 x.2.1 x.2.2.1 x.2.2.2 else []) = b
      rw [hmap, if_pos h22, t1, List.append_assoc, c2, Int.toNat_natCast, ← b3, List.take_append_drop]
    · rw [if_neg h22] at hx
      simp only [Option.some.injEq, Prod.mk.injEq] at hx
      obtain ⟨rfl, rfl⟩ := hx
      rw [← h]
      refine ⟨hfit, by simp [mkPN], ?_⟩
      show numB ((k : Int)).toNat ++ numsB ((offs (k : Int)).map (mkPN k ns _).num) ++ (if (k : Int) = 2 then _ else []) = b
      rw [List.append_nil] at c2
      rw [hmap, if_neg h22, List.append_nil, c2, Int.toNat_natCast, ← b3, List.take_append_drop]
  · cases h
/-- What is read of a note, before it is asked whether it may be. -/
def candS (b : List UInt8) : Option (PN × List UInt8) :=
  if (lookS b).2.2 ≠ 0 then none else
  match numsS (offs (lookS b).1).length (b.drop (lookS b).2.1) with
  | none => none
  | some (ns, r) => match (if ((lookS b).1 : Int) = 2 then takeS r else some ((0, 0, List.replicate 32 0, []), r)) with
    | none => none
    | some (x, r3) => some (mkPN (lookS b).1 ns x, r3)
theorem getS_cand (b : List UInt8) : getS b = match candS b with | none => none | some (n, r3) => if r3 = [] ∧ n.fit then some n else none := by
  unfold getS candS
  split
  · rfl
  · split
    · rfl
    · split <;> rfl
theorem numsS_snoc : ∀ {n : Nat} {l : List UInt8} {ns : List Int} {r : List UInt8}, numsS n l = some (ns, r) → numsS (n + 1) l = if (lookS r).2.2 ≠ 0 then none else some (ns ++ [((lookS r).1 : Int)], r.drop (lookS r).2.1)
  | 0, l, ns, r, h => by
    simp only [numsS, Option.some.injEq, Prod.mk.injEq] at h
    obtain ⟨rfl, rfl⟩ := h
    simp only [numsS]
    split <;> simp_all
  | n + 1, l, ns, r, h => by
    rw [numsS] at h
    rw [numsS]
    split at h
    · cases h
    · rename_i h0
      rw [if_neg h0]
      obtain ⟨⟨ms, r'⟩, h1, h2⟩ := Option.map_eq_some_iff.1 h
      simp only [Prod.mk.injEq] at h2
      obtain ⟨rfl, rfl⟩ := h2
      rw [numsS_snoc h1]
      split <;> simp
theorem numsS_none : ∀ {n : Nat} {l : List UInt8} (m : Nat), numsS n l = none → n ≤ m → numsS m l = none
  | 0, _, _, h, _ => by simp [numsS] at h
  | n + 1, l, 0, _, hm => by omega
  | n + 1, l, m + 1, h, hm => by
    rw [numsS] at h ⊢
    split
    · rfl
    · rename_i h0
      rw [if_neg h0, Option.map_eq_none_iff] at h
      rw [numsS_none m h (by omega)]
      rfl
/-- A note's numbers alone, in memory. -/
def numT (k : Int) (ns : List Int) (r : RecT) : NtT := (k, atS k ns 1, atS k ns 2, atS k ns 3, atS k ns 4, r, ())
theorem numT_set {k : Int} {ns : List Int} {r : RecT} (h : ns.length < (offs k).length) (x : Int) : (ntL (numT k ns r)).toArray.setIfInBounds ((offs k)[ns.length]) (.int .i64 x) = (ntL (numT k (ns ++ [x]) r)).toArray := by
  have key : ∀ o, atS k (ns ++ [x]) o = if o = (offs k)[ns.length] then x else atS k ns o := by
    intro o
    have hnd : (offs k).Nodup := by
      unfold offs
      split
      · decide
      · split
        · decide
        · split <;> decide
    unfold atS
    by_cases ho : o = (offs k)[ns.length]
    · subst ho
      rw [if_pos rfl, if_pos (List.getElem_mem h), hnd.idxOf_getElem _ h]
      simp [List.getD_eq_getElem?_getD]
    · rw [if_neg ho]
      by_cases hm : o ∈ offs k
      · rw [if_pos hm, if_pos hm]
        have hne : (offs k).idxOf o ≠ ns.length := fun e => ho (by rw [← List.getElem_idxOf (List.idxOf_lt_length_iff.2 hm)]; simp only [e])
        rw [List.getD_eq_getElem?_getD, List.getD_eq_getElem?_getD]
        by_cases hlt : (offs k).idxOf o < ns.length
        · rw [List.getElem?_append_left hlt]
        · rw [List.getElem?_eq_none (by simp; omega), List.getElem?_eq_none (by omega)]
      · rw [if_neg hm, if_neg hm]
  have hm := offs_mem (List.getElem_mem h)
  have e1 := key 1
  have e2 := key 2
  have e3 := key 3
  have e4 := key 4
  unfold numT
  rw [e1, e2, e3, e4]
  rcases hm with hm | hm | hm | hm <;> (rw [hm]; simp [ntL, n5])
end Go.Fl
namespace Go.Fl

/-- A frame. -/
structure Fm where
  k : Int
  fr : Int
  yo : Int
  sq : Int
  ac : Int
  bi : Int
  bd : List UInt8
deriving DecidableEq
def okF (k fr yo sq ac bi : Int) (n : Nat) : Prop := (1 ≤ fr ∧ fr ≤ 1099511627776) ∧ (0 ≤ yo ∧ yo ≤ 1099511627776) ∧
  ((k = 1 ∧ sq = 0 ∧ ac = 0 ∧ bi = 0 ∧ n = 0) ∨ (k = 2 ∧ (1 ≤ sq ∧ sq ≤ 1099511627776) ∧ ac = 0 ∧ bi = 0 ∧ n ≤ 512) ∨ (k = 3 ∧ sq = 0 ∧ (0 ≤ ac ∧ ac ≤ 1099511627776) ∧ (0 ≤ bi ∧ bi ≤ 65535) ∧ n = 0))
instance (k fr yo sq ac bi : Int) (n : Nat) : Decidable (okF k fr yo sq ac bi n) := by unfold okF; infer_instance
def Fm.ok (f : Fm) : Prop := okF f.k f.fr f.yo f.sq f.ac f.bi f.bd.length
instance (f : Fm) : Decidable f.ok := by unfold Fm.ok; infer_instance
def Fm.nums (f : Fm) : List Int := [f.k, f.fr, f.yo, f.sq, f.ac, f.bi]
def rawF (f : Fm) : List UInt8 := 85 :: (numsB f.nums ++ (numB f.bd.length ++ f.bd))
def Fm.bytes (f : Fm) : List UInt8 := sealB (rawF f)
/-- What is put of a frame. -/
def putF (f : Fm) : List UInt8 × Int := if f.ok then (f.bytes, 0) else ([], 120)
def mkFm (ns : List Int) (b : List UInt8) : Fm := ⟨ns.getD 0 0, ns.getD 1 0, ns.getD 2 0, ns.getD 3 0, ns.getD 4 0, ns.getD 5 0, b⟩
/-- The frame behind the mark. -/
def readF (l : List UInt8) : Option Fm := match numsS 6 l with
  | none => none
  | some (ns, r) => if (rdText r 512).2.1 ≠ 0 then none else if r.drop (rdText r 512).2.2 = [] ∧ (mkFm ns (rdText r 512).1).ok then some (mkFm ns (rdText r 512).1) else none
def bodyF : List UInt8 → Option Fm
  | [] => none
  | c :: l => if c = 85 then readF l else none
/-- The frame of which some bytes are. -/
def getF (p : List UInt8) : Option Fm := if (openB p).2 ≠ 0 then none else bodyF (openB p).1
/-- Why there is none. -/
def getE (p : List UInt8) : Int := if (openB p).2 ≠ 0 then (openB p).2 else if (getF p).isSome then 0 else 120
theorem okF_in {k fr yo sq ac bi : Int} {n : Nat} (h : okF k fr yo sq ac bi n) : (1 ≤ k ∧ k ≤ 3) ∧ (0 ≤ sq ∧ sq ≤ 1099511627776) ∧ (0 ≤ ac ∧ ac ≤ 1099511627776) ∧ (0 ≤ bi ∧ bi ≤ 65535) ∧ n ≤ 512 := by
  unfold okF at h
  omega
theorem mkFm_nums (f : Fm) : mkFm f.nums f.bd = f := rfl
theorem nums_mk {ns : List Int} (h : ns.length = 6) (b : List UInt8) : (mkFm ns b).nums = ns := by
  match ns, h with
  | [_, _, _, _, _, _], _ => rfl
theorem readF_put {f : Fm} (h : f.ok) : readF (numsB f.nums ++ (numB f.bd.length ++ f.bd)) = some f := by
  have hi := okF_in h
  have h1 := h.1
  have h2 := h.2.1
  have hn : ∀ x ∈ f.nums, 0 ≤ x ∧ x ≤ 9223372036854775807 := by
    intro x hx
    simp only [Fm.nums, List.mem_cons, List.not_mem_nil, or_false] at hx
    rcases hx with rfl | rfl | rfl | rfl | rfl | rfl <;> omega
  have hp := numsS_put (numB f.bd.length ++ f.bd) hn
  have hl : f.nums.length = 6 := rfl
  rw [hl] at hp
  have ht := rdText_put (m := f.bd) (most := 512) (by omega) (by omega) []
  rw [List.append_nil] at ht
  unfold readF
  rw [hp]
  dsimp only
  rw [ht]
  dsimp only
  rw [if_neg (by simp), mkFm_nums, if_pos ⟨by rw [List.drop_eq_nil_iff, List.length_append]; omega, h⟩]
theorem readF_back {l : List UInt8} {f : Fm} (h : readF l = some f) : f.ok ∧ l = numsB f.nums ++ (numB f.bd.length ++ f.bd) := by
  unfold readF at h
  split at h
  · cases h
  · rename_i ns r hns
    obtain ⟨c1, c2, c3⟩ := numsS_back hns
    split at h
    · cases h
    · rename_i ht
      split at h
      · rename_i hok
        have ht1 : (rdText r 512).2.1 = 0 := Decidable.not_not.1 ht
        have hb := rdText_back ht1
        simp only [Option.some.injEq] at h
        have hd := List.take_append_drop (rdText r 512).2.2 r
        rw [hok.1, List.append_nil, hb] at hd
        rw [← h]
        refine ⟨hok.2, ?_⟩
        rw [nums_mk c1]
        show l = numsB ns ++ (numB (rdText r 512).1.length ++ (rdText r 512).1)
        rw [hd, c2]
      · cases h
theorem getF_put {f : Fm} (h : f.ok) : getF f.bytes = some f := by
  unfold getF Fm.bytes
  rw [openB_seal, if_neg (by simp)]
  show (if (85 : UInt8) = 85 then readF (numsB f.nums ++ (numB f.bd.length ++ f.bd)) else none) = some f
  rw [if_pos rfl, readF_put h]
theorem getF_back {p : List UInt8} {f : Fm} (h : getF p = some f) : f.ok ∧ f.bytes = p := by
  unfold getF at h
  split at h
  · cases h
  · rename_i h0
    have e : openB p = ((openB p).1, 0) := by rw [← Decidable.not_not.1 h0]
    have hs := openB_back e
    generalize (openB p).1 = b at *
    cases b with
    | nil => cases h
    | cons c l =>
      rw [show bodyF (c :: l) = (if c = 85 then readF l else none) from rfl] at h
      split at h
      · rename_i hc
        obtain ⟨h1, h2⟩ := readF_back h
        refine ⟨h1, ?_⟩
        rw [hs, Fm.bytes, rawF, h2, hc]
      · cases h
theorem getE_zero {p : List UInt8} : getE p = 0 ↔ (getF p).isSome = true := by
  unfold getE
  split
  · rename_i h
    constructor
    · intro h2; omega
    · intro h2
      unfold getF at h2
      rw [if_pos h] at h2
      cases h2
  · split
    · rename_i h; simp [h]
    · rename_i h; simp [h]
theorem getE_cases (p : List UInt8) : getE p = 0 ∨ getE p = 2 ∨ getE p = 10 ∨ getE p = 120 := by
  unfold getE
  rcases openB_cases p with h | h | h
  · rw [if_neg (by omega)]; split <;> simp
  · rw [h]; simp
  · rw [h]; simp
end Go.Fl
namespace Go.Fl

/-- Whole values may be read, or stored, so. -/
def AV.okLd : AV → Bool
  | .v x => x.oneCell'
  | .nil => true
  | .pair a b => a.okLd && b.okLd
  | .row _ _ => true
  | .tup _ => false
def AV.okSt : AV → Bool
  | .v x => x.oneCell'
  | .nil => true
  | .pair a b => a.okSt && b.okSt
  | .row _ l => l.1.all (·.oneCell')
  | .tup _ => false
theorem one_cells {x : Value} (h : x.oneCell' = true) : x.cells = #[x] := by cases x <;> first | rfl | simp [Value.oneCell'] at h
/-- A value is stored into a part of a block. -/
theorem st_all : ∀ (x : AV), x.okSt = true → ∀ {w : World} {g : Nat} {pre q post : List Value} {t : TypeId} {K : World → Prop}, w.heap[g]? = some (.cells (pre ++ q ++ post).toArray t (0, 0)) → q.length = x.size →
    (∀ w', w'.heap[g]? = some (.cells (pre ++ x.cells ++ post).toArray t (0, 0)) → w.grownBy w' (some g) → w'.heap.size = w.heap.size → K w') → st w ⟨g, pre.length, none⟩ x K
  | .nil, _, w, g, pre, q, post, t, K, h, hq, hk => by
    have : q = [] := List.eq_nil_of_length_eq_zero hq
    subst this
    exact hk w h (World.grownBy.refl _ _) rfl
  | .v x, hx, w, g, pre, q, post, t, K, h, hq, hk => by
    have hx' : x.oneCell' = true := hx
    have hc := one_cells hx'
    simp only [AV.size, hc] at hq
    obtain ⟨u, rfl⟩ : ∃ u, q = [u] := by
      match q, hq with
      | [u], _ => exact ⟨u, rfl⟩
    show bif x.oneCell' then st1 w ⟨g, pre.length, none⟩ x K else False
    rw [hx']
    refine st0 h (by simp) fun w' hb hg hs => hk w' ?_ hg hs
    rw [hb, List.setIfInBounds_toArray, List.append_assoc, List.set_append_right _ _ (Nat.le_refl _), Nat.sub_self]
    simp [AV.cells, hc]
  | .pair a b, hx, w, g, pre, q, post, t, K, h, hq, hk => by
    simp only [AV.okSt, Bool.and_eq_true] at hx
    simp only [AV.size] at hq
    refine st_all a hx.1 (pre := pre) (q := q.take a.size) (post := q.drop a.size ++ post) (t := t) ?_ (by rw [List.length_take]; omega) fun w1 h1 g1 s1 => ?_
    · have e : pre ++ q ++ post = pre ++ q.take a.size ++ (q.drop a.size ++ post) := by rw [List.append_assoc, List.append_assoc, ← List.append_assoc (q.take a.size), List.take_append_drop]
      rw [h, e]
    · rw [addOff]
      have hl : (pre ++ a.cells).length = pre.length + a.size := by rw [List.length_append, AV.cells_length]
      rw [← hl]
      refine st_all b hx.2 (pre := pre ++ a.cells) (q := q.drop a.size) (post := post) (t := t) ?_ (by rw [List.length_drop]; omega) fun w2 h2 g2 s2 => hk w2 ?_ (g1.trans g2) (s2.trans s1)
      · rw [h1]; simp
      · rw [h2]; simp [AV.cells]
  | .row n l, hx, w, g, pre, q, post, t, K, h, hq, hk => by
    simp only [AV.okSt, List.all_eq_true] at hx
    have : q.length = l.1.length := by rw [l.2]; exact hq
    suffices H : ∀ (vs : List Value), (∀ v ∈ vs, v.oneCell' = true) → ∀ (i : Nat) (pre q : List Value) {w : World} {K : World → Prop}, q.length = vs.length → w.heap[g]? = some (.cells (pre ++ q ++ post).toArray t (0, 0)) → (∀ w', w'.heap[g]? = some (.cells (pre ++ vs ++ post).toArray t (0, 0)) → w.grownBy w' (some g) → w'.heap.size = w.heap.size → K w') → ∀ o, o + i = pre.length → stL ⟨g, o, none⟩ w i vs K from
      H l.1 hx 0 pre q this h hk pre.length rfl
    intro vs
    induction vs with
    | nil =>
      intro _ i pre q w K hq h hk o ho
      have : q = [] := List.eq_nil_of_length_eq_zero hq
      subst this
      exact hk w h (World.grownBy.refl _ _) rfl
    | cons v vs ih =>
      intro hv i pre q w K hq h hk o ho
      match q, hq with
      | u :: q, hq =>
        refine ⟨hv v (by simp), ?_⟩
        rw [addOff, ho]
        refine st0 h (by simp) fun w' hb hg hs => ?_
        refine ih (fun x hx => hv x (by simp [hx])) (i + 1) (pre ++ [v]) q (by simpa using hq) ?_ (fun w2 h2 g2 s2 => hk w2 (by rw [h2]; simp) (hg.trans g2) (s2.trans hs)) o (by simp; omega)
        rw [hb, List.setIfInBounds_toArray, List.append_assoc, List.set_append_right _ _ (Nat.le_refl _), Nat.sub_self]
        simp
  | .tup _, hx, _, _, _, _, _, _, _, _, _, _ => by cases hx
/-- A whole block is stored anew. -/
theorem stW {w : World} {g : Nat} {q : List Value} {t : TypeId} (x : AV) (hx : x.okSt = true) {K : World → Prop} (h : w.heap[g]? = some (.cells q.toArray t (0, 0))) (hq : q.length = x.size)
    (hk : ∀ w', w'.heap[g]? = some (.cells x.cells.toArray t (0, 0)) → w.grownBy w' (some g) → w'.heap.size = w.heap.size → K w') : st w ⟨g, 0, none⟩ x K :=
  st_all x hx (pre := []) (post := []) (q := q) (by rw [List.nil_append, List.append_nil]; exact h) hq fun w' h' g' s' => hk w' (by rw [List.nil_append, List.append_nil] at h'; exact h') g' s'
/-- A value is read. -/
theorem ld_all : ∀ (k : Kd) (x : k.T), (k.av x).okLd = true → ∀ {w : World} {g : Nat} {pre post : List Value} {t : TypeId} {f : Nat × Nat} {K : k.T → Prop}, w.heap[g]? = some (.cells (pre ++ (k.av x).cells ++ post).toArray t f) → K x → ld k w ⟨g, pre.length, none⟩ K
  | .nil, (), _, _, _, _, _, _, _, _, _, hk => hk
  | .pair k1 k2, (x, y), hx, w, g, pre, post, t, f, K, h, hk => by
    simp only [Kd.av, AV.okLd, Bool.and_eq_true] at hx
    simp only [Kd.av, AV.cells] at h
    have hl : (k1.av x).cells.length = k1.size := kd_size k1 x hx.1
    refine ld_all k1 x hx.1 (pre := pre) (post := (k2.av y).cells ++ post) (t := t) (f := f) (by rw [h]; simp) ?_
    show ld k2 w ((⟨g, pre.length, none⟩ : Addr).add k1.size) _
    rw [addOff]
    have : (pre ++ (k1.av x).cells).length = pre.length + k1.size := by rw [List.length_append, hl]
    rw [← this]
    exact ld_all k2 y hx.2 (pre := pre ++ (k1.av x).cells) (post := post) (t := t) (f := f) (by rw [h]; simp) hk
  | .row n, l, _, w, g, pre, post, t, f, K, h, hk => by
    refine ldRow (vs := l.1) h ?_ l.2 hk
    show ((pre ++ l.1 ++ post).drop pre.length).take n = l.1
    rw [List.append_assoc, List.drop_left' rfl, List.take_left' l.2]
  | .B, b, _, w, g, pre, post, t, f, K, h, hk => ⟨b, by rw [cell_of_row w g _ _ t f h]; simp [Kd.av, AV.cells, Value.cells], hk⟩
  | .I k, b, _, w, g, pre, post, t, f, K, h, hk => ⟨b, by rw [cell_of_row w g _ _ t f h]; simp [Kd.av, AV.cells, Value.cells], hk⟩
  | .S, b, _, w, g, pre, post, t, f, K, h, hk => ⟨b, by rw [cell_of_row w g _ _ t f h]; simp [Kd.av, AV.cells, Value.cells], hk⟩
  | .P, b, _, w, g, pre, post, t, f, K, h, hk => ⟨b, by rw [cell_of_row w g _ _ t f h]; simp [Kd.av, AV.cells, Value.cells], hk⟩
  | .L, b, _, w, g, pre, post, t, f, K, h, hk => ⟨b, by rw [cell_of_row w g _ _ t f h]; simp [Kd.av, AV.cells, Value.cells], hk⟩
  | .M, b, _, w, g, pre, post, t, f, K, h, hk => ⟨b, by rw [cell_of_row w g _ _ t f h]; simp [Kd.av, AV.cells, Value.cells], hk⟩
  | .U, b, hx, w, g, pre, post, t, f, K, h, hk => ⟨b, by rw [cell_of_row w g _ _ t f h]; simp [Kd.av, AV.cells, one_cells hx], hk, hx⟩
  | .tup _, _, hx, _, _, _, _, _, _, _, _, _ => by cases hx
where
  kd_size : ∀ (k : Kd) (x : k.T), (k.av x).okLd = true → (k.av x).cells.length = k.size
  | .nil, (), _ => rfl
  | .pair k1 k2, (x, y), hx => by
    simp only [Kd.av, AV.okLd, Bool.and_eq_true] at hx
    simp only [Kd.av, AV.cells, List.length_append, Kd.size, kd_size k1 x hx.1, kd_size k2 y hx.2]
  | .row n, l, _ => l.2
  | .B, _, _ | .I _, _, _ | .S, _, _ | .P, _, _ | .L, _, _ | .M, _, _ => rfl
  | .U, x, hx => by simp [Kd.av, AV.cells, one_cells hx, Kd.size]
  | .tup _, _, hx => by cases hx
/-- A whole block is read. -/
theorem ldW {k : Kd} {x : k.T} {w : World} {g : Nat} {t : TypeId} {f : Nat × Nat} {K : k.T → Prop} (h : w.heap[g]? = some (.cells (k.av x).cells.toArray t f)) (hx : (k.av x).okLd = true) (hk : K x) : ld k w ⟨g, 0, none⟩ K :=
  ld_all k x hx (pre := []) (post := []) (by rw [List.nil_append, List.append_nil]; exact h) hk
end Go.Fl
namespace Go.Proofs.YtmhibpcbdbhfoaaDoor
open Go.RowKit Go.Fl

abbrev frV (p : y_api_Frame) : Value := (Kd.av k_api_Frame p).val
abbrev frC (p : y_api_Frame) : List Value := (Kd.av k_api_Frame p).cells
/-- What a frame in memory is. -/
abbrev fmOf (p : y_api_Frame) (b : List UInt8) : Fm := ⟨p.1, p.2.1, p.2.2.1, p.2.2.2.1, p.2.2.2.2.1, p.2.2.2.2.2.1, b⟩
abbrev okP (p : y_api_Frame) : Prop := okF p.1 p.2.1 p.2.2.1 p.2.2.2.1 p.2.2.2.2.1 p.2.2.2.2.2.1 p.2.2.2.2.2.2.1.n
def chkP (p : y_api_Frame) : Int := if okP p then 0 else 120
theorem tCheck_ok {p : y_api_Frame} {w : World} : cl Tryd.prog n_tunnel_Check #[frV p] (.I .i64) w fun (r : Int) w' => r = chkP p ∧ Fr w w' := by
  refine tunnel_Check.cl (p0 := p) ?_
  unfold tunnel_Check
  refine nwI fun a1 w2 ha hs hf hb _ => ?_
  obtain ⟨k, fr, yo, sq, ac, bi, s, ⟨⟩⟩ := p
  have e : chkP (k, fr, yo, sq, ac, bi, s, ()) = if okF k fr yo sq ac bi s.n then 0 else 120 := rfl
  rw [e]
  have c0 : ∀ {K : Int → Prop}, K k → ld (.I .i64) w2 ⟨a1, 0, none⟩ K := fun h => ldI0 hb rfl h
  have c1 : ∀ {K : Int → Prop}, K fr → ld (.I .i64) w2 ((⟨a1, 0, none⟩ : Addr).add 1) K := fun h => ldI0 hb rfl h
  have c2 : ∀ {K : Int → Prop}, K yo → ld (.I .i64) w2 ((⟨a1, 0, none⟩ : Addr).add 2) K := fun h => ldI0 hb rfl h
  have c3 : ∀ {K : Int → Prop}, K sq → ld (.I .i64) w2 ((⟨a1, 0, none⟩ : Addr).add 3) K := fun h => ldI0 hb rfl h
  have c4 : ∀ {K : Int → Prop}, K ac → ld (.I .i64) w2 ((⟨a1, 0, none⟩ : Addr).add 4) K := fun h => ldI0 hb rfl h
  have c5 : ∀ {K : Int → Prop}, K bi → ld (.I .i64) w2 ((⟨a1, 0, none⟩ : Addr).add 5) K := fun h => ldI0 hb rfl h
  have c6 : ∀ {K : Sl → Prop}, K s → ld .L w2 ((⟨a1, 0, none⟩ : Addr).add 6) K := fun h => ldL0 (s := s) hb rfl h
  have yes : okF k fr yo sq ac bi s.n → (0 : Int) = (if okF k fr yo sq ac bi s.n then 0 else 120) ∧ Fr w w2 := fun h => ⟨by rw [if_pos h], hf⟩
  have no : ¬okF k fr yo sq ac bi s.n → (120 : Int) = (if okF k fr yo sq ac bi s.n then 0 else 120) ∧ Fr w w2 := fun h => ⟨by rw [if_neg h], hf⟩
  unfold okF at yes no ⊢
  intro j4
  have hj4 : ∀ y : Bool, (y = true ↔ ((1 ≤ fr ∧ fr ≤ 1099511627776) ∧ (0 ≤ yo ∧ yo ≤ 1099511627776) ∧ s.n ≤ 512)) → j4 y w2 := by
    intro y hy
    unfold j4
    intro j6
    have hj6 : ∀ (y seq ack : Bool), (y = true ↔ ((1 ≤ fr ∧ fr ≤ 1099511627776) ∧ (0 ≤ yo ∧ yo ≤ 1099511627776) ∧ s.n ≤ 512 ∧ (k = 1 ∨ k = 2 ∨ k = 3))) → (y = true → (seq = true ↔ k = 2)) → (y = true → (ack = true ↔ k = 3)) → j6 y seq ack w2 := by
      intro y seq ack hy hseq hack
      unfold j6
      intro j7
      have hj7 : ∀ z : Bool, (z = true ↔ (y = true ∧ (seq = true ↔ sq > 0) ∧ 0 ≤ sq ∧ sq ≤ 1099511627776 ∧ (seq = true ∨ s.n = 0))) → j7 z w2 := by
        intro z hz
        unfold j7
        refine bB ?_ ?_ <;> intro hz1
        · refine no fun h => ?_
          have hz0 : ¬(z = true) := by simpa using hz1
          rw [hz] at hz0
          refine hz0 ?_
          have hyt : y = true := hy.2 ⟨h.1, h.2.1, by omega, by omega⟩
          have := hseq hyt
          refine ⟨hyt, ?_, by omega, by omega, ?_⟩
          · rw [this]; omega
          · rw [this]; omega
        · have hz1 : z = true := by simpa using hz1
          obtain ⟨hyt, hq, hq0, hq1, hqn⟩ := hz.1 hz1
          have h1 := hy.1 hyt
          have hs1 := hseq hyt
          have ha1 := hack hyt
          rw [hs1] at hq hqn
          refine c4 (bD ?_ ?_) <;> intro g1
          · exact no fun h => by omega
          refine c4 (bD ?_ ?_) <;> intro g2
          · exact no fun h => by omega
          refine c5 (bD ?_ ?_) <;> intro g3
          · exact no fun h => by omega
          refine c5 (bD ?_ ?_) <;> intro g4
          · exact no fun h => by omega
          refine bB ?_ ?_ <;> intro g5
          · have hk3 : k ≠ 3 := fun h => by rw [ha1.2 h] at g5; cases g5
            refine c4 (bNe ?_ ?_) <;> intro g6
            · exact no fun h => by omega
            refine c5 (bNe ?_ ?_) <;> intro g7
            · exact no fun h => by omega
            · exact yes (by omega)
          · have hk3 : k = 3 := ha1.1 (by simpa using g5)
            exact yes (by omega)
      clear_value j7
      refine bB ?_ ?_ <;> intro hyv
      · refine c3 (bB ?_ ?_) <;> intro g1
        · have g1 : seq = decide (sq > 0) := by simpa using g1
          refine c3 (bD ?_ ?_) <;> intro g2
          · refine c3 (bD ?_ ?_) <;> intro g3
            · refine bB ?_ ?_ <;> intro g4
              · exact hj7 true ⟨fun _ => ⟨hyv, by rw [g1, decide_eq_true_iff], by omega, by omega, .inl g4⟩, fun _ => rfl⟩
              · refine c6 (hj7 _ ?_)
                rw [beq_iff_eq]
                constructor
                · intro h; exact ⟨hyv, by rw [g1, decide_eq_true_iff], by omega, by omega, .inr (by omega)⟩
                · intro h
                  have := h.2.2.2.2.resolve_left (by rw [g4]; simp)
                  omega
            · exact hj7 false ⟨(fun h => by cases h), fun h => by omega⟩
          · exact hj7 false ⟨(fun h => by cases h), fun h => by omega⟩
        · refine hj7 false ⟨(fun h => by cases h), fun h => ?_⟩
          have g1 : seq ≠ decide (sq > 0) := by simpa using g1
          exact absurd (by rw [Bool.eq_iff_iff, decide_eq_true_iff]; exact h.2.1) g1
      · exact hj7 false ⟨(fun h => by cases h), fun h => by rw [hyv] at h; cases h.1⟩
    clear_value j6
    refine c0 (bE ?_ ?_) <;> intro k1
    · exact hj6 y false false (by rw [hy]; omega) (fun _ => by simp; omega) (fun _ => by simp; omega)
    refine bE ?_ ?_ <;> intro k2
    · exact hj6 y true false (by rw [hy]; omega) (fun _ => by simp; omega) (fun _ => by simp; omega)
    refine bE ?_ ?_ <;> intro k3
    · exact hj6 y false true (by rw [hy]; omega) (fun _ => by simp; omega) (fun _ => by simp; omega)
    · exact hj6 false false false (by simp; omega) (fun h => by cases h) (fun h => by cases h)
  clear_value j4
  have nn : ∀ {P : Prop}, ¬P → (false = true ↔ P) := fun h => ⟨(fun h => by cases h), fun hp => absurd hp h⟩
  refine c1 (bD ?_ ?_) <;> intro g1
  · refine c1 (bD ?_ ?_) <;> intro g2
    · refine c2 (bD ?_ ?_) <;> intro g3
      · refine c2 (bD ?_ ?_) <;> intro g4
        · refine c6 (hj4 _ ?_)
          rw [decide_eq_true_iff]
          omega
        · exact hj4 false (nn (by omega))
      · exact hj4 false (nn (by omega))
    · exact hj4 false (nn (by omega))
  · exact hj4 false (nn (by omega))
theorem near_ok {n lo hi : Int} {w : World} : cl Tryd.prog n_flumeref12_near #[.int .i64 n, .int .i64 lo, .int .i64 hi] .B w fun (r : Bool) w' => r = decide (lo ≤ n ∧ n ≤ hi) ∧ w = w' := by
  refine flumeref12_near.cl ?_
  unfold flumeref12_near
  refine bD ?_ ?_ <;> intro h
  · exact ⟨by rw [Bool.eq_iff_iff, decide_eq_true_iff, decide_eq_true_iff]; omega, rfl⟩
  · exact ⟨(decide_eq_false (by omega)).symm, rfl⟩
theorem rtCheck_ok {p : y_api_Frame} {w : World} : cl Tryd.prog n_flumeref12_Check #[frV p] (.I .i64) w fun (r : Int) w' => r = chkP p ∧ Fr w w' := by
  refine flumeref12_Check.cl (p0 := p) ?_
  unfold flumeref12_Check
  refine nwI fun a1 w2 ha hs hf hb _ => ?_
  obtain ⟨k, fr, yo, sq, ac, bi, s, ⟨⟩⟩ := p
  have e : chkP (k, fr, yo, sq, ac, bi, s, ()) = if okF k fr yo sq ac bi s.n then 0 else 120 := rfl
  rw [e]
  have c0 : ∀ {K : Int → Prop}, K k → ld (.I .i64) w2 ⟨a1, 0, none⟩ K := fun h => ldI0 hb rfl h
  have c1 : ∀ {K : Int → Prop}, K fr → ld (.I .i64) w2 ((⟨a1, 0, none⟩ : Addr).add 1) K := fun h => ldI0 hb rfl h
  have c2 : ∀ {K : Int → Prop}, K yo → ld (.I .i64) w2 ((⟨a1, 0, none⟩ : Addr).add 2) K := fun h => ldI0 hb rfl h
  have c3 : ∀ {K : Int → Prop}, K sq → ld (.I .i64) w2 ((⟨a1, 0, none⟩ : Addr).add 3) K := fun h => ldI0 hb rfl h
  have c4 : ∀ {K : Int → Prop}, K ac → ld (.I .i64) w2 ((⟨a1, 0, none⟩ : Addr).add 4) K := fun h => ldI0 hb rfl h
  have c5 : ∀ {K : Int → Prop}, K bi → ld (.I .i64) w2 ((⟨a1, 0, none⟩ : Addr).add 5) K := fun h => ldI0 hb rfl h
  have c6 : ∀ {K : Sl → Prop}, K s → ld .L w2 ((⟨a1, 0, none⟩ : Addr).add 6) K := fun h => ldL0 (s := s) hb rfl h
  have yes : okF k fr yo sq ac bi s.n → (0 : Int) = (if okF k fr yo sq ac bi s.n then 0 else 120) ∧ Fr w w2 := fun h => ⟨by rw [if_pos h], hf⟩
  have no : ¬okF k fr yo sq ac bi s.n → (120 : Int) = (if okF k fr yo sq ac bi s.n then 0 else 120) ∧ Fr w w2 := fun h => ⟨by rw [if_neg h], hf⟩
  have near : ∀ (n lo hi : Int) {K : Bool → World → Prop}, (lo ≤ n ∧ n ≤ hi → K true w2) → (¬(lo ≤ n ∧ n ≤ hi) → K false w2) → cl Tryd.prog n_flumeref12_near #[.int .i64 n, .int .i64 lo, .int .i64 hi] .B w2 K := by
    intro n lo hi K h1 h2
    refine near_ok.mono ?_
    rintro _ _ ⟨rfl, rfl⟩
    by_cases h : lo ≤ n ∧ n ≤ hi
    · rw [decide_eq_true h]; exact h1 h
    · rw [decide_eq_false h]; exact h2 h
  unfold okF at yes no ⊢
  intro j1
  have hj1 : ∀ y : Bool, (y = true ↔ ((1 ≤ fr ∧ fr ≤ 1099511627776) ∧ (0 ≤ yo ∧ yo ≤ 1099511627776))) → j1 y w2 := by
    intro y hy
    unfold j1
    have bad : y = false → ¬((1 ≤ fr ∧ fr ≤ 1099511627776) ∧ (0 ≤ yo ∧ yo ≤ 1099511627776)) := fun h hp => by rw [hy.2 hp] at h; cases h
    refine c0 (bE ?_ ?_) <;> intro k1
    · refine bB ?_ ?_ <;> intro g0
      · have := hy.1 g0
        refine c3 (bE ?_ ?_) <;> intro g1
        · refine c4 (bE ?_ ?_) <;> intro g2
          · refine c5 (bE ?_ ?_) <;> intro g3
            · refine c6 (bB ?_ ?_) <;> intro g4
              · have g4 : ¬((s.n : Int) = 0) := by simpa using g4
                exact no (by omega)
              · have g4 : (s.n : Int) = 0 := by simpa using g4
                exact yes (by omega)
            · exact no (by omega)
          · exact no (by omega)
        · exact no (by omega)
      · have := bad g0; exact no (by omega)
    refine bE ?_ ?_ <;> intro k2
    · refine bB ?_ ?_ <;> intro g0
      · have := hy.1 g0
        refine c3 (near _ _ _ ?_ ?_) <;> intro g1
        · refine bT rfl (c4 (bE ?_ ?_)) <;> intro g2
          · refine c5 (bE ?_ ?_) <;> intro g3
            · refine c6 (bB ?_ ?_) <;> intro g4
              · have g4 : ¬((s.n : Int) ≤ 512) := by simpa using g4
                exact no (by omega)
              · have g4 : (s.n : Int) ≤ 512 := by simpa using g4
                exact yes (by omega)
            · exact no (by omega)
          · exact no (by omega)
        · exact bF rfl (no (by omega))
      · have := bad g0; exact no (by omega)
    refine bE ?_ ?_ <;> intro k3
    · refine bB ?_ ?_ <;> intro g0
      · have := hy.1 g0
        refine c3 (bE ?_ ?_) <;> intro g1
        · refine c4 (near _ _ _ ?_ ?_) <;> intro g2
          · refine bT rfl (c5 (near _ _ _ ?_ ?_)) <;> intro g3
            · refine bT rfl (c6 (bB ?_ ?_)) <;> intro g4
              · have g4 : ¬((s.n : Int) = 0) := by simpa using g4
                exact no (by omega)
              · have g4 : (s.n : Int) = 0 := by simpa using g4
                exact yes (by omega)
            · exact bF rfl (no (by omega))
          · exact bF rfl (no (by omega))
        · exact no (by omega)
      · have := bad g0; exact no (by omega)
    · exact no (by omega)
  clear_value j1
  refine c1 (near _ _ _ ?_ ?_) <;> intro g1
  · refine bT rfl (c2 ?_)
    refine near_ok.mono ?_
    rintro _ _ ⟨rfl, rfl⟩
    refine hj1 _ ?_
    rw [decide_eq_true_iff]; omega
  · exact bF rfl (hj1 false ⟨fun h => (by cases h), fun h => absurd h.1 g1⟩)
end Go.Proofs.YtmhibpcbdbhfoaaDoor
namespace Go.Proofs.YtmhibpcbdbhfoaaDoor
open Go.RowKit Go.Fl

theorem okP_of {p : y_api_Frame} {b : List UInt8} (h : p.2.2.2.2.2.2.1.n = b.length) : okP p ↔ (fmOf p b).ok := by
  unfold okP Fm.ok
  rw [h]
theorem tPut_ok {p : y_api_Frame} {b : List UInt8} {w : World} (hd : Crc w) (hb : Bs w p.2.2.2.2.2.2.1 b) :
    cl Tryd.prog n_tunnel_Put #[frV p] (.tup (.pair .L (.pair (.I .i64) .nil))) w fun (r : Sl × Int × Unit) w' => OwB w' w.heap.size t_uint8 r.1 (putF (fmOf p b)).1 ∧ r.2 = ((putF (fmOf p b)).2, ()) ∧ Fr w w' := by
  refine tunnel_Put.cl (p0 := p) ?_
  unfold tunnel_Put
  have hn := hb.len
  have hok := okP_of hn
  refine nwI fun a1 w2 ha1 hs2 hf2 hb1 _ => ?_
  refine ldW (k := k_api_Frame) (x := p) hb1 rfl ?_
  refine (tCheck_ok (p := p)).mono ?_
  rintro _ w5 ⟨rfl, hf5⟩
  have hf5' := hf2.trans hf5
  by_cases h : okP p
  rotate_left
  · have e : putF (fmOf p b) = ([], 120) := by rw [putF, if_neg fun hh => h (hok.2 hh)]
    rw [chkP, if_neg h, e]
    exact bT rfl ⟨OwB.nil _ _ _, rfl, hf5'⟩
  have e : putF (fmOf p b) = ((fmOf p b).bytes, 0) := by rw [putF, if_pos (hok.1 h)]
  rw [chkP, if_pos h, e]
  refine bF rfl ?_
  have hi := okF_in h
  have h1 := h.1
  have h2 := h.2.1
  refine nwI fun a6 w7 ha6 hs7 hf7 hb6 hr6 => ?_
  have hb17 := hf7.heap (hf5.heap hb1)
  refine ldI0 hb17 rfl (ldI0 hb17 rfl (ldI0 hb17 rfl (ldI0 hb17 rfl (ldI0 hb17 rfl (ldI0 hb17 rfl ?_)))))
  refine nwI fun a14 w15 ha14 hs15 hf15 hb14 hr14 => ?_
  have hf15' := (hf5'.trans hf7).trans hf15
  have h6 : Bs w15 ⟨some ⟨a6, 0, none⟩, 1, 1⟩ [85] := Bs.fr ⟨hr6, rfl, Nat.le_refl _⟩ hf15
  refine (octet_Numbers_ok (x := ⟨some ⟨a14, 0, none⟩, 6, 6⟩) (ns := (fmOf p b).nums) h6 ⟨hr14, rfl, Nat.le_refl _⟩ (by simp [Fm.nums]) (by
    intro n hn
    simp only [Fm.nums, List.mem_cons, List.not_mem_nil, or_false] at hn
    rcases hn with rfl | rfl | rfl | rfl | rfl | rfl <;> omega)).mono ?_
  rintro x16 w17 ⟨h16, _, hf17⟩
  have hf17' := hf15'.trans hf17
  refine ldL0 (s := p.2.2.2.2.2.2.1) (hf17.heap (hf15.heap hb17)) rfl ?_
  have hnl := numsB_le (fmOf p b).nums
  have hnl6 : (fmOf p b).nums.length = 6 := rfl
  refine (octet_Text_ok h16 (hb.fr hf17') (by rw [List.length_append]; simp; omega) (by omega)).mono ?_
  rintro x19 w20 ⟨h19, hf20⟩
  have hf20' := hf17'.trans hf20
  have hnb := numB_le b.length
  refine (Seal_ok (hd.fr hf20') h19.bs (by simp only [List.length_append, List.length_cons, List.length_nil]; omega)).mono ?_
  rintro x21 w22 ⟨h21, hf22⟩
  refine ⟨?_, rfl, hf20'.trans hf22⟩
  have eb : (fmOf p b).bytes = sealB ([85] ++ numsB (fmOf p b).nums ++ numB b.length ++ b) := by simp [Fm.bytes, rawF]
  show OwB w22 w.heap.size t_uint8 x21 (fmOf p b).bytes
  rw [eb]
  exact h21.mono hf20'.size
theorem rtPut_ok {p : y_api_Frame} {b : List UInt8} {w : World} (hb : Bs w p.2.2.2.2.2.2.1 b) :
    cl Tryd.prog n_flumeref12_Put #[frV p] (.tup (.pair .L (.pair (.I .i64) .nil))) w fun (r : Sl × Int × Unit) w' => OwB w' w.heap.size t_uint8 r.1 (putF (fmOf p b)).1 ∧ r.2 = ((putF (fmOf p b)).2, ()) ∧ Fr w w' := by
  refine flumeref12_Put.cl (p0 := p) ?_
  unfold flumeref12_Put
  have hn := hb.len
  have hok := okP_of hn
  refine nwI fun a1 w2 ha1 hs2 hf2 hb1 _ => ?_
  refine ldW (k := k_api_Frame) (x := p) hb1 rfl ?_
  refine (rtCheck_ok (p := p)).mono ?_
  rintro _ w5 ⟨rfl, hf5⟩
  have hf5' := hf2.trans hf5
  by_cases h : okP p
  rotate_left
  · have e : putF (fmOf p b) = ([], 120) := by rw [putF, if_neg fun hh => h (hok.2 hh)]
    rw [chkP, if_neg h, e]
    exact bT rfl ⟨OwB.nil _ _ _, rfl, hf5'⟩
  have e : putF (fmOf p b) = ((fmOf p b).bytes, 0) := by rw [putF, if_pos (hok.1 h)]
  rw [chkP, if_pos h, e]
  refine bF rfl ?_
  have hi := okF_in h
  have h1 := h.1
  have h2 := h.2.1
  refine nwI fun a6 w7 ha6 hs7 hf7 hb6 hr6 => ?_
  have hb17 := hf7.heap (hf5.heap hb1)
  refine ldI0 hb17 rfl (ldI0 hb17 rfl (ldI0 hb17 rfl (ldI0 hb17 rfl (ldI0 hb17 rfl (ldI0 hb17 rfl ?_)))))
  refine nwI fun a14 w15 ha14 hs15 hf15 hb14 hr14 => ?_
  have hf15' := (hf5'.trans hf7).trans hf15
  have h6 : Bs w15 ⟨some ⟨a6, 0, none⟩, 1, 1⟩ [85] := Bs.fr ⟨hr6, rfl, Nat.le_refl _⟩ hf15
  have hnum : ∀ n ∈ (fmOf p b).nums, n ≤ 9223372036854775807 := by
    intro n hn
    simp only [Fm.nums, List.mem_cons, List.not_mem_nil, or_false] at hn
    rcases hn with rfl | rfl | rfl | rfl | rfl | rfl <;> omega
  have hnl6 : (fmOf p b).nums.length = 6 := rfl
  have hb14 : w15.heap[a14]? = some (.cells ((fmOf p b).nums.map (Value.int .i64)).toArray t_int (0, 0)) := hb14
  have hnl := numsB_le (fmOf p b).nums
  refine lpI (fun s' w' => Fr w15 w' ∧ ∃ i : Nat, i ≤ 6 ∧ s'.2.1 = i ∧ Bs w' s'.1 ([85] ++ numsB ((fmOf p b).nums.take i))) (fun s' _ => (6 - s'.2.1).toNat) ⟨Fr.refl _, 0, by decide, rfl, h6⟩ ?_
  rintro _ ⟨s16, i', ⟨⟩⟩ w17 ⟨hf17, i, hi6, rfl, h16⟩
  dsimp only at h16 ⊢
  have hnli := numsB_le ((fmOf p b).nums.take i)
  rw [List.length_take] at hnli
  refine bD ?_ ?_ <;> intro hlt
  · refine ixH (hf17.heap hb14) (by omega) (by omega) (v := (fmOf p b).nums[i]) (by rw [Int.toNat_natCast, List.getElem?_map, List.getElem?_eq_getElem (by omega)]; rfl) ?_
    refine (ref_Number_ok h16 (by rw [List.length_append]; simp; omega) (hnum _ (List.getElem_mem _))).mono ?_
    rintro x22 w23 ⟨h22, hf23⟩
    rw [i64w (by omega) (by omega)]
    refine ⟨⟨hf17.trans hf23, i + 1, by omega, by simp, ?_⟩, by omega⟩
    rw [numsB_take (by omega), ← List.append_assoc]
    exact h22.bs
  obtain rfl : i = 6 := by omega
  have hf17' := hf15'.trans hf17
  have et : (fmOf p b).nums.take 6 = (fmOf p b).nums := rfl
  rw [et] at h16
  refine ldL0 (s := p.2.2.2.2.2.2.1) (hf17.heap (hf15.heap hb17)) rfl ?_
  refine (ref_Text_ok h16 (hb.fr hf17') (by rw [List.length_append]; simp; omega) (by omega)).mono ?_
  rintro x19 w20 ⟨h19, hf20⟩
  have hf20' := hf17'.trans hf20
  have hnb := numB_le b.length
  refine (refSeal_ok h19.bs (by simp only [List.length_append, List.length_cons, List.length_nil]; omega)).mono ?_
  rintro x21 w22 ⟨h21, hf22⟩
  refine ⟨?_, rfl, hf20'.trans hf22⟩
  have eb : (fmOf p b).bytes = sealB ([85] ++ numsB (fmOf p b).nums ++ numB b.length ++ b) := by simp [Fm.bytes, rawF]
  show OwB w22 w.heap.size t_uint8 x21 (fmOf p b).bytes
  rw [eb]
  exact h21.mono hf20'.size
/-- What a frame that was read is. -/
def FGetP (w : World) (own : Nat) (r : y_api_Frame × Int × Unit) (p : List UInt8) : Prop :=
  match getF p with
  | some f => r.2 = (0, ()) ∧ fmOf r.1 f.bd = f ∧ OwB w own t_uint8 r.1.2.2.2.2.2.2.1 f.bd
  | none => r = (z_api_Frame, getE p, ())
theorem FGetP.some {w : World} {own : Nat} {r : y_api_Frame × Int × Unit} {p : List UInt8} {f : Fm} (h : getF p = .some f) (h1 : r.2 = (0, ())) (h2 : fmOf r.1 f.bd = f) (h3 : OwB w own t_uint8 r.1.2.2.2.2.2.2.1 f.bd) : FGetP w own r p := by
  unfold FGetP; rw [h]; exact ⟨h1, h2, h3⟩
theorem FGetP.none {w : World} {own : Nat} {r : y_api_Frame × Int × Unit} {p : List UInt8} (h : getF p = .none) (h1 : r = (z_api_Frame, getE p, ())) : FGetP w own r p := by
  unfold FGetP; rw [h]; exact h1
/-- A frame is put into the results' block, and read there. -/
theorem finF {w : World} {g : Nat} {q : List Value} {t : TypeId} (hg : w.heap[g]? = some (.cells q.toArray t (0, 0))) (hq : q.length = 7) (p : y_api_Frame) {K : y_api_Frame → World → Prop}
    (hk : ∀ w', w.grownBy w' (some g) → w'.heap.size = w.heap.size → K p w') : st w ⟨g, 0, none⟩ (Kd.av k_api_Frame p) fun w1 => ld k_api_Frame w1 ⟨g, 0, none⟩ fun r => K r w1 :=
  stW (Kd.av k_api_Frame p) rfl hg hq fun w' h' g' s' => ldW (k := k_api_Frame) (x := p) h' rfl (hk w' g' s')
/-- A frame whose first numbers are known. -/
def numP (ns : List Int) (s : Sl) : y_api_Frame := (ns.getD 0 0, ns.getD 1 0, ns.getD 2 0, ns.getD 3 0, ns.getD 4 0, ns.getD 5 0, s, ())
theorem numP_set {ns : List Int} {s : Sl} (h : ns.length < 6) (x : Int) : (frC (numP ns s)).toArray.setIfInBounds ns.length (.int .i64 x) = (frC (numP (ns ++ [x]) s)).toArray := by
  match ns, h with
  | [], _ => rfl
  | [_], _ => rfl
  | [_, _], _ => rfl
  | [_, _, _], _ => rfl
  | [_, _, _, _], _ => rfl
  | [_, _, _, _, _], _ => rfl
  | _ :: _ :: _ :: _ :: _ :: _ :: _, h => exact absurd h (by simp)
theorem numsS_some {n : Nat} {l : List UInt8} {ns : List Int} {r : List UInt8} (h : numsS n l = some (ns, r)) (he : (lookS r).2.2 = 0) : numsS (n + 1) l = some (ns ++ [((lookS r).1 : Int)], r.drop (lookS r).2.1) := by
  rw [numsS_snoc h, if_neg (by omega)]
theorem numsS_bad {n m : Nat} {l : List UInt8} {ns : List Int} {r : List UInt8} (h : numsS n l = some (ns, r)) (he : (lookS r).2.2 ≠ 0) (hm : n + 1 ≤ m) : numsS m l = none :=
  numsS_none m (by rw [numsS_snoc h, if_pos he]) hm
theorem tGet_ok {s : Sl} {b : List UInt8} {w : World} (hd : Crc w) (hs : Bs w s b) (hl : b.length ≤ 140737488351232) :
    cl Tryd.prog n_tunnel_Get #[.slice s.a s.n s.c] (.tup (.pair k_api_Frame (.pair (.I .i64) .nil))) w fun (r : y_api_Frame × Int × Unit) w' => FGetP w' w.heap.size r b ∧ Fr w w' := by
  refine tunnel_Get.cl ?_
  unfold tunnel_Get
  refine nwI fun a1 w2 ha1 hs2 hf2 hb1 _ => ?_
  refine (Open_sum_ok (hd.fr hf2) (hs.fr hf2) hl).mono ?_
  rintro ⟨x3, e3, ⟨⟩⟩ w4 ⟨h3, he3, hf4⟩
  dsimp only at h3 he3
  obtain ⟨rfl, _⟩ := Prod.mk.inj he3
  dsimp -zeta only
  have hb14 := hf4.heap hb1
  have hf4' := hf2.trans hf4
  have la1 := (Array.getElem?_eq_some_iff.1 hb1).1
  have frg : ∀ {u u' : World} {m : Nat}, Fr w u → u.grownBy u' (some m) → w.heap.size ≤ m → Fr w u' := fun {u u' m} hf hk hm => hf.on (grown_below hk hm hf.size)
  have bad : ∀ {u : World} {e : Int} {K : y_api_Frame → World → Prop}, Fr w u → u.heap[a1]? = some (.cells (frC z_api_Frame).toArray t_api_Frame (0, 0)) → getF b = none → e = getE b →
      (∀ u', FGetP u' w.heap.size (z_api_Frame, e, ()) b ∧ Fr w u' → K z_api_Frame u') → st u ⟨a1, 0, none⟩ (Kd.av k_api_Frame (0, (0, (0, (0, (0, (0, (⟨none, 0, 0⟩, ())))))))) fun u1 => ld k_api_Frame u1 ⟨a1, 0, none⟩ fun r => K r u1 := by
    intro u e K hfu h1 hg he hK
    refine finF h1 rfl z_api_Frame fun u' hg' _ => hK u' ⟨FGetP.none hg (by rw [he]), frg hfu hg' (by omega)⟩
  refine bNe ?_ ?_ <;> intro h0
  · have hg : getF b = none := by rw [getF, if_pos (by omega)]
    refine bad hf4' hb14 hg (by rw [getE, if_pos (by omega)]) fun u' hu => hu
  have hgo : getF b = bodyF (openB b).1 := by rw [getF, if_neg (by omega)]
  have heo : getF b = none → (120 : Int) = getE b := fun h => by rw [getE, if_neg (by omega), h]; rfl
  have ho : (openB b).1.length ≤ 140737488351232 := by
    unfold openB
    split
    · simp
    · split
      · dsimp only; rw [List.length_take]; omega
      · simp
  generalize (openB b).1 = p at *
  have h3n := h3.len
  refine bE ?_ ?_ <;> intro hp0
  · have : p = [] := List.eq_nil_of_length_eq_zero (by omega)
    have hg : getF b = none := by rw [hgo, this]; rfl
    exact bad hf4' hb14 hg (heo hg) fun u' hu => hu
  obtain ⟨c, l, rfl⟩ : ∃ c l, p = c :: l := by
    cases p with
    | nil => simp at h3n; omega
    | cons c l => exact ⟨c, l, rfl⟩
  have hgc : getF b = if c = 85 then readF l else none := hgo
  refine ixB0 h3.rd h3n (Fr.refl _) ?_
  refine bNe ?_ ?_ <;> intro hc
  · have hg : getF b = none := by rw [hgc, if_neg fun h => hc (by rw [h]; rfl)]
    exact bad hf4' hb14 hg (heo hg) fun u' hu => hu
  have hc : c = 85 := UInt8.toNat_inj.1 (by show c.toNat = 85; omega)
  rw [if_pos hc] at hgc
  refine nwI fun a13 w14 ha13 hs14 hf14 hb13 _ => ?_
  have hf14' := hf4'.trans hf14
  refine slsB (h3.bs.fr hf14) (by decide) (by rw [h3n]; simp; omega) (by rw [h3n]; exact Int.le_refl _) fun r15 h15 _ _ => ?_
  rw [show ((1 : Int)).toNat = 1 from rfl, h3n, Int.toNat_natCast, List.take_length, List.drop_one, List.tail_cons] at h15
  refine (Read_ok h15 (by simp at ho; omega)).mono ?_
  rintro _ w17 ⟨g, rfl, hgg, hr17, hf17⟩
  have hf17' := hf14'.trans hf17
  refine nwI fun a18 w19 ha18 hs19 hf19 hb18 _ => ?_
  simp only [addOff] at hb18
  have hf19' := hf17'.trans hf19
  have hb1 := hf19.heap (hf17.heap (hf14.heap hb14))
  have hb13 := hf19.heap (hf17.heap hb13)
  have hr19 := hr17.fr hf19
  have hgl := hr17.lt
  have la13 : w4.heap.size = a13 := ha13.symm
  have hz4 := hf4.size
  have hz14 := hf14.size
  have hz17 := hf17.size
  have rdk : ∀ {u u' : World} {m : Nat} {l : List UInt8}, Rdr u w14.heap.size g l → u.grownBy u' (some m) → (m < w14.heap.size ∨ g < m) → Rdr u' w14.heap.size g l := fun {u u' m l} hr hk hm => hr.kp (kp_grown hk) (fun k _ hk => by omega) hgg
  have stp : ∀ {u u' : World} {m j : Nat} {o : Obj}, u.grownBy u' (some j) → j ≠ m → u.heap[m]? = some o → u'.heap[m]? = some o := fun {u u' m j o} hk hm ho => (hk.block m (Array.getElem?_eq_some_iff.1 ho).1 (by simp; omega)).trans ho
  have hpt : ([.pointer (some ⟨a13, 0, none⟩), .pointer (some ⟨a13, 0 + 1, none⟩), .pointer (some ⟨a13, 0 + 2, none⟩), .pointer (some ⟨a13, 0 + 3, none⟩), .pointer (some ⟨a13, 0 + 4, none⟩), .pointer (some ⟨a13, 0 + 5, none⟩)] : List Value) = (List.range 6).map fun o => Value.pointer (some ⟨a13, o, none⟩) := rfl
  rw [hpt] at hb18
  refine lpI (fun s' w' => Fr w w' ∧ ∃ (i : Nat) (l' : List UInt8) (ns : List Int), i ≤ 6 ∧ s'.1 = i ∧ ns.length = i ∧ numsS i l = some (ns, l') ∧ Rdr w' w14.heap.size g l' ∧ w'.heap[a1]? = some (.cells (frC z_api_Frame).toArray t_api_Frame (0, 0)) ∧ w'.heap[a13]? = some (.cells (frC (numP ns ⟨none, 0, 0⟩)).toArray t_api_Frame (0, 0)) ∧
      w'.heap[a18]? = some (.cells ((List.range 6).map fun o => Value.pointer (some ⟨a13, o, none⟩)).toArray t_p_int (0, 0))) (fun s' _ => (6 - s'.1).toNat)
    ⟨hf19', 0, l, [], by decide, rfl, rfl, rfl, hr19, hb1, hb13, hb18⟩ ?_
  rintro _ ⟨i', ⟨⟩⟩ w21 ⟨hf21, i, l', ns, hi, rfl, hnl, hns, hr21, h121, h1321, h1821⟩
  dsimp -zeta only
  refine bD ?_ ?_ <;> intro hlt
  · have hi6 : i < 6 := by omega
    refine ixP h1821 (by omega) (by omega) (by rw [Int.toNat_natCast, List.getElem?_map, List.getElem?_range hi6]; rfl) ?_
    refine (Reader_Number_ok hr21).mono ?_
    rintro _ w27 ⟨rfl, hr27, hg27⟩
    dsimp only
    have hf27 := frg hf21 hg27 (by omega)
    refine bNe ?_ ?_ <;> intro hx
    · have hg : getF b = none := by rw [hgc, readF, numsS_bad hns (by omega) (by omega)]
      exact bad hf27 (stp hg27 (by omega) h121) hg (heo hg) fun u' hu => hu
    refine nzS ?_
    refine st0 (stp hg27 (by omega) h1321) (by show i < 7; omega) fun w31 hb31 hg31 hs31 => ?_
    rw [i64w (by omega) (by omega)]
    have hb31' : w31.heap[a13]? = some (.cells (frC (numP (ns ++ [((lookS l').1 : Int)]) ⟨none, 0, 0⟩)).toArray t_api_Frame (0, 0)) := by
      rw [hb31, ← numP_set (by omega), hnl]
    exact ⟨⟨frg hf27 hg31 (by omega), i + 1, _, _, by omega, rfl, by simp [hnl], numsS_some hns (by omega), rdk hr27 hg31 (by omega), stp hg31 (by omega) (stp hg27 (by omega) h121), hb31', stp hg31 (by omega) (stp hg27 (by omega) h1821)⟩, by omega⟩
  obtain rfl : i = 6 := by omega
  have hz21 := hf21.size
  have la1321 := (Array.getElem?_eq_some_iff.1 h1321).1
  refine (Reader_Text_ok (most := 512) hr21).mono ?_
  rintro ⟨x32, e32, ⟨⟩⟩ w33 ⟨he, h32, hr33, hg33⟩
  dsimp only at he h32
  obtain ⟨rfl, _⟩ := Prod.mk.inj he
  dsimp -zeta only
  have hf33 := frg hf21 hg33 (by omega)
  rw [addOff, Nat.zero_add]
  refine st0 (stp hg33 (by omega) h1321) (by show 6 < 7; decide) fun w34 hb34 hg34 hs34 => ?_
  have hb34 : w34.heap[a13]? = some (.cells (frC (numP ns x32)).toArray t_api_Frame (0, 0)) := hb34
  have hf34 := frg hf33 hg34 (by omega)
  have h134 := stp hg34 (by omega) (stp hg33 (by omega) h121)
  have hr34 := rdk hr33 hg34 (by omega)
  have h32' : OwB w34 w.heap.size t_uint8 x32 (rdText l' 512).1 := (h32.mono hz21).kp (kp_grown hg34) fun ad had => by have := (h32.own ad had).1; omega
  have hrf : readF l = _ := readF.eq_1 l
  rw [hns] at hrf
  dsimp only at hrf
  have h32n := h32'.len
  have hmk : fmOf (numP ns x32) (rdText l' 512).1 = mkFm ns (rdText l' 512).1 := rfl
  have hna : ∀ ad, x32.a = some ad → ad.block ≠ a1 := fun ad had => by have := (h32.own ad had).1; omega
  intro j1
  have hj1 : ∀ (y : Bool) (u : World), Fr w34 u → (y = true ↔ ¬((rdText l' 512).2.1 = 0 ∧ l'.drop (rdText l' 512).2.2 = [] ∧ (mkFm ns (rdText l' 512).1).ok)) → j1 y u := by
    intro y u hfu hy
    show bif y then _ else _
    have hfw := hf34.trans hfu
    cases y with
    | true =>
      have hno := hy.1 rfl
      have hg : getF b = none := by
        rw [hgc, hrf]
        by_cases h0 : (rdText l' 512).2.1 = 0
        · rw [if_neg (by omega), if_neg fun h => hno ⟨h0, h⟩]
        · rw [if_pos h0]
      exact bT rfl (bad hfw (hfu.heap h134) hg (heo hg) fun u' hu => hu)
    | false =>
      have hyes : (rdText l' 512).2.1 = 0 ∧ l'.drop (rdText l' 512).2.2 = [] ∧ (mkFm ns (rdText l' 512).1).ok := Decidable.not_not.1 fun h => by have := hy.2 h; cases this
      have hg : getF b = some (mkFm ns (rdText l' 512).1) := by rw [hgc, hrf, if_neg (by omega), if_pos hyes.2]
      refine bF rfl ?_
      refine ldW (k := k_api_Frame) (x := numP ns x32) (hfu.heap hb34) rfl ?_
      refine finF (hfu.heap h134) rfl (numP ns x32) fun u' hg' _ => ⟨?_, frg hfw hg' (by omega)⟩
      exact FGetP.some hg rfl hmk ((h32'.fr hfu).kp (kp_grown hg') hna)
  clear_value j1
  refine bNe ?_ ?_ <;> intro ht
  · exact hj1 true w34 (Fr.refl _) ⟨fun _ h => by omega, fun _ => rfl⟩
  refine (End_ok hr34).mono ?_
  rintro _ _ ⟨rfl, rfl⟩
  by_cases hend : l'.drop (rdText l' 512).2.2 = []
  · rw [if_pos hend]
    refine bF rfl ?_
    refine ldW (k := k_api_Frame) (x := numP ns x32) hb34 rfl ?_
    refine (tCheck_ok (p := numP ns x32)).mono ?_
    rintro _ w39 ⟨rfl, hf39⟩
    refine hj1 _ w39 hf39 ?_
    have hok := okP_of (p := numP ns x32) (b := (rdText l' 512).1) h32n
    rw [hmk] at hok
    rw [bne_iff_ne, chkP]
    by_cases h : okP (numP ns x32)
    · rw [if_pos h]; exact ⟨fun h => absurd rfl h, fun hn => absurd ⟨by omega, hend, hok.1 h⟩ hn⟩
    · rw [if_neg h]; exact ⟨fun _ hh => h (hok.2 hh.2.2), fun _ => by decide⟩
  · rw [if_neg hend]
    refine bT rfl ?_
    exact hj1 true w34 (Fr.refl _) ⟨fun _ h => hend h.2.1, fun _ => rfl⟩
end Go.Proofs.YtmhibpcbdbhfoaaDoor
namespace Go.Fl

abbrev wr (n : Int) : Int := IntKind.i64.wrap n
/-- A tunnel: the session's parts, its number, the other one's, epoch, ticks, what it said. -/
structure Tn where
  up : Bool
  sil : Int
  next : Int
  way : List (Int × List UInt8 × Int)
  queue : List (List UInt8)
  expect : Int
  early : Int → Option (List UInt8)
  me : Int
  you : Int
  epoch : Int
  ticks : Int
  out : List (List UInt8)
def tn0 (me : Int) : Tn := ⟨false, 0, 0, [], [], 0, fun _ => none, me, 0, 0, 0, []⟩
def Tn.say (t : Tn) (f : Fm) : Tn := { t with out := t.out ++ [(putF { f with fr := t.me }).1] }
def hel (you : Int) : Fm := ⟨1, 0, you, 0, 0, 0, []⟩
def Tn.hint (t : Tn) (n : Int) : Tn := if 1 ≤ n ∧ n ≤ 1099511627776 then t.say (hel n) else t
def Tn.fresh (t : Tn) (you : Int) : Tn := { t with up := true, sil := 0, next := 0, way := [], queue := [], expect := 0, early := fun _ => none, you := you, epoch := wr (t.epoch + 1) }
def Tn.beg (t : Tn) (you : Int) : Tn := (t.fresh you).say (hel you)
def Tn.fin (t : Tn) : Tn := { t with up := false, sil := 0, next := 0, way := [], queue := [], expect := 0, early := fun _ => none, me := min (wr (t.me + 1)) 1099511627776, epoch := wr (t.epoch + 1) }
/-- May one more go on the way? -/
def Tn.can (t : Tn) : Bool := match t.way with
  | [] => true
  | x :: _ => decide (wr (wr (t.next + 1) - x.1) < 16)
def Tn.put1 (t : Tn) (b : List UInt8) (q : List (List UInt8)) : Tn :=
  { (({ t with next := wr (t.next + 1), way := t.way ++ [(wr (t.next + 1), b, 0)] } : Tn).say ⟨2, 0, t.you, wr (t.next + 1), 0, 0, b⟩) with queue := q }
def slideF : Nat → Tn → Tn
  | 0, t => t
  | k + 1, t => match t.queue with
    | [] => t
    | b :: q => if t.can then slideF k (t.put1 b q) else t
def Tn.slide (t : Tn) : Tn := slideF t.queue.length t
def Tn.room (t : Tn) : Int := if t.up then wr (wr (64 - t.queue.length) - t.way.length) else 0
def Tn.waiting (t : Tn) : Int := wr ((t.queue.length : Int) + t.way.length)
def Tn.send (t : Tn) (b : List UInt8) : Tn × Int :=
  if t.up = false then (t, 121) else if b.length > 512 then (t, 4) else if t.room < 1 then (t, 7) else (({ t with queue := t.queue ++ [b] } : Tn).slide, 0)
def Tn.hello (t : Tn) (f : Fm) : Tn :=
  if f.yo ≠ t.me then (if f.fr ≥ t.you then t.say (hel f.fr) else t)
  else if f.fr > t.you ∨ (f.fr = t.you ∧ t.up = false) then t.beg f.fr
  else if f.fr = t.you then { t with sil := 0 } else t
def setE (e : Int → Option (List UInt8)) (k : Int) (v : Option (List UInt8)) : Int → Option (List UInt8) := fun j => if j = k then v else e j
/-- What is in order now is told. -/
def tellF : Nat → Tn → List (List UInt8) → Tn × List (List UInt8)
  | 0, t, l => (t, l)
  | k + 1, t, l => match t.early (t.expect + 1) with
    | none => (t, l)
    | some b => tellF k { t with early := setE t.early (t.expect + 1) none, expect := t.expect + 1 } (l ++ [b])
def bitsN (e : Int → Option (List UInt8)) (x : Int) : Nat → Nat
  | 0 => 0
  | i + 1 => bitsN e x i + if (e (x + 1 + i)).isSome then 2 ^ i else 0
def Tn.keep (t : Tn) (f : Fm) : Tn := if f.sq > t.expect ∧ f.sq - t.expect ≤ 16 then { t with early := setE t.early f.sq (some f.bd) } else t
def Tn.acks (t : Tn) : Tn := t.say ⟨3, 0, t.you, 0, t.expect, (bitsN t.early t.expect 16 : Nat), []⟩
def Tn.data (t : Tn) (f : Fm) : Tn × List (List UInt8) := ((tellF 17 (t.keep f) []).1.acks, (tellF 17 (t.keep f) []).2)
/-- Is a frame on the way acknowledged? -/
def gone (f : Fm) (x : Int × List UInt8 × Int) : Bool :=
  decide (wr (wr (x.1 - f.ac) - 1) < 0) || (decide (wr (wr (x.1 - f.ac) - 1) < 16) && decide ((f.bi / 2 ^ (wr (wr (x.1 - f.ac) - 1)).toNat) % 2 = 1))
def Tn.ack (t : Tn) (f : Fm) : Tn := ({ t with way := t.way.filter fun x => !gone f x } : Tn).slide
def Tn.take (t : Tn) (b : List UInt8) : Tn × List (List UInt8) × Int :=
  match getF b with
  | none => (t, [], getE b)
  | some f =>
    if f.k = 1 then (t.hello f, [], 0)
    else if t.up = false ∨ f.fr ≠ t.you ∨ f.yo ≠ t.me then ((if f.yo ≠ t.me ∧ f.fr ≥ t.you then t.say (hel f.fr) else t), [], 0)
    else if f.k = 3 then (({ t with sil := 0 } : Tn).ack f, [], 0)
    else ((({ t with sil := 0 } : Tn).data f).1, (({ t with sil := 0 } : Tn).data f).2, 0)
/-- Each frame on the way is one tick older; some are said again. -/
def ageF (t : Tn) : List (Int × List UInt8 × Int) → Tn
  | [] => t
  | x :: l => ageF (if Int.tmod (wr (x.2.2 + 1)) 4 = 0 then t.say ⟨2, 0, t.you, x.1, 0, 0, x.2.1⟩ else t) l
def older (l : List (Int × List UInt8 × Int)) : List (Int × List UInt8 × Int) := l.map fun x => (x.1, x.2.1, wr (x.2.2 + 1))
def Tn.tickUp (t : Tn) : Tn := { (ageF (if Int.tmod t.ticks 8 = 0 then t.say (hel t.you) else t) t.way) with way := older t.way }
def Tn.tick (t : Tn) : Tn :=
  let t1 : Tn := { t with ticks := wr (t.ticks + 1) }
  if t.up = false then (if t.you > 0 ∧ Int.tmod t1.ticks 4 = 0 then t1.say (hel t.you) else t1)
  else
    let t2 : Tn := { t1 with sil := wr (t.sil + 1) }
    if t2.sil ≥ 64 then t2.fin else t2.tickUp
def Tn.clear (t : Tn) : Tn := { t with out := [] }
/-- What holds of every tunnel. -/
structure Tn.inv (t : Tn) : Prop where
  me : 1 ≤ t.me ∧ t.me ≤ 1099511627776
  you : 0 ≤ t.you ∧ t.you ≤ 1099511627776
  ex : 0 ≤ t.expect ∧ t.expect ≤ 1099511627776
  early : ∀ k b, t.early k = some b → t.expect < k ∧ k ≤ t.expect + 16 ∧ k ≤ 1099511627776 ∧ b.length ≤ 512
  way : ∀ x ∈ t.way, x.2.1.length ≤ 512
  queue : ∀ b ∈ t.queue, b.length ≤ 512
  room : t.queue.length + t.way.length ≤ 64
  sil : 0 ≤ t.sil ∧ t.sil < 64
theorem i64_and1 (n : Int) : bits .and .i64 n 1 = n % 2 := by
  have h1 : (BitVec.ofInt 64 1).toNat = 2 ^ 1 - 1 := by decide
  have key : (BitVec.ofInt 64 n &&& BitVec.ofInt 64 1).toNat = (n % ((2 ^ 64 : Nat) : Int)).toNat % 2 ^ 1 := by
    rw [BitVec.toNat_and, BitVec.toNat_ofInt, h1, Nat.and_two_pow_sub_one_eq_mod]
  show IntKind.i64.wrap ((BitVec.ofInt 64 n &&& BitVec.ofInt 64 1).toNat : Nat) = n % 2
  rw [key, IntKind.wrap_i64]
  omega
theorem i64_or_nat (a b : Nat) (ha : a < 9223372036854775808) (hb : b < 9223372036854775808) : bits .or .i64 (a : Int) (b : Int) = ((a ||| b : Nat) : Int) := by
  have hx : a ||| b < 2 ^ 63 := Nat.or_lt_two_pow (by omega) (by omega)
  have e : ∀ a : Nat, a < 9223372036854775808 → (BitVec.ofInt 64 (a : Int)).toNat = a := fun a ha => by
    rw [BitVec.ofInt_natCast, BitVec.toNat_ofNat]; exact Nat.mod_eq_of_lt (by omega)
  show IntKind.i64.wrap ((BitVec.ofInt 64 (a : Int) ||| BitVec.ofInt 64 (b : Int)).toNat : Int) = _
  rw [BitVec.toNat_or, e a ha, e b hb, IntKind.wrap_i64]
  omega
theorem bitsN_lt (e : Int → Option (List UInt8)) (x : Int) : ∀ i, bitsN e x i < 2 ^ i
  | 0 => by simp [bitsN]
  | i + 1 => by
    have := bitsN_lt e x i
    unfold bitsN
    rw [Nat.pow_succ]
    split <;> omega
end Go.Fl
namespace Go.Fl

/-- No block turns but those of F. -/
structure Mv (F : Nat → Prop) (w w' : World) : Prop where
  os : w'.os = w.os
  tape : w'.tape = w.tape
  output : w'.output = w.output
  size : w.heap.size ≤ w'.heap.size
  block : ∀ k, k < w.heap.size → ¬F k → w'.heap[k]? = w.heap[k]?
theorem Mv.refl (F : Nat → Prop) (w : World) : Mv F w w := ⟨rfl, rfl, rfl, Nat.le_refl _, fun _ _ _ => rfl⟩
theorem Mv.of_fr {F : Nat → Prop} {w w' : World} (h : Fr w w') : Mv F w w' := ⟨h.os, h.tape, h.output, h.size, fun k hk _ => h.block k hk⟩
theorem Mv.of_grown {F : Nat → Prop} {w w' : World} {g : Nat} (h : w.grownBy w' (some g)) (hF : F g) : Mv F w w' := ⟨h.os, h.tape, h.output, h.size, fun k hk hn => h.block k hk fun e => hn (by cases e; exact hF)⟩
theorem Mv.trans {F G : Nat → Prop} {a b c : World} (h : Mv F a b) (k : Mv G b c) (hG : ∀ j, G j → F j ∨ a.heap.size ≤ j) : Mv F a c :=
  ⟨k.os.trans h.os, k.tape.trans h.tape, k.output.trans h.output, Nat.le_trans h.size k.size, fun j hj hn => (k.block j (Nat.lt_of_lt_of_le hj h.size) fun hg => by rcases hG j hg with h1 | h1; exact hn h1; omega).trans (h.block j hj hn)⟩
theorem Mv.mono {F G : Nat → Prop} {a b : World} (h : Mv F a b) (hG : ∀ j, F j → G j ∨ a.heap.size ≤ j) : Mv G a b :=
  ⟨h.os, h.tape, h.output, h.size, fun j hj hn => h.block j hj fun hf => by rcases hG j hf with h1 | h1; exact hn h1; omega⟩
theorem Mv.fr {F : Nat → Prop} {a b : World} (h : Mv F a b) (hF : ∀ j, F j → a.heap.size ≤ j) : Fr a b := ⟨h.os, h.tape, h.output, h.size, fun j hj => h.block j hj fun hf => by have := hF j hf; omega⟩
/-- From a later world: what turns is newer. -/
theorem Mv.on {F : Nat → Prop} {a b c : World} (h : Fr a b) (k : Mv F b c) (hF : ∀ j, F j → a.heap.size ≤ j) : Fr a c :=
  ((Mv.of_fr (F := fun _ => False) h).trans k fun j hj => .inr (hF j hj)).fr fun _ h => h.elim
theorem Mv.heap {F : Nat → Prop} {w w' : World} (h : Mv F w w') {g : Nat} {o : Obj} (hg : w.heap[g]? = some o) (hF : ¬F g) : w'.heap[g]? = some o :=
  (h.block g (Array.getElem?_eq_some_iff.1 hg).1 hF).trans hg
theorem Mv.kp {F : Nat → Prop} {w w' : World} (h : Mv F w w') : Kp (fun k => ¬F k) w w' := fun k hk hn => h.block k hk hn
/-- One thing, cell by cell with another one. -/
def All2 {α β : Type} (R : α → β → Prop) : List α → List β → Prop
  | [], [] => True
  | a :: l, b :: m => R a b ∧ All2 R l m
  | _, _ => False
theorem All2.length {α β : Type} {R : α → β → Prop} : ∀ {l : List α} {m : List β}, All2 R l m → l.length = m.length
  | [], [], _ => rfl
  | _ :: _, _ :: _, h => by simp [All2.length h.2]
  | [], _ :: _, h => h.elim
  | _ :: _, [], h => h.elim
theorem All2.mono {α β : Type} {R S : α → β → Prop} : ∀ {l : List α} {m : List β}, All2 R l m → (∀ a b, a ∈ l → b ∈ m → R a b → S a b) → All2 S l m
  | [], [], _, _ => trivial
  | _ :: _, _ :: _, h, hk => ⟨hk _ _ (by simp) (by simp) h.1, All2.mono h.2 fun a b ha hb hr => hk a b (by simp [ha]) (by simp [hb]) hr⟩
  | [], _ :: _, h, _ => h.elim
  | _ :: _, [], h, _ => h.elim
theorem All2.append {α β : Type} {R : α → β → Prop} : ∀ {l : List α} {m : List β} {l' : List α} {m' : List β}, All2 R l m → All2 R l' m' → All2 R (l ++ l') (m ++ m')
  | [], [], _, _, _, h' => h'
  | _ :: _, _ :: _, _, _, h, h' => ⟨h.1, All2.append h.2 h'⟩
  | [], _ :: _, _, _, h, _ => h.elim
  | _ :: _, [], _, _, h, _ => h.elim
theorem All2.get {α β : Type} {R : α → β → Prop} : ∀ {l : List α} {m : List β}, All2 R l m → ∀ {i : Nat} (h1 : i < l.length) (h2 : i < m.length), R l[i] m[i]
  | _ :: _, _ :: _, h, 0, _, _ => h.1
  | _ :: _, _ :: _, h, _ + 1, h1, h2 => All2.get h.2 (by simpa using h1) (by simpa using h2)
theorem All2.drop {α β : Type} {R : α → β → Prop} : ∀ {l : List α} {m : List β}, All2 R l m → ∀ (i : Nat), All2 R (l.drop i) (m.drop i)
  | [], [], _, i => by cases i <;> trivial
  | _ :: _, _ :: _, h, 0 => h
  | _ :: _, _ :: _, h, i + 1 => All2.drop h.2 i
  | [], _ :: _, h, _ => h.elim
  | _ :: _, [], h, _ => h.elim
theorem All2.take {α β : Type} {R : α → β → Prop} : ∀ {l : List α} {m : List β}, All2 R l m → ∀ (i : Nat), All2 R (l.take i) (m.take i)
  | [], [], _, i => by cases i <;> trivial
  | _ :: _, _ :: _, _, 0 => trivial
  | _ :: _, _ :: _, h, i + 1 => ⟨h.1, All2.take h.2 i⟩
  | [], _ :: _, h, _ => h.elim
  | _ :: _, [], h, _ => h.elim
theorem All2.of_get {α β : Type} {R : α → β → Prop} : ∀ {l : List α} {m : List β}, l.length = m.length → (∀ i (h1 : i < l.length) (h2 : i < m.length), R l[i] m[i]) → All2 R l m
  | [], [], _, _ => trivial
  | a :: l, b :: m, hl, h => ⟨h 0 (by simp) (by simp), All2.of_get (by simpa using hl) fun i h1 h2 => h (i + 1) (by simpa using h1) (by simpa using h2)⟩
  | [], _ :: _, hl, _ => by simp at hl
  | _ :: _, [], hl, _ => by simp at hl
/-- Cells that stay, apart from what may turn. -/
theorem Rd.mv {F : Nat → Prop} {w w' : World} {A : Option Addr} {xs : List Value} (h : Rd w A xs) (hm : Mv F w w') (hF : xs ≠ [] → ∀ ad, A = some ad → ¬F ad.block) : Rd w' A xs := by
  cases xs with
  | nil => exact Rd.nil _ _
  | cons x xs => exact Kp.rd h hm.kp (hF (by simp))
theorem Rd.lt {w : World} {A : Option Addr} {xs : List Value} (h : Rd w A xs) (hx : xs ≠ []) : ∀ ad, A = some ad → ad.block < w.heap.size := fun ad ha => by
  cases xs with
  | nil => exact absurd rfl hx
  | cons x xs =>
    obtain ⟨ad', ha', hc⟩ := h 0 x rfl
    rw [ha] at ha'
    cases ha'
    have := World.block_lt_of_cell? w _ hc
    rwa [add_block] at this
/-- Bytes that nobody turns. -/
structure Cb (w : World) (Z : Nat → Prop) (s : Sl) (l : List UInt8) : Prop where
  bs : Bs w s l
  cold : l ≠ [] → ∀ ad, s.a = some ad → ¬Z ad.block
theorem Cb.mv {F Z Z' : Nat → Prop} {w w' : World} {s : Sl} {l : List UInt8} (h : Cb w Z s l) (hm : Mv F w w') (hF : ∀ k, F k → Z k ∨ w.heap.size ≤ k) (hZ : ∀ k, Z' k → Z k ∨ w.heap.size ≤ k) : Cb w' Z' s l := by
  have hlt : l ≠ [] → ∀ ad, s.a = some ad → ad.block < w.heap.size := fun hl => h.bs.lt hl
  refine ⟨h.bs.kpn hm.kp fun hl ad ha hf => ?_, fun hl ad ha hz => ?_⟩
  · rcases hF _ hf with h1 | h1
    · exact h.cold hl ad ha h1
    · have := hlt hl ad ha; omega
  · rcases hZ _ hz with h1 | h1
    · exact h.cold hl ad ha h1
    · have := hlt hl ad ha; omega
theorem Cb.anti {Z Z' : Nat → Prop} {w : World} {s : Sl} {l : List UInt8} (h : Cb w Z s l) (hZ : ∀ k, Z' k → Z k) : Cb w Z' s l := ⟨h.bs, fun hl ad ha hz => h.cold hl ad ha (hZ _ hz)⟩
theorem Cb.nil (w : World) (Z : Nat → Prop) (c : Nat) : Cb w Z ⟨none, 0, c⟩ [] := ⟨Bs.nil _ _, fun h => absurd rfl h⟩
theorem Cb.own {w : World} {Z : Nat → Prop} {base : Nat} {e : TypeId} {s : Sl} {l : List UInt8} (h : OwB w base e s l) (hZ : ∀ k, Z k → k < base) : Cb w Z s l := ⟨h.bs, fun _ ad ha hz => by have := (h.own ad ha).1; have := hZ _ hz; omega⟩
abbrev slsV (hs : List Sl) : List Value := hs.map slV
theorem slsV_one (hs : List Sl) : ∀ v ∈ slsV hs, v.oneCell' = true := fun v hv => by
  obtain ⟨s, _, rfl⟩ := List.mem_map.1 hv
  rfl
/-- A row of slices of bytes that nobody turns. -/
structure RwB (w : World) (Z : Nat → Prop) (s : Sl) (hs : List Sl) (ls : List (List UInt8)) : Prop where
  rd : Rd w s.a (slsV hs)
  len : s.n = hs.length
  cap : s.n ≤ s.c
  cold : hs ≠ [] → ∀ ad, s.a = some ad → ¬Z ad.block
  all : All2 (Cb w Z) hs ls
theorem RwB.mv {F Z Z' : Nat → Prop} {w w' : World} {s : Sl} {hs : List Sl} {ls : List (List UInt8)} (h : RwB w Z s hs ls) (hm : Mv F w w') (hF : ∀ k, F k → Z k ∨ w.heap.size ≤ k) (hZ : ∀ k, Z' k → Z k ∨ w.heap.size ≤ k) : RwB w' Z' s hs ls := by
  have hne : slsV hs ≠ [] → hs ≠ [] := fun h e => h (by rw [e]; rfl)
  have hlt : hs ≠ [] → ∀ ad, s.a = some ad → ad.block < w.heap.size := fun hl => h.rd.lt fun e => hl (List.map_eq_nil_iff.1 e)
  refine ⟨h.rd.mv hm fun hx ad ha hf => ?_, h.len, h.cap, fun hl ad ha hz => ?_, h.all.mono fun a b _ _ hr => hr.mv hm hF hZ⟩
  · rcases hF _ hf with h1 | h1
    · exact h.cold (hne hx) ad ha h1
    · have := hlt (hne hx) ad ha; omega
  · rcases hZ _ hz with h1 | h1
    · exact h.cold hl ad ha h1
    · have := hlt hl ad ha; omega
theorem RwB.nil (w : World) (Z : Nat → Prop) (c : Nat) : RwB w Z ⟨none, 0, c⟩ [] [] := ⟨Rd.nil _ _, rfl, Nat.zero_le _, fun h => absurd rfl h, trivial⟩
theorem RwB.count {w : World} {Z : Nat → Prop} {s : Sl} {hs : List Sl} {ls : List (List UInt8)} (h : RwB w Z s hs ls) : s.n = ls.length := by rw [h.len, h.all.length]
/-- A row of slices of the call's own. -/
def OwS (w : World) (base : Nat) (e : TypeId) (s : Sl) (hs : List Sl) : Prop := w.ownsRow base e 1 (.slice s.a s.n s.c) s.n (slsV hs)
theorem OwS.len {w : World} {base : Nat} {e : TypeId} {s : Sl} {hs : List Sl} (h : OwS w base e s hs) : s.n = hs.length := by
  have := h.1; rw [List.length_map] at this; omega
theorem OwS.cap {w : World} {base : Nat} {e : TypeId} {s : Sl} {hs : List Sl} (h : OwS w base e s hs) : s.n ≤ s.c := by
  rcases h.2 with ⟨hv, hn⟩ | ⟨g, cap, cur, hv, _, _, hc, _⟩
  · injection hv with _ h1 h2; omega
  · injection hv with _ h1 h2; omega
theorem OwS.rd {w : World} {base : Nat} {e : TypeId} {s : Sl} {hs : List Sl} (h : OwS w base e s hs) : Rd w s.a (slsV hs) := Rd.of_own h
theorem OwS.nil (w : World) (base : Nat) (e : TypeId) : OwS w base e ⟨none, 0, 0⟩ [] := World.ownsRow_nil w base e 1
theorem OwS.fr {w w' : World} {base : Nat} {e : TypeId} {s : Sl} {hs : List Sl} (h : OwS w base e s hs) (hf : Fr w w') : OwS w' base e s hs := own_kept h hf
theorem OwS.own {w : World} {base : Nat} {e : TypeId} {s : Sl} {hs : List Sl} (h : OwS w base e s hs) : ∀ ad, s.a = some ad → base ≤ ad.block ∧ ad.block < w.heap.size := fun ad ha => World.ownsRow.lt h ad.block (by rw [ha]; rfl)
theorem OwS.mono {w : World} {base base' : Nat} {e : TypeId} {s : Sl} {hs : List Sl} (h : OwS w base e s hs) (hb : base' ≤ base) : OwS w base' e s hs := by
  refine ⟨h.1, ?_⟩
  rcases h.2 with hn | ⟨g, cap, cur, hv, hg, rest⟩
  · exact .inl hn
  · exact .inr ⟨g, cap, cur, hv, Nat.le_trans hb hg, rest⟩
theorem own_kp {S : Nat → Prop} {w w' : World} {base size n c : Nat} {e : TypeId} {A : Option Addr} {xs : List Value} {m : Nat} (h : w.ownsRow base e size (.slice A n c) m xs) (hk : Kp S w w') (hS : ∀ ad, A = some ad → S ad.block) : w'.ownsRow base e size (.slice A n c) m xs := by
  refine ⟨h.1, ?_⟩
  rcases h.2 with hn | ⟨g, cap, cur, hv, hb, hgg, rest⟩
  · exact .inl hn
  · have ha : A = some ⟨g, 0, none⟩ := by injection hv
    exact .inr ⟨g, cap, cur, hv, hb, (hk g (Array.getElem?_eq_some_iff.1 hgg).1 (hS _ ha)).trans hgg, rest⟩
theorem OwS.mv {F : Nat → Prop} {w w' : World} {base : Nat} {e : TypeId} {s : Sl} {hs : List Sl} (h : OwS w base e s hs) (hm : Mv F w w') (hF : ∀ ad, s.a = some ad → ¬F ad.block) : OwS w' base e s hs := own_kp h hm.kp hF
theorem OwB.mv {F : Nat → Prop} {w w' : World} {base : Nat} {e : TypeId} {s : Sl} {l : List UInt8} (h : OwB w base e s l) (hm : Mv F w w') (hF : ∀ ad, s.a = some ad → ¬F ad.block) : OwB w' base e s l := own_kp h hm.kp hF
/-- One more slice behind an own row. -/
theorem app_S {P : Program} {t ty e : TypeId} {bytes : Nat} (hT : SlT P t e 1 bytes) (hb24 : bytes ≤ 24) {base : Nat} {s x : Sl} {w : World} {K : Sl → World → Prop} {hs ms : List Sl}
    (ho : OwS w base e s hs) (hx : Rd w x.a (slsV ms)) (hm : ms.length = x.n) (hl : hs.length + ms.length ≤ 1099511627776) (hbase : base ≤ w.heap.size)
    (h : ∀ (r : Sl) w', OwS w' base e r (hs ++ ms) → w.grownBy w' (Value.slice s.a s.n s.c).ownBlock → ((Value.slice r.a r.n r.c).ownBlock = (Value.slice s.a s.n s.c).ownBlock ∨ (Value.slice r.a r.n r.c).ownBlock = some w.heap.size) → K r w') : app P t ty s x w K := by
  have hn := ho.len
  refine app_own hT ho hx (by rw [List.length_map, hm, Nat.mul_one]) (slsV_one ms) ?_ (by omega) hbase fun r w' hr ho' hg hat => h r w' ?_ hg hat
  · have : (s.n + x.n) * bytes ≤ 1099511627776 * 24 := Nat.mul_le_mul (by omega) hb24
    omega
  · unfold OwS
    have e : slsV (hs ++ ms) = slsV hs ++ slsV ms := by simp [slsV]
    rw [e]; exact ho'
theorem ownB_slice' (s : Sl) : (Value.slice s.a s.n s.c).ownBlock = s.a.map (·.block) := by cases h : s.a <;> simp [Value.ownBlock]
theorem OwS.own' {w : World} {base : Nat} {e : TypeId} {s : Sl} {hs : List Sl} (h : OwS w base e s hs) : ∀ k, (Value.slice s.a s.n s.c).ownBlock = some k → base ≤ k ∧ k < w.heap.size := fun k hk => World.ownsRow.lt h k hk
theorem ownB_slice (s : Sl) : (Value.slice s.a s.n s.c).ownBlock = s.a.map (·.block) := by cases h : s.a <;> simp [Value.ownBlock]
/-- A slice of a row of slices. -/
theorem ixS {w w' : World} {s : Sl} {hs : List Sl} {i : Int} {j : Nat} {K : Sl → Prop} (hr : Rd w s.a (slsV hs)) (hl : s.n = hs.length) (hij : i = (j : Int)) (hj : j < hs.length) (hw : Fr w w') (h : K hs[j]) : ixa s.a s.n i 1 fun a => ld .L w' a K := by
  subst hij
  obtain ⟨ad, ha, hc⟩ := (hr.below hw).at j (by simpa using hj)
  refine ⟨by omega, by omega, ?_⟩
  rw [ha]
  rw [List.getElem_map] at hc
  exact ⟨hs[j], hc, h⟩
/-- A part of a row of slices. -/
theorem RwB.cut {w : World} {Z : Nat → Prop} {s : Sl} {hs : List Sl} {ls : List (List UInt8)} (h : RwB w Z s hs ls) {i j : Nat} (hij : i ≤ j) (hj : j ≤ hs.length) : RwB w Z (cut s i j 1) ((hs.take j).drop i) ((ls.take j).drop i) := by
  have hl := h.len
  have hc := h.cap
  have hr : Rd w s.a (slsV (hs.take j)) := by
    have := h.rd.take j
    rwa [show (slsV hs).take j = slsV (hs.take j) from by simp [slsV, List.map_take]] at this
  have hd := hr.drop i
  rw [show (slsV (hs.take j)).drop i = slsV ((hs.take j).drop i) from by simp [slsV, List.map_drop]] at hd
  have hne : (hs.take j).drop i ≠ [] → hs ≠ [] := fun h e => h (by rw [e]; simp)
  refine ⟨?_, by simp [Fl.cut, List.length_take]; omega, by simp [Fl.cut]; omega, fun hx ad ha => ?_, (h.all.take j).drop i⟩
  · unfold Fl.cut
    by_cases hci : s.c = i
    · simp only [hci, if_true]
      have : (hs.take j).drop i = [] := by rw [List.drop_eq_nil_iff, List.length_take]; omega
      rw [this]; exact Rd.nil _ _
    · rw [if_neg hci, show (fun x => atOff x (i : Int) 1) = fun x : Addr => x.add i from rfl]
      exact hd
  · unfold Fl.cut at ha
    split at ha
    · exact h.cold (hne hx) ad ha
    · cases hs' : s.a with
      | none => rw [hs'] at ha; cases ha
      | some ad' =>
        rw [hs'] at ha
        simp only [Option.map_some, Option.some.injEq] at ha
        rw [← ha, atOff_eq, add_block]
        exact h.cold (hne hx) ad' hs'
/-- append to a new empty slice: no block that was there turns. -/
theorem app0V {P : Program} {t ty e : TypeId} {size bytes : Nat} (hT : SlT P t e size bytes) {base b : Nat} {x : Sl} {w : World} {K : Sl → World → Prop} {ms : List Value} (hb : w.heap[b]? = some (.cells #[] e (0, 0))) (hbb : base ≤ b) (hx : Rd w x.a ms) (hn : ms.length = x.n * size) (h1 : ∀ u ∈ ms, u.oneCell' = true)
    (hby8 : x.n * bytes ≤ 140737488355328) (hl : x.n ≤ 140737488355328) (hbase : base ≤ w.heap.size)
    (h : ∀ (r : Sl) w', r.n = x.n → w'.ownsRow base e size (.slice r.a r.n r.c) r.n ms → Fr w w' → K r w') : app P t ty ⟨some ⟨b, 0, none⟩, 0, 0⟩ x w K := by
  obtain ⟨i, z, hi, hz, hsize, hby, hzs⟩ := hT.info
  have hpos := hT.pos
  cases ms with
  | nil =>
    obtain ⟨A, n, c⟩ := x
    have hn0 : n = 0 := by
      rcases Nat.eq_zero_or_pos n with h0 | h0
      · exact h0
      · have := Nat.mul_pos h0 hpos
        simp at hn; omega
    subst hn0
    exact ⟨_, w, run_append_none w hT.under hi _ _ (Nat.le_refl _), h _ _ rfl ⟨by simp, .inr ⟨b, 0, #[], rfl, hbb, hb, Nat.le_refl _, Nat.zero_le _, by simp, by simp⟩⟩ (Fr.refl w)⟩
  | cons u m =>
    obtain ⟨ad, ha, _⟩ := hx 0 u rfl
    have hxn : 0 < x.n := by
      rcases Nat.eq_zero_or_pos x.n with h0 | h0
      · rw [h0] at hn; simp at hn
      · exact h0
    obtain ⟨v', w', hrun, ho, hg⟩ := run_append_arg_grows (P := P) w t ty e i z size bytes hT.under hi hz hsize hby hzs hpos ⟨b, 0, none⟩ 0 0 [] (by simp) (fun j u hu => by simp at hu) ad x.n x.c (u :: m) hn
      (fun j u' hu => by obtain ⟨ad', ha', hc⟩ := hx j u' hu; rw [ha] at ha'; cases ha'; exact hc) (by omega) (by simp only [maxLen]; omega) (by rw [Nat.zero_add]; exact hby8)
    rw [Nat.zero_add, List.nil_append] at ho
    obtain ⟨r, rfl, hrn⟩ := sl_of_own ho
    refine ⟨r, w', by rw [ha]; exact hrun, h r w' hrn ?_ ⟨hg.os, hg.tape, hg.output, hg.size, fun k hk => hg.block k hk (by simp)⟩⟩
    refine ⟨by rw [hrn]; exact ho.1, ?_⟩
    rcases ho.2 with ⟨hv, h0⟩ | ⟨g, cap, cur, hv, hgb, hgg, hnc, hcm, hsz, ht⟩
    · exact .inl ⟨hv, by omega⟩
    · exact .inr ⟨g, cap, cur, by rw [hv, hrn], by omega, hgg, by omega, hcm, hsz, by rw [hrn]; exact ht⟩
/-- clear of a part of a known block. -/
theorem rnClear {P : Program} {t e ty : TypeId} {z : Value} {sz : Nat} {w : World} {s : Sl} {K : Unit → World → Prop} (ht : P.underlying t = some (.slice e)) (hz : ∀ w, (zeroValue e).run P w = .ok z w) (hzs : z.cells.size = sz) (h1 : ∀ v ∈ z.cells.toList, v.oneCell' = true)
    (h0 : s.n = 0 → K () w)
    (h : s.n ≠ 0 → ∃ (g o : Nat) (cs : List Value) (tt : TypeId), s.a = some ⟨g, o, none⟩ ∧ w.heap[g]? = some (.cells cs.toArray tt (0, 0)) ∧ o + s.n * sz ≤ cs.length ∧
      ∀ w' cs', w'.heap[g]? = some (.cells (cs' : List Value).toArray tt (0, 0)) → cs'.length = cs.length → cs'.take o = cs.take o → w.grownBy w' (some g) → w'.heap.size = w.heap.size → K () w') : rn P (Builtin.clear_ #[t] ty #[.slice s.a s.n s.c]) (.tup .nil) w K := by
  by_cases hn : s.n = 0
  · refine ⟨(), w, ?_, h0 hn⟩
    rw [hn]
    cases s.a <;> (simp [Builtin.clear_, run_underlying ht]; rfl)
  · obtain ⟨g, o, cs, tt, ha, hb, hl, hk⟩ := h hn
    have hzl : (Builtin.zeroCells z.cells s.n).toList.length = s.n * sz := by rw [Array.length_toList, size_zeroCells, hzs]
    have hz1 : ∀ v ∈ (Builtin.zeroCells z.cells s.n).toList, v.oneCell' = true := by
      intro v hv
      rcases Nat.eq_zero_or_pos sz with h0 | hp
      · rw [h0, Nat.mul_zero] at hzl
        rw [List.eq_nil_of_length_eq_zero hzl] at hv; cases hv
      · simp only [Builtin.zeroCells, Array.toList_map, List.mem_map] at hv
        obtain ⟨i, _, rfl⟩ := hv
        have hlt : i % z.cells.size < z.cells.size := Nat.mod_lt _ (by omega)
        rw [getElem!_pos z.cells _ hlt]
        exact h1 _ (by simp)
    have hst : stL ⟨g, o, none⟩ w 0 (Builtin.zeroCells z.cells s.n).toList fun w' => K () w' := by
      refine stL_at hb (by rw [hzl]; omega) hz1 fun w' hb' hg' hs' => hk w' _ hb' ?_ ?_ hg' hs'
      · rw [List.length_append, List.length_append, List.length_take, List.length_drop, hzl]
        generalize s.n * sz = q at *
        omega
      · rw [Nat.add_zero, List.append_assoc]
        exact List.take_left' (by rw [List.length_take]; generalize s.n * sz = q at *; omega)
    obtain ⟨w', hr, hk'⟩ := run_stL (P := P) hst
    refine ⟨(), w', ?_, hk'⟩
    obtain ⟨m, hm⟩ : ∃ m, s.n = m + 1 := ⟨s.n - 1, by omega⟩
    rw [ha]
    rw [hm] at hr ⊢
    simp [Builtin.clear_, run_underlying ht, hz, hr]
    rfl
end Go.Fl
namespace Go.Proofs.YtmhibpcbdbhfoaaDoor
open Go.RowKit Go.Fl

/-- Where a tunnel's parts lie. -/
structure Shp where
  way : Sl
  queue : Sl
  out : Sl
  r : Option Nat
def tunC (t : Tn) (x : Shp) : y_tunnel_Tunnel := ((t.up, t.sil, t.next, x.way, x.queue, t.expect, x.r, ()), t.me, t.you, t.epoch, t.ticks, x.out, ())
abbrev tunL (t : Tn) (x : Shp) : List Value := (Kd.av k_tunnel_Tunnel (tunC t x)).cells
abbrev WayH := List (Int × Sl × Int)
def wayV (hs : WayH) : List Value := hs.flatMap fun a => [.int .i64 a.1, slV a.2.1, .int .i64 a.2.2]
theorem wayV_length (hs : WayH) : (wayV hs).length = hs.length * 3 := by
  induction hs with
  | nil => rfl
  | cons a l ih => unfold wayV at *; rw [List.flatMap_cons, List.length_append, ih]; simp; omega
theorem wayV_one (hs : WayH) : ∀ v ∈ wayV hs, v.oneCell' = true := by
  intro v hv
  simp only [wayV, List.mem_flatMap, List.mem_cons, List.not_mem_nil, or_false] at hv
  obtain ⟨a, _, rfl | rfl | rfl⟩ := hv <;> rfl
/-- A row of frames on the way. -/
structure WayR (w : World) (Z : Nat → Prop) (s : Sl) (hs : WayH) (ls : List (Int × List UInt8 × Int)) : Prop where
  rd : Rd w s.a (wayV hs)
  len : s.n = hs.length
  cap : s.n ≤ s.c
  cold : hs ≠ [] → ∀ ad, s.a = some ad → ¬Z ad.block
  all : All2 (fun a b => a.1 = b.1 ∧ Cb w Z a.2.1 b.2.1 ∧ a.2.2 = b.2.2) hs ls
theorem wayV_ne {hs : WayH} (h : wayV hs ≠ []) : hs ≠ [] := fun e => h (by rw [e]; rfl)
theorem wayV_ne' {hs : WayH} (h : hs ≠ []) : wayV hs ≠ [] := fun e => h (by
  have := congrArg List.length e
  rw [wayV_length] at this
  simp only [List.length_nil] at this
  exact List.eq_nil_of_length_eq_zero (by omega))
theorem WayR.mv {F Z Z' : Nat → Prop} {w w' : World} {s : Sl} {hs : WayH} {ls : List (Int × List UInt8 × Int)} (h : WayR w Z s hs ls) (hm : Mv F w w') (hF : ∀ k, F k → Z k ∨ w.heap.size ≤ k) (hZ : ∀ k, Z' k → Z k ∨ w.heap.size ≤ k) : WayR w' Z' s hs ls := by
  have hlt : hs ≠ [] → ∀ ad, s.a = some ad → ad.block < w.heap.size := fun hl => h.rd.lt (wayV_ne' hl)
  refine ⟨h.rd.mv hm fun hx ad ha hf => ?_, h.len, h.cap, fun hl ad ha hz => ?_, h.all.mono fun a b _ _ hr => ⟨hr.1, hr.2.1.mv hm hF hZ, hr.2.2⟩⟩
  · rcases hF _ hf with h1 | h1
    · exact h.cold (wayV_ne hx) ad ha h1
    · have := hlt (wayV_ne hx) ad ha; omega
  · rcases hZ _ hz with h1 | h1
    · exact h.cold hl ad ha h1
    · have := hlt hl ad ha; omega
theorem WayR.nil (w : World) (Z : Nat → Prop) (c : Nat) : WayR w Z ⟨none, 0, c⟩ [] [] := ⟨Rd.nil _ _, rfl, Nat.zero_le _, fun h => absurd rfl h, trivial⟩
theorem WayR.count {w : World} {Z : Nat → Prop} {s : Sl} {hs : WayH} {ls : List (Int × List UInt8 × Int)} (h : WayR w Z s hs ls) : s.n = ls.length := by rw [h.len, h.all.length]
/-- Messages that came early: each in a block of its own. -/
structure EarlyM (w : World) (F : Nat → Prop) (g : Nat) (out : Sl) (m : Nat) (e : Int → Option (List UInt8)) (f : Int → Option Value) (sl : Int → Sl) : Prop where
  map : MapF (Value.int .i64) w m f
  fm : F m
  ne : m ≠ g ∧ ∀ o, out.a = some o → o.block ≠ m
  no : ∀ k, e k = none → f k = none
  yes : ∀ k b, e k = some b → f k = some (slV (sl k)) ∧ OwB w 0 t_uint8 (sl k) b
  blk : ∀ k b, e k = some b → ∀ ad, (sl k).a = some ad → F ad.block ∧ ad.block ≠ g ∧ ad.block ≠ m ∧ ∀ o, out.a = some o → o.block ≠ ad.block
  sep : ∀ k b k' b', e k = some b → e k' = some b' → k ≠ k' → ∀ ad ad', (sl k).a = some ad → (sl k').a = some ad' → ad.block ≠ ad'.block
def EarlyR (w : World) (F : Nat → Prop) (g : Nat) (out : Sl) (r : Option Nat) (e : Int → Option (List UInt8)) : Prop := match r with
  | none => ∀ k, e k = none
  | some m => ∃ f sl, EarlyM w F g out m e f sl
abbrev Zt (G F : Nat → Prop) : Nat → Prop := fun k => G k ∨ F k
/-- A tunnel. G: what others may turn; F: what this one may. -/
structure Tun (w : World) (G F : Nat → Prop) (g : Nat) (t : Tn) (x : Shp) : Prop where
  cells : w.heap[g]? = some (.cells (tunL t x).toArray t_tunnel_Tunnel (0, 0))
  fg : F g
  fl : ∀ k, F k → k < w.heap.size
  gl : ∀ k, G k → k < w.heap.size
  gf : ∀ k, G k → ¬F k
  way : ∃ hs, WayR w (Zt G F) x.way hs t.way
  queue : ∃ hs, RwB w (Zt G F) x.queue hs t.queue
  out : ∃ hs, OwS w 0 t_s_uint8 x.out hs ∧ All2 (Cb w (Zt G F)) hs t.out
  outf : ∀ ad, x.out.a = some ad → F ad.block ∧ ad.block ≠ g
  early : EarlyR w F g x.out x.r t.early
  crc : Crc w
  nt : ¬Zt G F g_sums_nibbles
  upr : t.up = true → x.r ≠ none
theorem Crc.lt {w : World} (h : Crc w) : g_sums_nibbles < w.heap.size := World.block_lt_of_cell? w _ (h 0 (by decide))
theorem Crc.mv {w w' : World} {E : Nat → Prop} (h : Crc w) (hm : Mv E w w') (hE : ¬E g_sums_nibbles) : Crc w' := fun i hi => by
  have e : w'.heap[g_sums_nibbles]? = w.heap[g_sums_nibbles]? := hm.block _ h.lt hE
  exact (World.cell?_of_block (w := w) (by exact e)).trans (h i hi)
theorem EarlyM.mv {w w' : World} {E F F' : Nat → Prop} {g m : Nat} {out out' : Sl} {e : Int → Option (List UInt8)} {f : Int → Option Value} {sl : Int → Sl} (h : EarlyM w F g out m e f sl) (hm : Mv E w w') (hE : ∀ k, E k → k = g ∨ (∃ o, out.a = some o ∧ o.block = k) ∨ w.heap.size ≤ k)
    (hF : ∀ k, F k → k ≠ g → (∀ o, out.a = some o → o.block ≠ k) → F' k) (ho : ∀ o', out'.a = some o' → (∃ o, out.a = some o ∧ o.block = o'.block) ∨ w.heap.size ≤ o'.block) : EarlyM w' F' g out' m e f sl := by
  have key : ∀ k, k ≠ g → (∀ o, out.a = some o → o.block ≠ k) → k < w.heap.size → ¬E k := fun k h1 h2 h3 hk => by
    rcases hE k hk with h | ⟨o, h, h'⟩ | h
    · exact h1 h
    · exact h2 o h h'
    · omega
  have hlt := h.map.lt
  have far : ∀ k, (∀ o, out.a = some o → o.block ≠ k) → k < w.heap.size → ∀ o', out'.a = some o' → o'.block ≠ k := fun k h2 h3 o' ho' => by
    rcases ho o' ho' with ⟨o, h, h'⟩ | h
    · rw [← h']; exact h2 o h
    · omega
  refine ⟨h.map.sub (hm.block m hlt (key m h.ne.1 h.ne.2 hlt)), hF m h.fm h.ne.1 h.ne.2, ⟨h.ne.1, far m h.ne.2 hlt⟩, h.no, fun k b hk => ?_, fun k b hk ad ha => ?_, h.sep⟩
  · obtain ⟨h1, h2⟩ := h.yes k b hk
    refine ⟨h1, h2.mv hm fun ad ha => ?_⟩
    obtain ⟨b1, b2, b3, b4⟩ := h.blk k b hk ad ha
    exact key _ b2 b4 (h2.own ad ha).2
  · obtain ⟨h1, h2⟩ := h.yes k b hk
    obtain ⟨b1, b2, b3, b4⟩ := h.blk k b hk ad ha
    exact ⟨hF _ b1 b2 b4, b2, b3, far _ b4 (h2.own ad ha).2⟩
theorem EarlyR.mv {w w' : World} {E F F' : Nat → Prop} {g : Nat} {out out' : Sl} {r : Option Nat} {e : Int → Option (List UInt8)} (h : EarlyR w F g out r e) (hm : Mv E w w') (hE : ∀ k, E k → k = g ∨ (∃ o, out.a = some o ∧ o.block = k) ∨ w.heap.size ≤ k)
    (hF : ∀ k, F k → k ≠ g → (∀ o, out.a = some o → o.block ≠ k) → F' k) (ho : ∀ o', out'.a = some o' → (∃ o, out.a = some o ∧ o.block = o'.block) ∨ w.heap.size ≤ o'.block) : EarlyR w' F' g out' r e := by
  cases r with
  | none => exact h
  | some m =>
    obtain ⟨f, sl, h⟩ := h
    exact ⟨f, sl, h.mv hm hE hF ho⟩
/-- A tunnel, behind something that did not touch it. -/
theorem Tun.other {w w' : World} {G G' F E : Nat → Prop} {g : Nat} {t : Tn} {x : Shp} (h : Tun w G F g t x) (hm : Mv E w w') (hE : ∀ k, E k → (G k ∧ ¬F k) ∨ w.heap.size ≤ k) (hG : ∀ k, G' k → G k ∨ w.heap.size ≤ k) (hl : ∀ k, G' k → k < w'.heap.size) : Tun w' G' F g t x := by
  have hEZ : ∀ k, E k → Zt G F k ∨ w.heap.size ≤ k := fun k hk => (hE k hk).imp (fun h => .inl h.1) id
  have hZ : ∀ k, Zt G' F k → Zt G F k ∨ w.heap.size ≤ k := fun k hk => by
    rcases hk with hk | hk
    · exact (hG k hk).imp .inl id
    · exact .inl (.inr hk)
  have hEF : ∀ k, F k → ¬E k := fun k hf he => by
    rcases hE k he with h1 | h1
    · exact h1.2 hf
    · have := h.fl k hf; omega
  obtain ⟨hs1, h1⟩ := h.way
  obtain ⟨hs2, h2⟩ := h.queue
  obtain ⟨hs3, h3, h4⟩ := h.out
  refine ⟨hm.heap h.cells (hEF g h.fg), h.fg, fun k hk => Nat.lt_of_lt_of_le (h.fl k hk) hm.size, hl, fun k hk hf => ?_, ⟨hs1, h1.mv hm hEZ hZ⟩, ⟨hs2, h2.mv hm hEZ hZ⟩, ⟨hs3, h3.mv hm fun ad ha => hEF _ (h.outf ad ha).1, h4.mono fun a b _ _ hr => hr.mv hm hEZ hZ⟩, h.outf, ?_, ?_, ?_, h.upr⟩
  · rcases hG k hk with h1 | h1
    · exact h.gf k h1 hf
    · have := h.fl k hf; omega
  · have he := h.early
    unfold EarlyR at he ⊢
    cases hr : x.r with
    | none => rw [hr] at he; exact he
    | some m =>
      rw [hr] at he
      obtain ⟨f, sl, he⟩ := he
      refine ⟨f, sl, he.map.sub (hm.block m he.map.lt (hEF m he.fm)), he.fm, he.ne, he.no, fun k b hk => ?_, he.blk, he.sep⟩
      obtain ⟨y1, y2⟩ := he.yes k b hk
      exact ⟨y1, y2.mv hm fun ad ha => hEF _ (he.blk k b hk ad ha).1⟩
  · refine h.crc.mv hm fun he => ?_
    rcases hE _ he with h5 | h5
    · exact h.nt (.inl h5.1)
    · have := h.crc.lt; omega
  · intro hz
    rcases hZ _ hz with h5 | h5
    · exact h.nt h5
    · have := h.crc.lt; omega
/-- A tunnel that went on. -/
def TunTo (w w' : World) (G F : Nat → Prop) (g : Nat) (t' : Tn) : Prop := ∃ F' x', Tun w' G F' g t' x' ∧ Mv F w w' ∧ ∀ k, F' k → F k ∨ w.heap.size ≤ k
theorem TunTo.refl {w : World} {G F : Nat → Prop} {g : Nat} {t : Tn} {x : Shp} (h : Tun w G F g t x) : TunTo w w G F g t := ⟨F, x, h, Mv.refl _ _, fun _ h => .inl h⟩
theorem TunTo.step {w w1 w2 : World} {G F F1 : Nat → Prop} {g : Nat} {t2 : Tn} (hm : Mv F w w1) (hF : ∀ k, F1 k → F k ∨ w.heap.size ≤ k) (h : TunTo w1 w2 G F1 g t2) : TunTo w w2 G F g t2 := by
  obtain ⟨F2, x2, h1, h2, h3⟩ := h
  refine ⟨F2, x2, h1, hm.trans h2 hF, fun k hk => ?_⟩
  rcases h3 k hk with h4 | h4
  · exact hF k h4
  · exact .inr (Nat.le_trans hm.size h4)
/-- Nothing of it turned. -/
theorem Tun.fr {w w' : World} {G F : Nat → Prop} {g : Nat} {t : Tn} {x : Shp} (h : Tun w G F g t x) (hf : Fr w w') : Tun w' G F g t x :=
  h.other (E := fun _ => False) (Mv.of_fr hf) (fun _ h => h.elim) (fun _ h => .inl h) (fun k hk => Nat.lt_of_lt_of_le (h.gl k hk) hf.size)
theorem Tun.to_fr {w w' w2 : World} {G F : Nat → Prop} {g : Nat} {t' : Tn} (h : TunTo w w' G F g t') (hf : Fr w' w2) : TunTo w w2 G F g t' := by
  obtain ⟨F', x', h1, h2, h3⟩ := h
  exact ⟨F', x', h1.fr hf, h2.trans (Mv.of_fr (F := fun _ => False) hf) fun _ h => h.elim, h3⟩
/-- Some of a tunnel's own cells are written anew: its parts stay where they are. -/
theorem Tun.own {w w' : World} {G F : Nat → Prop} {g : Nat} {t t' : Tn} {x : Shp} (h : Tun w G F g t x) (hg : w.grownBy w' (some g)) (hc : w'.heap[g]? = some (.cells (tunL t' x).toArray t_tunnel_Tunnel (0, 0)))
    (e1 : t'.way = t.way) (e2 : t'.queue = t.queue) (e3 : t'.out = t.out) (e4 : t'.early = t.early) (e5 : t'.up = t.up) : Tun w' G F g t' x := by
  have hm : Mv (fun k => k = g) w w' := Mv.of_grown hg rfl
  have hEZ : ∀ k, k = g → Zt G F k ∨ w.heap.size ≤ k := fun k hk => .inl (.inr (by rw [hk]; exact h.fg))
  have hZ : ∀ k, Zt G F k → Zt G F k ∨ w.heap.size ≤ k := fun k hk => .inl hk
  obtain ⟨hs1, h1⟩ := h.way
  obtain ⟨hs2, h2⟩ := h.queue
  obtain ⟨hs3, h3, h4⟩ := h.out
  refine ⟨hc, h.fg, fun k hk => Nat.lt_of_lt_of_le (h.fl k hk) hg.size, fun k hk => Nat.lt_of_lt_of_le (h.gl k hk) hg.size, h.gf, ⟨hs1, by rw [e1]; exact h1.mv hm hEZ hZ⟩, ⟨hs2, by rw [e2]; exact h2.mv hm hEZ hZ⟩, ⟨hs3, h3.mv hm fun ad ha => (h.outf ad ha).2, by rw [e3]; exact h4.mono fun a b _ _ hr => hr.mv hm hEZ hZ⟩, h.outf, ?_, h.crc.mv hm fun e => h.nt (.inr (by rw [e]; exact h.fg)), h.nt, by rw [e5]; exact h.upr⟩
  rw [e4]
  exact h.early.mv hm (fun k hk => .inl hk) (fun k hk _ _ => hk) (fun o ho => .inl ⟨o, ho, rfl⟩)
theorem mv_g {w w' : World} {F : Nat → Prop} {g : Nat} (hg : w.grownBy w' (some g)) (hF : F g) : Mv F w w' := Mv.of_grown hg hF
/-- A cell of a tunnel is read. -/
theorem tun_lt {w : World} {G F : Nat → Prop} {g : Nat} {t : Tn} {x : Shp} (h : Tun w G F g t x) : g < w.heap.size := h.fl g h.fg

section
variable {w : World} {G F : Nat → Prop} {g : Nat} {t : Tn} {x : Shp}
theorem tNew_ok {me : Int} (hd : Crc w) (hG : ∀ k, G k → k < w.heap.size) (hG0 : ¬G g_sums_nibbles) : cl Tryd.prog n_tunnel_New #[.int .i64 me] (.tup (.pair .P (.pair (.I .i64) .nil))) w fun (r : Option Addr × Int × Unit) w' =>
    (if 1 ≤ me ∧ me ≤ 1099511627776 then ∃ g x, r = (some ⟨g, 0, none⟩, 0, ()) ∧ w.heap.size ≤ g ∧ Tun w' G (fun k => k = g) g (tn0 me) x else r = (none, 1, ())) ∧ Fr w w' := by
  refine tunnel_New.cl ?_
  unfold tunnel_New
  refine bD ?_ ?_ <;> intro h1
  · dsimp only; rw [if_neg (by omega)]; exact ⟨rfl, Fr.refl w⟩
  refine bD ?_ ?_ <;> intro h2
  · dsimp only; rw [if_neg (by omega)]; exact ⟨rfl, Fr.refl w⟩
  refine nwI fun a1 w2 ha hs hf hb _ => ?_
  dsimp only
  rw [if_pos (by omega)]
  refine ⟨⟨a1, ⟨⟨none, 0, 0⟩, ⟨none, 0, 0⟩, ⟨none, 0, 0⟩, none⟩, rfl, by omega, ?_⟩, hf⟩
  refine ⟨hb, rfl, fun k hk => by omega, fun k hk => by have := hG k hk; omega, fun k hk he => by have := hG k hk; omega, ⟨[], WayR.nil _ _ _⟩, ⟨[], RwB.nil _ _ _⟩, ⟨[], OwS.nil _ _ _, trivial⟩, fun ad ha => (by cases ha), fun k => rfl, hd.fr hf, fun hz => ?_, fun h => (by cases h)⟩
  rcases hz with hz | hz
  · exact hG0 hz
  · have := hd.lt; omega
theorem made_ok (h : Tun w G F g t x) (hme : 1 ≤ t.me) : cl Tryd.prog n_tunnel_Tunnel_made #[.pointer (some ⟨g, 0, none⟩)] .B w fun (r : Bool) w' => r = true ∧ w = w' := by
  refine tunnel_Tunnel_made.cl (p0 := some ⟨g, 0, none⟩) ?_
  unfold tunnel_Tunnel_made
  refine bT rfl (nzS ?_)
  rw [addOff]
  refine ldI0 h.cells (show (tunL t x).toArray[7]? = some (.int .i64 t.me) from rfl) ⟨decide_eq_true (by omega), rfl⟩
theorem tMe_ok (h : Tun w G F g t x) (hme : 1 ≤ t.me) : cl Tryd.prog n_tunnel_Tunnel_Me #[.pointer (some ⟨g, 0, none⟩)] (.I .i64) w fun (r : Int) w' => r = t.me ∧ w = w' := by
  refine tunnel_Tunnel_Me.cl (p0 := some ⟨g, 0, none⟩) ?_
  unfold tunnel_Tunnel_Me
  refine (made_ok h hme).mono ?_
  rintro _ _ ⟨rfl, rfl⟩
  refine bF rfl (nzS ?_)
  rw [addOff]
  exact ldI0 h.cells (show (tunL t x).toArray[7]? = some (.int .i64 t.me) from rfl) ⟨rfl, rfl⟩
theorem tYou_ok (h : Tun w G F g t x) (hme : 1 ≤ t.me) : cl Tryd.prog n_tunnel_Tunnel_You #[.pointer (some ⟨g, 0, none⟩)] (.I .i64) w fun (r : Int) w' => r = t.you ∧ w = w' := by
  refine tunnel_Tunnel_You.cl (p0 := some ⟨g, 0, none⟩) ?_
  unfold tunnel_Tunnel_You
  refine (made_ok h hme).mono ?_
  rintro _ _ ⟨rfl, rfl⟩
  refine bF rfl (nzS ?_)
  rw [addOff]
  exact ldI0 h.cells (show (tunL t x).toArray[8]? = some (.int .i64 t.you) from rfl) ⟨rfl, rfl⟩
theorem tEpoch_ok (h : Tun w G F g t x) (hme : 1 ≤ t.me) : cl Tryd.prog n_tunnel_Tunnel_Epoch #[.pointer (some ⟨g, 0, none⟩)] (.I .i64) w fun (r : Int) w' => r = t.epoch ∧ w = w' := by
  refine tunnel_Tunnel_Epoch.cl (p0 := some ⟨g, 0, none⟩) ?_
  unfold tunnel_Tunnel_Epoch
  refine (made_ok h hme).mono ?_
  rintro _ _ ⟨rfl, rfl⟩
  refine bF rfl (nzS ?_)
  rw [addOff]
  exact ldI0 h.cells (show (tunL t x).toArray[9]? = some (.int .i64 t.epoch) from rfl) ⟨rfl, rfl⟩
theorem tUp_ok (h : Tun w G F g t x) (hme : 1 ≤ t.me) : cl Tryd.prog n_tunnel_Tunnel_Up #[.pointer (some ⟨g, 0, none⟩)] .B w fun (r : Bool) w' => r = t.up ∧ w = w' := by
  refine tunnel_Tunnel_Up.cl (p0 := some ⟨g, 0, none⟩) ?_
  unfold tunnel_Tunnel_Up
  refine (made_ok h hme).mono ?_
  rintro _ _ ⟨rfl, rfl⟩
  refine bT rfl (nzS ?_)
  exact ldB0 h.cells (show (tunL t x).toArray[0]? = some (.bool t.up) from rfl) ⟨rfl, rfl⟩
theorem tRoom_ok (h : Tun w G F g t x) (hme : 1 ≤ t.me) : cl Tryd.prog n_tunnel_Tunnel_Room #[.pointer (some ⟨g, 0, none⟩)] (.I .i64) w fun (r : Int) w' => r = t.room ∧ Fr w w' := by
  refine tunnel_Tunnel_Room.cl (p0 := some ⟨g, 0, none⟩) ?_
  unfold tunnel_Tunnel_Room
  obtain ⟨hs1, h1⟩ := h.way
  obtain ⟨hs2, h2⟩ := h.queue
  have n1 := h1.count
  have n2 := h2.count
  refine (tUp_ok h hme).mono ?_
  rintro _ _ ⟨rfl, rfl⟩
  unfold Tn.room
  cases hu : t.up with
  | false => exact bT rfl ⟨rfl, Fr.refl w⟩
  | true =>
    refine bF rfl (nzS ?_)
    rw [addOff]
    refine ldL0 (s := x.queue) h.cells rfl (nzS ?_)
    rw [addOff]
    refine ldL0 (s := x.way) h.cells rfl ?_
    intro n
    exact ⟨by rw [n1, n2]; rfl, Fr.drewN w n⟩
theorem tWaiting_ok (h : Tun w G F g t x) (hme : 1 ≤ t.me) : cl Tryd.prog n_tunnel_Tunnel_Waiting #[.pointer (some ⟨g, 0, none⟩)] (.I .i64) w fun (r : Int) w' => r = t.waiting ∧ Fr w w' := by
  refine tunnel_Tunnel_Waiting.cl (p0 := some ⟨g, 0, none⟩) ?_
  unfold tunnel_Tunnel_Waiting
  obtain ⟨hs1, h1⟩ := h.way
  obtain ⟨hs2, h2⟩ := h.queue
  have n1 := h1.count
  have n2 := h2.count
  refine (made_ok h hme).mono ?_
  rintro _ _ ⟨rfl, rfl⟩
  refine bF rfl (nzS ?_)
  rw [addOff]
  refine ldL0 (s := x.queue) h.cells rfl (nzS ?_)
  rw [addOff]
  refine ldL0 (s := x.way) h.cells rfl ?_
  intro n
  exact ⟨by rw [n1, n2]; rfl, Fr.drewN w n⟩
theorem slS : SlT Tryd.prog t_s_s_uint8 t_s_uint8 1 24 := SlT.mk' (z := .slice none 0 0) (by kernel_rfl) (by kernel_rfl) rfl (by decide)
/-- A frame goes out. -/
theorem say_ok {p : y_api_Frame} {b : List UInt8} (h : Tun w G F g t x) (hb : Bs w p.2.2.2.2.2.2.1 b) (hl : t.out.length ≤ 1073741824) :
    cl Tryd.prog n_tunnel_Tunnel_say #[.pointer (some ⟨g, 0, none⟩), frV p] (.tup .nil) w fun (_ : Unit) w' => TunTo w w' G F g (t.say (fmOf p b)) := by
  refine tunnel_Tunnel_say.cl (p0 := some ⟨g, 0, none⟩) (p1 := p) ?_
  unfold tunnel_Tunnel_say
  have hgl := tun_lt h
  obtain ⟨hs3, ho, ha3⟩ := h.out
  refine nwI fun a1 w2 ha1 hs2 hf2 hb1 _ => ?_
  refine nzS ?_
  rw [addOff, addOff]
  refine ldI0 (hf2.heap h.cells) (show (tunL t x).toArray[7]? = some (.int .i64 t.me) from rfl) ?_
  refine st0 hb1 (by show 1 < 7; decide) fun w5 hb5 hg5 hs5 => ?_
  have hb5 : w5.heap[a1]? = some (.cells (frC (p.1, t.me, p.2.2)).toArray t_api_Frame (0, 0)) := hb5
  have hf5 : Fr w w5 := hf2.on (grown_below hg5 (by omega) hf2.size)
  refine ldW (k := k_api_Frame) (x := (p.1, t.me, p.2.2)) hb5 rfl ?_
  refine (tPut_ok (p := (p.1, t.me, p.2.2)) (h.crc.fr hf5) (hb.fr hf5)).mono ?_
  rintro ⟨x7, e7, ⟨⟩⟩ w8 ⟨h7, _, hf8⟩
  dsimp only at h7 ⊢
  have hf8' := hf5.trans hf8
  refine nzS ?_
  rw [addOff]
  refine ldL0 (s := x.out) (hf8'.heap h.cells) rfl ?_
  refine nwI fun a11 w12 ha11 hs12 hf12 hb11 hr11 => ?_
  have hf12' := hf8'.trans hf12
  have hlen := ha3.length
  refine app_S slS (by decide) (ms := [x7]) (ho.fr hf12') hr11 rfl (by simp; omega) (Nat.zero_le _) fun r13 w14 h13 hg13 hat => ?_
  rw [ownB_slice, ownB_slice] at hat
  rw [ownB_slice] at hg13
  have hz12 := hf12'.size
  have hz5 := hf5.size
  have hz8 := hf8.size
  have hz14 := hg13.size
  -- what turned so far: the row of what it said
  have hm14 : Mv (fun k => ∃ o, x.out.a = some o ∧ o.block = k) w w14 := by
    refine (Mv.of_fr hf12').trans (G := fun k => ∃ o, x.out.a = some o ∧ o.block = k) ⟨hg13.os, hg13.tape, hg13.output, hg13.size, fun k hk hn => hg13.block k hk fun e => ?_⟩ fun k hk => .inl hk
    cases hxa : x.out.a with
    | none => rw [hxa] at e; cases e
    | some o => rw [hxa] at e; exact hn ⟨o, hxa, (Option.some.inj e).symm⟩
  refine nzS ?_
  rw [addOff]
  have hc14 : w14.heap[g]? = some (.cells (tunL t x).toArray t_tunnel_Tunnel (0, 0)) := hm14.heap h.cells fun ⟨o, h1, h2⟩ => (h.outf o h1).2 h2
  refine st0 hc14 (by show 11 < 12; decide) fun w16 hb16 hg16 hs16 => ?_
  have hm16 : Mv (fun k => k = g ∨ ∃ o, x.out.a = some o ∧ o.block = k) w w16 := (hm14.mono fun k hk => .inl (.inr hk)).trans (Mv.of_grown (F := fun k => k = g) hg16 rfl) fun k hk => .inl (.inl hk)
  let x' : Shp := ⟨x.way, x.queue, r13, x.r⟩
  let F' : Nat → Prop := fun k => F k ∨ ∃ o, r13.a = some o ∧ o.block = k
  have hnew : ∀ o, r13.a = some o → (∃ o', x.out.a = some o' ∧ o'.block = o.block) ∨ o.block = w12.heap.size := by
    intro o hro
    rw [hro] at hat
    rcases hat with h1 | h1
    · cases hxa : x.out.a with
      | none => rw [hxa] at h1; cases h1
      | some o' => rw [hxa] at h1; exact .inl ⟨o', rfl, (Option.some.inj h1).symm⟩
    · exact .inr (Option.some.inj h1)
  have hEF : ∀ k, (k = g ∨ ∃ o, x.out.a = some o ∧ o.block = k) → F k := fun k hk => by
    rcases hk with rfl | ⟨o, h1, rfl⟩
    · exact h.fg
    · exact (h.outf o h1).1
  have hF' : ∀ k, F' k → F k ∨ w.heap.size ≤ k := fun k hk => by
    rcases hk with hk | ⟨o, h1, rfl⟩
    · exact .inl hk
    · rcases hnew o h1 with ⟨o', h2, h3⟩ | h2
      · rw [← h3]; exact .inl (h.outf o' h2).1
      · right; omega
  have hEZ : ∀ k, (k = g ∨ ∃ o, x.out.a = some o ∧ o.block = k) → Zt G F k ∨ w.heap.size ≤ k := fun k hk => .inl (.inr (hEF k hk))
  have hZ : ∀ k, Zt G F' k → Zt G F k ∨ w.heap.size ≤ k := fun k hk => by
    rcases hk with hk | hk
    · exact .inl (.inl hk)
    · exact (hF' k hk).imp .inr id
  obtain ⟨hs1, h1⟩ := h.way
  obtain ⟨hs2', h2⟩ := h.queue
  have hgr : ∀ ad, r13.a = some ad → ad.block ≠ g := fun ad had => by
    rcases hnew ad had with ⟨o', h2, h3⟩ | h2
    · rw [← h3]; exact (h.outf o' h2).2
    · omega
  have h13' : OwS w16 0 t_s_uint8 r13 (hs3 ++ [x7]) := h13.mv (Mv.of_grown (F := fun k => k = g) hg16 rfl) hgr
  have hcb : Cb w16 (Zt G F') x7 (putF { fmOf p b with fr := t.me }).1 := by
    have hlt : ∀ ad, x7.a = some ad → w5.heap.size ≤ ad.block ∧ ad.block < w8.heap.size := h7.own
    have h7' : OwB w14 w5.heap.size t_uint8 x7 (putF { fmOf p b with fr := t.me }).1 := by
      refine OwB.mv (F := fun k => ∃ o, x.out.a = some o ∧ o.block = k) (h7.fr hf12) ⟨hg13.os, hg13.tape, hg13.output, hg13.size, fun k hk hn => hg13.block k hk fun e => ?_⟩ fun ad had ⟨o, h4, h5⟩ => ?_
      · cases hxa : x.out.a with
        | none => rw [hxa] at e; cases e
        | some o => rw [hxa] at e; exact hn ⟨o, hxa, (Option.some.inj e).symm⟩
      · have := (hlt ad had).1
        have := h.fl _ (h.outf o h4).1
        omega
    refine ⟨(h7'.mv (Mv.of_grown (F := fun k => k = g) hg16 rfl) fun ad had => by have := (hlt ad had).1; omega).bs, fun _ ad had hz => ?_⟩
    have h9 := hlt ad had
    rcases hz with hz | hz | ⟨o, h4, h5⟩
    · have := h.gl _ hz; omega
    · have := h.fl _ hz; omega
    · rcases hnew o h4 with ⟨o', h6, h7⟩ | h6
      · have := h.fl _ (h.outf o' h6).1; omega
      · omega
  refine ⟨F', x', ⟨hb16, .inl h.fg, fun k hk => ?_, fun k hk => ?_, fun k hk hf => ?_, ⟨hs1, h1.mv hm16 hEZ hZ⟩, ⟨hs2', h2.mv hm16 hEZ hZ⟩, ⟨hs3 ++ [x7], h13', ?_⟩, fun ad had => ⟨.inr ⟨ad, had, rfl⟩, hgr ad had⟩, ?_, h.crc.mv hm16 fun e => h.nt (.inr (hEF _ e)), fun hz => (hZ _ hz).elim h.nt fun h5 => (by have := h.crc.lt; omega), h.upr⟩, hm16.mono fun k hk => .inl (hEF k hk), hF'⟩
  · rcases hk with hk | ⟨o, h4, rfl⟩
    · have := h.fl k hk; omega
    · rcases hnew o h4 with ⟨o', h6, h7⟩ | h6
      · have := h.fl _ (h.outf o' h6).1; omega
      · have := (h13.own o h4).2; omega
  · have := h.gl k hk; omega
  · rcases hF' k hf with h4 | h4
    · exact h.gf k hk h4
    · have := h.gl k hk; omega
  · refine All2.append (ha3.mono fun a b _ _ hr => hr.mv hm16 hEZ hZ) ⟨hcb, trivial⟩
  · refine h.early.mv hm16 (fun k hk => ?_) (fun k hk _ _ => .inl hk) (fun o' ho' => ?_)
    · rcases hk with hk | hk
      · exact .inl hk
      · exact .inr (.inl hk)
    · rcases hnew o' ho' with ⟨o, h6, h7⟩ | h6
      · exact .inl ⟨o, h6, h7⟩
      · right; omega
end
end Go.Proofs.YtmhibpcbdbhfoaaDoor
namespace Go.Proofs.YtmhibpcbdbhfoaaDoor
open Go.RowKit Go.Fl

theorem none_rd {w : World} {A : Option Addr} {xs : List Value} (h : Rd w A xs) (ha : A.isNone = true) : xs = [] := by
  cases xs with
  | nil => rfl
  | cons x l =>
    obtain ⟨ad, h1, _⟩ := h 0 x rfl
    rw [h1] at ha; cases ha
theorem Clone_rows_ok {s : Sl} {hs : List Sl} {w : World} (hr : Rd w s.a (slsV hs)) (hl : s.n = hs.length) (hb : hs.length ≤ 1099511627776) :
    cl Tryd.prog n_slices_Clone_rows_byte_byte #[.slice s.a s.n s.c] .L w fun (r : Sl) w' => OwS w' w.heap.size t_s_uint8 r hs ∧ Fr w w' := by
  refine slices_Clone_rows_byte_byte.cl ?_
  unfold slices_Clone_rows_byte_byte
  refine bB ?_ ?_ <;> intro h
  · have : hs = [] := List.map_eq_nil_iff.1 (none_rd hr h)
    subst this
    exact ⟨OwS.nil _ _ _, Fr.refl w⟩
  · refine nwI fun b w2 hb2 hs2 hf2 hblk _ => ?_
    refine app0V slS (base := w.heap.size) hblk (by omega) (hr.below hf2) (by rw [List.length_map, hl, Nat.mul_one]) (slsV_one hs) (by omega) (by omega) hf2.size fun r w3 _ ho hf3 => ⟨ho, hf2.trans hf3⟩
/-- A row of frames on the way of the call's own. -/
def OwW (w : World) (base : Nat) (s : Sl) (hs : WayH) : Prop := w.ownsRow base t_tunnel_sent 3 (.slice s.a s.n s.c) s.n (wayV hs)
theorem OwW.len {w : World} {base : Nat} {s : Sl} {hs : WayH} (h : OwW w base s hs) : s.n = hs.length := by
  have := h.1; rw [wayV_length] at this; omega
theorem OwW.cap {w : World} {base : Nat} {s : Sl} {hs : WayH} (h : OwW w base s hs) : s.n ≤ s.c := by
  rcases h.2 with ⟨hv, hn⟩ | ⟨g, cap, cur, hv, _, _, hc, _⟩
  · injection hv with _ h1 h2; omega
  · injection hv with _ h1 h2; omega
theorem OwW.rd {w : World} {base : Nat} {s : Sl} {hs : WayH} (h : OwW w base s hs) : Rd w s.a (wayV hs) := Rd.of_own h
theorem OwW.fr {w w' : World} {base : Nat} {s : Sl} {hs : WayH} (h : OwW w base s hs) (hf : Fr w w') : OwW w' base s hs := own_kept h hf
theorem OwW.own {w : World} {base : Nat} {s : Sl} {hs : WayH} (h : OwW w base s hs) : ∀ ad, s.a = some ad → base ≤ ad.block ∧ ad.block < w.heap.size := fun ad ha => World.ownsRow.lt h ad.block (by rw [ha]; rfl)
theorem OwW.mv {F : Nat → Prop} {w w' : World} {base : Nat} {s : Sl} {hs : WayH} (h : OwW w base s hs) (hm : Mv F w w') (hF : ∀ ad, s.a = some ad → ¬F ad.block) : OwW w' base s hs := own_kp h hm.kp hF
theorem OwW.wayR {w : World} {Z : Nat → Prop} {base : Nat} {s : Sl} {hs : WayH} {ls : List (Int × List UInt8 × Int)} (h : OwW w base s hs) (hZ : ∀ k, Z k → k < base) (ha : All2 (fun a b => a.1 = b.1 ∧ Cb w Z a.2.1 b.2.1 ∧ a.2.2 = b.2.2) hs ls) : WayR w Z s hs ls :=
  ⟨h.rd, h.len, h.cap, fun _ ad had hz => by have := (h.own ad had).1; have := hZ _ hz; omega, ha⟩
theorem OwS.rw {w : World} {Z : Nat → Prop} {base : Nat} {e : TypeId} {s : Sl} {hs : List Sl} {ls : List (List UInt8)} (h : OwS w base e s hs) (hZ : ∀ k, Z k → k < base) (ha : All2 (Cb w Z) hs ls) : RwB w Z s hs ls :=
  ⟨h.rd, h.len, h.cap, fun _ ad had hz => by have := (h.own ad had).1; have := hZ _ hz; omega, ha⟩
theorem slW : SlT Tryd.prog t_s_tunnel_sent t_tunnel_sent 3 40 := SlT.mk' (z := .agg #[.int .i64 0, .slice none 0 0, .int .i64 0]) (by kernel_rfl) (by kernel_rfl) rfl (by decide)
theorem Clone_sent_ok {s : Sl} {hs : WayH} {w : World} (hr : Rd w s.a (wayV hs)) (hl : s.n = hs.length) (hb : hs.length ≤ 1073741824) :
    cl Tryd.prog n_slices_Clone_tunnel_sent_tunnel_sent #[.slice s.a s.n s.c] .L w fun (r : Sl) w' => OwW w' w.heap.size r hs ∧ Fr w w' := by
  refine slices_Clone_tunnel_sent_tunnel_sent.cl ?_
  unfold slices_Clone_tunnel_sent_tunnel_sent
  refine bB ?_ ?_ <;> intro h
  · have : hs = [] := by
      have := congrArg List.length (none_rd hr h)
      rw [wayV_length, List.length_nil] at this
      exact List.eq_nil_of_length_eq_zero (by omega)
    subst this
    exact ⟨World.ownsRow_nil w w.heap.size t_tunnel_sent 3, Fr.refl w⟩
  · refine nwI fun b w2 hb2 hs2 hf2 hblk _ => ?_
    refine app0V slW (base := w.heap.size) hblk (by omega) (hr.below hf2) (by rw [wayV_length, hl]) (wayV_one hs) (by omega) (by omega) hf2.size fun r w3 _ ho hf3 => ⟨ho, hf2.trans hf3⟩
section
variable {w : World} {G F : Nat → Prop} {g : Nat} {t : Tn} {x : Shp}
/-- A tunnel whose way, queue and early messages are others now. -/
theorem Tun.re {w' : World} (h : Tun w G F g t x) {E F' : Nat → Prop} {t' : Tn} {x' : Shp} (hm : Mv E w w') (hE : ∀ k, E k → F k ∨ w.heap.size ≤ k) (hEo : ∀ o, x.out.a = some o → ¬E o.block)
    (hF1 : ∀ k, F' k → F k ∨ w.heap.size ≤ k) (hF2 : ∀ k, F' k → k < w'.heap.size) (hg : F' g) (hFo : ∀ o, x.out.a = some o → F' o.block)
    (hc : w'.heap[g]? = some (.cells (tunL t' x').toArray t_tunnel_Tunnel (0, 0))) (ho : x'.out = x.out) (hto : t'.out = t.out)
    (hway : ∃ hs, WayR w' (Zt G F') x'.way hs t'.way) (hqueue : ∃ hs, RwB w' (Zt G F') x'.queue hs t'.queue) (hearly : EarlyR w' F' g x'.out x'.r t'.early) (hup : t'.up = true → x'.r ≠ none) : Tun w' G F' g t' x' := by
  have hEZ : ∀ k, E k → Zt G F k ∨ w.heap.size ≤ k := fun k hk => (hE k hk).imp .inr id
  have hZ : ∀ k, Zt G F' k → Zt G F k ∨ w.heap.size ≤ k := fun k hk => by
    rcases hk with hk | hk
    · exact .inl (.inl hk)
    · exact (hF1 k hk).imp .inr id
  obtain ⟨hs3, h3, h4⟩ := h.out
  refine ⟨hc, hg, hF2, fun k hk => Nat.lt_of_lt_of_le (h.gl k hk) hm.size, fun k hk hf => ?_, hway, hqueue, ⟨hs3, by rw [ho]; exact h3.mv hm hEo, by rw [hto]; exact h4.mono fun a b _ _ hr => hr.mv hm hEZ hZ⟩, fun ad had => ?_, hearly, ?_, ?_, hup⟩
  · rcases hF1 k hf with h1 | h1
    · exact h.gf k hk h1
    · have := h.gl k hk; omega
  · rw [ho] at had
    exact ⟨hFo ad had, (h.outf ad had).2⟩
  · refine h.crc.mv hm fun he => ?_
    rcases hEZ _ he with h5 | h5
    · exact h.nt h5
    · have := h.crc.lt; omega
  · intro hz
    rcases hZ _ hz with h5 | h5
    · exact h.nt h5
    · have := h.crc.lt; omega
theorem Tun.wayK {w' : World} (h : Tun w G F g t x) {E F' : Nat → Prop} (hm : Mv E w w') (hE : ∀ k, E k → F k ∨ w.heap.size ≤ k) (hF1 : ∀ k, F' k → F k ∨ w.heap.size ≤ k) : ∃ hs, WayR w' (Zt G F') x.way hs t.way := by
  obtain ⟨hs, h1⟩ := h.way
  refine ⟨hs, h1.mv hm (fun k hk => (hE k hk).imp .inr id) fun k hk => ?_⟩
  rcases hk with hk | hk
  · exact .inl (.inl hk)
  · exact (hF1 k hk).imp .inr id
theorem Tun.queueK {w' : World} (h : Tun w G F g t x) {E F' : Nat → Prop} (hm : Mv E w w') (hE : ∀ k, E k → F k ∨ w.heap.size ≤ k) (hF1 : ∀ k, F' k → F k ∨ w.heap.size ≤ k) : ∃ hs, RwB w' (Zt G F') x.queue hs t.queue := by
  obtain ⟨hs, h1⟩ := h.queue
  refine ⟨hs, h1.mv hm (fun k hk => (hE k hk).imp .inr id) fun k hk => ?_⟩
  rcases hk with hk | hk
  · exact .inl (.inl hk)
  · exact (hF1 k hk).imp .inr id
theorem say_len (t : Tn) (f : Fm) : (t.say f).out.length = t.out.length + 1 := by simp [Tn.say]
theorem hint_ok {n : Int} (h : Tun w G F g t x) (hme : 1 ≤ t.me) (hl : t.out.length ≤ 1073741824) :
    cl Tryd.prog n_tunnel_Tunnel_Hint #[.pointer (some ⟨g, 0, none⟩), .int .i64 n] (.tup .nil) w fun (_ : Unit) w' => TunTo w w' G F g (t.hint n) := by
  refine tunnel_Tunnel_Hint.cl (p0 := some ⟨g, 0, none⟩) (p1 := n) ?_
  unfold tunnel_Tunnel_Hint
  intro j1
  refine (made_ok h hme).mono ?_
  rintro _ _ ⟨rfl, rfl⟩
  refine bT rfl (bD ?_ ?_) <;> intro h1
  · show bif _ then _ else _
    refine bD ?_ ?_ <;> intro h2
    · rw [show t.hint n = t.say (hel n) from if_pos ⟨h1, h2⟩]
      exact say_ok (p := (1, 0, n, 0, 0, 0, ⟨none, 0, 0⟩, ())) h (Bs.nil _ _) hl
    · rw [show t.hint n = t from if_neg (by omega)]
      exact TunTo.refl h
  · show bif _ then _ else _
    rw [show t.hint n = t from if_neg (by omega)]
    exact bF rfl (TunTo.refl h)
/-- The session's cells are written anew. -/
theorem stSes {w1 : World} {t : Tn} {x : Shp} (hc : w1.heap[g]? = some (.cells (tunL t x).toArray t_tunnel_Tunnel (0, 0))) (v : y_tunnel_session) {K : World → Prop}
    (hk : ∀ w', w'.heap[g]? = some (.cells (Kd.av k_tunnel_Tunnel (v, (tunC t x).2)).cells.toArray t_tunnel_Tunnel (0, 0)) → w1.grownBy w' (some g) → w'.heap.size = w1.heap.size → K w') : st w1 ⟨g, 0, none⟩ (Kd.av k_tunnel_session v) K :=
  st_all (Kd.av k_tunnel_session v) rfl (pre := []) (q := (Kd.av k_tunnel_session (tunC t x).1).cells) (post := [.int .i64 t.me, .int .i64 t.you, .int .i64 t.epoch, .int .i64 t.ticks, slV x.out]) hc rfl fun w' h' g' s' => hk w' h' g' s'
theorem beg_ok {you : Int} (h : Tun w G F g t x) (hl : t.out.length ≤ 1073741824) :
    cl Tryd.prog n_tunnel_Tunnel_begin #[.pointer (some ⟨g, 0, none⟩), .int .i64 you] (.tup .nil) w fun (_ : Unit) w' => TunTo w w' G F g (t.beg you) := by
  refine tunnel_Tunnel_begin.cl (p0 := some ⟨g, 0, none⟩) (p1 := you) ?_
  unfold tunnel_Tunnel_begin
  have hgl := tun_lt h
  refine nzS ?_
  rw [addOff]
  refine st0 h.cells (by show 8 < 12; decide) fun w2 hb2 hg2 hs2 => ?_
  have hb2 : w2.heap[g]? = some (.cells (tunL { t with you := you } x).toArray t_tunnel_Tunnel (0, 0)) := hb2
  refine rnNewM (key := Value.int .i64) fun m w4 hm hM hf4 hs4 => ?_
  refine nzS ?_
  refine stSes (hf4.heap hb2) (true, (0, (0, (⟨none, 0, 0⟩, (⟨none, 0, 0⟩, (0, (some m, ()))))))) fun w6 hb6 hg6 hs6 => ?_
  refine nzS ?_
  rw [addOff]
  refine ldI0 hb6 rfl (nzS ?_)
  rw [addOff]
  refine st0 hb6 (by show 9 < 12; decide) fun w10 hb10 hg10 hs10 => ?_
  let x' : Shp := ⟨⟨none, 0, 0⟩, ⟨none, 0, 0⟩, x.out, some m⟩
  have hb10 : w10.heap[g]? = some (.cells (tunL (t.fresh you) x').toArray t_tunnel_Tunnel (0, 0)) := hb10
  have hg46 := hg6.trans hg10
  have hmv : Mv (fun k => k = g) w w10 := (Mv.of_grown (F := fun k => k = g) hg2 rfl).trans (Mv.trans (F := fun k => k = g) (Mv.of_fr hf4) (Mv.of_grown (F := fun k => k = g) hg46 rfl) fun j hj => .inl hj) fun j hj => .inl hj
  let F' : Nat → Prop := fun k => F k ∨ k = m
  have hM10 : MapF (Value.int .i64) w10 m (fun _ => none) := hM.sub (hg46.block m hM.lt (by simp; omega))
  have hF1 : ∀ k, F' k → F k ∨ w.heap.size ≤ k := fun k hk => hk.imp id fun h => by omega
  have h10 : Tun w10 G F' g (t.fresh you) x' := by
    refine h.re (E := fun k => k = g) hmv (fun k hk => .inl (by rw [hk]; exact h.fg)) (fun o ho => (h.outf o ho).2) hF1 (fun k hk => ?_) (.inl h.fg) (fun o ho => .inl (h.outf o ho).1) hb10 rfl rfl ⟨[], WayR.nil _ _ _⟩ ⟨[], RwB.nil _ _ _⟩ ?_ (fun _ h => by cases h)
    · rcases hk with hk | hk
      · have := h.fl k hk; omega
      · omega
    · refine ⟨_, fun _ => ⟨none, 0, 0⟩, hM10, .inr rfl, ⟨by omega, fun o ho e => ?_⟩, fun _ _ => rfl, fun k b hk => (by cases hk), fun k b hk => (by cases hk), fun k b k' b' hk => (by cases hk)⟩
      have := h.fl _ (h.outf o ho).1
      omega
  refine (say_ok (p := (1, 0, you, 0, 0, 0, ⟨none, 0, 0⟩, ())) h10 (Bs.nil _ _) hl).mono fun _ w' h' => ?_
  exact TunTo.step (hmv.mono fun k hk => .inl (by rw [hk]; exact h.fg)) hF1 h'
end
end Go.Proofs.YtmhibpcbdbhfoaaDoor
namespace Go.Proofs.YtmhibpcbdbhfoaaDoor
open Go.RowKit Go.Fl

section
variable {w : World} {G F : Nat → Prop} {g : Nat} {t : Tn} {x : Shp}
theorem fin_ok (h : Tun w G F g t x) :
    cl Tryd.prog n_tunnel_Tunnel_end #[.pointer (some ⟨g, 0, none⟩)] (.tup .nil) w fun (_ : Unit) w' => TunTo w w' G F g t.fin := by
  refine tunnel_Tunnel_end.cl (p0 := some ⟨g, 0, none⟩) ?_
  unfold tunnel_Tunnel_end
  refine nzS ?_
  refine stSes h.cells (false, (0, (0, (⟨none, 0, 0⟩, (⟨none, 0, 0⟩, (0, (none, ()))))))) fun w2 hb2 hg2 hs2 => ?_
  refine nzS ?_
  rw [addOff]
  refine ldI0 hb2 rfl (nzS ?_)
  rw [addOff]
  refine st0 hb2 (by show 7 < 12; decide) fun w6 hb6 hg6 hs6 => ?_
  refine nzS ?_
  rw [addOff]
  refine ldI0 hb6 rfl (nzS ?_)
  rw [addOff]
  refine st0 hb6 (by show 9 < 12; decide) fun w10 hb10 hg10 hs10 => ?_
  have hg := (hg2.trans hg6).trans hg10
  have hmv : Mv (fun k => k = g) w w10 := Mv.of_grown hg rfl
  let x' : Shp := ⟨⟨none, 0, 0⟩, ⟨none, 0, 0⟩, x.out, none⟩
  have h10 : Tun w10 G F g t.fin x' := h.re (E := fun k => k = g) hmv (fun k hk => .inl (by rw [hk]; exact h.fg)) (fun o ho => (h.outf o ho).2) (fun k hk => .inl hk) (fun k hk => by have := h.fl k hk; omega) h.fg (fun o ho => (h.outf o ho).1) hb10 rfl rfl ⟨[], WayR.nil _ _ _⟩ ⟨[], RwB.nil _ _ _⟩ (fun _ => rfl) (fun h => by cases h)
  exact ⟨F, x', h10, hmv.mono fun k hk => .inl (by rw [hk]; exact h.fg), fun k hk => .inl hk⟩
/-- How many messages wait, as the world has it. -/
def queueN (g : Nat) (w : World) : Nat := match w.heap[g]? with
  | some (Obj.cells cs _ _) => (match (cs[4]? : Option Value) with | some (Value.slice _ n _) => n | _ => 0)
  | _ => 0
theorem queueN_eq (h : Tun w G F g t x) : queueN g w = t.queue.length := by
  obtain ⟨hs, h2⟩ := h.queue
  rw [← h2.count]
  unfold queueN
  rw [h.cells]
  rfl
theorem slide_len : ∀ (k : Nat) (t : Tn), (slideF k t).out.length ≤ t.out.length + t.queue.length
  | 0, t => by simp [slideF]
  | k + 1, t => by
    unfold slideF
    split
    · simp_all
    · rename_i b q hq
      split
      · refine Nat.le_trans (slide_len k _) ?_
        rw [hq]
        simp [Tn.put1, Tn.say]
        omega
      · omega
/-- The way and the queue are written anew. -/
theorem Tun.wq {w' : World} (h : Tun w G F g t x) {t' : Tn} {x' : Shp} (hm : Mv (fun k => k = g) w w') (hc : w'.heap[g]? = some (.cells (tunL t' x').toArray t_tunnel_Tunnel (0, 0))) (ho : x'.out = x.out) (hr : x'.r = x.r) (hto : t'.out = t.out) (hte : t'.early = t.early) (hup : t'.up = t.up)
    (hway : ∃ hs, WayR w' (Zt G F) x'.way hs t'.way) (hqueue : ∃ hs, RwB w' (Zt G F) x'.queue hs t'.queue) : Tun w' G F g t' x' := by
  refine h.re (E := fun k => k = g) hm (fun k hk => .inl (by rw [hk]; exact h.fg)) (fun o ho => (h.outf o ho).2) (fun k hk => .inl hk) (fun k hk => Nat.lt_of_lt_of_le (h.fl k hk) hm.size) h.fg (fun o ho => (h.outf o ho).1) hc ho hto hway hqueue ?_ (by rw [hup, hr]; exact h.upr)
  rw [ho, hr, hte]
  exact h.early.mv hm (fun k hk => .inl hk) (fun k hk _ _ => hk) (fun o ho => .inl ⟨o, ho, rfl⟩)
theorem slide_ok (h : Tun w G F g t x) (hr : t.queue.length + t.way.length ≤ 64) (hl : t.out.length + t.queue.length ≤ 1073741824) :
    cl Tryd.prog n_tunnel_Tunnel_slide #[.pointer (some ⟨g, 0, none⟩)] (.tup .nil) w fun (_ : Unit) w' => TunTo w w' G F g t.slide := by
  refine tunnel_Tunnel_slide.cl (p0 := some ⟨g, 0, none⟩) ?_
  unfold tunnel_Tunnel_slide
  refine lpI (fun _ w' => ∃ t1, TunTo w w' G F g t1 ∧ slideF t1.queue.length t1 = t.slide ∧ t1.queue.length + t1.way.length ≤ 64 ∧ t1.out.length + t1.queue.length ≤ 1073741824) (fun _ w' => queueN g w') ⟨t, TunTo.refl h, rfl, hr, hl⟩ ?_
  rintro D ⟨⟩ w2 ⟨t1, ⟨F1, x1, h1, m1, f1⟩, hfin, hr1, hl1⟩
  have hqN := queueN_eq h1
  obtain ⟨hsw, hw⟩ := h1.way
  obtain ⟨hsq, hq⟩ := h1.queue
  have nw1 := hw.count
  have nq1 := hq.count
  have nw2 := hw.all.length
  have nq2 := hq.all.length
  have done : ∀ n : Nat, t1 = t.slide → TunTo w (w2.drewN n) G F g t.slide := fun n e => by
    rw [← e]; exact Tun.to_fr ⟨F1, x1, h1, m1, f1⟩ (Fr.drewN w2 n)
  intro j2
  have hj2 : ∀ (u : World), Fr w2 u → ∀ b q, t1.queue = b :: q → slideF q.length (t1.put1 b q) = t.slide → j2 u := by
    intro u hfu b q hbq hnext
    unfold j2
    have hql : q.length + 1 + t1.way.length ≤ 64 := by have := hr1; rw [hbq] at this; simpa using this
    have hu : Tun u G F1 g t1 x1 := h1.fr hfu
    refine nzS ?_
    rw [addOff]
    refine ldI0 hu.cells (show (tunL t1 x1).toArray[2]? = some (.int .i64 t1.next) from rfl) (nzS ?_)
    rw [addOff]
    refine st0 hu.cells (by show 2 < 12; decide) fun w88 hb88 hg88 hs88 => ?_
    have hc88 : w88.heap[g]? = some (.cells (tunL { t1 with next := wr (t1.next + 1) } x1).toArray t_tunnel_Tunnel (0, 0)) := hb88
    have h88 := hu.own (t' := { t1 with next := wr (t1.next + 1) }) hg88 hc88 rfl rfl rfl rfl rfl
    have hsz : w2.heap.size ≤ w88.heap.size := by have := hfu.size; omega
    obtain ⟨s0, hsq', hhs⟩ : ∃ s0 hsq', hsq = s0 :: hsq' := by
      cases hsq with
      | nil => rw [hbq] at nq2; simp at nq2
      | cons a l => exact ⟨a, l, rfl⟩
    subst hhs
    intro j3
    have hj3 : ∀ (v : World) (r : Sl), Mv (fun k => k = g) w88 v → v.heap[g]? = some (.cells (tunL { t1 with next := wr (t1.next + 1), way := t1.way ++ [(wr (t1.next + 1), b, 0)] } ⟨r, x1.queue, x1.out, x1.r⟩).toArray t_tunnel_Tunnel (0, 0)) →
        (∃ hs, WayR v (Zt G F1) r hs (t1.way ++ [(wr (t1.next + 1), b, 0)])) → j3 v := by
      intro v r hmv hc hway
      unfold j3
      let t2 : Tn := { t1 with next := wr (t1.next + 1), way := t1.way ++ [(wr (t1.next + 1), b, 0)] }
      let x2 : Shp := ⟨r, x1.queue, x1.out, x1.r⟩
      have hv : Tun v G F1 g t2 x2 := h88.wq (t' := t2) (x' := x2) hmv hc rfl rfl rfl rfl rfl hway (h88.queueK hmv (fun k hk => .inl (by rw [hk]; exact hu.fg)) fun k hk => .inl hk)
      intro n
      have hv := hv.fr (Fr.drewN v n)
      have hfv := Fr.drewN v n
      generalize v.drewN n = v2 at *
      obtain ⟨hsq2, hq2⟩ := hv.queue
      have hq3 : All2 (Cb v2 (Zt G F1)) hsq2 (b :: q) := by have := hq2.all; rwa [show t2.queue = b :: q from hbq] at this
      obtain ⟨s1, hsq3, rfl⟩ : ∃ s1 hsq3, hsq2 = s1 :: hsq3 := by
        cases hsq2 with
        | nil => exact hq3.elim
        | cons a l => exact ⟨a, l, rfl⟩
      refine nzS ?_
      rw [addOff]
      refine ldI0 hv.cells (show (tunL t2 x2).toArray[8]? = some (.int .i64 t1.you) from rfl) (nzS ?_)
      rw [addOff]
      refine ldI0 hv.cells (show (tunL t2 x2).toArray[2]? = some (.int .i64 (wr (t1.next + 1))) from rfl) (nzS ?_)
      rw [addOff]
      refine ldL0 (s := x1.queue) hv.cells rfl ?_
      refine ixS (j := 0) hq2.rd hq2.len rfl (by simp) (Fr.refl _) ?_
      refine (say_ok (p := (2, 0, t1.you, wr (t1.next + 1), 0, 0, s1, ())) (b := b) hv hq3.1.bs (by show t1.out.length ≤ _; omega)).mono fun _ w143 h143 => ?_
      obtain ⟨F4, x4, h4, m4, f4⟩ := h143
      have hq4 : t1.queue = (t2.say ⟨2, 0, t1.you, wr (t1.next + 1), 0, 0, b⟩).queue := rfl
      obtain ⟨hsq4, hqq⟩ := h4.queue
      have hqa : All2 (Cb w143 (Zt G F4)) hsq4 (b :: q) := by have := hqq.all; rwa [← hq4, hbq] at this
      have hl4 := hqa.length
      rw [List.length_cons] at hl4
      have hqn := hqq.len
      refine nzS ?_
      rw [addOff]
      refine ldL0 (s := x4.queue) h4.cells rfl ?_
      have hcut := hqq.cut (i := 1) (j := hsq4.length) (by omega) (Nat.le_refl _)
      rw [List.take_length] at hcut
      refine ⟨by decide, by rw [hqn]; omega, by have := hqq.cap; omega, ?_⟩
      rw [show ((1 : Int)).toNat = 1 from rfl, show ((x4.queue.n : Int)).toNat = hsq4.length from by rw [hqn]; omega]
      have hrows := hcut.len
      rw [List.length_drop] at hrows
      refine (Clone_rows_ok hcut.rd hcut.len (by rw [List.length_drop]; omega)).mono ?_
      rintro x147 w148 ⟨h147, hf148⟩
      refine nzS ?_
      rw [addOff]
      have h148 := h4.fr hf148
      refine st0 h148.cells (by show 4 < 12; decide) fun w150 hb150 hg150 hs150 => ?_
      have hg150' : Mv (fun k => k = g) w148 w150 := Mv.of_grown hg150 rfl
      have ealg : ∀ (y : Tn), y.queue = q → y = { (t2.say ⟨2, 0, t1.you, wr (t1.next + 1), 0, 0, b⟩) with queue := q } → y = t1.put1 b q := fun y _ h => h
      have h150 : Tun w150 G F4 g (t1.put1 b q) ⟨x4.way, x147, x4.out, x4.r⟩ := by
        have hfin147 : x147.a ≠ some ⟨g, 0, none⟩ ∨ True := .inr trivial
        refine h148.wq (t' := t1.put1 b q) (x' := ⟨x4.way, x147, x4.out, x4.r⟩) hg150' hb150 rfl rfl rfl rfl rfl (h148.wayK hg150' (fun k hk => .inl (by rw [hk]; exact h4.fg)) fun k hk => .inl hk) ⟨hsq4.drop 1, ?_⟩
        have hown : OwS w150 w143.heap.size t_s_uint8 x147 (hsq4.drop 1) := h147.mv hg150' fun ad had e => by
          have := (h147.own ad had).1
          have := tun_lt h4
          omega
        refine OwS.rw hown (fun k hk => ?_) ?_
        · rcases hk with hk | hk
          · exact h4.gl k hk
          · exact h4.fl k hk
        · have hqd : All2 (Cb w143 (Zt G F4)) (hsq4.drop 1) q := hqa.drop 1
          refine hqd.mono fun a c _ _ hr => (hr.mv (Mv.of_fr (F := fun _ => False) hf148) (fun _ h => h.elim) (fun k hk => .inl hk)).mv hg150' (fun k hk => .inl (.inr (by rw [hk]; exact h4.fg))) (fun k hk => .inl hk)
      -- all together
      have hE1 : Mv F1 w2 v2 := ((Mv.of_fr (F := F1) hfu).trans ((Mv.of_grown (F := fun k => k = g) hg88 rfl).trans (hmv.trans (Mv.of_fr (F := fun k => k = g) hfv) fun j hj => .inl hj) fun j hj => .inl hj) fun j hj => .inl (by rw [hj]; exact h1.fg))
      have hE2 : Mv F4 w143 w150 := (Mv.of_fr (F := F4) hf148).trans hg150' fun j hj => .inl (by rw [hj]; exact h4.fg)
      have t12 : TunTo w2 w150 G F1 g (t1.put1 b q) := TunTo.step hE1 (fun k hk => .inl hk) (TunTo.step m4 f4 ⟨F4, _, h150, hE2, fun k hk => .inl hk⟩)
      have hqN2 := queueN_eq h150
      refine ⟨⟨t1.put1 b q, TunTo.step m1 f1 t12, hnext, ?_, ?_⟩, ?_⟩
      · show q.length + (t1.way ++ [(wr (t1.next + 1), b, 0)]).length ≤ 64
        rw [hbq] at hr1
        simp at hr1 ⊢; omega
      · have e : (t1.put1 b q).out.length = t1.out.length + 1 := by simp [Tn.put1, Tn.say]
        show (t1.put1 b q).out.length + q.length ≤ _
        rw [e]
        rw [hbq] at hl1
        simp at hl1; omega
      · rw [hqN2, hqN, hbq]
        show q.length < _
        simp
    clear_value j3
    intro n
    have h89 := h88.fr (Fr.drewN w88 n)
    have hf89 := Fr.drewN w88 n
    generalize w88.drewN n = w89 at *
    obtain ⟨hsw9, hw9⟩ := h89.way
    obtain ⟨hsq9, hq9⟩ := h89.queue
    have hqa9 : All2 (Cb w89 (Zt G F1)) hsq9 (b :: q) := by have := hq9.all; rwa [show ({ t1 with next := wr (t1.next + 1) } : Tn).queue = b :: q from hbq] at this
    obtain ⟨s9, hsq9', rfl⟩ : ∃ s1 hsq3, hsq9 = s1 :: hsq3 := by
      cases hsq9 with
      | nil => exact hqa9.elim
      | cons a l => exact ⟨a, l, rfl⟩
    have hwl9 := hw9.all.length
    have hwl9 : hsw9.length = t1.way.length := hwl9
    refine nzS ?_
    rw [addOff]
    refine ldL0 (s := x1.way) h89.cells rfl (nzS ?_)
    rw [addOff]
    refine ldI0 h89.cells (show (tunL { t1 with next := wr (t1.next + 1) } x1).toArray[2]? = some (.int .i64 (wr (t1.next + 1))) from rfl) (nzS ?_)
    rw [addOff]
    refine ldL0 (s := x1.queue) h89.cells rfl ?_
    refine ixS (j := 0) hq9.rd hq9.len rfl (by simp) (Fr.refl _) ?_
    -- what is put on the way
    have fin : ∀ (v : World) (c : Sl) (e : Nat), Fr w89 v → OwW v w89.heap.size c hsw9 → v.heap[e]? = some (.cells ([.int .i64 (wr (t1.next + 1)), .slice s9.a s9.n s9.c, .int .i64 0] : List Value).toArray t_tunnel_sent (0, 0)) → w89.heap.size ≤ e →
        app Tryd.prog t_s_tunnel_sent t_s_tunnel_sent c ⟨some ⟨e, 0, none⟩, 1, 1⟩ v fun r v2 => nz (some ⟨g, 0, none⟩) fun a => st1 v2 (a.add 3) (.slice r.a r.n r.c) fun v3 => j3 v3 := by
      intro v c e hfv hc he hee
      have hrd : Rd v (some ⟨e, 0, none⟩) (wayV [(wr (t1.next + 1), s9, 0)]) := by
        intro j u hu
        refine ⟨_, rfl, ?_⟩
        rw [addOff, cell_of_row v e _ _ _ _ he]
        simpa [wayV] using hu
      have hcl := hc.len
      refine app_own slW hc hrd rfl (wayV_one _) ?_ (by dsimp only; omega) hfv.size fun r v2 hrn hown hgv hat => ?_
      · dsimp only; omega
      have hwv : wayV hsw9 ++ wayV [(wr (t1.next + 1), s9, 0)] = wayV (hsw9 ++ [(wr (t1.next + 1), s9, 0)]) := by simp [wayV]
      rw [hwv] at hown
      have hown : OwW v2 w89.heap.size r (hsw9 ++ [(wr (t1.next + 1), s9, 0)]) := hown
      have hfv2 : Fr w89 v2 := hfv.on ((Below.refl w89.heap.size v).grown hgv hfv.size fun k hk => (World.ownsRow.lt hc k hk).1)
      refine nzS ?_
      rw [addOff]
      refine st0 (hfv2.heap h89.cells) (by show 3 < 12; decide) fun v3 hb3 hg3 hs3 => ?_
      have hmg : Mv (fun k => k = g) v2 v3 := Mv.of_grown hg3 rfl
      have hmv : Mv (fun k => k = g) w89 v3 := Mv.trans (F := fun k => k = g) (Mv.of_fr hfv2) hmg fun j hj => .inl hj
      refine hj3 v3 r (Mv.trans (F := fun k => k = g) (Mv.of_fr hf89) hmv fun j hj => .inl hj) hb3 ⟨hsw9 ++ [(wr (t1.next + 1), s9, 0)], ?_⟩
      have hown3 : OwW v3 w89.heap.size r (hsw9 ++ [(wr (t1.next + 1), s9, 0)]) := hown.mv hmg fun ad had e => by
        have := (hown.own ad had).1
        have := tun_lt h89
        omega
      refine hown3.wayR (fun k hk => ?_) ?_
      · rcases hk with hk | hk
        · exact h89.gl k hk
        · exact h89.fl k hk
      · have tr : ∀ {a : Sl} {l : List UInt8}, Cb w89 (Zt G F1) a l → Cb v3 (Zt G F1) a l := fun hr => hr.mv hmv (fun k hk => .inl (.inr (by rw [hk]; exact h89.fg))) fun k hk => .inl hk
        exact All2.append (hw9.all.mono fun a c _ _ hr => ⟨hr.1, tr hr.2.1, hr.2.2⟩) ⟨⟨rfl, tr hqa9.1, rfl⟩, trivial⟩
    have hwrd := hw9.rd
    have hwln := hw9.len
    refine ⟨?_, ?_⟩
    · refine (Clone_sent_ok hwrd hwln (by omega)).mono ?_
      rintro x98 w99 ⟨h98, hf99⟩
      refine ⟨hf99, ?_⟩
      refine nwI fun e w101 he hse hfe hbe _ => ⟨hfe, ?_⟩
      exact fin w101 x98 e (hf99.trans hfe) (h98.fr hfe) hbe (by have := hf99.size; omega)
    · refine nwI fun e w107 he hse hfe hbe _ => ⟨hfe, ?_⟩
      refine (Clone_sent_ok (hwrd.below hfe) hwln (by omega)).mono ?_
      rintro x108 w109 ⟨h108, hf109⟩
      refine ⟨hf109, ?_⟩
      refine fin w109 x108 e (hfe.trans hf109) ?_ (hf109.heap hbe) (by omega)
      refine ⟨h108.1, ?_⟩
      rcases h108.2 with hn | ⟨g', cap, cur, hv, hgb, rest⟩
      · exact .inl hn
      · exact .inr ⟨g', cap, cur, hv, by omega, rest⟩
  clear_value j2
  refine nzS ?_
  rw [addOff]
  refine ldL0 (s := x1.queue) h1.cells rfl ?_
  refine bD ?_ ?_ <;> intro hq0
  · obtain ⟨b, q, hbq⟩ : ∃ b q, t1.queue = b :: q := by
      cases hqq : t1.queue with
      | nil => rw [hqq] at nq1; simp at nq1; omega
      | cons b q => exact ⟨b, q, rfl⟩
    have hstep : slideF t1.queue.length t1 = if t1.can then slideF q.length (t1.put1 b q) else t1 := by
      rw [hbq, List.length_cons, slideF, hbq]
    refine nzS ?_
    rw [addOff]
    refine ldL0 (s := x1.way) h1.cells rfl ?_
    refine bE ?_ ?_ <;> intro hw0
    · have hcan : t1.can = true := by
        have : t1.way = [] := List.eq_nil_of_length_eq_zero (by omega)
        unfold Tn.can; rw [this]
      rw [hcan, if_pos rfl] at hstep
      intro n
      exact hj2 _ (Fr.drewN w2 n) b q hbq (hstep.symm.trans hfin)
    · obtain ⟨y, l, hyl⟩ : ∃ y l, t1.way = y :: l := by
        cases hww : t1.way with
        | nil => rw [hww] at nw1; simp at nw1; omega
        | cons y l => exact ⟨y, l, rfl⟩
      have hwa : All2 (fun a b => a.1 = b.1 ∧ Cb w2 (Zt G F1) a.2.1 b.2.1 ∧ a.2.2 = b.2.2) hsw (y :: l) := by have := hw.all; rwa [hyl] at this
      obtain ⟨a0, hsw', rfl⟩ : ∃ a l, hsw = a :: l := by
        cases hsw with
        | nil => exact hwa.elim
        | cons a l => exact ⟨a, l, rfl⟩
      have hcan : t1.can = decide (wr (wr (t1.next + 1) - y.1) < 16) := by unfold Tn.can; rw [hyl]
      refine nzS ?_
      rw [addOff]
      refine ldI0 h1.cells (show (tunL t1 x1).toArray[2]? = some (.int .i64 t1.next) from rfl) (nzS ?_)
      rw [addOff]
      refine ldL0 (s := x1.way) h1.cells rfl ?_
      obtain ⟨ad, had, hcell⟩ := hw.rd.at 0 (by rw [wayV_length]; simp)
      refine ⟨by decide, by omega, ?_⟩
      rw [had]
      refine ⟨y.1, ?_, ?_⟩
      · have e0 : (wayV (a0 :: hsw'))[0]'(by rw [wayV_length]; simp) = .int .i64 a0.1 := rfl
        rw [e0, hwa.1.1] at hcell
        exact hcell
      · intro n
        refine bD ?_ ?_ <;> intro hlt
        · rw [hcan, decide_eq_true hlt, if_pos rfl] at hstep
          exact hj2 _ (Fr.drewN w2 n) b q hbq (hstep.symm.trans hfin)
        · rw [hcan, decide_eq_false hlt] at hstep
          exact done n (hstep.symm.trans hfin)
  · intro n
    have hq0' : t1.queue = [] := List.eq_nil_of_length_eq_zero (by omega)
    rw [hq0'] at hfin
    exact done n hfin
end
end Go.Proofs.YtmhibpcbdbhfoaaDoor
namespace Go.Proofs.YtmhibpcbdbhfoaaDoor
open Go.RowKit Go.Fl

section
variable {w : World} {G F : Nat → Prop} {g : Nat} {t : Tn} {x : Shp}
theorem room_of (hr : t.queue.length + t.way.length ≤ 64) : wr (wr (64 - t.queue.length) - t.way.length) = 64 - (t.queue.length : Int) - t.way.length := by
  rw [wr, wr, i64w (n := 64 - (t.queue.length : Int)) (by omega) (by omega), i64w (by omega) (by omega)]
theorem send_ok {s : Sl} {b : List UInt8} (h : Tun w G F g t x) (hme : 1 ≤ t.me) (hb : Bs w s b) (hr : t.queue.length + t.way.length ≤ 64) (hl : t.out.length ≤ 1073741000) :
    cl Tryd.prog n_tunnel_Tunnel_Send #[.pointer (some ⟨g, 0, none⟩), .slice s.a s.n s.c] (.I .i64) w fun (r : Int) w' => r = (t.send b).2 ∧ TunTo w w' G F g (t.send b).1 := by
  refine tunnel_Tunnel_Send.cl (p0 := some ⟨g, 0, none⟩) (p1 := s) ?_
  unfold tunnel_Tunnel_Send
  have hbn := hb.len
  refine (made_ok h hme).mono ?_
  rintro _ _ ⟨rfl, rfl⟩
  refine bF rfl (nzS ?_)
  refine ldB0 h.cells (show (tunL t x).toArray[0]? = some (.bool t.up) from rfl) ?_
  cases hu : t.up with
  | false =>
    have e : t.send b = (t, 121) := by unfold Tn.send; rw [if_pos hu]
    rw [e]
    exact bT rfl ⟨rfl, TunTo.refl h⟩
  | true =>
  refine bF rfl (bD ?_ ?_) <;> intro h512
  · have e : t.send b = (t, 4) := by unfold Tn.send; rw [if_neg (by rw [hu]; decide), if_pos (by omega)]
    rw [e]
    exact ⟨rfl, TunTo.refl h⟩
  refine (tRoom_ok h hme).mono ?_
  rintro _ w6 ⟨rfl, hf6⟩
  have hroom : t.room = 64 - (t.queue.length : Int) - t.way.length := by unfold Tn.room; rw [hu, if_pos rfl, room_of hr]
  have h6 := h.fr hf6
  refine bD ?_ ?_ <;> intro hfull
  · have e : t.send b = (t, 7) := by unfold Tn.send; rw [if_neg (by rw [hu]; decide), if_neg (by omega), if_pos hfull]
    rw [e]
    exact ⟨rfl, Tun.to_fr (TunTo.refl h) hf6⟩
  have e : t.send b = (({ t with queue := t.queue ++ [b] } : Tn).slide, 0) := by unfold Tn.send; rw [if_neg (by rw [hu]; decide), if_neg (by omega), if_neg hfull]
  rw [e]
  refine nzS ?_
  rw [addOff]
  refine ldL0 (s := x.queue) h6.cells rfl ?_
  obtain ⟨hsq, hq⟩ := h6.queue
  have hqn := hq.count
  have hqa := hq.all.length
  refine (Clone_rows_ok hq.rd hq.len (by omega)).mono ?_
  rintro x9 w10 ⟨h9, hf10⟩
  refine nwI fun a11 w12 ha11 hs12 hf12 hb11 _ => ?_
  have hf12' := hf10.trans hf12
  refine app0B slB (base := w10.heap.size) hb11 (by omega) (hb.fr (hf6.trans hf12')) (by omega) hf12.size fun r13 w14 h13 hf14 => ?_
  refine nwI fun a15 w16 ha15 hs16 hf16 hb15 hr15 => ?_
  have hz10 := hf10.size
  have hz12 := hf12.size
  have hz14 := hf14.size
  have hf16' := (hf12.trans hf14).trans hf16
  refine app_S slS (by decide) (base := w6.heap.size) (ms := [r13]) (h9.fr hf16') hr15 rfl (by simp; omega) (hf10.trans hf16').size fun r17 w18 h17 hg17 _ => ?_
  rw [ownB_slice] at hg17
  have hf18 : Fr w6 w18 := (hf10.trans hf16').on ((Below.refl w6.heap.size w16).grown hg17 (hf10.trans hf16').size fun k hk => (h9.own' k (by rw [ownB_slice']; exact hk)).1)
  have h13' : OwB w18 w10.heap.size t_uint8 r13 b := by
    refine (h13.fr hf16).kp (S := fun k => w10.heap.size ≤ k ∧ some k ≠ x9.a.map (·.block)) (fun k hk hS => hg17.block k hk hS.2) fun ad had => ⟨(h13.own ad had).1, fun e => ?_⟩
    have h1 := (h13.own ad had).1
    have h2 := (h9.own' ad.block (by rw [ownB_slice'] ; exact e.symm)).2
    omega
  refine nzS ?_
  rw [addOff]
  refine st0 (hf18.heap h6.cells) (by show 4 < 12; decide) fun w20 hb20 hg20 hs20 => ?_
  have hmg : Mv (fun k => k = g) w18 w20 := Mv.of_grown hg20 rfl
  have hmv : Mv (fun k => k = g) w6 w20 := Mv.trans (F := fun k => k = g) (Mv.of_fr hf18) hmg fun j hj => .inl hj
  have hgl := tun_lt h6
  have h20 : Tun w20 G F g { t with queue := t.queue ++ [b] } ⟨x.way, r17, x.out, x.r⟩ := by
    refine h6.wq (t' := { t with queue := t.queue ++ [b] }) (x' := ⟨x.way, r17, x.out, x.r⟩) hmv hb20 rfl rfl rfl rfl rfl (h6.wayK hmv (fun k hk => .inl (by rw [hk]; exact h6.fg)) fun k hk => .inl hk) ⟨hsq ++ [r13], ?_⟩
    have hown : OwS w20 w6.heap.size t_s_uint8 r17 (hsq ++ [r13]) := h17.mv hmg fun ad had e => by
      have := (h17.own ad had).1; omega
    have hZl : ∀ k, Zt G F k → k < w6.heap.size := fun k hk => by
      rcases hk with hk | hk
      · exact h6.gl k hk
      · exact h6.fl k hk
    refine OwS.rw hown hZl (All2.append (hq.all.mono fun a c _ _ hr => hr.mv hmv (fun k hk => .inl (.inr (by rw [hk]; exact h6.fg))) fun k hk => .inl hk) ⟨?_, trivial⟩)
    exact Cb.own (h13'.mv hmg fun ad had e => by have := (h13.own ad had).1; omega) fun k hk => by have := hZl k hk; omega
  refine (slide_ok h20 (by simp; omega) (by simp; omega)).mono fun _ w' h' => ⟨rfl, ?_⟩
  exact TunTo.step ((Mv.of_fr (F := F) hf6).trans (hmv.mono fun k hk => .inl (by rw [hk]; exact h6.fg)) fun k hk => .inl hk) (fun k hk => .inl hk) h'
theorem hello_ok {p : y_api_Frame} {b : List UInt8} (h : Tun w G F g t x) (hl : t.out.length ≤ 1073741824) :
    cl Tryd.prog n_tunnel_Tunnel_hello #[.pointer (some ⟨g, 0, none⟩), frV p] (.tup .nil) w fun (_ : Unit) w' => TunTo w w' G F g (t.hello (fmOf p b)) := by
  refine tunnel_Tunnel_hello.cl (p0 := some ⟨g, 0, none⟩) (p1 := p) ?_
  unfold tunnel_Tunnel_hello
  refine nwI fun a1 w2 ha1 hs2 hf2 hb1 _ => ?_
  have h2 := h.fr hf2
  have pre : ∀ {w' : World} {t' : Tn}, TunTo w2 w' G F g t' → TunTo w w' G F g t' := fun h' => TunTo.step (Mv.of_fr hf2) (fun k hk => .inl hk) h'
  have c1 : ∀ {u : World} {K : Int → Prop}, Fr w2 u → K p.2.1 → ld (.I .i64) u ((⟨a1, 0, none⟩ : Addr).add 1) K := fun hf hK => ldI0 (hf.heap hb1) rfl hK
  have c2 : ∀ {u : World} {K : Int → Prop}, Fr w2 u → K p.2.2.1 → ld (.I .i64) u ((⟨a1, 0, none⟩ : Addr).add 2) K := fun hf hK => ldI0 (hf.heap hb1) rfl hK
  have me : ∀ {u : World} {K : Int → Prop}, Fr w2 u → K t.me → nz (some ⟨g, 0, none⟩) fun a => ld (.I .i64) u (a.add 7) K := fun hf hK => ldI0 (hf.heap h2.cells) (show (tunL t x).toArray[7]? = some (.int .i64 t.me) from rfl) hK
  have you : ∀ {u : World} {K : Int → Prop}, Fr w2 u → K t.you → nz (some ⟨g, 0, none⟩) fun a => ld (.I .i64) u (a.add 8) K := fun hf hK => ldI0 (hf.heap h2.cells) (show (tunL t x).toArray[8]? = some (.int .i64 t.you) from rfl) hK
  refine c2 (Fr.refl _) (me (Fr.refl _) ?_)
  intro n1
  have hf6 := Fr.drewN w2 n1
  generalize w2.drewN n1 = w6 at *
  have pre6 : ∀ {u w' : World} {t' : Tn}, Fr w2 u → TunTo u w' G F g t' → TunTo w w' G F g t' := fun hf h' => pre (TunTo.step (Mv.of_fr hf) (fun k hk => .inl hk) h')
  have stay : ∀ {u : World}, Fr w2 u → TunTo w u G F g t := fun hf => pre6 hf (TunTo.refl (h2.fr hf))
  refine bNe ?_ ?_ <;> intro hy
  · have e : t.hello (fmOf p b) = if p.2.1 ≥ t.you then t.say (hel p.2.1) else t := by unfold Tn.hello; rw [if_pos hy]
    rw [e]
    refine c1 hf6 (you hf6 ?_)
    intro n2
    have hf10 := hf6.trans (Fr.drewN w6 n2)
    refine bD ?_ ?_ <;> intro hge
    · rw [if_pos hge]
      refine c1 hf10 ?_
      exact (say_ok (p := (1, 0, p.2.1, 0, 0, 0, ⟨none, 0, 0⟩, ())) (h2.fr hf10) (Bs.nil _ _) hl).mono fun _ _ h' => pre6 hf10 h'
    · rw [if_neg hge]
      exact stay hf10
  · have e : t.hello (fmOf p b) = if p.2.1 > t.you ∨ (p.2.1 = t.you ∧ t.up = false) then t.beg p.2.1 else if p.2.1 = t.you then { t with sil := 0 } else t := by unfold Tn.hello; rw [if_neg (fun h => h hy)]
    intro j1
    have hj1 : ∀ (y : Bool) (u : World), Fr w2 u → (y = true ↔ (p.2.1 > t.you ∨ (p.2.1 = t.you ∧ t.up = false))) → j1 y u := by
      intro y u hfu hyy
      show bif y then _ else _
      rw [e]
      cases y with
      | true =>
        rw [if_pos (hyy.1 rfl)]
        refine bT rfl (c1 hfu ?_)
        exact (beg_ok (h2.fr hfu) hl).mono fun _ _ h' => pre6 hfu h'
      | false =>
        rw [if_neg fun h => by have := hyy.2 h; cases this]
        refine bF rfl (c1 hfu (you hfu ?_))
        intro n3
        have hf36 := hfu.trans (Fr.drewN u n3)
        refine bE ?_ ?_ <;> intro heq
        · rw [if_pos heq]
          have hu := h2.fr hf36
          refine nzS ?_
          rw [addOff]
          refine st0 hu.cells (by show 1 < 12; decide) fun w38 hb38 hg38 hs38 => ?_
          have h38 := hu.own (t' := { t with sil := 0 }) hg38 hb38 rfl rfl rfl rfl rfl
          exact pre6 hf36 ⟨F, x, h38, Mv.of_grown hg38 h.fg, fun k hk => .inl hk⟩
        · rw [if_neg heq]
          exact stay hf36
    clear_value j1
    refine c1 hf6 (you hf6 ?_)
    refine bD ?_ ?_ <;> intro h1
    · intro n2
      exact hj1 true _ (hf6.trans (Fr.drewN w6 n2)) ⟨fun _ => .inl h1, fun _ => rfl⟩
    refine c1 hf6 (you hf6 ?_)
    refine bE ?_ ?_ <;> intro h3
    · refine nzS ?_
      refine ldB0 (hf6.heap h2.cells) (show (tunL t x).toArray[0]? = some (.bool t.up) from rfl) ?_
      intro n2
      refine hj1 _ _ (hf6.trans (Fr.drewN w6 n2)) ?_
      rw [Bool.not_eq_true']
      exact ⟨fun h => .inr ⟨h3, h⟩, fun h => (h.resolve_left h1).2⟩
    · intro n2
      exact hj1 false _ (hf6.trans (Fr.drewN w6 n2)) ⟨(fun h => by cases h), fun h => by rcases h with h | h; exact absurd h h1; exact absurd h.1 h3⟩
/-- What it said is handed out. -/
theorem tOut_ok (h : Tun w G F g t x) (hme : 1 ≤ t.me) : cl Tryd.prog n_tunnel_Tunnel_Out #[.pointer (some ⟨g, 0, none⟩)] .L w fun (r : Sl) w' =>
    ∃ F' x' hs, Tun w' G F' g t.clear x' ∧ Mv F w w' ∧ (∀ k, F' k → F k) ∧ OwS w' 0 t_s_uint8 r hs ∧ All2 (Cb w' (Zt G F')) hs t.out ∧ ∀ ad, r.a = some ad → F ad.block ∧ ¬F' ad.block := by
  refine tunnel_Tunnel_Out.cl (p0 := some ⟨g, 0, none⟩) ?_
  unfold tunnel_Tunnel_Out
  refine (made_ok h hme).mono ?_
  rintro _ _ ⟨rfl, rfl⟩
  refine bF rfl (nzS ?_)
  rw [addOff]
  refine ldL0 (s := x.out) h.cells rfl (nzS ?_)
  rw [addOff]
  refine st0 h.cells (by show 11 < 12; decide) fun w6 hb6 hg6 hs6 => ?_
  obtain ⟨hs3, h3, h4⟩ := h.out
  have hmg : Mv (fun k => k = g) w w6 := Mv.of_grown hg6 rfl
  let F' : Nat → Prop := fun k => F k ∧ ∀ o, x.out.a = some o → o.block ≠ k
  have hFF : ∀ k, F' k → F k := fun k hk => hk.1
  have hEZ : ∀ k, k = g → Zt G F k ∨ w.heap.size ≤ k := fun k hk => .inl (.inr (by rw [hk]; exact h.fg))
  have hZ : ∀ k, Zt G F' k → Zt G F k ∨ w.heap.size ≤ k := fun k hk => .inl (hk.imp id (hFF k))
  obtain ⟨hs1, h1⟩ := h.way
  obtain ⟨hs2, h2⟩ := h.queue
  refine ⟨F', ⟨x.way, x.queue, ⟨none, 0, 0⟩, x.r⟩, hs3, ⟨hb6, ⟨h.fg, fun o ho => (h.outf o ho).2⟩, fun k hk => by have := h.fl k hk.1; omega, fun k hk => by have := h.gl k hk; omega, fun k hk hf => h.gf k hk hf.1, ⟨hs1, h1.mv hmg hEZ hZ⟩, ⟨hs2, h2.mv hmg hEZ hZ⟩, ⟨[], OwS.nil _ _ _, trivial⟩, fun ad ha => (by cases ha), ?_, h.crc.mv hmg fun e => h.nt (.inr (by rw [e]; exact h.fg)), fun hz => h.nt (hz.imp id (hFF _)), h.upr⟩, Mv.of_grown hg6 h.fg, hFF, h3.mv hmg fun ad ha => (h.outf ad ha).2, h4.mono fun a b _ _ hr => hr.mv hmg hEZ hZ, fun ad ha => ⟨(h.outf ad ha).1, fun hf => hf.2 ad ha rfl⟩⟩
  exact h.early.mv (F' := F') (out' := ⟨none, 0, 0⟩) hmg (fun k hk => .inl hk) (fun k hk _ ho => ⟨hk, ho⟩) (fun o' ho' => by cases ho')
end
end Go.Proofs.YtmhibpcbdbhfoaaDoor
