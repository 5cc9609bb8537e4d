import Derived.Test.YtkojpppnjloikaaDoorC0
namespace Go.Proofs.YtkojpppnjloikaaDoor
open Go.RowKit Go.Fl
theorem octet_Text_ok {s x : Sl} {l m : List UInt8} {w : World} (hs : Bs w s l) (hx : Bs w x m) (hl : l.length ≤ 549755813888) (hm : m.length ≤ 549755813888) :
    cl Tryd.prog n_octet_Text #[.slice s.a s.n s.c, .slice x.a x.n x.c] .L w fun (r : Sl) w' => OwB w' w.heap.size t_uint8 r (l ++ numB m.length ++ m) ∧ Fr w w' := by
  refine octet_Text.cl ?_
  unfold octet_Text
  have hn := hx.len
  have h9 := numB_le m.length
  refine (octet_Number_ok hs (by omega) (by omega)).mono ?_
  rintro r w1 ⟨ho, hf⟩
  rw [Int.toNat_natCast, hn] at ho
  refine app_B slB (base := w.heap.size) ho (hx.fr hf).rd hn.symm (by simp; omega) hf.size fun r w2 ho2 hb2 _ _ => ⟨ho2, hf.on hb2⟩

theorem octet_Numbers_ok {s x : Sl} {l : List UInt8} {ns : List Int} {w : World} (hs : Bs w s l) (hx : Is w x ns) (hl : l.length + 9 * ns.length ≤ 1099511627776) (hn : ∀ n ∈ ns, n ≤ 9223372036854775807) :
    cl Tryd.prog n_octet_Numbers #[.slice s.a s.n s.c, .slice x.a x.n x.c] .L w fun (r : Sl) w' => Bs w' r (l ++ numsB ns) ∧ (ns = [] ∧ r = s ∨ OwB w' w.heap.size t_uint8 r (l ++ numsB ns)) ∧ Fr w w' := by
  refine octet_Numbers.cl ?_
  unfold octet_Numbers
  have hxn := hx.len
  refine lpI (fun s' w' => ∃ k : Nat, k ≤ ns.length ∧ s'.2.1 = k ∧ Bs w' s'.1 (l ++ numsB (ns.take k)) ∧ (k = 0 ∧ s'.1 = s ∨ OwB w' w.heap.size t_uint8 s'.1 (l ++ numsB (ns.take k))) ∧ Fr w w') (fun s' _ => (x.n - s'.2.1).toNat)
    ⟨0, by omega, rfl, by simpa [numsB] using hs, .inl ⟨rfl, rfl⟩, Fr.refl w⟩ ?_
  rintro _ ⟨r, i, ⟨⟩⟩ w1 ⟨k, hk, rfl, hr, ho, hf⟩
  dsimp only at hr ho ⊢
  have hlen := numsB_le (ns.take k)
  rw [List.length_take, Nat.min_eq_left hk] at hlen
  refine bD ?_ ?_ <;> intro h
  · have hk' : k < ns.length := by omega
    refine ixI hx (by omega) (by simpa using hk') hf ?_
    simp only [Int.toNat_natCast]
    refine (octet_Number_ok hr (by simp; omega) (hn _ (List.getElem_mem _))).mono ?_
    rintro r' w2 ⟨ho2, hf2⟩
    rw [List.append_assoc, ← numsB_take hk'] at ho2
    rw [i64w (by omega) (by omega)]
    exact ⟨⟨k + 1, by omega, by simp, ho2.bs, .inr (ho2.mono hf.size), hf.trans hf2⟩, by omega⟩
  · obtain rfl : k = ns.length := by omega
    rw [List.take_length] at hr ho
    exact ⟨hr, ho.imp (fun h => ⟨List.eq_nil_of_length_eq_zero h.1, h.2⟩) id, hf⟩

theorem Clone_byte_ok {s : Sl} {l : List UInt8} {w : World} (hs : Bs w s l) (hl : l.length ≤ 1099511627776) :
    cl Tryd.prog n_slices_Clone_byte_byte #[.slice s.a s.n s.c] .L w fun (r : Sl) w' => OwB w' w.heap.size t_uint8 r l ∧ Fr w w' := by
  refine slices_Clone_byte_byte.cl ?_
  unfold slices_Clone_byte_byte
  refine bB ?_ ?_ <;> intro h
  · have : l = [] := by
      rcases l with _ | ⟨b, t⟩
      · rfl
      · obtain ⟨ad, ha, _⟩ := hs.rd.u8 (l := b :: t) (i := 0) (by simp)
        rw [ha] at h
        cases h
    subst this
    exact ⟨OwB.nil _ _ _, Fr.refl w⟩
  · exact copyB slB hs (by omega) fun r w' ho hf => ⟨ho, hf⟩

theorem Equal_ok {s x : Sl} {l m : List UInt8} {w : World} (hs : Bs w s l) (hx : Bs w x m) :
    cl Tryd.prog n_bytes_Equal #[.slice s.a s.n s.c, .slice x.a x.n x.c] .B w fun (r : Bool) w' => r = decide (l = m) ∧ w = w' := by
  refine bytes_Equal.cl ?_
  unfold bytes_Equal
  refine bstrI hs.rd hs.len.symm (Fr.refl w) ?_
  refine bstrI hx.rd hx.len.symm (Fr.refl w) ?_
  rw [beqB_eq]
  exact ⟨rfl, rfl⟩

theorem aw1 : [] ++ numB (Int.toNat 16384) = [192, 64, 0] := by decide +kernel
theorem aw2 : [] ++ numsB [128, 0] = [128, 128, 0] := by decide +kernel
end Go.Proofs.YtkojpppnjloikaaDoor
