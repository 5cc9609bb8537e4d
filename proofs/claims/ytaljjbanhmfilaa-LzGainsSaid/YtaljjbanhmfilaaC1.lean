import Derived.Test.YtaljjbanhmfilaaC0
namespace Go.Proofs.Ytaljjbanhmfilaa
open Go.RowKit Go.Fl
theorem Clone_byte_ok {s : Sl} {l : List UInt8} {w : World} (hs : Bs w s l) (hl : l.length ≤ 1099511627776) :
    cl Try.prog n_slices_Clone_byte_byte #[.slice s.a s.n s.c] .L w fun (r : Sl) w' => OwB w' w.heap.size t_uint8 r l ∧ Fr w w' := by
  refine slices_Clone_byte_byte.cl ?_
  unfold slices_Clone_byte_byte
  refine bB ?_ ?_ <;> intro h
  · have : l = [] := by
      rcases l with _ | ⟨b, t⟩
      · rfl
      · obtain ⟨ad, ha, _⟩ := hs.rd.u8 (l := b :: t) (i := 0) (by simp)
        rw [ha] at h
        cases h
    subst this
    exact ⟨OwB.nil _ _ _, Fr.refl w⟩
  · exact copyB slB hs (by omega) fun r w' ho hf => ⟨ho, hf⟩

theorem Equal_ok {s x : Sl} {l m : List UInt8} {w : World} (hs : Bs w s l) (hx : Bs w x m) :
    cl Try.prog n_bytes_Equal #[.slice s.a s.n s.c, .slice x.a x.n x.c] .B w fun (r : Bool) w' => r = decide (l = m) ∧ w = w' := by
  refine bytes_Equal.cl ?_
  unfold bytes_Equal
  refine bstrI hs.rd hs.len.symm (Fr.refl w) ?_
  refine bstrI hx.rd hx.len.symm (Fr.refl w) ?_
  rw [beqB_eq]
  exact ⟨rfl, rfl⟩

theorem aw1 : [] ++ numB (Int.toNat 16384) = [192, 64, 0] := by decide +kernel
theorem aw2 : [] ++ numsB [128, 0] = [128, 128, 0] := by decide +kernel
end Go.Proofs.Ytaljjbanhmfilaa
