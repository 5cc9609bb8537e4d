import Derived.Test.YtpilmeekncobkaaC1
import Derived.Test.YtpilmeekncobkaaFlOrd
namespace Go.Proofs.Ytpilmeekncobkaa
open Go.RowKit Go.Fl

theorem OctetSizes_law {a0 : Int} {w : World} (w0 : (Lit.int .i64 a0).wf = true) :
    Calls Try.prog n_flumelaw02_OctetSizes #[.int .i64 a0] w fun e w' => e = .returned (.bool true) ∧ Below w.heap.size w w' := lawE (by
  refine flumelaw02_OctetSizes.cl ?_
  unfold flumelaw02_OctetSizes
  have hi := wfI64 w0
  refine (octet_Number_ok (Bs.nil w 0) (by simp) hi.2).mono ?_
  rintro r w1 ⟨ho, hf⟩
  have hn := ho.len
  rw [List.nil_append, numB_length] at hn
  obtain ⟨hs1, hs2⟩ := moreF_spec (f := 8) (x := a0.toNat)
  change moreN _ < 8 → a0.toNat < 128 ^ (moreN _ + 1) at hs1
  change ∀ j, j < moreN _ → _ at hs2
  have h8 := moreN_le a0.toNat
  have e : max a0 0 = (a0.toNat : Int) := by omega
  rw [e, hn]
  generalize moreN a0.toNat = k at *
  generalize a0.toNat = x at *
  have aw : ∀ {w1 : World}, Fr w w1 → cl Try.prog n_flumelaw02_awake #[] .B w1 fun (r : Bool) w' => r = true ∧ Fr w w' := fun hf => awake_ok.mono fun r w' h => ⟨h.1, hf.trans h.2⟩
  refine bP (by omega) (bP (by omega) (bE (fun h9 => ?_) (fun h9 => ?_)))
  · refine bE (fun h1 => aw hf) (fun h1 => ?_)
    rw [i64w (n := ((k + 1 : Nat) : Int) - 1) (by omega) (by omega), i64w (n := 7 * _) (by omega) (by omega)]
    have e : min (7 * (((k + 1 : Nat) : Int) - 1)).toNat 64 = 7 * k := by omega
    rw [e, pow7i, Int.one_mul]
    have hp : (128 : Nat) ^ k ≤ 128 ^ 8 := Nat.pow_le_pow_right (by decide) h8
    have hx := hs2 (k - 1) (by omega)
    rw [show k - 1 + 1 = k from by omega] at hx
    generalize 128 ^ k = B at *
    rw [i64w (by omega) (by omega)]
    exact bP (by omega) (bP (by omega) (aw hf))
  · have hk : k < 8 := by omega
    have hx := hs1 hk
    rw [i64w (n := 7 * ((k + 1 : Nat) : Int)) (by omega) (by omega)]
    have e : min (7 * ((k + 1 : Nat) : Int)).toNat 64 = 7 * (k + 1) := by omega
    rw [e, pow7i, Int.one_mul]
    have hp : (128 : Nat) ^ (k + 1) ≤ 128 ^ 8 := Nat.pow_le_pow_right (by decide) (by omega)
    generalize 128 ^ (k + 1) = C at *
    rw [i64w (n := (C : Int)) (by omega) (by omega)]
    refine bP (by omega) (bP (by omega) (bE (fun h1 => aw hf) (fun h1 => ?_)))
    rw [i64w (n := ((k + 1 : Nat) : Int) - 1) (by omega) (by omega), i64w (n := 7 * _) (by omega) (by omega)]
    have e : min (7 * (((k + 1 : Nat) : Int) - 1)).toNat 64 = 7 * k := by omega
    rw [e, pow7i, Int.one_mul]
    have hp : (128 : Nat) ^ k ≤ 128 ^ 8 := Nat.pow_le_pow_right (by decide) h8
    have hx := hs2 (k - 1) (by omega)
    rw [show k - 1 + 1 = k from by omega] at hx
    generalize 128 ^ k = B at *
    rw [i64w (by omega) (by omega)]
    exact bP (by omega) (bP (by omega) (aw hf)))

theorem aw {w w1 : World} (hf : Fr w w1) : cl Try.prog n_flumelaw02_awake #[] .B w1 fun (r : Bool) w' => r = true ∧ Fr w w' := awake_ok.mono fun _r _w' h => ⟨h.1, hf.trans h.2⟩

theorem Compare_ok {s x : Sl} {l m : List UInt8} {w : World} (hs : Bs w s l) (hx : Bs w x m) :
    cl Try.prog n_bytes_Compare #[.slice s.a s.n s.c, .slice x.a x.n x.c] (.I .i64) w fun (r : Int) w' => r = Lib.compareBytes l m ∧ w = w' := by
  refine bytes_Compare.cl ?_
  unfold bytes_Compare
  refine ⟨_, w, ?_, rfl, rfl⟩
  rw [run_callFunc_extern b_internal_bytealg_Compare (by kernel_rfl) (by kernel_rfl) (by kernel_rfl) (e := Extern.BytealgCompare.compare) (by kernel_rfl), run_cmpB hs hx]
  rfl

theorem OctetOrder_law {a0 a1 : Int} {w : World} (w0 : (Lit.int .i64 a0).wf = true) (w1 : (Lit.int .i64 a1).wf = true) :
    Calls Try.prog n_flumelaw02_OctetOrder #[.int .i64 a0, .int .i64 a1] w fun e w' => e = .returned (.bool true) ∧ Below w.heap.size w w' := lawE (by
  refine flumelaw02_OctetOrder.cl ?_
  unfold flumelaw02_OctetOrder
  have h0 := wfI64 w0
  have h1 := wfI64 w1
  refine (octet_Number_ok (Bs.nil w 0) (by simp) (by omega)).mono ?_
  rintro r w1 ⟨ho, hf⟩
  refine (octet_Number_ok (Bs.nil w1 0) (by simp) (by omega)).mono ?_
  rintro r' w2 ⟨ho', hf'⟩
  refine (Compare_ok (ho.fr hf').bs ho'.bs).mono ?_
  rintro x _ ⟨rfl, rfl⟩
  rw [List.nil_append, List.nil_append, cmp_num (by omega) (by omega)]
  unfold cmpN
  refine bT ?_ (bT ?_ (aw (hf.trans hf')))
  · split
    · have : max a0 0 < max a1 0 := by omega
      simp [this]
    · have : ¬ max a0 0 < max a1 0 := by omega
      split <;> simp [this]
  · split
    · have : max a0 0 ≠ max a1 0 := by omega
      simp [this]
    · split
      · have : max a0 0 ≠ max a1 0 := by omega
        simp [this]
      · have : max a0 0 = max a1 0 := by omega
        simp [this])
end Go.Proofs.Ytpilmeekncobkaa
