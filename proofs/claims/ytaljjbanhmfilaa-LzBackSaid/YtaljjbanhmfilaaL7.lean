/- The laws of layer 7, each as a call that returns true and leaves what was there. -/
import Derived.Test.YtaljjbanhmfilaaC1
import Derived.Test.YtaljjbanhmfilaaC10
import Derived.Test.YtaljjbanhmfilaaFlLz2
namespace Go.Proofs.Ytaljjbanhmfilaa
open Go.RowKit Go.Fl

theorem rest7 : restS [0, 97, 131, 1] 7 = ([97, 97, 97, 97, 97, 97, 97], 0) := by kernel_rfl
theorem rest6 : restS [0, 97, 131, 1] 6 = ([], 71) := by kernel_rfl
theorem short7 : shortS [97, 97, 97, 97, 97, 97, 97] = [0, 97, 131, 1] := by kernel_rfl
theorem awake7_ok {w : World} : cl Try.prog n_flumelaw07_awake #[] .B w fun (r : Bool) w' => r = true ∧ Fr w w' := by
  refine flumelaw07_awake.cl ?_
  unfold flumelaw07_awake
  refine nwConv (l := [0, 97, 131, 1]) u_s_uint8 u_uint8 rfl rfl fun r3 w4 h3 hf4 => ?_
  refine (Restore_ok h3 (by decide) (by decide)).mono ?_
  rintro ⟨x5, y5⟩ w6 ⟨h5, hy, hf6⟩
  dsimp only at h5 hy
  subst hy
  rw [rest7] at h5
  have hf := hf4.trans hf6
  refine nwConv (l := [0, 97, 131, 1]) u_s_uint8 u_uint8 rfl rfl fun r9 w10 h9 hf10 => ?_
  refine (Restore_ok h9 (by decide) (by decide)).mono ?_
  rintro ⟨x11, y11⟩ w12 ⟨h11, hy, hf12⟩
  dsimp only at h11 hy
  subst hy
  refine nwConv (l := [97, 97, 97, 97, 97, 97, 97]) u_s_uint8 u_uint8 rfl rfl fun r15 w16 h15 hf16 => ?_
  refine (Shorten_ok h15 (by decide)).mono ?_
  rintro x17 w18 ⟨h17, hf18⟩
  rw [short7] at h17
  have h5 := (((h5.fr hf10).fr hf12).fr hf16).fr hf18
  have hf := (((hf.trans hf10).trans hf12).trans hf16).trans hf18
  refine bstrI h17.rd h17.len.symm (Fr.refl _) ?_
  refine bT (by kernel_rfl) (bstrI h5.rd h5.len.symm (Fr.refl _) (bT (by kernel_rfl) ?_))
  rw [rest7, rest6]
  exact bT (by kernel_rfl) ⟨by kernel_rfl, hf⟩
theorem LzShortens_law {w : World} {a0 : Option Addr} {len0 cap0 : Nat} {z0 : List Int} (w0 : RowK .u8 w a0 len0 cap0 z0) :
    Calls Try.prog n_flumelaw07_LzShortens #[.slice a0 len0 cap0] w fun e w' => e = .returned (.bool true) ∧ Below w.heap.size w w' := lawE (by
  obtain ⟨l, hs⟩ := rowB w0
  refine flumelaw07_LzShortens.cl (p0 := ⟨a0, len0, cap0⟩) ?_
  unfold flumelaw07_LzShortens
  have aw : ∀ {w' : World}, Fr w w' → cl Try.prog n_flumelaw07_awake #[] .B w' fun (r : Bool) w2 => r = true ∧ Fr w w2 := fun hf => awake7_ok.mono fun _ _ ⟨h1, h2⟩ => ⟨h1, hf.trans h2⟩
  have hl : len0 = l.length := hs.len
  refine bD (fun _ => aw (Fr.refl w)) (fun hle => ?_)
  dsimp only at hle
  refine (Clone_byte_ok hs (by omega)).mono ?_
  rintro x3 w4 ⟨h3, hf4⟩
  refine (Shorten_ok h3.bs (by omega)).mono ?_
  rintro x5 w6 ⟨h5, hf6⟩
  have hf' := hf4.trans hf6
  refine (ref_Shorten_ok (hs.fr hf') (by omega)).mono ?_
  rintro x7 w8 ⟨h7, hf8⟩
  refine (Equal_ok (h5.fr hf8).bs h7).mono ?_
  rintro _ _ ⟨rfl, rfl⟩
  refine bP rfl ?_
  refine (Equal_ok ((h3.fr hf6).fr hf8).bs (hs.fr (hf'.trans hf8))).mono ?_
  rintro _ _ ⟨rfl, rfl⟩
  exact bP rfl (aw (hf'.trans hf8)))
theorem LzBack_law {w : World} {a0 : Option Addr} {len0 cap0 : Nat} {z0 : List Int} (w0 : RowK .u8 w a0 len0 cap0 z0) :
    Calls Try.prog n_flumelaw07_LzBack #[.slice a0 len0 cap0] w fun e w' => e = .returned (.bool true) ∧ Below w.heap.size w w' := lawE (by
  obtain ⟨l, hs⟩ := rowB w0
  refine flumelaw07_LzBack.cl (p0 := ⟨a0, len0, cap0⟩) ?_
  unfold flumelaw07_LzBack
  have aw : ∀ {w' : World}, Fr w w' → cl Try.prog n_flumelaw07_awake #[] .B w' fun (r : Bool) w2 => r = true ∧ Fr w w2 := fun hf => awake7_ok.mono fun _ _ ⟨h1, h2⟩ => ⟨h1, hf.trans h2⟩
  have hl : len0 = l.length := hs.len
  refine bD (fun _ => aw (Fr.refl w)) (fun hle => ?_)
  dsimp only at hle
  refine (Shorten_ok hs (by omega)).mono ?_
  rintro x3 w4 ⟨h3, hf4⟩
  have hsl := shortS_len l
  refine (Restore_ok h3.bs (by omega) (by dsimp only; omega)).mono ?_
  rintro ⟨x5, y5⟩ w6 ⟨h5, hy, hf6⟩
  dsimp only at h5 hy
  have hmost : ((len0 : Nat) : Int) = (l.length : Int) := by omega
  rw [hmost, rest_back] at h5 hy
  subst hy
  refine bT rfl ?_
  refine (Equal_ok h5.bs (hs.fr (hf4.trans hf6))).mono ?_
  rintro _ _ ⟨rfl, rfl⟩
  exact bP rfl (aw (hf4.trans hf6)))
theorem LzRestores_law {w : World} {a0 : Option Addr} {len0 cap0 : Nat} {z0 : List Int} {a1 : Int} (w0 : RowK .u8 w a0 len0 cap0 z0) (w1 : (Lit.int .i64 a1).wf = true) :
    Calls Try.prog n_flumelaw07_LzRestores #[.slice a0 len0 cap0, .int .i64 a1] w fun e w' => e = .returned (.bool true) ∧ Below w.heap.size w w' := lawE (by
  obtain ⟨l, hs⟩ := rowB w0
  have hi := wfI64 w1
  refine flumelaw07_LzRestores.cl (p0 := ⟨a0, len0, cap0⟩) ?_
  unfold flumelaw07_LzRestores
  have aw : ∀ {w' : World}, Fr w w' → cl Try.prog n_flumelaw07_awake #[] .B w' fun (r : Bool) w2 => r = true ∧ Fr w w2 := fun hf => awake7_ok.mono fun _ _ ⟨h1, h2⟩ => ⟨h1, hf.trans h2⟩
  have hl : len0 = l.length := hs.len
  refine bD (fun _ => aw (Fr.refl w)) (fun hle => ?_)
  dsimp only at hle
  refine (Clone_byte_ok hs (by omega)).mono ?_
  rintro x3 w4 ⟨h3, hf4⟩
  refine (Restore_ok h3.bs (by omega) hi).mono ?_
  rintro ⟨x5, y5⟩ w6 ⟨h5, hy5, hf6⟩
  dsimp only at h5 hy5
  subst hy5
  refine (ref_Restore_ok (hs.fr (hf4.trans hf6)) (by omega) hi).mono ?_
  rintro ⟨x7, y7⟩ w8 ⟨h7, hy7, hf8⟩
  dsimp only at h7 hy7
  subst hy7
  have h5 := h5.fr hf8
  have hf := (hf4.trans hf6).trans hf8
  intro j1
  have hj : ∀ w', Fr w4 w' → OwB w' w4.heap.size t_uint8 x5 (restS l a1).1 → j1 true w' := by
    intro w' hf' ho
    refine lpI (fun s' w'' => Fr w4 w'' ∧ ∃ (i : Nat) (m : List UInt8), s'.1 = i ∧ OwB w'' w4.heap.size t_uint8 x5 m) (fun s' _ => (x5.n - s'.1).toNat) ⟨hf', 0, _, rfl, ho⟩ ?_
    rintro _ ⟨i', ⟨⟩⟩ w26 ⟨hf26, i, m, rfl, hm⟩
    have hml := hm.len
    have hx5 := ho.len
    have hrm := restS_most l a1
    dsimp only
    refine bD ?_ ?_ <;> intro hlt
    · have hg : m[(i : Int).toNat]? = some (m[(i : Int).toNat]'(by omega)) := List.getElem?_eq_getElem _
      refine ixBc hm.rd hm.len (by omega) hg (Fr.refl _) ?_
      refine stB hm (by omega) (by omega) (m[(i : Int).toNat]'(by omega) ^^^ 255) ?_ fun w32 hm32 hb32 _ _ => ?_
      · rw [show (255 : Int) = ((255 : Nat) : Int) from rfl, u8_xor_nat _ _ (UInt8.toNat_lt _) (by decide), UInt8.toNat_xor]
        rfl
      · have hll : m.length ≤ 9223372036854775807 := by
          rcases hm.2 with ⟨_, hn0⟩ | ⟨_, cap, _, _, _, _, h1, h2, _⟩
          · omega
          · simp only [maxLen] at h2; omega
        rw [i64w (by omega) (by omega)]
        exact ⟨⟨hf26.on hb32, i + 1, _, rfl, hm32⟩, by omega⟩
    · refine bT rfl ?_
      refine (Equal_ok (h3.fr hf26).bs (hs.fr (hf4.trans hf26))).mono ?_
      rintro _ _ ⟨rfl, rfl⟩
      exact bP rfl (aw (hf4.trans hf26))
  clear_value j1
  refine (Equal_ok h5.bs h7.bs).mono ?_
  rintro _ _ ⟨rfl, rfl⟩
  refine bP rfl ?_
  dsimp -zeta only
  rw [show (((restS l a1).2 : Int) == ((restS l a1).2 : Int)) = true from by simp]
  exact hj _ (hf6.trans hf8) h5)
end Go.Proofs.Ytaljjbanhmfilaa
