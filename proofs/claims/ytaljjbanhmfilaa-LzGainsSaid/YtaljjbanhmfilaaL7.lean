/- The laws of layer 7, each as a call that returns true and leaves what was there. -/
import Derived.Test.YtaljjbanhmfilaaC1
import Derived.Test.YtaljjbanhmfilaaC10
import Derived.Test.YtaljjbanhmfilaaC11
import Derived.Test.YtaljjbanhmfilaaFlLz2
namespace Go.Proofs.Ytaljjbanhmfilaa
open Go.RowKit Go.Fl

theorem rest7 : restS [0, 97, 131, 1] 7 = ([97, 97, 97, 97, 97, 97, 97], 0) := by kernel_rfl
theorem rest6 : restS [0, 97, 131, 1] 6 = ([], 71) := by kernel_rfl
theorem short7 : shortS [97, 97, 97, 97, 97, 97, 97] = [0, 97, 131, 1] := by kernel_rfl
theorem awake7_ok {w : World} : cl Try.prog n_flumelaw07_awake #[] .B w fun (r : Bool) w' => r = true ∧ Fr w w' := by
  refine flumelaw07_awake.cl ?_
  unfold flumelaw07_awake
  refine nwConv (l := [0, 97, 131, 1]) u_s_uint8 u_uint8 rfl rfl fun r3 w4 h3 hf4 => ?_
  refine (Restore_ok h3 (by decide) (by decide)).mono ?_
  rintro ⟨x5, y5⟩ w6 ⟨h5, hy, hf6⟩
  dsimp only at h5 hy
  subst hy
  rw [rest7] at h5
  have hf := hf4.trans hf6
  refine nwConv (l := [0, 97, 131, 1]) u_s_uint8 u_uint8 rfl rfl fun r9 w10 h9 hf10 => ?_
  refine (Restore_ok h9 (by decide) (by decide)).mono ?_
  rintro ⟨x11, y11⟩ w12 ⟨h11, hy, hf12⟩
  dsimp only at h11 hy
  subst hy
  refine nwConv (l := [97, 97, 97, 97, 97, 97, 97]) u_s_uint8 u_uint8 rfl rfl fun r15 w16 h15 hf16 => ?_
  refine (Shorten_ok h15 (by decide)).mono ?_
  rintro x17 w18 ⟨h17, hf18⟩
  rw [short7] at h17
  have h5 := (((h5.fr hf10).fr hf12).fr hf16).fr hf18
  have hf := (((hf.trans hf10).trans hf12).trans hf16).trans hf18
  refine bstrI h17.rd h17.len.symm (Fr.refl _) ?_
  refine bT (by kernel_rfl) (bstrI h5.rd h5.len.symm (Fr.refl _) (bT (by kernel_rfl) ?_))
  rw [rest7, rest6]
  exact bT (by kernel_rfl) ⟨by kernel_rfl, hf⟩
theorem LzShortens_law {w : World} {a0 : Option Addr} {len0 cap0 : Nat} {z0 : List Int} (w0 : RowK .u8 w a0 len0 cap0 z0) :
    Calls Try.prog n_flumelaw07_LzShortens #[.slice a0 len0 cap0] w fun e w' => e = .returned (.bool true) ∧ Below w.heap.size w w' := lawE (by
  obtain ⟨l, hs⟩ := rowB w0
  refine flumelaw07_LzShortens.cl (p0 := ⟨a0, len0, cap0⟩) ?_
  unfold flumelaw07_LzShortens
  have aw : ∀ {w' : World}, Fr w w' → cl Try.prog n_flumelaw07_awake #[] .B w' fun (r : Bool) w2 => r = true ∧ Fr w w2 := fun hf => awake7_ok.mono fun _ _ ⟨h1, h2⟩ => ⟨h1, hf.trans h2⟩
  have hl : len0 = l.length := hs.len
  refine bD (fun _ => aw (Fr.refl w)) (fun hle => ?_)
  dsimp only at hle
  refine (Clone_byte_ok hs (by omega)).mono ?_
  rintro x3 w4 ⟨h3, hf4⟩
  refine (Shorten_ok h3.bs (by omega)).mono ?_
  rintro x5 w6 ⟨h5, hf6⟩
  have hf' := hf4.trans hf6
  refine (ref_Shorten_ok (hs.fr hf') (by omega)).mono ?_
  rintro x7 w8 ⟨h7, hf8⟩
  refine (Equal_ok (h5.fr hf8).bs h7).mono ?_
  rintro _ _ ⟨rfl, rfl⟩
  refine bP rfl ?_
  refine (Equal_ok ((h3.fr hf6).fr hf8).bs (hs.fr (hf'.trans hf8))).mono ?_
  rintro _ _ ⟨rfl, rfl⟩
  exact bP rfl (aw (hf'.trans hf8)))
theorem LzBack_law {w : World} {a0 : Option Addr} {len0 cap0 : Nat} {z0 : List Int} (w0 : RowK .u8 w a0 len0 cap0 z0) :
    Calls Try.prog n_flumelaw07_LzBack #[.slice a0 len0 cap0] w fun e w' => e = .returned (.bool true) ∧ Below w.heap.size w w' := lawE (by
  obtain ⟨l, hs⟩ := rowB w0
  refine flumelaw07_LzBack.cl (p0 := ⟨a0, len0, cap0⟩) ?_
  unfold flumelaw07_LzBack
  have aw : ∀ {w' : World}, Fr w w' → cl Try.prog n_flumelaw07_awake #[] .B w' fun (r : Bool) w2 => r = true ∧ Fr w w2 := fun hf => awake7_ok.mono fun _ _ ⟨h1, h2⟩ => ⟨h1, hf.trans h2⟩
  have hl : len0 = l.length := hs.len
  refine bD (fun _ => aw (Fr.refl w)) (fun hle => ?_)
  dsimp only at hle
  refine (Shorten_ok hs (by omega)).mono ?_
  rintro x3 w4 ⟨h3, hf4⟩
  have hsl := shortS_len l
  refine (Restore_ok h3.bs (by omega) (by dsimp only; omega)).mono ?_
  rintro ⟨x5, y5⟩ w6 ⟨h5, hy, hf6⟩
  dsimp only at h5 hy
  have hmost : ((len0 : Nat) : Int) = (l.length : Int) := by omega
  rw [hmost, rest_back] at h5 hy
  subst hy
  refine bT rfl ?_
  refine (Equal_ok h5.bs (hs.fr (hf4.trans hf6))).mono ?_
  rintro _ _ ⟨rfl, rfl⟩
  exact bP rfl (aw (hf4.trans hf6)))
theorem LzRestores_law {w : World} {a0 : Option Addr} {len0 cap0 : Nat} {z0 : List Int} {a1 : Int} (w0 : RowK .u8 w a0 len0 cap0 z0) (w1 : (Lit.int .i64 a1).wf = true) :
    Calls Try.prog n_flumelaw07_LzRestores #[.slice a0 len0 cap0, .int .i64 a1] w fun e w' => e = .returned (.bool true) ∧ Below w.heap.size w w' := lawE (by
  obtain ⟨l, hs⟩ := rowB w0
  have hi := wfI64 w1
  refine flumelaw07_LzRestores.cl (p0 := ⟨a0, len0, cap0⟩) ?_
  unfold flumelaw07_LzRestores
  have aw : ∀ {w' : World}, Fr w w' → cl Try.prog n_flumelaw07_awake #[] .B w' fun (r : Bool) w2 => r = true ∧ Fr w w2 := fun hf => awake7_ok.mono fun _ _ ⟨h1, h2⟩ => ⟨h1, hf.trans h2⟩
  have hl : len0 = l.length := hs.len
  refine bD (fun _ => aw (Fr.refl w)) (fun hle => ?_)
  dsimp only at hle
  refine (Clone_byte_ok hs (by omega)).mono ?_
  rintro x3 w4 ⟨h3, hf4⟩
  refine (Restore_ok h3.bs (by omega) hi).mono ?_
  rintro ⟨x5, y5⟩ w6 ⟨h5, hy5, hf6⟩
  dsimp only at h5 hy5
  subst hy5
  refine (ref_Restore_ok (hs.fr (hf4.trans hf6)) (by omega) hi).mono ?_
  rintro ⟨x7, y7⟩ w8 ⟨h7, hy7, hf8⟩
  dsimp only at h7 hy7
  subst hy7
  have h5 := h5.fr hf8
  have hf := (hf4.trans hf6).trans hf8
  intro j1
  have hj : ∀ w', Fr w4 w' → OwB w' w4.heap.size t_uint8 x5 (restS l a1).1 → j1 true w' := by
    intro w' hf' ho
    refine lpI (fun s' w'' => Fr w4 w'' ∧ ∃ (i : Nat) (m : List UInt8), s'.1 = i ∧ OwB w'' w4.heap.size t_uint8 x5 m) (fun s' _ => (x5.n - s'.1).toNat) ⟨hf', 0, _, rfl, ho⟩ ?_
    rintro _ ⟨i', ⟨⟩⟩ w26 ⟨hf26, i, m, rfl, hm⟩
    have hml := hm.len
    have hx5 := ho.len
    have hrm := restS_most l a1
    dsimp only
    refine bD ?_ ?_ <;> intro hlt
    · have hg : m[(i : Int).toNat]? = some (m[(i : Int).toNat]'(by omega)) := List.getElem?_eq_getElem _
      refine ixBc hm.rd hm.len (by omega) hg (Fr.refl _) ?_
      refine stB hm (by omega) (by omega) (m[(i : Int).toNat]'(by omega) ^^^ 255) ?_ fun w32 hm32 hb32 _ _ => ?_
      · rw [show (255 : Int) = ((255 : Nat) : Int) from rfl, u8_xor_nat _ _ (UInt8.toNat_lt _) (by decide), UInt8.toNat_xor]
        rfl
      · have hll : m.length ≤ 9223372036854775807 := by
          rcases hm.2 with ⟨_, hn0⟩ | ⟨_, cap, _, _, _, _, h1, h2, _⟩
          · omega
          · simp only [maxLen] at h2; omega
        rw [i64w (by omega) (by omega)]
        exact ⟨⟨hf26.on hb32, i + 1, _, rfl, hm32⟩, by omega⟩
    · refine bT rfl ?_
      refine (Equal_ok (h3.fr hf26).bs (hs.fr (hf4.trans hf26))).mono ?_
      rintro _ _ ⟨rfl, rfl⟩
      exact bP rfl (aw (hf4.trans hf26))
  clear_value j1
  refine (Equal_ok h5.bs h7.bs).mono ?_
  rintro _ _ ⟨rfl, rfl⟩
  refine bP rfl ?_
  dsimp -zeta only
  rw [show (((restS l a1).2 : Int) == ((restS l a1).2 : Int)) = true from by simp]
  exact hj _ (hf6.trans hf8) h5)
theorem aw7 {w w' : World} (hf : Fr w w') : cl Try.prog n_flumelaw07_awake #[] .B w' fun (r : Bool) w2 => r = true ∧ Fr w w2 := awake7_ok.mono fun _ _ ⟨h1, h2⟩ => ⟨h1, hf.trans h2⟩
theorem LzBounds_law {w : World} {a0 : Option Addr} {len0 cap0 : Nat} {z0 : List Int} {a1 : Option Addr} {len1 cap1 : Nat} {z1 : List Int} {a2 : Int} (w0 : RowK .u8 w a0 len0 cap0 z0) (w1 : RowK .u8 w a1 len1 cap1 z1) (w2 : (Lit.int .i64 a2).wf = true) :
    Calls Try.prog n_flumelaw07_LzBounds #[.slice a0 len0 cap0, .slice a1 len1 cap1, .int .i64 a2] w fun e w' => e = .returned (.bool true) ∧ Below w.heap.size w w' := lawE (by
  obtain ⟨l, hs⟩ := rowB w0
  obtain ⟨m, hm⟩ := rowB w1
  have hi := wfI64 w2
  refine flumelaw07_LzBounds.cl (p0 := ⟨a0, len0, cap0⟩) (p1 := ⟨a1, len1, cap1⟩) ?_
  unfold flumelaw07_LzBounds
  have hl : len0 = l.length := hs.len
  have hml : len1 = m.length := hm.len
  refine bD (fun _ => aw7 (Fr.refl w)) (fun hle => bD (fun _ => aw7 (Fr.refl w)) (fun hle' => ?_))
  dsimp only at hle hle'
  refine (Restore_ok hm (by omega) hi).mono ?_
  rintro ⟨x5, y5⟩ w6 ⟨h5, hy, hf6⟩
  dsimp only at h5 hy
  subst hy
  have h5l := h5.len
  have hmost := restS_most m a2
  have herr := restF_err (most := a2) (f := m.length) (l := m) (out := [])
  intro j1
  have hj : j1 w6 := by
    refine (Shorten_ok (hs.fr hf6) (by omega)).mono ?_
    rintro x12 w13 ⟨h12, hf13⟩
    have hsl := shortS_len l
    have h12l := h12.len
    dsimp only
    rw [show Int.tdiv (len0 : Int) 3 = ((l.length / 3 : Nat) : Int) from by rw [hl, Int.ofNat_tdiv]; rfl, i64w (n := ((l.length / 3 : Nat) : Int)) (by omega) (by omega), i64w (n := (len0 : Int) + _) (by omega) (by omega), i64w (by omega) (by omega)]
    exact bP (by omega) (aw7 (hf6.trans hf13))
  clear_value j1
  dsimp only
  refine bNe ?_ ?_ <;> intro he
  · have : (restS m a2).1 = [] := herr (by unfold restS at he; omega)
    rw [this] at h5l
    refine bN (by simp at h5l; omega) (bN (by simp at h5l; omega) hj)
  · exact bN (by omega) hj)
theorem LzTwice_law {w : World} {a0 : Option Addr} {len0 cap0 : Nat} {z0 : List Int} {a1 : Option Addr} {len1 cap1 : Nat} {z1 : List Int} (w0 : RowK .u8 w a0 len0 cap0 z0) (w1 : RowK .u8 w a1 len1 cap1 z1) :
    Calls Try.prog n_flumelaw07_LzTwice #[.slice a0 len0 cap0, .slice a1 len1 cap1] w fun e w' => e = .returned (.bool true) ∧ Below w.heap.size w w' := lawE (by
  obtain ⟨l, hs⟩ := rowB w0
  obtain ⟨m, hm⟩ := rowB w1
  refine flumelaw07_LzTwice.cl (p0 := ⟨a0, len0, cap0⟩) (p1 := ⟨a1, len1, cap1⟩) ?_
  unfold flumelaw07_LzTwice
  have hl : len0 = l.length := hs.len
  have hml : len1 = m.length := hm.len
  refine bD (fun _ => aw7 (Fr.refl w)) (fun hle => bD (fun _ => aw7 (Fr.refl w)) (fun hle' => ?_))
  dsimp only at hle hle'
  have hsl := shortS_len l
  have hsm := shortS_len m
  refine (Shorten_ok hs (by omega)).mono ?_
  rintro x5 w6 ⟨h5, hf6⟩
  refine (Shorten_ok (hm.fr hf6) (by omega)).mono ?_
  rintro x7 w8 ⟨h7, hf8⟩
  refine nwI fun b w10 hb hsz hf10 hblk _ => ?_
  refine (Concat2_ok hblk ((h5.fr hf8).fr hf10).bs (h7.fr hf10).bs (by omega)).mono ?_
  rintro x11 w12 ⟨h11, hf12⟩
  dsimp only
  rw [show IntKind.i64.wrap ((len0 : Int) + (len1 : Int)) = (l.length : Int) + m.length from by rw [i64w (by omega) (by omega)]; omega]
  refine (Restore_ok h11.bs (by simp; omega) (by omega)).mono ?_
  rintro ⟨x13, y13⟩ w14 ⟨h13, hy, hf14⟩
  dsimp only at h13 hy
  rw [rest_twice] at h13 hy
  subst hy
  refine bT rfl ?_
  have hf := (((hf6.trans hf8).trans hf10).trans hf12).trans hf14
  refine nwI fun b15 w16 hb16 hsz16 hf16 hblk16 _ => ?_
  have hf' := hf.trans hf16
  refine (Concat2_ok (x := ⟨a0, len0, cap0⟩) (y := ⟨a1, len1, cap1⟩) hblk16 (hs.fr hf') (hm.fr hf') (by omega)).mono ?_
  rintro x17 w18 ⟨h17, hf18⟩
  refine (Equal_ok ((h13.fr hf16).fr hf18).bs h17.bs).mono ?_
  rintro _ _ ⟨rfl, rfl⟩
  exact bP rfl (aw7 (hf'.trans hf18)))
theorem LzBehind_law {w : World} {a0 : Option Addr} {len0 cap0 : Nat} {z0 : List Int} {a1 : Option Addr} {len1 cap1 : Nat} {z1 : List Int} (w0 : RowK .u8 w a0 len0 cap0 z0) (w1 : RowK .u8 w a1 len1 cap1 z1) :
    Calls Try.prog n_flumelaw07_LzBehind #[.slice a0 len0 cap0, .slice a1 len1 cap1] w fun e w' => e = .returned (.bool true) ∧ Below w.heap.size w w' := lawE (by
  obtain ⟨l, hs⟩ := rowB w0
  obtain ⟨m, hm⟩ := rowB w1
  refine flumelaw07_LzBehind.cl (p0 := ⟨a0, len0, cap0⟩) (p1 := ⟨a1, len1, cap1⟩) ?_
  unfold flumelaw07_LzBehind
  have hl : len0 = l.length := hs.len
  have hml : len1 = m.length := hm.len
  refine bD (fun _ => aw7 (Fr.refl w)) (fun hle => bD (fun _ => aw7 (Fr.refl w)) (fun hle' => ?_))
  dsimp only at hle hle'
  refine (Restore_ok hs (by omega) (by decide)).mono ?_
  rintro ⟨x5, y5⟩ w6 ⟨h5, hy5, hf6⟩
  dsimp only at h5 hy5
  subst hy5
  refine nwI fun b w8 hb hsz hf8 hblk _ => ?_
  have hf := hf6.trans hf8
  refine (Concat2_ok (x := ⟨a0, len0, cap0⟩) (y := ⟨a1, len1, cap1⟩) hblk (hs.fr hf) (hm.fr hf) (by omega)).mono ?_
  rintro x9 w10 ⟨h9, hf10⟩
  refine (Restore_ok h9.bs (by simp; omega) (by decide)).mono ?_
  rintro ⟨x11, y11⟩ w12 ⟨h11, hy11, hf12⟩
  dsimp only at h11 hy11
  subst hy11
  have hf' := (hf.trans hf10).trans hf12
  refine bNe (fun _ => aw7 hf') (fun h1 => bNe (fun _ => aw7 hf') (fun h2 => ?_))
  dsimp only at h1 h2
  refine (HasPrefix_ok h11.bs (((h5.fr hf8).fr hf10).fr hf12).bs).mono ?_
  rintro _ _ ⟨rfl, rfl⟩
  refine bP ?_ (aw7 hf')
  have e1 : restR 1048576 l [] = ((restS l 1048576).1, 0) := by
    show restS l 1048576 = _
    rw [show (0 : Nat) = (restS l 1048576).2 from by omega]
  have e2 : restR 1048576 (l ++ m) [] = ((restS (l ++ m) 1048576).1, 0) := by
    show restS (l ++ m) 1048576 = _
    rw [show (0 : Nat) = (restS (l ++ m) 1048576).2 from by omega]
  rw [rest_app m l.length (Nat.le_refl _) e1] at e2
  obtain ⟨y, hy⟩ := rest_pre m.length (Nat.le_refl _) e2
  rw [hy]
  exact ⟨by simp, by simp⟩)
theorem LzRoom_law {w : World} {a0 : Option Addr} {len0 cap0 : Nat} {z0 : List Int} {a1 : Int} (w0 : RowK .u8 w a0 len0 cap0 z0) (w1 : (Lit.int .i64 a1).wf = true) :
    Calls Try.prog n_flumelaw07_LzRoom #[.slice a0 len0 cap0, .int .i64 a1] w fun e w' => e = .returned (.bool true) ∧ Below w.heap.size w w' := lawE (by
  obtain ⟨l, hs⟩ := rowB w0
  have hi := wfI64 w1
  refine flumelaw07_LzRoom.cl (p0 := ⟨a0, len0, cap0⟩) ?_
  unfold flumelaw07_LzRoom
  have hl : len0 = l.length := hs.len
  refine bD (fun _ => aw7 (Fr.refl w)) (fun hle => ?_)
  dsimp only at hle
  refine (Restore_ok hs (by omega) (by decide)).mono ?_
  rintro ⟨x3, y3⟩ w4 ⟨h3, hy3, hf4⟩
  dsimp only at h3 hy3
  subst hy3
  have h3l := h3.len
  have hmost := restS_most l 1048576
  refine bNe ?_ ?_ <;> intro he
  · dsimp only at he
    have : (restS l 1048576).1 = [] := restF_err (by unfold restS at he; omega)
    rw [this] at h3l
    exact bT (by simpa using h3l) (aw7 hf4)
  dsimp only at he
  have e1 : restR 1048576 l [] = ((restS l 1048576).1, 0) := by
    show restS l 1048576 = _
    rw [show (0 : Nat) = (restS l 1048576).2 from by omega]
  have hr := fun (most' : Int) => rest_room (most' := most') l.length (Nat.le_refl _) (by simp; omega) e1
  generalize (restS l 1048576).1 = x at *
  refine (Restore_ok (hs.fr hf4) (by omega) (by dsimp only; omega)).mono ?_
  rintro ⟨x7, y7⟩ w8 ⟨h7, hy7, hf8⟩
  dsimp only at h7 hy7
  have r7 : restS l (x3.n : Int) = (x, 0) := by
    show restR _ _ _ = _
    rw [hr, if_pos (by omega)]
  rw [r7] at h7 hy7
  subst hy7
  refine bF rfl ?_
  refine (Equal_ok (h3.fr hf8).bs h7.bs).mono ?_
  rintro _ _ ⟨rfl, rfl⟩
  refine bF (by simp) ?_
  have hf' := hf4.trans hf8
  refine (Restore_ok (hs.fr hf') (by omega) hi).mono ?_
  rintro ⟨x11, y11⟩ w12 ⟨h11, hy11, hf12⟩
  dsimp only at h11 hy11
  have r11 : restS l a1 = if (x.length : Int) ≤ max a1 0 then (x, 0) else ([], 71) := hr a1
  rw [r11] at h11 hy11
  subst hy11
  have hf12' := hf'.trans hf12
  intro j1
  have hj : ∀ y, y = decide ((x.length : Int) ≤ max a1 0) → j1 y w12 := by
    rintro _ rfl
    show bif decide _ then _ else _
    by_cases hc : (x.length : Int) ≤ max a1 0
    · rw [if_pos hc] at h11
      simp only [hc, if_true]
      refine bT rfl (bT rfl ?_)
      refine (Equal_ok ((h3.fr hf8).fr hf12).bs h11.bs).mono ?_
      rintro _ _ ⟨rfl, rfl⟩
      exact bP rfl (aw7 hf12')
    · rw [if_neg hc] at h11
      simp only [hc, if_false]
      have h11l := h11.len
      exact bF rfl (bT rfl (bT (by simpa using h11l) (aw7 hf12')))
  clear_value j1
  dsimp only
  refine bD ?_ ?_ <;> intro hp
  · exact hj true (by rw [decide_eq_true]; omega)
  · refine hj _ ?_
    by_cases h0 : x3.n = 0
    · rw [decide_eq_true (by omega)]; simp [h0]
    · rw [decide_eq_false (by omega)]; simp; omega)
end Go.Proofs.Ytaljjbanhmfilaa
