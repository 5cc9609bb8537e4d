/- The laws of numbers, texts and flags over bytes, each as a call that returns true and leaves what was there. -/
import Derived.Test.YtpilmeekncobkaaC2
import Derived.Test.YtpilmeekncobkaaC3
import Derived.Test.YtpilmeekncobkaaL0
namespace Go.Proofs.Ytpilmeekncobkaa
open Go.RowKit Go.Fl

theorem OctetNumbers_law {w : World} {a0 : Option Addr} {len0 cap0 : Nat} {z0 : List Int} {a1 : Int} (w0 : RowK .u8 w a0 len0 cap0 z0) (w1 : (Lit.int .i64 a1).wf = true) :
    Calls Try.prog n_flumelaw02_OctetNumbers #[.slice a0 len0 cap0, .int .i64 a1] w fun e w' => e = .returned (.bool true) ∧ Below w.heap.size w w' := lawE (by
  obtain ⟨l, hs⟩ := rowB w0
  have hi := wfI64 w1
  refine flumelaw02_OctetNumbers.cl (p0 := ⟨a0, len0, cap0⟩) ?_
  unfold flumelaw02_OctetNumbers
  have hl : len0 = l.length := hs.len
  refine bD (fun _ => aw (Fr.refl w)) (fun hle => ?_)
  dsimp only at hle
  refine (Clone_byte_ok hs (by omega)).mono ?_
  rintro x3 w4 ⟨h3, hf4⟩
  refine (octet_Number_ok h3.bs (by omega) hi.2).mono ?_
  rintro x5 w6 ⟨h5, hf6⟩
  refine (ref_Number_ok (hs.fr (hf4.trans hf6)) (by omega) hi.2).mono ?_
  rintro x7 w8 ⟨h7, hf8⟩
  refine (Equal_ok (h5.fr hf8).bs h7.bs).mono ?_
  rintro x9 _ ⟨rfl, rfl⟩
  refine nwI fun b w12 hb hsz hf12 hblk hrd => ?_
  have h9 := numB_le a1.toNat
  refine app_B slB (base := w4.heap.size) (m := [1]) ((h5.fr hf8).fr hf12) hrd rfl (by simp; omega) ((hf6.trans hf8).trans hf12).size fun r w14 h14 hb14 _ _ => ?_
  have hf14 : Fr w4 w14 := ((hf6.trans hf8).trans hf12).on hb14
  obtain ⟨c, t, hct⟩ : ∃ c t, l ++ numB a1.toNat ++ [1] = c :: t := by
    cases h : l ++ numB a1.toNat ++ [1] with
    | nil => simp at h
    | cons c t => exact ⟨c, t, rfl⟩
  rw [hct] at h14
  refine ixB0 h14.rd h14.len (Fr.refl _) ?_
  refine stB h14 (by decide) (by simp) (c ^^^ 255) ?_ fun w18 h18 hb18 _ _ => ?_
  · rw [show (255 : Int) = ((255 : Nat) : Int) from rfl, u8_xor_nat _ _ c.toNat_lt (by decide), UInt8.toNat_xor]
    rfl
  · have hf18 : Fr w4 w18 := hf14.on hb18
    refine bP rfl ?_
    refine (Equal_ok (h3.bs.fr hf18) (hs.fr (hf4.trans hf18))).mono ?_
    rintro _ _ ⟨rfl, rfl⟩
    exact bP rfl (aw (hf4.trans hf18)))

theorem OctetTexts_law {w : World} {a0 : Option Addr} {len0 cap0 : Nat} {z0 : List Int} {a1 : Option Addr} {len1 cap1 : Nat} {z1 : List Int} {a2 : Bool} (w0 : RowK .u8 w a0 len0 cap0 z0) (w1 : RowK .u8 w a1 len1 cap1 z1) :
    Calls Try.prog n_flumelaw02_OctetTexts #[.slice a0 len0 cap0, .slice a1 len1 cap1, .bool a2] w fun e w' => e = .returned (.bool true) ∧ Below w.heap.size w w' := lawE (by
  obtain ⟨l, hs⟩ := rowB w0
  obtain ⟨m, hm⟩ := rowB w1
  refine flumelaw02_OctetTexts.cl (p0 := ⟨a0, len0, cap0⟩) (p1 := ⟨a1, len1, cap1⟩) ?_
  unfold flumelaw02_OctetTexts
  have hl : len0 = l.length := hs.len
  have hml : len1 = m.length := hm.len
  refine bD (fun _ => aw (Fr.refl w)) (fun hle => bD (fun _ => aw (Fr.refl w)) (fun hle' => ?_))
  dsimp only at hle hle'
  refine (Clone_byte_ok hs (by omega)).mono ?_
  rintro x5 w6 ⟨h5, hf6⟩
  refine (Clone_byte_ok (hm.fr hf6) (by omega)).mono ?_
  rintro x7 w8 ⟨h7, hf8⟩
  refine (octet_Text_ok (h5.fr hf8).bs h7.bs (by omega) (by omega)).mono ?_
  rintro x9 w10 ⟨h9, hf10⟩
  have h5' := (h5.fr hf8).fr hf10
  refine (octet_Flag_ok h5'.bs (by omega)).mono ?_
  rintro x11 w12 ⟨h11, hf12⟩
  have f12 := ((hf6.trans hf8).trans hf10).trans hf12
  refine (ref_Text_ok (hs.fr f12) (hm.fr f12) (by omega) (by omega)).mono ?_
  rintro x13 w14 ⟨h13, hf14⟩
  refine (Equal_ok ((h9.fr hf12).fr hf14).bs h13.bs).mono ?_
  rintro _ _ ⟨rfl, rfl⟩
  refine bP rfl ?_
  refine (ref_Flag_ok (hs.fr (f12.trans hf14)) (by omega)).mono ?_
  rintro x17 w18 ⟨h17, hf18⟩
  refine (Equal_ok ((h11.fr hf14).fr hf18).bs h17.bs).mono ?_
  rintro _ _ ⟨rfl, rfl⟩
  refine bP rfl ?_
  have f18 := (f12.trans hf14).trans hf18
  refine (Equal_ok (((h5'.fr hf12).fr hf14).fr hf18).bs (hs.fr f18)).mono ?_
  rintro _ _ ⟨rfl, rfl⟩
  refine bP rfl ?_
  refine (Equal_ok (((((h7.fr hf10)).fr hf12).fr hf14).fr hf18).bs (hm.fr f18)).mono ?_
  rintro _ _ ⟨rfl, rfl⟩
  exact bP rfl (aw f18))

theorem OctetCut_law {w : World} {a0 : Int} {a1 : Option Addr} {len1 cap1 : Nat} {z1 : List Int} {a2 : Int} (w0 : (Lit.int .i64 a0).wf = true) (w1 : RowK .u8 w a1 len1 cap1 z1) (_w2 : (Lit.int .i64 a2).wf = true) :
    Calls Try.prog n_flumelaw02_OctetCut #[.int .i64 a0, .slice a1 len1 cap1, .int .i64 a2] w fun e w' => e = .returned (.bool true) ∧ Below w.heap.size w w' := lawE (by
  obtain ⟨m, hm⟩ := rowB w1
  have hi := wfI64 w0
  refine flumelaw02_OctetCut.cl (p1 := ⟨a1, len1, cap1⟩) ?_
  unfold flumelaw02_OctetCut
  have hml : len1 = m.length := hm.len
  refine bD (fun _ => aw (Fr.refl w)) (fun hle => ?_)
  dsimp only at hle
  refine (octet_Number_ok (Bs.nil w 0) (by simp) hi.2).mono ?_
  rintro x3 w4 ⟨h3, hf4⟩
  refine (octet_Text_ok (Bs.nil w4 0) (hm.fr hf4) (by simp) (by omega)).mono ?_
  rintro x5 w6 ⟨h5, hf6⟩
  rw [List.nil_append] at h3 h5
  have hn3 := h3.len
  have hn5 := h5.len
  have hnb := numB_length a0.toNat
  have hnt := numB_length m.length
  have h93 := numB_le a0.toNat
  have h95 := numB_le m.length
  rw [List.length_append] at hn5
  have hu : 0 ≤ IntKind.u64.wrap a2 := by simp only [IntKind.wrap, IntKind.bits, IntKind.signed]; simp; omega
  generalize IntKind.u64.wrap a2 = u at hu
  refine bF (by rw [hn3, hnb]; simp; omega) (bN (by simp; omega) ?_)
  rw [u64w (n := (x3.n : Int)) (by omega) (by omega), u64w (n := (x5.n : Int)) (by omega) (by omega)]
  refine bT (by simp; omega) ?_
  have cutI : ∀ n : Nat, 0 < n → n ≤ 100000 → ∃ j : Nat, j < n ∧ IntKind.i64.wrap (Int.tmod u (n : Int)) = j := by
    intro n hn hn'
    have e : Int.tmod u (n : Int) = ((u.toNat % n : Nat) : Int) := by
      rw [show u = (u.toNat : Int) from by omega]
      exact (Int.ofNat_tmod _ _).symm
    have := Nat.mod_lt u.toNat hn
    refine ⟨u.toNat % n, this, ?_⟩
    rw [e, i64w (by omega) (by omega)]
  obtain ⟨j, hj, ej⟩ := cutI x3.n (by omega) (by omega)
  obtain ⟨k, hk, ek⟩ := cutI x5.n (by omega) (by omega)
  rw [ej, ek]
  refine slsB (h3.fr hf6).bs (by decide) (by omega) (by omega) fun r7 h7 _ _ => ?_
  simp only [Int.toNat_natCast, Int.toNat_zero, List.drop_zero] at h7
  refine (Read_ok h7 (by rw [List.length_take]; omega)).mono ?_
  rintro _ w9 ⟨g, rfl, hg, hr, hf9⟩
  refine (Reader_Number_ok hr).mono ?_
  rintro _ w11 ⟨rfl, hr', hg11⟩
  have f11 : Fr w6 w11 := hf9.on (grown_below hg11 hg hf9.size)
  refine bT (by simp; omega) ?_
  refine slsB (h5.fr f11).bs (by decide) (by omega) (by rw [List.length_append]; omega) fun r12 h12 _ _ => ?_
  simp only [Int.toNat_natCast, Int.toNat_zero, List.drop_zero] at h12
  refine (Read_ok h12 (by rw [List.length_take, List.length_append]; omega)).mono ?_
  rintro _ w14 ⟨g', rfl, hg', hr2, hf14⟩
  refine (Reader_Text_ok hr2).mono ?_
  rintro ⟨t, e⟩ w16 ⟨he, _, _, hg16⟩
  have f16 : Fr w11 w16 := hf14.on (grown_below hg16 hg' hf14.size)
  dsimp only at he ⊢
  subst he
  dsimp only
  rw [rdText_short (by omega) (by omega) (by omega), look_short (by omega)]
  exact bT rfl (bT rfl (aw (((hf4.trans hf6).trans f11).trans f16))))

theorem OctetBack_law {w : World} {a0 : Int} {a1 : Option Addr} {len1 cap1 : Nat} {z1 : List Int} {a2 : Bool} {a3 : Option Addr} {len3 cap3 : Nat} {z3 : List Int} (w0 : (Lit.int .i64 a0).wf = true) (w1 : RowK .u8 w a1 len1 cap1 z1) (w3 : RowK .u8 w a3 len3 cap3 z3) :
    Calls Try.prog n_flumelaw02_OctetBack #[.int .i64 a0, .slice a1 len1 cap1, .bool a2, .slice a3 len3 cap3] w fun e w' => e = .returned (.bool true) ∧ Below w.heap.size w w' := lawE (by
  obtain ⟨m, hm⟩ := rowB w1
  obtain ⟨d, hd⟩ := rowB w3
  have hi := wfI64 w0
  refine flumelaw02_OctetBack.cl (p1 := ⟨a1, len1, cap1⟩) (p3 := ⟨a3, len3, cap3⟩) ?_
  unfold flumelaw02_OctetBack
  have hml : len1 = m.length := hm.len
  have hdl : len3 = d.length := hd.len
  refine bD (fun _ => aw (Fr.refl w)) (fun hle => bD (fun _ => aw (Fr.refl w)) (fun hle' => ?_))
  dsimp only at hle hle'
  have hx := numB_le a0.toNat
  have hx2 := numB_le m.length
  have hx3 := numB_le (bif a2 then 1 else 0)
  refine (octet_Number_ok (Bs.nil w 0) (by simp) hi.2).mono ?_
  rintro x5 w6 ⟨h5, hf6⟩
  rw [List.nil_append] at h5
  refine (octet_Text_ok h5.bs (hm.fr hf6) (by omega) (by omega)).mono ?_
  rintro x7 w8 ⟨h7, hf8⟩
  refine (octet_Flag_ok h7.bs (by simp; omega)).mono ?_
  rintro x9 w10 ⟨h9, hf10⟩
  have f10 := (hf6.trans hf8).trans hf10
  refine app_B slB (base := w8.heap.size) h9 (hd.fr f10).rd hdl.symm (by simp; omega) hf10.size fun x11 w12 h11 hb12 _ _ => ?_
  have f12 : Fr w w12 := (hf6.trans hf8).trans (hf10.on hb12)
  refine (Read_ok h11.bs (by simp; omega)).mono ?_
  rintro _ w14 ⟨g, rfl, hg, hr, hf14⟩
  have f14 := f12.trans hf14
  have hf12s := f12.size
  have e1 : numB a0.toNat ++ numB m.length ++ m ++ numB (bif a2 then 1 else 0) ++ d = numB a0.toNat ++ (numB m.length ++ (m ++ (numB (bif a2 then 1 else 0) ++ d))) := by simp
  rw [e1] at hr
  refine (Reader_Number_ok hr).mono ?_
  rintro _ w16 ⟨rfl, hr, hg16⟩
  have f16 : Fr w w16 := f14.on (grown_below hg16 (by omega) f14.size)
  rw [look_num (by omega), show moreN a0.toNat + 1 = (numB a0.toNat).length from (numB_length _).symm, List.drop_left] at hr
  rw [look_num (by omega)]
  have hlt16 := hr.lt
  refine (Reader_Text_ok hr).mono ?_
  rintro ⟨x17, e⟩ w18 ⟨he, h17, hr, hg18⟩
  dsimp only at he h17 ⊢
  subst he
  have f18 : Fr w w18 := f16.on (grown_below hg18 (by omega) f16.size)
  rw [rdText_put (most := (len1 : Int)) (by omega) (by omega)] at h17 hr ⊢
  dsimp only at h17 hr ⊢
  rw [← List.append_assoc, List.drop_left' (by simp)] at hr
  refine (Reader_Flag_ok hr).mono ?_
  rintro _ w20 ⟨rfl, hr, hg20⟩
  have f20 : Fr w w20 := f18.on (grown_below hg20 (by omega) f18.size)
  rw [rdFlag_put] at hr ⊢
  dsimp only at hr ⊢
  rw [List.drop_left] at hr
  have h17' := h17.kp (kp_grown hg20) fun ad ha => by
    have := (h17.own ad ha).1
    omega
  refine bT (by simp) ?_
  refine (Equal_ok h17'.bs (hm.fr f20)).mono ?_
  rintro _ _ ⟨rfl, rfl⟩
  refine bP rfl (bT (by simp) (bT rfl (bT rfl (bT rfl ?_))))
  refine (Left_ok hr).mono ?_
  rintro _ _ ⟨rfl, rfl⟩
  refine bT (by simp; omega) ?_
  refine (End_ok hr).mono ?_
  rintro _ _ ⟨rfl, rfl⟩
  refine bT ?_ (aw f20)
  rw [hdl]
  cases d with
  | nil => rfl
  | cons b t => simp; omega)
end Go.Proofs.Ytpilmeekncobkaa
