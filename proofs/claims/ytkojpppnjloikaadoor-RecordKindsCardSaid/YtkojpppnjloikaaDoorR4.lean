/- The example that each statement of layer 10 asks for. -/
import Derived.Test.YtkojpppnjloikaaDoorR3
namespace Go.Proofs.YtkojpppnjloikaaDoor
open Go.RowKit Go.Fl

theorem aw10 : putS (3, 7, 0, 0, 0, rc0, ()) (List.replicate 32 0) [] = ([3, 7], 0) := by decide +kernel
theorem awS : ¬(shortS [97, 98, 99]).length < 3 := by decide +kernel
theorem openS_lit {b : List UInt8} (h1 : 1 ≤ b.length) (h2 : b.length ≤ 256) : openS 2 (b.length : Int) (dig b) b = (b, 0) := by
  have h : chkS 2 (b.length : Int) b.length = 0 := by rw [chkS, if_pos ⟨.inr (.inl ⟨rfl, rfl⟩), by omega, by omega⟩]
  rw [openS, if_neg (by rw [h]; decide), if_neg (by decide), if_neg fun h => by have := h.1; omega, if_pos (by rw [if_neg (by decide)]), if_neg (by decide)]
/-- A record is put into a new variable. -/
theorem newRec {w : World} {p : RecT} {K : Addr → World → Prop} (hone : ∀ v ∈ p.2.2.1.1, v.oneCell' = true)
    (h : ∀ a w', w.heap.size ≤ a → Fr w w' → w'.heap[a]? = some (.cells (rcL p []).toArray t_api_Record (0, 0)) → w'.heap.size = w.heap.size + 1 → K ⟨a, 0, none⟩ w') :
    nw w (([.int .i64 0, .int .i64 0] : List Value) ++ ((zrow 32 (.int .u8 0)).1 ++ ([.slice none 0 0] : List Value))) t_api_Record fun a7 w8 => st1 w8 a7 (.int .i64 p.1) fun w9 => st1 w9 (a7.add 1) (.int .i64 p.2.1) fun w10 => stL ((a7.add 1).add 1) w10 0 p.2.2.1.1 fun w11 => st1 w11 (((a7.add 1).add 1).add 32) (.slice p.2.2.2.1.a p.2.2.2.1.n p.2.2.2.1.c) fun w12 => K a7 w12 := by
  refine nwI fun a w2 ha hs hf hb _ => ?_
  refine stRec (pre := []) (post := []) (q := rc0) hb p hone fun w3 hb3 hg3 hs3 => h a w3 (by omega) (hf.on (grown_below hg3 (by omega) hf.size)) hb3 (by omega)
theorem awake10_ok {w : World} (hd : Dig w) : cl Tryd.prog n_flumelaw10_awake #[] .B w fun (r : Bool) w' => r = true ∧ Fr w w' := by
  refine flumelaw10_awake.cl ?_
  unfold flumelaw10_awake
  obtain ⟨b, hbe⟩ : ∃ b : List UInt8, b = [97, 98, 99] := ⟨_, rfl⟩
  have hbl : b.length = 3 := by rw [hbe]; rfl
  have hsh : ¬(shortS b).length < b.length := by rw [hbl, hbe]; exact awS
  refine nwConv (l := b) u_s_uint8 u_uint8 (by rw [hbe]; rfl) hbl.symm fun r3 w4 hr3 hf4 => ?_
  refine (Make_ok (known := false) (hd.fr hf4) hr3 (by omega)).mono ?_
  rintro ⟨p, e, ⟨⟩⟩ w6 ⟨hm, hf6⟩
  unfold MakeP at hm
  rw [if_neg (by omega)] at hm
  obtain ⟨he, hsz, hsum, hm⟩ := hm
  rw [if_neg (by decide), if_neg hsh] at hm
  obtain ⟨hk, hx⟩ := hm
  dsimp only at he hsz hsum hk hx ⊢
  obtain ⟨rfl, _⟩ := Prod.mk.inj he
  have hf6' := hf4.trans hf6
  refine newRec (p := p) (by rw [hsum]; exact u8s_one _) fun a w12 ha hf12 hb12 hs12 => ?_
  refine ldRec (pre := []) (post := []) hb12 ?_
  have hf12' := hf6'.trans hf12
  refine (Open_ok (p := p) (d := dig b) (l := b) (hd.fr hf12') hsum (hx.fr hf12) (by omega)).mono ?_
  rintro ⟨x14, e14, ⟨⟩⟩ w15 ⟨h14, he14, hf15⟩
  rw [hk, hsz, openS_lit (by omega) (by omega)] at h14 he14
  dsimp only at h14 he14 ⊢
  obtain ⟨rfl, _⟩ := Prod.mk.inj he14
  have hf15' := hf12'.trans hf15
  refine (Put_ok (p := (3, 7, 0, 0, 0, rc0, ())) (d := List.replicate 32 0) (l := []) (by simp [rc0, zrow, u8s]) (Bs.nil _ _) (by simp)).mono ?_
  rintro ⟨x16, e16, ⟨⟩⟩ w17 ⟨h16, he16, hf17⟩
  rw [aw10] at h16 he16
  dsimp only at h16 he16 ⊢
  obtain ⟨rfl, _⟩ := Prod.mk.inj he16
  have hf17' := hf15'.trans hf17
  refine bT rfl ?_
  refine ldI0 (n := p.1) ((hf15.trans hf17).heap hb12) rfl ?_
  rw [hk]
  refine bT rfl (bT rfl ?_)
  have h14' := h14.fr hf17
  refine bstrI h14'.rd h14'.len.symm (Fr.refl _) ?_
  refine bT (by rw [show (⟨#[97, 98, 99]⟩ : ByteArray) = ⟨([97, 98, 99] : List UInt8).toArray⟩ from rfl, beqB_eq, hbe]; rfl) (bT rfl ?_)
  refine bstrI h16.rd h16.len.symm (Fr.refl _) ?_
  refine bT (by rw [show (⟨#[3, 7]⟩ : ByteArray) = ⟨([3, 7] : List UInt8).toArray⟩ from rfl, beqB_eq]; rfl) ?_
  refine (Check_ok (p := rc0)).mono ?_
  rintro _ w22 ⟨rfl, hf22⟩
  exact ⟨by decide +kernel, hf17'.trans hf22⟩
end Go.Proofs.YtkojpppnjloikaaDoor
