/- Laws of layer 10. -/
import Derived.Test.YtkojpppnjloikaaDoorR4
namespace Go.Proofs.YtkojpppnjloikaaDoor
open Go.RowKit Go.Fl

theorem awake_law {w w2 : World} (hd : Dig w) (hf : Fr w w2) : cl Tryd.prog n_flumelaw10_awake #[] .B w2 fun (r : Bool) w' => r = true ∧ Fr w w' :=
  (awake10_ok (hd.fr hf)).mono fun _ _ h => ⟨h.1, hf.trans h.2⟩
theorem RecordKinds_law {w : World} {a : Option Addr} {len cap : Nat} {zs : List Int} (hd : Dig w) (h : RowK .u8 w a len cap zs) : Calls Tryd.prog n_flumelaw10_RecordKinds #[.slice a len cap] w fun e w' => e = .returned (.bool true) ∧ Below w.heap.size w w' := by
  refine lawE ?_
  obtain ⟨l, hl⟩ := rowB h
  refine flumelaw10_RecordKinds.cl (p0 := ⟨a, len, cap⟩) ?_
  unfold flumelaw10_RecordKinds
  have hn : len = l.length := hl.len
  refine bD ?_ ?_ <;> intro h1
  · exact awake_law hd (Fr.refl w)
  refine bD ?_ ?_ <;> intro h2
  · exact awake_law hd (Fr.refl w)
  dsimp only at h1 h2
  refine (Make_ok (s := ⟨a, len, cap⟩) (known := false) hd hl (by omega)).mono ?_
  rintro ⟨p, e, ⟨⟩⟩ w6 ⟨hm, hf6⟩
  unfold MakeP at hm
  rw [if_neg (by omega), if_neg (by decide)] at hm
  obtain ⟨he, hsz, hsum, hm⟩ := hm
  dsimp only at he hsz hsum hm ⊢
  obtain ⟨rfl, _⟩ := Prod.mk.inj he
  refine newRec (p := p) (by rw [hsum]; exact u8s_one _) fun a7 w12 ha hf12 hb12 hs12 => ?_
  have hf12' := hf6.trans hf12
  refine (Shorten_ok (hl.fr hf12') (by omega)).mono ?_
  rintro x13 w14 ⟨h13, hf14⟩
  have hn13 := h13.len
  have hb14 := hf14.heap hb12
  have hf14' := hf12'.trans hf14
  simp only [addOff, Nat.zero_add]
  have c0 : (rcL p []).toArray[0]? = some (.int .i64 p.1) := rfl
  refine bD ?_ ?_ <;> intro h3
  · rw [if_pos (by omega)] at hm
    refine bT rfl (ldI0 hb14 c0 (bT (by rw [hm.1]; rfl) (ldL0 (s := p.2.2.2.1) hb14 (rc_c34 p) ?_)))
    refine (Equal_ok (hm.2.fr (hf12.trans hf14)) h13.bs).mono ?_
    rintro _ _ ⟨rfl, rfl⟩
    exact bT (by simp) (awake_law hd hf14')
  · rw [if_neg (by omega)] at hm
    refine bT rfl (ldI0 hb14 c0 (bT (by rw [hm.1]; rfl) (ldL0 (s := p.2.2.2.1) hb14 (rc_c34 p) ?_)))
    refine (Equal_ok (x := ⟨a, len, cap⟩) (hm.2.fr (hf12.trans hf14)) (hl.fr hf14')).mono ?_
    rintro _ _ ⟨rfl, rfl⟩
    exact bT (by simp) (awake_law hd hf14')
end Go.Proofs.YtkojpppnjloikaaDoor
