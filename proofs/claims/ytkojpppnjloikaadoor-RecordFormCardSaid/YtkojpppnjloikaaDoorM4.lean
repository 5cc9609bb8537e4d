/- Contracts and plain laws that the claims of this seat lean on, put together. -/
import Derived.Test.YtkojpppnjloikaaDoorM3
import Derived.Test.YtkojpppnjloikaaDoorRows
import Derived.Lib.LaidTab
import Derived.LaidMore
import Derived.ProofKit
import Derived.Stop.LaidErr
import Derived.Stop.Joined
namespace Go.Proofs.YtkojpppnjloikaaDoor
open Go.RowKit Go.Fl

/-- A note is put into a new variable. -/
theorem newNote {w : World} {p : NtT} {K : Addr → World → Prop} (hone : ∀ v ∈ p.2.2.2.2.2.1.2.2.1.1, v.oneCell' = true)
    (h : ∀ a w', w.heap.size ≤ a → Fr w w' → w'.heap[a]? = some (.cells (ntL p).toArray t_api_Note (0, 0)) → w'.heap.size = w.heap.size + 1 → K ⟨a, 0, none⟩ w') :
    nw w (([.int .i64 0, .int .i64 0, .int .i64 0, .int .i64 0, .int .i64 0] : List Value) ++ ((([.int .i64 0, .int .i64 0] : List Value) ++ ((zrow 32 (.int .u8 0)).1 ++ ([.slice none 0 0] : List Value))) ++ ([] : List Value))) t_api_Note fun a7 w8 =>
      st1 w8 a7 (.int .i64 p.1) fun w1 => st1 w1 (a7.add 1) (.int .i64 p.2.1) fun w2 => st1 w2 ((a7.add 1).add 1) (.int .i64 p.2.2.1) fun w3 => st1 w3 (((a7.add 1).add 1).add 1) (.int .i64 p.2.2.2.1) fun w4 => st1 w4 ((((a7.add 1).add 1).add 1).add 1) (.int .i64 p.2.2.2.2.1) fun w5 =>
      st1 w5 (((((a7.add 1).add 1).add 1).add 1).add 1) (.int .i64 p.2.2.2.2.2.1.1) fun w6 => st1 w6 ((((((a7.add 1).add 1).add 1).add 1).add 1).add 1) (.int .i64 p.2.2.2.2.2.1.2.1) fun w7 => stL (((((((a7.add 1).add 1).add 1).add 1).add 1).add 1).add 1) w7 0 p.2.2.2.2.2.1.2.2.1.1 fun w8 => st1 w8 ((((((((a7.add 1).add 1).add 1).add 1).add 1).add 1).add 1).add 32) (.slice p.2.2.2.2.2.1.2.2.2.1.a p.2.2.2.2.2.1.2.2.2.1.n p.2.2.2.2.2.1.2.2.2.1.c) fun w9 => K a7 w9 := by
  refine nwI fun a w2 ha hs hf hb _ => ?_
  refine stNote (q := nt0) hb p hone fun w3 hb3 hg3 hs3 => h a w3 (by omega) (hf.on (grown_below hg3 (by omega) hf.size)) hb3 (by omega)
/-- What stands in memory of a note that was read, or not. -/
def pn0 : PN := ⟨0, 0, 0, 0, 0, 0, 0, List.replicate 32 0, []⟩
theorem GetP.eq {w : World} {own : Nat} {p : NtT} {e : Int} {o : Option PN} (h : GetP w own (p, e, ()) o) : pnOf p (o.getD pn0).d (o.getD pn0).l = o.getD pn0 ∧ p.2.2.2.2.2.1.2.2.1.1 = u8s (o.getD pn0).d ∧ OwB w own t_uint8 p.2.2.2.2.2.1.2.2.2.1 (o.getD pn0).l ∧ e = if o.isSome then 0 else 100 := by
  cases o with
  | some n => exact ⟨h.2.1, h.2.2.1, h.2.2.2, (Prod.mk.inj h.1).1⟩
  | none =>
    obtain ⟨rfl, h2⟩ := Prod.mk.inj h
    exact ⟨rfl, rc0_sum', OwB.nil _ _ _, (Prod.mk.inj h2).1⟩
theorem RGetP.eq {w : World} {p : NtT} {e : Int} {o : Option PN} (h : RGetP w (p, e, ()) o) : pnOf p (o.getD pn0).d (o.getD pn0).l = o.getD pn0 ∧ p.2.2.2.2.2.1.2.2.1.1 = u8s (o.getD pn0).d ∧ Bs w p.2.2.2.2.2.1.2.2.2.1 (o.getD pn0).l ∧ e = if o.isSome then 0 else 100 := by
  cases o with
  | some n => exact ⟨h.2.1, h.2.2.1, h.2.2.2, (Prod.mk.inj h.1).1⟩
  | none =>
    obtain ⟨rfl, h2⟩ := Prod.mk.inj h
    exact ⟨rfl, rc0_sum', Bs.nil _ _, (Prod.mk.inj h2).1⟩
theorem RecordGets_law {w : World} {a : Option Addr} {len cap : Nat} {zs : List Int} (hd : Dig w) (h : RowK .u8 w a len cap zs) : Calls Tryd.prog n_flumelaw10_RecordGets #[.slice a len cap] w fun e w' => e = .returned (.bool true) ∧ Below w.heap.size w w' := by
  refine lawE ?_
  obtain ⟨l, hl⟩ := rowB h
  refine flumelaw10_RecordGets.cl (p0 := ⟨a, len, cap⟩) ?_
  unfold flumelaw10_RecordGets
  have hn : len = l.length := hl.len
  refine bD ?_ ?_ <;> intro h0
  · exact awake_law hd (Fr.refl w)
  dsimp only at h0
  refine (Clone_byte_ok (s := ⟨a, len, cap⟩) hl (by omega)).mono ?_
  rintro x3 w4 ⟨h3, hf4⟩
  refine (Get_ok h3.bs (by omega)).mono ?_
  rintro ⟨p, e, ⟨⟩⟩ w6 ⟨hm, hf6⟩
  obtain ⟨p1, p2, p3, p4⟩ := hm.eq
  refine newNote (p := p) (by rw [p2]; exact u8s_one _) fun a7 w17 ha7 hf17 hb17 hs17 => ?_
  have hf17' := (hf4.trans hf6).trans hf17
  refine (refGet_ok (s := ⟨a, len, cap⟩) (hl.fr hf17') (by omega)).mono ?_
  rintro ⟨q, f, ⟨⟩⟩ w19 ⟨hk, hf19⟩
  obtain ⟨q1, q2, q3, q4⟩ := hk.eq
  refine newNote (p := q) (by rw [q2]; exact u8s_one _) fun a20 w30 ha20 hf30 hb30 hs30 => ?_
  have hb17' := hf30.heap (hf19.heap hb17)
  refine ldNote hb17' (ldNote hb30 ?_)
  refine (SameNote_ok p2 q2 (p3.fr ((hf17.trans hf19).trans hf30)).bs (q3.fr hf30)).mono ?_
  rintro _ w34 ⟨rfl, hf34⟩
  rw [p1, q1]
  refine bT (by simp) ?_
  refine bT (by rw [p4, q4]; simp) ?_
  have hf4e := ((hf6.trans hf17).trans (hf19.trans hf30)).trans hf34
  refine (Equal_ok (x := ⟨a, len, cap⟩) (h3.bs.fr hf4e) (hl.fr (hf4.trans hf4e))).mono ?_
  rintro _ _ ⟨rfl, rfl⟩
  exact bT (by simp) (awake_law hd (hf4.trans hf4e))
set_option maxRecDepth 100000 in
theorem RecordForm_law {H : Type} {enc : TypeId × Value → H} {w : World} {b0 : Nat} {v0 : Value} {d0 : DataW H} {p0 : List MemPlace} {a : Option Addr} {len cap : Nat} {zs : List Int} (hd : Dig w)
    (o0 : Value.okWide Tryd.prog w .any b0 t_api_Note v0) (h0 : DataW.Trod enc Tryd.prog w 0 (fun _ => true) true t_api_Note v0 d0 p0) (h : RowK .u8 w a len cap zs) :
    Calls Tryd.prog n_flumelaw10_RecordForm #[v0, .slice a len cap] w fun e w' => e = .returned (.bool true) ∧ Below w.heap.size w w' := by
  refine lawE ?_
  obtain ⟨n, dn, ln, rfl, hn, _⟩ := note_in o0 h0
  obtain ⟨l, hl⟩ := rowB h
  refine flumelaw10_RecordForm.cl (p0 := n) (p1 := ⟨a, len, cap⟩) ?_
  unfold flumelaw10_RecordForm
  rw [ntL_eq]
  have hlen := hn.data.len
  have hnl : len = l.length := hl.len
  have hdl : dn.length = 32 := by have := n.2.2.2.2.2.1.2.2.1.2; rw [hn.sum, u8s_length] at this; exact this
  refine nwI fun a1 w2 ha1 hs2 hf2 hb1 _ => ?_
  rw [addOff, addOff]
  refine ldL0 (s := n.2.2.2.2.2.1.2.2.2.1) hb1 (nt_c39 n) ?_
  refine bD ?_ ?_ <;> intro hm2
  · exact awake_law hd hf2
  refine bD ?_ ?_ <;> intro hm3
  · exact awake_law hd hf2
  refine ldNote hb1 ?_
  refine (Put_ok hn.sum (hn.data.fr hf2) (by omega)).mono ?_
  rintro ⟨x9, e9, ⟨⟩⟩ w10 ⟨h9, he9, hf10⟩
  dsimp only at h9 he9
  obtain ⟨rfl, _⟩ := Prod.mk.inj he9
  intro j1
  have hf10' := hf2.trans hf10
  have hj1 : ∀ u, Fr w u → j1 u := by
    intro u hfu
    unfold j1
    refine (Get_ok (s := ⟨a, len, cap⟩) (hl.fr hfu) (by dsimp only at hm3; omega)).mono ?_
    rintro ⟨p, e, ⟨⟩⟩ w55 ⟨hm, hf55⟩
    have hp := hm
    obtain ⟨p1, p2, p3, p4⟩ := hm.eq
    refine newNote (p := p) (by rw [p2]; exact u8s_one _) fun a56 w66 ha56 hf66 hb66 hs66 => ?_
    have hfw := (hfu.trans hf55).trans hf66
    dsimp only
    cases hg : getS l with
    | none =>
      rw [hg] at p1 p2 p3 p4
      have p4 : e = 100 := p4
      refine bT (by rw [p4]; rfl) (bT (by rw [p4]; rfl) ?_)
      refine ldNote hb66 ?_
      refine (SameNote_ok (q := nt0) p2 rc0_sum' (p3.fr hf66).bs (Bs.nil _ _)).mono ?_
      rintro _ w69 ⟨rfl, hf69⟩
      rw [p1]
      exact bT (by rw [decide_eq_true_iff]; rfl) (awake_law hd (hfw.trans hf69))
    | some m =>
      rw [hg] at p1 p2 p3 p4
      have p4 : e = 0 := p4
      have p1 : pnOf p m.d m.l = m := p1
      have p3 : OwB w55 u.heap.size t_uint8 p.2.2.2.2.2.1.2.2.2.1 m.l := p3
      obtain ⟨g1, g2, g3⟩ := getS_back hg
      have hml : m.l.length ≤ 256 := by
        by_cases h2 : m.k = 2
        · have := chk_in (g1.2.2.2.2.2 h2); omega
        · rw [(g1.2.2.2.2.1 h2).2.2.2]; simp
      refine bF (by rw [p4]; rfl) ?_
      refine ldNote hb66 ?_
      refine (Put_ok p2 (p3.fr hf66).bs (by omega)).mono ?_
      rintro ⟨x73, e73, ⟨⟩⟩ w74 ⟨h73, he73, hf74⟩
      dsimp only at h73 he73 ⊢
      obtain ⟨rfl, _⟩ := Prod.mk.inj he73
      have hfit : FitP p m.d := (pnOf_fit (l := m.l) p3.len).2 (by rw [p1]; exact g1)
      have hput : putS p m.d m.l = (l, 0) := by rw [putS, if_pos hfit, pnOf_bytes, p1, g3]
      rw [show putS p (Option.getD (some m) pn0).d m.l = (l, 0) from hput] at h73 ⊢
      refine bT rfl ?_
      refine (Equal_ok (x := ⟨a, len, cap⟩) h73.bs (hl.fr (hfw.trans hf74))).mono ?_
      rintro _ _ ⟨rfl, rfl⟩
      exact bT (by simp) (awake_law hd (hfw.trans hf74))
  clear_value j1
  have hfe : FitP n dn ↔ (pnOf n dn ln).fit := pnOf_fit (l := ln) hlen
  by_cases hfit : FitP n dn
  · have hput : putS n dn ln = (noteB n dn ln, 0) := by rw [putS, if_pos hfit]
    rw [hput] at h9 ⊢
    refine bT rfl ?_
    have hgt : getS (noteB n dn ln) = some (pnOf n dn ln) := by rw [pnOf_bytes]; exact getS_put (hfe.1 hfit) hdl
    refine (Get_ok h9.bs ?_).mono ?_
    · have := h9.len
      have hb : (noteB n dn ln).length ≤ 5000 := by
        have h1 := numB_le n.1.toNat
        have h2 := numsB_le ((offs n.1).map (nv n))
        have h3 := offs_len n.1
        have h4 := numsB_le [n.2.2.2.2.2.1.1, n.2.2.2.2.2.1.2.1]
        have h5 := numB_le ln.length
        rw [List.length_map] at h2
        simp only [List.length_cons, List.length_nil] at h4
        unfold noteB
        rw [List.length_append, List.length_append]
        split
        · unfold recB
          simp only [List.length_append]
          omega
        · simp only [List.length_nil]; omega
      show (noteB n dn ln).length ≤ _
      omega
    rintro ⟨p, e, ⟨⟩⟩ w12 ⟨hm, hf12⟩
    rw [hgt] at hm
    obtain ⟨p1, p2, p3, p4⟩ := hm.eq
    have p4 : e = 0 := p4
    have p3 : OwB w12 w10.heap.size t_uint8 p.2.2.2.2.2.1.2.2.2.1 ln := p3
    have p2 : p.2.2.2.2.2.1.2.2.1.1 = u8s dn := p2
    have p1 : pnOf p dn ln = pnOf n dn ln := p1
    refine newNote (p := p) (by rw [p2]; exact u8s_one _) fun a13 w23 ha13 hf23 hb23 hs23 => ?_
    have hfw := (hf10'.trans hf12).trans hf23
    dsimp only
    refine bF (by rw [p4]; rfl) ?_
    refine ldNote (((hf10.trans hf12).trans hf23).heap hb1) (ldNote hb23 ?_)
    refine (SameNote_ok hn.sum p2 (hn.data.fr hfw) (p3.fr hf23).bs).mono ?_
    rintro _ w27 ⟨rfl, hf27⟩
    rw [p1]
    refine bF (by simp) ?_
    exact hj1 w27 (hfw.trans hf27)
  · have hput : putS n dn ln = ([], 100) := by rw [putS, if_neg hfit]
    rw [hput]
    refine bF rfl ?_
    exact hj1 w10 hf10'
end Go.Proofs.YtkojpppnjloikaaDoor
namespace Go.Proofs.YtkojpppnjloikaaDoor
open Go.RowKit Go.Fl

abbrev laid2 : List (String × DataW Unit) := [("flume/digest.first", Rows.laid_flume_digest_first), ("flume/digest.rounds", Rows.laid_flume_digest_rounds)]
/-- The door's own heap meets the condition. -/
theorem door_met (os : Os) (args : Array Value) : laidMetH Tryd.prog laid2 ((World.doorLaid Tryd.prog 400 os).forCall (fun _ _ => 0) ⟨#[], args, []⟩).memory :=
  laidMetH_of_parts3 (fuel := 8) (laidMet_of_run' 8 (by kernel_rfl) (by kernel_rfl)) (by kernel_rfl) (by kernel_rfl)
theorem glob_of_tab {W : World} {name : String} {zs : List Int} {g : Nat} (h : Lib.TabIs Tryd.prog W name .u32 zs) (hg : Tryd.prog.globalNamed name = some g) : Glob W g zs := fun i hi => by
  rw [h.cell hg i hi, List.getD_eq_getElem?_getD, List.getElem?_eq_getElem hi]
  rfl
def tabTyB (P : Program) (g n : Nat) : Bool := match (P.globals[g]?).map (·.type) with
  | some t => match P.underlying t with
    | some (.array m e) => match P.underlying e with
      | some (.int .u32) => m == n && P.cellsOf e == 1 && P.cellsOf t == n
      | _ => false
    | _ => false
  | none => false
theorem tab_of {P : Program} {W : World} {name : String} {zs : List Int} {rest : List (String × DataW Unit)} {g n : Nat} (hg : P.globalNamed name = some g) (hB : tabTyB P g n = true) (h : laidMet P ((name, Lib.tabData .u32 zs) :: rest) W) : Lib.TabIs P W name .u32 zs := by
  unfold tabTyB at hB
  split at hB
  · rename_i t ht
    split at hB
    · rename_i m e hu
      split at hB
      · rename_i he
        simp only [Bool.and_eq_true, beq_iff_eq] at hB
        obtain ⟨⟨rfl, h1⟩, h2⟩ := hB
        exact Lib.tabIs_of_head hg ht hu he h1 h2 h
      · cases hB
    · cases hB
  · cases hB
theorem dig_of_laid {W : World} (h : laidMetH Tryd.prog laid2 W) : Dig W := by
  rw [MakeChecks.laidMetH_plain _ _ _ (by kernel_rfl)] at h
  have h1 : laidMet Tryd.prog (("flume/digest.first", Lib.tabData .u32 F0) :: [("flume/digest.rounds", Lib.tabData .u32 K0)]) W := h
  exact ⟨glob_of_tab (tab_of (g := g_digest_first) (n := 8) (by kernel_rfl) (by kernel_rfl) h1) (by kernel_rfl), glob_of_tab (tab_of (g := g_digest_rounds) (n := 64) (by kernel_rfl) (by kernel_rfl) h1.tail) (by kernel_rfl)⟩
end Go.Proofs.YtkojpppnjloikaaDoor
