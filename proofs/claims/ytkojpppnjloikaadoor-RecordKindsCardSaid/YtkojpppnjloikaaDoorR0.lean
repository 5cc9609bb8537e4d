/- Contracts: a record's Check, Make, Open. -/
import Derived.Test.YtkojpppnjloikaaDoorC1
import Derived.Test.YtkojpppnjloikaaDoorC10
import Derived.Test.YtkojpppnjloikaaDoorD1
import Derived.Test.YtkojpppnjloikaaDoorFlNote
import Derived.Stop.BytesEq
namespace Go.Proofs.YtkojpppnjloikaaDoor
open Go.RowKit Go.Fl

abbrev rcV (p : RecT) : Value := .agg ((([.int .i64 p.1, .int .i64 p.2.1] : List Value) ++ (p.2.2.1.1 ++ ([.slice p.2.2.2.1.a p.2.2.2.1.n p.2.2.2.1.c] : List Value)))).toArray
theorem sumGuard : Tryd.prog.eqGuardType Tryd.prog.depth t_api_Sum = false := by kernel_rfl
theorem size_u8 (w : World) : (sizeOf t_uint8).run Tryd.prog w = .ok 1 w := by
  obtain ⟨i, z, hi, hz, hsize, hby, hzs⟩ := slB.info
  simp [sizeOf, typeInfo, hi, hsize]
theorem sumEq {a b : List UInt8} (ha : a.length = 32) (hb : b.length = 32) (w : World) : (Op.equalIn 10000 t_api_Sum (.agg (u8s a).toArray) (.agg (u8s b).toArray)).run Tryd.prog w = .ok (a == b) w :=
  run_equalIn_bytes w 9998 t_api_Sum t_uint8 32 u_api_Sum u_uint8 size_u8 a b ha hb
theorem qnEq {a b : List UInt8} (ha : a.length = 32) (hb : b.length = 32) {w : World} {K : Bool → Prop} (k : K (decide (a = b))) : qn Tryd.prog (do eqGuard .eql t_api_Sum (.const .nilIface) (.const .nilIface) (.agg (u8s a).toArray) (.agg (u8s b).toArray); binOp .eql t_api_Sum (.agg (u8s a).toArray) (.agg (u8s b).toArray)) .B w K := by
  refine ⟨decide (a = b), fun w' _ => ?_, k⟩
  rw [Sem.run_bind]
  have h1 : (eqGuard .eql t_api_Sum (.const .nilIface) (.const .nilIface) (.agg (u8s a).toArray) (.agg (u8s b).toArray)).run Tryd.prog w' = .ok () w' := by simp [eqGuard, program, Sem.run, sumGuard]
  rw [h1, Result.andThen_ok, run_eql_struct, sumEq ha hb]
  simp only [Result.andThen_ok]
  rw [show (a == b) = decide (a = b) from by rw [Bool.eq_iff_iff]; simp]
  rfl
theorem qnNe {a b : List UInt8} (ha : a.length = 32) (hb : b.length = 32) {w : World} {K : Bool → Prop} (k : K (!decide (a = b))) : qn Tryd.prog (do eqGuard .neq t_api_Sum (.const .nilIface) (.const .nilIface) (.agg (u8s a).toArray) (.agg (u8s b).toArray); binOp .neq t_api_Sum (.agg (u8s a).toArray) (.agg (u8s b).toArray)) .B w K := by
  refine ⟨!decide (a = b), fun w' _ => ?_, k⟩
  rw [Sem.run_bind]
  have h1 : (eqGuard .neq t_api_Sum (.const .nilIface) (.const .nilIface) (.agg (u8s a).toArray) (.agg (u8s b).toArray)).run Tryd.prog w' = .ok () w' := by simp [eqGuard, program, Sem.run, sumGuard]
  rw [h1, Result.andThen_ok, run_neq_struct, sumEq ha hb]
  simp only [Result.andThen_ok]
  rw [show (a == b) = decide (a = b) from by rw [Bool.eq_iff_iff]; simp]
  rfl
theorem Check_ok {p : RecT} {w : World} : cl Tryd.prog n_record_Check #[rcV p] (.I .i64) w fun (r : Int) w' => r = chkS p.1 p.2.1 p.2.2.2.1.n ∧ Fr w w' := by
  refine record_Check.cl (p0 := p) ?_
  unfold record_Check
  rw [rcL_nil]
  refine nwI fun a1 w2 ha hs hf hb _ => ?_
  have hr := p.2.2.1.2
  have c0 : (rcL p []).toArray[0]? = some (.int .i64 p.1) := rfl
  have c1 : (rcL p []).toArray[1]? = some (.int .i64 p.2.1) := rfl
  have c34 : (rcL p []).toArray[34]? = some (.slice p.2.2.2.1.a p.2.2.2.1.n p.2.2.2.1.c) := by
    have e : rcL p [] = ([Value.int .i64 p.1, .int .i64 p.2.1] ++ p.2.2.1.1) ++ [slV p.2.2.2.1] := by simp [rcL]
    rw [e, List.getElem?_toArray, List.getElem?_append_right (by simp [hr]), List.length_append, hr]
    rfl
  generalize rcL p [] = cs at *
  rw [addOff, addOff]
  refine ldL0 (s := p.2.2.2.1) hb c34 ?_
  intro j1
  have hj : ∀ y : Bool, (y = true ↔ ((p.1 = 1 ∧ p.2.2.2.1.n = 0) ∨ (p.1 = 2 ∧ (p.2.2.2.1.n : Int) = p.2.1) ∨ (p.1 = 3 ∧ p.2.2.2.1.n ≤ 256))) → j1 y w2 := by
    intro y hy
    show bif (!y) then _ else _
    unfold chkS
    cases y with
    | false =>
      refine bT rfl ⟨?_, hf⟩
      rw [if_neg fun h => by have := hy.2 h.1; cases this]
    | true =>
      refine bF rfl ?_
      have h := hy.1 rfl
      refine ldI0 hb c1 (bD (fun h1 => ⟨?_, hf⟩) fun h1 => ldI0 hb c1 (bD (fun h2 => ⟨?_, hf⟩) fun h2 => ⟨?_, hf⟩))
      · rw [if_neg (by omega)]
      · rw [if_neg (by omega)]
      · rw [if_pos ⟨h, by omega, by omega⟩]
  clear_value j1
  refine ldI0 hb c0 ?_
  refine bE ?_ ?_ <;> intro h1
  · refine ldL0 (s := p.2.2.2.1) hb c34 (hj _ ?_)
    simp [h1]
  refine bE ?_ ?_ <;> intro h2
  · refine ldL0 (s := p.2.2.2.1) hb c34 (ldI0 hb c1 (hj _ ?_))
    simp [h2]
  refine bE ?_ ?_ <;> intro h3
  · refine hj _ ?_
    simp [h3]
    omega
  · refine hj false ?_
    simp [h1, h2, h3]
/-- The record of nothing. -/
def rc0 : RecT := (0, 0, zrow 32 (.int .u8 0), ⟨none, 0, 0⟩, ())
theorem rc0_one : ∀ v ∈ rc0.2.2.1.1, v.oneCell' = true := fun v hv => by
  simp only [rc0, zrow] at hv
  rw [List.eq_of_mem_replicate hv]
  rfl
/-- What is made of a chunk. -/
def MakeP (w : World) (b : List UInt8) (known : Bool) (r : RecT × Int × Unit) : Prop :=
  if b.length < 1 ∨ b.length > 256 then r = (rc0, 100, ())
  else r.2 = (0, ()) ∧ r.1.2.1 = b.length ∧ r.1.2.2.1.1 = u8s (dig b) ∧
    (if known then r.1.1 = 1 ∧ r.1.2.2.2.1 = ⟨none, 0, 0⟩ else if (shortS b).length < b.length then r.1.1 = 3 ∧ Bs w r.1.2.2.2.1 (shortS b) else r.1.1 = 2 ∧ Bs w r.1.2.2.2.1 b)
theorem Make_ok {s : Sl} {b : List UInt8} {known : Bool} {w : World} (hd : Dig w) (hs : Bs w s b) (hl : b.length ≤ 1048576) :
    cl Tryd.prog n_record_Make #[.slice s.a s.n s.c, .bool known] (.tup (.pair (.pair (.I .i64) (.pair (.I .i64) (.pair (.row 32) (.pair .L .nil)))) (.pair (.I .i64) .nil))) w fun (r : RecT × Int × Unit) w' => MakeP w' b known r ∧ Fr w w' := by
  refine record_Make.cl ?_
  unfold record_Make
  have hn := hs.len
  refine nwI fun a1 w2 ha1 hs2 hf2 hb1 _ => ?_
  refine nwI fun a3 w4 ha3 hs4 hf4 hb3 _ => ?_
  have hf4' := hf2.trans hf4
  refine (Of_ok (x := s) (hd.fr hf4') hb3 (hs.fr hf4') (by omega)).mono ?_
  rintro ⟨x5, hx5⟩ w6 ⟨hx, hf6⟩
  dsimp only at hx
  have hdl := dig_length b
  obtain ⟨d, hdg⟩ : ∃ d, dig b = d := ⟨_, rfl⟩
  rw [hdg] at hx hdl
  subst hx
  have hf6' := hf4'.trans hf6
  refine nwI fun a7 w8 ha7 hs8 hf8 hb7 _ => ?_
  have hf8' := hf6'.trans hf8
  have h1at := ((hf4.trans hf6).trans hf8).heap hb1
  have hlt1 := hf4.size
  have hlt6 := hf6.size
  have hone := u8s_one d
  refine stRec (pre := []) (post := []) (q := rc0) hb7 (1, (s.n : Int), ⟨u8s d, hx5⟩, ⟨none, 0, 0⟩, ()) hone fun w12 hb12 hg12 hs12 => ?_
  have hf12 : Fr w w12 := hf8'.on (grown_below hg12 (by have := hf2.size; omega) hf8'.size)
  have h1at12 : w12.heap[a1]? = some (.cells (rcL rc0 []).toArray t_api_Record (0, 0)) := by
    rw [hg12.block a1 (Array.getElem?_eq_some_iff.1 h1at).1 (by simp; omega)]; exact h1at
  intro j1
  /- the results' block is written and read -/
  have fin : ∀ (u : World) (p : RecT) (e : Int) (K : RecT × Int × Unit → World → Prop), (∀ v ∈ p.2.2.1.1, v.oneCell' = true) → Fr w u → (∃ q : RecT, u.heap[a1]? = some (.cells ([] ++ rcL q []).toArray t_api_Record (0, 0))) → (∀ u', Fr w u' → (∀ k, k < u.heap.size → k ≠ a1 → u'.heap[k]? = u.heap[k]?) → K (p, e, ()) u') →
      st1 u ⟨a1, 0, none⟩ (.int .i64 p.1) fun w1 => st1 w1 ((⟨a1, 0, none⟩ : Addr).add 1) (.int .i64 p.2.1) fun w2 => stL (((⟨a1, 0, none⟩ : Addr).add 1).add 1) w2 0 p.2.2.1.1 fun w3 => st1 w3 ((((⟨a1, 0, none⟩ : Addr).add 1).add 1).add 32) (.slice p.2.2.2.1.a p.2.2.2.1.n p.2.2.2.1.c) fun w4 =>
        ld (.pair (.I .i64) (.pair (.I .i64) (.pair (.row 32) (.pair .L .nil)))) w4 ⟨a1, 0, none⟩ fun (r : RecT) => K ((r.1, (r.2.1, (r.2.2.1, (r.2.2.2.1, ())))), (e, ())) w4 := by
    rintro u p e K hp hfu ⟨q, hq⟩ hK
    refine stRec (pre := []) (post := []) (q := q) hq p hp fun u' hb' hg' hs' => ?_
    refine ldRec (pre := []) (post := []) (p := p) hb' ?_
    exact hK u' (hfu.on (grown_below hg' (by omega) hfu.size)) fun k hk hne => hg'.block k hk (by simp; omega)
  have hj : ∀ y : Bool, (y = true ↔ (b.length < 1 ∨ b.length > 256)) → j1 y w12 := by
    intro y hy
    show bif y then _ else _
    cases y with
    | true =>
      refine bT rfl ?_
      refine fin w12 rc0 100 (fun r w' => MakeP w' b known r ∧ Fr w w') rc0_one hf12 ⟨rc0, h1at12⟩ fun u' hf _ => ⟨?_, hf⟩
      unfold MakeP
      rw [if_pos (hy.1 rfl)]
    | false =>
      refine bF rfl ?_
      have hbd : ¬(b.length < 1 ∨ b.length > 256) := fun h => by have := hy.2 h; cases this
      cases known with
      | true =>
        refine bT rfl ?_
        refine ldRec (pre := []) (post := []) hb12 ?_
        refine fin w12 (1, (s.n : Int), ⟨u8s d, hx5⟩, ⟨none, 0, 0⟩, ()) 0 (fun r w' => MakeP w' b true r ∧ Fr w w') hone hf12 ⟨rc0, h1at12⟩ fun u' hf _ => ⟨?_, hf⟩
        unfold MakeP
        rw [if_neg hbd]
        exact ⟨rfl, by dsimp only; omega, by rw [hdg], rfl, rfl⟩
      | false =>
        refine bF rfl ?_
        refine (Clone_byte_ok (hs.fr hf12) (by omega)).mono ?_
        rintro x31 w32 ⟨h31, hf32⟩
        have hb32 := hf32.heap hb12
        have hf32' := hf12.trans hf32
        have h1at32 := hf32.heap h1at12
        have hne17 : a1 ≠ a7 := by have := hf4.size; omega
        have ha7w : w.heap.size ≤ a7 := by have := hf6'.size; omega
        have ha1w : a1 < w32.heap.size := (Array.getElem?_eq_some_iff.1 h1at32).1
        refine stKD (p := (1, (s.n : Int), ⟨u8s d, hx5⟩, ⟨none, 0, 0⟩, ())) hb32 fun w34 hb34 hg34 hs34 => ?_
        have hf34 : Fr w w34 := hf32'.on (grown_below hg34 ha7w hf32'.size)
        have h1at34 : w34.heap[a1]? = _ := (hg34.block a1 ha1w (by simp; omega)).trans h1at32
        have h31a7 : b ≠ [] → ∀ ad, x31.a = some ad → ad.block ≠ a7 ∧ ad.block ≠ a1 := fun hb ad had => by
          have := (h31.own ad had).1
          have := (Array.getElem?_eq_some_iff.1 hb12).1
          have := (Array.getElem?_eq_some_iff.1 h1at12).1
          omega
        have h31' : Bs w34 x31 b := h31.bs.kpn (kp_grown hg34) fun hb ad had => (h31a7 hb ad had).1
        intro j2
        have hj2 : ∀ (u : World) (k : Int) (x : Sl) (l : List UInt8), Fr w u → u.heap[a7]? = some (.cells (rcL (k, (s.n : Int), ⟨u8s d, hx5⟩, x, ()) []).toArray t_api_Record (0, 0)) → u.heap[a1]? = some (.cells (rcL rc0 []).toArray t_api_Record (0, 0)) → Bs u x l → (l ≠ [] → ∀ ad, x.a = some ad → ad.block ≠ a1) →
            (if (shortS b).length < b.length then k = 3 ∧ l = shortS b else k = 2 ∧ l = b) → j2 u := by
          intro u k x l hfu h7 h1 hx hxa hkl
          show ld _ u ⟨a7, 0, none⟩ _
          refine ldRec (pre := []) (post := []) (p := (k, (s.n : Int), ⟨u8s d, hx5⟩, x, ())) h7 ?_
          refine fin u (k, (s.n : Int), ⟨u8s d, hx5⟩, x, ()) 0 (fun r w' => MakeP w' b false r ∧ Fr w w') hone hfu ⟨rc0, h1⟩ fun u' hf' hk' => ⟨?_, hf'⟩
          have hx' : Bs u' x l := hx.kpn (S := fun k => k ≠ a1) (fun k hk hne => hk' k hk hne) hxa
          unfold MakeP
          rw [if_neg hbd]
          refine ⟨rfl, by dsimp only; omega, by rw [hdg], ?_⟩
          rw [if_neg (by decide)]
          split
          · rename_i hlt; rw [if_pos hlt] at hkl; obtain ⟨rfl, rfl⟩ := hkl; exact ⟨rfl, hx'⟩
          · rename_i hlt; rw [if_neg hlt] at hkl; obtain ⟨rfl, rfl⟩ := hkl; exact ⟨rfl, hx'⟩
        clear_value j2
        refine (Shorten_ok (hs.fr hf34) (by omega)).mono ?_
        rintro x35 w36 ⟨h35, hf36⟩
        have h35n := h35.len
        have hb36 := hf36.heap hb34
        have h1at36 := hf36.heap h1at34
        refine bD ?_ ?_ <;> intro hlt
        · refine stKD hb36 fun w38 hb38 hg38 hs38 => ?_
          have hs34' := hf34.size
          have l7 := (Array.getElem?_eq_some_iff.1 hb34).1
          have l1 := (Array.getElem?_eq_some_iff.1 h1at34).1
          refine hj2 w38 3 x35 (shortS b) ((hf34.trans hf36).on (grown_below hg38 ha7w (hf34.trans hf36).size)) hb38 ((hg38.block a1 (Array.getElem?_eq_some_iff.1 h1at36).1 (by simp; omega)).trans h1at36) (h35.bs.kpn (kp_grown hg38) fun _ ad had => by have := (h35.own ad had).1; omega) (fun _ ad had => by have := (h35.own ad had).1; omega) ?_
          rw [if_pos (by omega)]
          exact ⟨rfl, rfl⟩
        · refine hj2 w36 2 x31 b (hf34.trans hf36) hb36 h1at36 (h31'.fr hf36) (fun hb ad had => (h31a7 hb ad had).2) ?_
          rw [if_neg (by omega)]
          exact ⟨rfl, rfl⟩
  clear_value j1
  refine bD ?_ ?_ <;> intro h1
  · exact hj true ⟨fun _ => by omega, fun _ => rfl⟩
  · exact hj _ (by rw [decide_eq_true_iff]; omega)
end Go.Proofs.YtkojpppnjloikaaDoor
