/- Contracts: a record's Open. -/
import Derived.Test.YtkojpppnjloikaaDoorR0
import Derived.Test.YtkojpppnjloikaaDoorC7
namespace Go.Proofs.YtkojpppnjloikaaDoor
open Go.RowKit Go.Fl

/-- What is opened of a record. -/
def openS (k s : Int) (d l : List UInt8) : List UInt8 × Int :=
  if chkS k s l.length ≠ 0 then ([], 100) else if k = 1 then ([], 110)
  else if k = 3 ∧ ((restS l s).2 ≠ 0 ∨ ((restS l s).1.length : Int) ≠ s) then ([], 100)
  else if dig (if k = 3 then (restS l s).1 else l) = d then (if k = 3 then (restS l s).1 else l, 0) else ([], 111)
theorem chkS_ok {k s : Int} {n : Nat} (h : chkS k s n = 0) : ((k = 1 ∧ n = 0) ∨ (k = 2 ∧ (n : Int) = s) ∨ (k = 3 ∧ n ≤ 256)) ∧ 1 ≤ s ∧ s ≤ 256 := by
  unfold chkS at h
  split at h
  · assumption
  · cases h
theorem rc_c34 (p : RecT) : (rcL p []).toArray[34]? = some (slV p.2.2.2.1) := by
  have e : rcL p [] = ([Value.int .i64 p.1, .int .i64 p.2.1] ++ p.2.2.1.1) ++ [slV p.2.2.2.1] := by simp [rcL]
  have hr := p.2.2.1.2
  rw [e, List.getElem?_toArray, List.getElem?_append_right (by simp [hr]), List.length_append, hr]
  rfl
theorem Open_ok {p : RecT} {d l : List UInt8} {w : World} (hd : Dig w) (hp : p.2.2.1.1 = u8s d) (hl : Bs w p.2.2.2.1 l) (hll : l.length ≤ 1048576) :
    cl Tryd.prog n_record_Open #[rcV p] (.tup (.pair .L (.pair (.I .i64) .nil))) w fun (r : Sl × Int × Unit) w' => OwB w' w.heap.size t_uint8 r.1 (openS p.1 p.2.1 d l).1 ∧ r.2 = ((openS p.1 p.2.1 d l).2, ()) ∧ Fr w w' := by
  refine record_Open.cl (p0 := p) ?_
  unfold record_Open
  rw [rcL_nil]
  have hn := hl.len
  have hdl : d.length = 32 := by have := p.2.2.1.2; rw [hp, u8s_length] at this; exact this
  refine nwI fun a1 w2 ha hs2 hf2 hb _ => ?_
  refine ldRec (pre := []) (post := []) hb ?_
  refine (Check_ok (p := p)).mono ?_
  rintro e w5 ⟨rfl, hf5⟩
  have hb5 := hf5.heap hb
  have hf5' := hf2.trans hf5
  rw [hn]
  refine bNe ?_ ?_ <;> intro hc
  · have e : openS p.1 p.2.1 d l = ([], 100) := by rw [openS, if_pos hc]
    have e1 : chkS p.1 p.2.1 l.length = 100 := by unfold chkS at hc ⊢; split at hc; exact absurd rfl hc; rw [if_neg (by assumption)]
    rw [e, e1]
    exact ⟨OwB.nil _ _ _, rfl, hf5'⟩
  have hok := chkS_ok hc
  have c0 : (rcL p []).toArray[0]? = some (.int .i64 p.1) := rfl
  have c1 : (rcL p []).toArray[1]? = some (.int .i64 p.2.1) := rfl
  rw [addOff, addOff, addOff]
  refine ldL0 (s := p.2.2.2.1) hb5 (rc_c34 p) ?_
  refine (Clone_byte_ok (hl.fr hf5') (by omega)).mono ?_
  rintro x7 w8 ⟨h7, hf8⟩
  have hf8' := hf5'.trans hf8
  have hb8 := hf8.heap hb5
  intro j1
  have hj : ∀ (y : Sl) (u : World) (m : List UInt8), OwB u w.heap.size t_uint8 y m → w.heap.size < u.heap.size → m.length ≤ 1048576 → Fr w u → u.heap[a1]? = some (.cells (rcL p []).toArray t_api_Record (0, 0)) → (openS p.1 p.2.1 d l = if dig m = d then (m, 0) else ([], 111)) → j1 y u := by
    intro y u m hy hus hm hfu hbu ho
    show dr u _
    intro n
    have hfn := Fr.drewN u n
    refine ldRow (vs := u8s d) (hfn.heap hbu) (by rw [← hp, Nat.zero_add]; unfold rcL; rw [show ((Value.int .i64 p.1 :: .int .i64 p.2.1 :: (p.2.2.1.1 ++ (slV p.2.2.2.1 :: []))).drop 2) = p.2.2.1.1 ++ [slV p.2.2.2.1] from rfl, List.take_left' p.2.2.1.2]) (by rw [u8s_length, hdl]) ?_
    refine nwI fun a26 w27 ha26 hs27 hf27 hb27 _ => ⟨hf27, ?_⟩
    have hfw := (hfu.trans hfn).trans hf27
    refine (Of_ok (x := y) (hd.fr hfw) hb27 ((hy.fr (hfn.trans hf27)).bs) (by omega)).mono ?_
    rintro ⟨x28, hx28⟩ w29 ⟨hx, hf29⟩
    refine ⟨hf29, ?_⟩
    dsimp only at hx ⊢
    subst hx
    have hdm := dig_length m
    refine qnNe hdm hdl ?_
    rw [ho]
    by_cases h : dig m = d
    · rw [if_pos h, decide_eq_true h]
      exact ⟨hy.fr ((hfn.trans hf27).trans hf29), rfl, hfw.trans hf29⟩
    · rw [if_neg h, decide_eq_false h]
      exact ⟨OwB.nil _ _ _, rfl, hfw.trans hf29⟩
  clear_value j1
  refine ldI0 hb8 c0 ?_
  refine bE ?_ ?_ <;> intro h1
  · have e : openS p.1 p.2.1 d l = ([], 110) := by rw [openS, if_neg (by omega), if_pos h1]
    rw [e]
    exact ⟨OwB.nil _ _ _, rfl, hf8'⟩
  refine bE ?_ ?_ <;> intro h3
  · refine ldL0 (s := p.2.2.2.1) hb8 (rc_c34 p) (ldI0 hb8 c1 ?_)
    refine (Restore_ok (hl.fr hf8') (by omega) (by omega)).mono ?_
    rintro ⟨x12, e12, ⟨⟩⟩ w13 ⟨h12, he, hf13⟩
    dsimp only at h12 he ⊢
    obtain ⟨rfl, _⟩ := Prod.mk.inj he
    have hb13 := hf13.heap hb8
    have hlen := h12.len
    have hf13' := hf8'.trans hf13
    refine bNe ?_ ?_ <;> intro hr
    · have e : openS p.1 p.2.1 d l = ([], 100) := by rw [openS, if_neg (by omega), if_neg h1, if_pos ⟨h3, .inl (by omega)⟩]
      rw [e]
      exact ⟨OwB.nil _ _ _, rfl, hf13'⟩
    refine ldI0 hb13 c1 ?_
    refine bNe ?_ ?_ <;> intro hr2
    · have e : openS p.1 p.2.1 d l = ([], 100) := by rw [openS, if_neg (by omega), if_neg h1, if_pos ⟨h3, .inr (by omega)⟩]
      rw [e]
      exact ⟨OwB.nil _ _ _, rfl, hf13'⟩
    refine hj x12 w13 _ (h12.mono hf8'.size) (by have := hf5.size; have := hf8.size; have := hf13.size; omega) (by omega) hf13' hb13 ?_
    rw [openS, if_neg (by omega), if_neg h1, if_neg (by omega), if_pos h3]
  · refine hj x7 w8 l (h7.mono hf5'.size) (by have := hf5.size; have := hf8.size; omega) (by omega) hf8' hb8 ?_
    rw [openS, if_neg (by omega), if_neg h1, if_neg (by omega), if_neg h3]
end Go.Proofs.YtkojpppnjloikaaDoor
