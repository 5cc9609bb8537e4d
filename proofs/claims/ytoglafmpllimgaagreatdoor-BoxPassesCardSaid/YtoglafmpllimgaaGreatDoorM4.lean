/- Contracts and plain laws that the claims of this seat lean on, put together. -/
import Derived.Test.YtoglafmpllimgaaGreatDoorM3
import Derived.ProofKit
import Derived.OpenShut
import Derived.Test.YtoglafmpllimgaaGreatDoorRows
import Derived.Lib.LaidTab
import Derived.LaidMore
import Derived.Stop.LaidErr
import Derived.Stop.Joined
namespace Go.Fl

theorem inv_tn0 {me : Int} (h : 1 ≤ me ∧ me ≤ 1099511627776) : (tn0 me).inv :=
  ⟨h, ⟨Int.le_refl _, by show (0 : Int) ≤ _; decide⟩, ⟨Int.le_refl _, by show (0 : Int) ≤ _; decide⟩, fun k b hk => (by cases hk), fun x hx => (by cases hx), fun b hb => (by cases hb), by show 0 + 0 ≤ 64; decide, Int.le_refl _, by show (0 : Int) < 64; decide⟩
theorem Tn.inv.say {t : Tn} (h : t.inv) (f : Fm) : (t.say f).inv := ⟨h.me, h.you, h.ex, h.early, h.way, h.queue, h.room, h.sil⟩
theorem Tn.inv.clear {t : Tn} (h : t.inv) : t.clear.inv := ⟨h.me, h.you, h.ex, h.early, h.way, h.queue, h.room, h.sil⟩
theorem Tn.inv.calm {t : Tn} (h : t.inv) : ({ t with sil := 0 } : Tn).inv := ⟨h.me, h.you, h.ex, h.early, h.way, h.queue, h.room, Int.le_refl _, by show (0 : Int) < 64; decide⟩
theorem Tn.inv.hint {t : Tn} (h : t.inv) (n : Int) : (t.hint n).inv := by
  unfold Tn.hint; split
  · exact h.say _
  · exact h
theorem Tn.inv.fresh {t : Tn} (h : t.inv) {you : Int} (hy : 0 ≤ you ∧ you ≤ 1099511627776) : (t.fresh you).inv :=
  ⟨h.me, hy, ⟨Int.le_refl _, by show (0 : Int) ≤ _; decide⟩, fun k b hk => (by cases hk), fun x hx => (by cases hx), fun b hb => (by cases hb), by show 0 + 0 ≤ 64; decide, Int.le_refl _, by show (0 : Int) < 64; decide⟩
theorem Tn.inv.beg {t : Tn} (h : t.inv) {you : Int} (hy : 0 ≤ you ∧ you ≤ 1099511627776) : (t.beg you).inv := (h.fresh hy).say _
theorem Tn.inv.fin {t : Tn} (h : t.inv) : t.fin.inv := by
  have h1 := h.me
  have e : wr (t.me + 1) = t.me + 1 := by rw [wr, IntKind.wrap_i64]; omega
  refine ⟨?_, h.you, ⟨Int.le_refl _, by show (0 : Int) ≤ _; decide⟩, fun k b hk => (by cases hk), fun x hx => (by cases hx), fun b hb => (by cases hb), by show 0 + 0 ≤ 64; decide, Int.le_refl _, by show (0 : Int) < 64; decide⟩
  show 1 ≤ min (wr (t.me + 1)) 1099511627776 ∧ min (wr (t.me + 1)) 1099511627776 ≤ 1099511627776
  rw [e]; omega
theorem Tn.inv.slideF : ∀ (k : Nat) {t : Tn}, t.inv → (Go.Fl.slideF k t).inv
  | 0, _, h => h
  | k + 1, t, h => by
    unfold Go.Fl.slideF
    split
    · exact h
    · rename_i b q hq
      split
      · refine Tn.inv.slideF k ⟨h.me, h.you, h.ex, h.early, fun x hx => ?_, fun c hc => h.queue c (by rw [hq]; exact List.mem_cons_of_mem _ hc), ?_, h.sil⟩
        · have hx : x ∈ t.way ++ [(wr (t.next + 1), b, 0)] := hx
          rcases List.mem_append.1 hx with hx | hx
          · exact h.way x hx
          · rw [List.mem_singleton] at hx
            rw [hx]
            exact h.queue b (by rw [hq]; exact List.mem_cons_self ..)
        · have := h.room
          rw [hq] at this
          show q.length + (t.way ++ [(wr (t.next + 1), b, 0)]).length ≤ 64
          simp at this ⊢; omega
      · exact h
theorem Tn.inv.slide {t : Tn} (h : t.inv) : t.slide.inv := Tn.inv.slideF _ h
theorem Tn.inv.hello {t : Tn} (h : t.inv) {f : Fm} (hf : f.ok) : (t.hello f).inv := by
  have := hf.1
  unfold Tn.hello
  split
  · split
    · exact h.say _
    · exact h
  · split
    · exact h.beg (by omega)
    · split
      · exact h.calm
      · exact h
theorem Tn.inv.keep {t : Tn} (h : t.inv) {f : Fm} (hf : f.ok) : (t.keep f).inv := by
  have := okF_in hf
  unfold Tn.keep
  split
  · rename_i hc
    refine ⟨h.me, h.you, h.ex, fun k b hk => ?_, h.way, h.queue, h.room, h.sil⟩
    dsimp only [setE] at hk
    split at hk
    · rename_i e
      cases hk
      show t.expect < k ∧ k ≤ t.expect + 16 ∧ _
      rw [e]
      omega
    · exact h.early k b hk
  · exact h
theorem tellF_inv : ∀ (n : Nat) {t : Tn} {l : List (List UInt8)}, t.inv → (tellF n t l).1.inv
  | 0, _, _, h => h
  | n + 1, t, l, h => by
    unfold tellF
    split
    · exact h
    · rename_i b hb
      have h1 := h.early _ _ hb
      have h2 := h.ex
      refine tellF_inv n ⟨h.me, h.you, ⟨by show 0 ≤ t.expect + 1; omega, h1.2.2.1⟩, fun k c hk => ?_, h.way, h.queue, h.room, h.sil⟩
      dsimp only [setE] at hk
      split at hk
      · cases hk
      · have := h.early k c hk
        show t.expect + 1 < k ∧ k ≤ t.expect + 1 + 16 ∧ _
        omega
theorem Tn.inv.data {t : Tn} (h : t.inv) {f : Fm} (hf : f.ok) : (t.data f).1.inv := (tellF_inv 17 (h.keep hf)).say _
theorem Tn.inv.ack {t : Tn} (h : t.inv) (f : Fm) : (t.ack f).inv := by
  refine Tn.inv.slide ⟨h.me, h.you, h.ex, h.early, fun x hx => h.way x (List.mem_filter.1 hx).1, h.queue, ?_, h.sil⟩
  have := h.room
  have := List.length_filter_le (fun x => !gone f x) t.way
  show t.queue.length + (t.way.filter fun x => !gone f x).length ≤ 64
  omega
theorem Tn.inv.take {t : Tn} (h : t.inv) (b : List UInt8) : (t.take b).1.inv := by
  unfold Tn.take
  split
  · exact h
  · rename_i f hf
    have hok := (getF_back hf).1
    split
    · exact h.hello hok
    · split
      · show (if _ then _ else _ : Tn).inv
        split
        · exact h.say _
        · exact h
      · split
        · exact h.calm.ack f
        · exact h.calm.data hok
/-- Datagrams come, one by one. -/
def takes (t : Tn) : List (List UInt8) → Tn × List (List UInt8)
  | [] => (t, [])
  | b :: l => ((takes (t.take b).1 l).1, (t.take b).2.1 ++ (takes (t.take b).1 l).2)
end Go.Fl
namespace Go.Fl
def synP : Pk := ⟨1, 2, 1000, 80, 9, 0, 1, 1024, 0, 0, []⟩
def askP : Pk := { synP with probe := 1 }
def synB : List UInt8 := bytesP synP
def askB : List UInt8 := bytesP askP
def helB : List UInt8 := (putF { hel 1 with fr := 1 }).1
theorem syn_ok : synP.ok := by unfold Pk.ok synP okPk; decide
theorem ask_ok : askP.ok := by unfold Pk.ok askP synP okPk; decide
theorem syn_q : synP.q := by unfold Pk.q synP; decide
theorem ask_q : askP.q := by unfold Pk.q askP synP; decide
theorem syn_put : putP synP = (synB, 0) := if_pos syn_ok
theorem ask_put : putP askP = (askB, 0) := if_pos ask_ok
theorem syn_get : getP synB = some synP := getP_put syn_ok syn_q
theorem ask_get : getP askB = some askP := getP_put ask_ok ask_q
theorem ask_len : askB.length = 32 := by decide +kernel
theorem hel_get : getP helB = none := Option.isNone_iff_eq_none.1 (by decide +kernel)
theorem hel_take : ((tn0 1).take helB).2.1 = [] ∧ ((tn0 1).take helB).1.you = 1 ∧ ((tn0 1).take helB).1.epoch = 1 ∧ ((tn0 1).take helB).1.up = true ∧ ((tn0 1).take helB).1.me = 1 :=
  ⟨by decide +kernel, by decide +kernel, by decide +kernel, by decide +kernel, by decide +kernel⟩
theorem hel_len : helB.length ≤ 100 := by decide +kernel
end Go.Fl
namespace Go.Proofs.YtoglafmpllimgaaGreatDoor
open Go.RowKit Go.Fl

/-- What may turn: the environment's own blocks E, and those of two boxes. -/
abbrev Z2 (E Fa Fb : Nat → Prop) : Nat → Prop := fun k => E k ∨ Fa k ∨ Fb k
/-- Two boxes without flows, made since a world. E: what the environment turns. -/
structure Nb2 (w v : World) (E Fa Fb : Nat → Prop) (ga gb : Nat) (a : Bb) (ta : Tn) (b : Bb) (tb : Tn) : Prop where
  one : NbIs v (fun k => E k ∨ Fb k) Fa ga a ta
  two : NbIs v (fun k => E k ∨ Fa k) Fb gb b tb
  fr0 : Fr w v
  new : ∀ k, Fa k ∨ Fb k → w.heap.size ≤ k
section
variable {w v v' : World} {G F E E' Fa Fb Fa' Fb' : Nat → Prop} {ga gb g : Nat} {a b a' b' : Bb} {ta tb ta' t : Tn}
theorem zA {k : Nat} (h : Zt (fun k => E k ∨ Fb k) Fa k) : Z2 E Fa Fb k := by
  rcases h with (h | h) | h
  · exact .inl h
  · exact .inr (.inr h)
  · exact .inr (.inl h)
theorem zA' {k : Nat} (h : Z2 E Fa Fb k) : Zt (fun k => E k ∨ Fb k) Fa k := by
  rcases h with h | h | h
  · exact .inl (.inl h)
  · exact .inr h
  · exact .inl (.inr h)
theorem zS {k : Nat} (h : Z2 E Fb Fa k) : Z2 E Fa Fb k := h.imp id Or.symm
theorem NbIs.fr (h : NbIs v G F g b t) (hf : Fr v v') : NbIs v' G F g b t := by
  obtain ⟨_, _, _, _, _, _, _, h1, e⟩ := h
  exact ⟨_, _, _, _, _, _, _, h1.fr hf, e⟩
theorem NbIs.fl (h : NbIs v G F g b t) : (∀ k, F k → k < v.heap.size) ∧ (∀ k, G k → k < v.heap.size) ∧ ∀ k, G k → ¬F k := by
  obtain ⟨_, _, _, _, _, _, _, h1, rfl⟩ := h
  exact ⟨fun k hk => hk.elim (h1.bb.fl k) (h1.tn.fl k), fun k hk => h1.bb.gl k (.inl hk), fun k hk hf => hf.elim (h1.bb.gf k (.inl hk)) (h1.tn.gf k (.inl hk))⟩
theorem NbIs.other {G' D : Nat → Prop} (h : NbIs v G F g b t) (hm : Mv D v v') (hE : ∀ k, D k → (G k ∧ ¬F k) ∨ v.heap.size ≤ k) (hG : ∀ k, G' k → G k ∨ v.heap.size ≤ k) (hl : ∀ k, G' k → k < v'.heap.size) : NbIs v' G' F g b t := by
  obtain ⟨_, _, _, _, _, _, _, h1, rfl⟩ := h
  exact ⟨_, _, _, _, _, _, _, h1.other hm (fun k hk => (hE k hk).imp (fun h => ⟨h.1, fun h2 => h.2 (.inl h2), fun h2 => h.2 (.inr h2)⟩) id) hG hl, rfl⟩
theorem Nb2.symm (h : Nb2 w v E Fa Fb ga gb a ta b tb) : Nb2 w v E Fb Fa gb ga b tb a ta := ⟨h.two, h.one, h.fr0, fun k hk => h.new k hk.symm⟩
theorem Nb2.fr (h : Nb2 w v E Fa Fb ga gb a ta b tb) (hf : Fr v v') : Nb2 w v' E Fa Fb ga gb a ta b tb := ⟨h.one.fr hf, h.two.fr hf, h.fr0.trans hf, h.new⟩
theorem Nb2.lt (h : Nb2 w v E Fa Fb ga gb a ta b tb) {k : Nat} (hk : Z2 E Fa Fb k) : k < v.heap.size := by
  rcases hk with hk | hk | hk
  · exact h.one.fl.2.1 k (.inl hk)
  · exact h.one.fl.1 k hk
  · exact h.two.fl.1 k hk
/-- Other blocks are the environment's now: some of those that were, or new ones. -/
theorem Nb2.env (h : Nb2 w v E Fa Fb ga gb a ta b tb) (hf : Fr v v') (hE : ∀ k, E' k → (E k ∨ v.heap.size ≤ k) ∧ k < v'.heap.size) : Nb2 w v' E' Fa Fb ga gb a ta b tb := by
  have hl : ∀ {F1 F2 : Nat → Prop} {g b t}, NbIs v (fun k => E k ∨ F1 k) F2 g b t → (∀ k, F1 k → k < v.heap.size) → NbIs v' (fun k => E' k ∨ F1 k) F2 g b t := fun {F1 F2 g b t} h1 hF => by
    refine h1.other (D := fun _ => False) (Mv.of_fr hf) (fun _ h => h.elim) (fun k hk => hk.elim (fun h2 => (hE k h2).1.imp .inl id) fun h2 => .inl (.inr h2)) fun k hk => hk.elim (fun h2 => (hE k h2).2) fun h2 => ?_
    have := hF k h2; have := hf.size; omega
  exact ⟨hl h.one h.two.fl.1, hl h.two h.one.fl.1, h.fr0.trans hf, h.new⟩
/-- The environment turned some of its own blocks. -/
theorem Nb2.turn (h : Nb2 w v E Fa Fb ga gb a ta b tb) (hm : Mv E v v') (hn : ∀ k, E k → w.heap.size ≤ k) : Nb2 w v' E Fa Fb ga gb a ta b tb :=
  ⟨h.one.other hm (fun k hk => .inl ⟨.inl hk, h.one.fl.2.2 k (.inl hk)⟩) (fun _ h => .inl h) fun k hk => Nat.lt_of_lt_of_le (h.one.fl.2.1 k hk) hm.size,
   h.two.other hm (fun k hk => .inl ⟨.inl hk, h.two.fl.2.2 k (.inl hk)⟩) (fun _ h => .inl h) fun k hk => Nat.lt_of_lt_of_le (h.two.fl.2.1 k hk) hm.size, Mv.on (F := E) h.fr0 hm hn, h.new⟩
theorem Nb2.step (h : Nb2 w v E Fa Fb ga gb a ta b tb) (h1 : NbIs v' (fun k => E k ∨ Fb k) Fa' ga a' ta') (s : Stp v Fa v' Fa') : Nb2 w v' E Fa' Fb ga gb a' ta' b tb := by
  refine ⟨h1, h.two.other s.mv (fun k hk => .inl ⟨.inr hk, h.two.fl.2.2 k (.inr hk)⟩) (fun k hk => hk.elim (fun h => .inl (.inl h)) fun h => (s.sub k h).imp .inr id) (fun k hk => hk.elim (fun h2 => h1.fl.2.1 k (.inl h2)) (h1.fl.1 k)), Mv.on (F := Fa) h.fr0 s.mv fun k hk => h.new k (.inl hk), fun k hk => ?_⟩
  rcases hk with hk | hk
  · rcases s.sub k hk with h2 | h2
    · exact h.new k (.inl h2)
    · have := h.fr0.size; omega
  · exact h.new k (.inr hk)
theorem Nb2.act (h : Nb2 w v E Fa Fb ga gb a ta b tb) (k : NbTo v Fa v' (fun k => E k ∨ Fb k) ga a' ta') : ∃ Fa', Nb2 w v' E Fa' Fb ga gb a' ta' b tb ∧ Stp v Fa v' Fa' := by
  obtain ⟨F', h1, s⟩ := k
  exact ⟨F', h.step h1 s, s⟩
theorem stpA (s : Stp v Fa v' Fa') : Stp v (Z2 E Fa Fb) v' (Z2 E Fa' Fb) :=
  ⟨s.mv.mono fun k hk => .inl (.inr (.inl hk)), fun k hk => by
    rcases hk with hk | hk | hk
    · exact .inl (.inl hk)
    · exact (s.sub k hk).imp (fun h => .inr (.inl h)) id
    · exact .inl (.inr (.inr hk))⟩
theorem stpB (s : Stp v Fb v' Fb') : Stp v (Z2 E Fa Fb) v' (Z2 E Fa Fb') :=
  ⟨s.mv.mono fun k hk => .inl (.inr (.inr hk)), fun k hk => by
    rcases hk with hk | hk | hk
    · exact .inl (.inl hk)
    · exact .inl (.inr (.inl hk))
    · exact (s.sub k hk).imp (fun h => .inr (.inr h)) id⟩
/-- The first one of a row of bytes. -/
theorem row0 {Z : Nat → Prop} {r : Sl} {d : List UInt8} {ds : List (List UInt8)} (h : RowB v Z r (d :: ds)) {K : Sl → Prop} (hk : ∀ s, Cb v Z s d → K s) : ixa r.a r.n 0 1 fun a => ld .L v a K := by
  obtain ⟨hs, ho, ha⟩ := h
  cases hs with
  | nil => exact ha.elim
  | cons s hs => exact ixS (j := 0) ho.rd ho.len rfl (by simp) (Fr.refl _) (hk s ha.1)
theorem RowB.fr {Z : Nat → Prop} {s : Sl} {ls : List (List UInt8)} (h : RowB v Z s ls) (hf : Fr v v') : RowB v' Z s ls :=
  h.mv (E := fun _ => False) (Mv.of_fr hf) (fun _ h => h.elim) (fun _ h => .inl h) fun _ _ h => h
theorem RowB.anti {Z Z' : Nat → Prop} {s : Sl} {ls : List (List UInt8)} (h : RowB v Z s ls) (hz : ∀ k, Z' k → Z k) : RowB v Z' s ls := by
  obtain ⟨hs, h1, h2⟩ := h
  exact ⟨hs, h1, h2.mono fun a b _ _ hr => hr.anti hz⟩
theorem Nb2.out (h : Nb2 w v E Fa Fb ga gb a ta b tb) (hs : a.side ≠ 0) (hme : 1 ≤ ta.me) (hlen : a.wan.length + ta.out.length ≤ 1099511627776) {K : Sl × Sl × Unit → World → Prop}
    (hk : ∀ r v' Fa', Nb2 w v' E Fa' Fb ga gb { a with lan := [], wan := [] } ta.clear b tb → Stp v Fa v' Fa' → RowB v' (Z2 E Fa' Fb) r.1 a.lan → RowB v' (Z2 E Fa' Fb) r.2.1 (a.wan ++ ta.out) → (∀ k, BK r.1 k ∨ BK r.2.1 k → ¬Z2 E Fa' Fb k) → K r v') :
    cl Tryz.prog n_box_Box_Out #[.pointer (some ⟨ga, 0, none⟩)] (.tup (.pair .L (.pair .L .nil))) v K := by
  obtain ⟨_, _, _, _, _, _, _, h1, rfl⟩ := h.one
  refine (bOut_ok h1 hs hme hlen).mono ?_
  rintro r v' ⟨FB', FT', y', n1, s1, r1, r2, r3⟩
  exact hk r v' _ (h.step ⟨_, _, _, _, _, _, _, n1, rfl⟩ s1) s1 (r1.anti fun k hk => zA' hk) (r2.anti fun k hk => zA' hk) fun k hk hz => r3 k hk (zA' hz)
theorem two_new {sa sb ba bb ia ib : Int} (hd : Crc w) (h1 : sa = 3 ∨ sa = 4) (h2 : sb = 3 ∨ sb = 4) (h3 : 0 ≤ ba ∧ ba ≤ 40) (h4 : 0 ≤ bb ∧ bb ≤ 40) {K : Option Addr × Int × Unit → Option Addr × Int × Unit → World → Prop}
    (hk : ∀ ga gb v Fa Fb, Nb2 w v (fun _ => False) Fa Fb ga gb (bb0 sa ba ia) (tn0 (ba * 1048576 + 1)) (bb0 sb bb ib) (tn0 (bb * 1048576 + 1)) → K (some ⟨ga, 0, none⟩, 0, ()) (some ⟨gb, 0, none⟩, 0, ()) v) :
    cl Tryz.prog n_box_New #[.int .i64 sa, .int .i64 ba, .int .u32 ia] (.tup (.pair .P (.pair (.I .i64) .nil))) w fun (x1 : Option Addr × Int × Unit) w2 => cl Tryz.prog n_box_New #[.int .i64 sb, .int .i64 bb, .int .u32 ib] (.tup (.pair .P (.pair (.I .i64) .nil))) w2 fun (x3 : Option Addr × Int × Unit) w4 => K x1 x3 w4 := by
  refine (bNew_ok (G := fun _ => False) hd h1 h3 (fun _ h => h.elim) fun h => h).mono ?_
  rintro _ w2 ⟨ga, FB, FT, gt, x, y, rfl, n1, f2, new1⟩
  have n1' : NbIs w2 (fun _ => False) (fun k => FB k ∨ FT k) ga (bb0 sa ba ia) (tn0 (ba * 1048576 + 1)) := ⟨_, _, _, _, _, _, _, n1, rfl⟩
  have hl1 := n1'.fl.1
  refine (bNew_ok (G := fun k => False ∨ FB k ∨ FT k) (hd.fr f2) h2 h4 (fun k hk => hk.elim (fun h => h.elim) (hl1 k)) fun h => h.elim id fun h => by have := new1 _ h; have := hd.lt; omega).mono ?_
  rintro _ w4 ⟨gb, FB2, FT2, gt2, x2, y2, rfl, n2, f4, new2⟩
  have n2' : NbIs w4 (fun k => False ∨ FB k ∨ FT k) (fun k => FB2 k ∨ FT2 k) gb (bb0 sb bb ib) (tn0 (bb * 1048576 + 1)) := ⟨_, _, _, _, _, _, _, n2, rfl⟩
  have z2 := f2.size
  refine hk ga gb w4 _ _ ⟨n1'.other (D := fun _ => False) (Mv.of_fr f4) (fun _ h => h.elim) (fun k hk => hk.elim (fun h => h.elim) fun h => .inr (new2 k h)) (fun k hk => hk.elim (fun h => h.elim) (n2'.fl.1 k)), n2', f2.trans f4, fun k hk => ?_⟩
  rcases hk with hk | hk
  · exact new1 k hk
  · have := new2 k hk; omega
theorem syn_law : cl Tryz.prog n_flumelaw14_syn #[] .L w fun (r : Sl) w' => OwB w' w.heap.size t_uint8 r synB ∧ Fr w w' := by
  refine flumelaw14_syn.cl ?_
  unfold flumelaw14_syn
  refine (rpPut_ok (p := synP) (s := ⟨none, 0, 0⟩) (Bs.nil _ _) syn_q).mono ?_
  rintro ⟨r1, r2⟩ w' ⟨ho, _, hf⟩
  rw [syn_put] at ho
  exact ⟨ho, hf⟩
theorem synB_len : synB.length = 22 := by decide +kernel
theorem awake14_ok (hd : Crc w) : cl Tryz.prog n_flumelaw14_awake #[] .B w fun (r : Bool) w' => r = true ∧ Fr w w' := by
  refine flumelaw14_awake.cl ?_
  unfold flumelaw14_awake
  refine two_new hd (.inl rfl) (.inr rfl) (by decide) (by decide) fun ga gb v Fa Fb h2 => ?_
  have h2 : Nb2 w v (fun _ => False) Fa Fb ga gb (bb0 3 0 0) (tn0 1) (bb0 4 0 0) (tn0 1) := h2
  refine bF rfl (bF rfl ?_)
  refine syn_law.mono ?_
  rintro x5 w6 ⟨o5, f6⟩
  have h6 := h2.fr f6
  obtain ⟨FBa, FTa, gta, xa, la, ma, ya, na, rfl⟩ := h6.one
  refine (lanL na rfl (p := synP) rfl rfl rfl (by decide) o5.bs (by rw [synB_len]; decide) syn_get (by decide)).mono ?_
  rintro _ w8 hto
  obtain ⟨Fa8, h8, s8⟩ := h6.act hto
  have e0 : (if synP.flags = 1 then (putP { synP with probe := (tn0 1).me }).1 else synB) = askB := by
    rw [if_pos (show synP.flags = 1 from rfl)]
    show (putP askP).1 = askB
    rw [ask_put]
  rw [e0] at h8
  have h8 : Nb2 w w8 (fun _ => False) Fa8 Fb ga gb { bb0 3 0 0 with wan := [askB], pass := 1 } (tn0 1) (bb0 4 0 0) (tn0 1) := h8
  refine h8.out (by decide) (by decide) (by decide) fun r9 w10 Fa10 h10 s10 rl rw_ _ => ?_
  have rw_ : RowB w10 (Z2 (fun _ => False) Fa10 Fb) r9.2.1 [askB] := rw_
  refine bF (by rw [rw_.len]; rfl) ?_
  refine row0 rw_ fun s12 c12 => ?_
  refine bF (by rw [c12.bs.len, ask_len]; rfl) ?_
  refine row0 rw_ fun s14 c14 => ?_
  obtain ⟨FBb, FTb, gtb, xb, lb, mb, yb, nb, rfl⟩ := h10.two
  have c14' : Cb w10 (Zt (fun k => False ∨ Fa10 k) (fun k => FBb k ∨ FTb k)) s14 askB := c14.anti fun k hk => zS (zA hk)
  refine (wanP nb (by decide) c14' (by rw [ask_len]; decide) ask_get (b' := { bb0 4 0 0 with lan := [synB], pass := 1 }) (t' := (tn0 1).hint 1) fun {u s} nu cu => ?_).mono ?_
  · refine (overR nu rfl (p := askP) rfl rfl (by decide) cu (by rw [ask_len]; decide) ask_get (by decide) (by decide)).mono fun _ w' hto => ?_
    rw [if_pos (by decide), if_pos (by decide), show ({ askP with probe := 0 } : Pk) = synP from rfl, syn_put] at hto
    exact hto
  rintro _ w16 hto
  obtain ⟨Fb16, h16, s16⟩ := h10.symm.act hto
  refine h16.out (by decide) (by decide) (by decide) fun r17 w18 Fb18 h18 s18 rl17 rw17 _ => ?_
  have rl17 : RowB w18 (Z2 (fun _ => False) Fb18 Fa10) r17.1 [synB] := rl17
  have rw17 : RowB w18 (Z2 (fun _ => False) Fb18 Fa10) r17.2.1 [helB] := rw17
  intro n
  have f19 := Fr.drewN w18 n
  have h19 := h18.fr f19
  have rl19 := rl17.fr f19
  have rw19 := rw17.fr f19
  generalize w18.drewN n = w19 at *
  refine bF (by rw [rl17.len]; rfl) ?_
  refine row0 rl19 fun s21 c21 => ?_
  refine syn_law.mono ?_
  rintro x22 w23 ⟨o22, f23⟩
  refine ⟨f23, ?_⟩
  refine (Equal_ok (c21.bs.fr f23) o22.bs).mono ?_
  rintro _ _ ⟨rfl, rfl⟩
  refine bF (by simp) ?_
  have rw23 := rw19.fr f23
  refine bF (by rw [rw17.len]; rfl) ?_
  refine row0 rw23 fun s27 c27 => ?_
  have h23 := (h19.fr f23).symm
  obtain ⟨k1, k2, k3, k4, k5⟩ := hel_take
  obtain ⟨FBc, FTc, gtc, xc, lc, mc, yc, nc, rfl⟩ := h23.one
  refine (wanD nc (by decide) (inv_tn0 (by decide)) c27.bs (by have := hel_len; omega) hel_get k1 (by rw [show (tn0 1).clear.take helB = (tn0 1).take helB from rfl, k5]; decide) (by decide)).mono ?_
  rintro _ w29 hto
  obtain ⟨Fa29, h29, s29⟩ := h23.act hto
  obtain ⟨_, _, _, _, _, _, _, n29, _⟩ := h29.one
  have e29 : (tn0 1).clear.take helB = (tn0 1).take helB := rfl
  rw [e29] at n29
  refine (bEnds_ok n29 (by decide) (by rw [k5]; decide)).mono ?_
  rintro _ w31 ⟨rfl, f31⟩
  refine bT (by rw [beq_iff_eq]; exact k2) (bT (by rw [beq_iff_eq]; exact k3) (bT k4 ?_))
  refine (bCount_ok (n29.fr f31) (by decide) (by rw [k5]; decide)).mono ?_
  rintro _ w33 ⟨rfl, f33⟩
  exact ⟨rfl, (h29.fr0.trans f31).trans f33⟩
end
end Go.Proofs.YtoglafmpllimgaaGreatDoor
namespace Go.Proofs.YtoglafmpllimgaaGreatDoor
open Go.RowKit Go.Fl Go.ChangeShapes Go.WideShapes Go.ChangeAt

theorem take1 {cs : List Value} {i : Nat} {v : Value} (h : (cs.drop i).take 1 = [v]) : cs.drop i = v :: cs.drop (i + 1) := by
  cases hd : cs.drop i with
  | nil => rw [hd] at h; cases h
  | cons a t =>
    rw [hd] at h
    simp only [List.take_succ_cons, List.take_zero, List.cons.injEq, and_true] at h
    rw [h, ← List.drop_drop, hd]
    rfl
abbrev I64 (n : Int) : Prop := -9223372036854775808 ≤ n ∧ n ≤ 9223372036854775807
section
variable {H : Type} {enc : TypeId × Value → H} {w : World} {fuel : Nat} {cs : List Value} {x : DataW H × List MemPlace}
theorem int_of_cells {t : TypeId} (ht : Tryz.prog.underlying t = some (.int .i64)) (h : DataW.trod enc Tryz.prog w 0 (fun _ => true) true fuel t cs = some x) : ∃ k : Int, cs = [.int .i64 k] ∧ I64 k := by
  obtain ⟨k, hk, _, hw⟩ := DataW.trod_int ht h
  exact ⟨k, hk, wfI64 hw⟩
theorem u32_of_cells {t : TypeId} (ht : Tryz.prog.underlying t = some (.int .u32)) (h : DataW.trod enc Tryz.prog w 0 (fun _ => true) true fuel t cs = some x) : ∃ k : Int, cs = [.int .u32 k] ∧ 0 ≤ k ∧ k < 4294967296 := by
  obtain ⟨k, hk, _, hw⟩ := DataW.trod_int ht h
  refine ⟨k, hk, ?_⟩
  simp only [Lit.wf, IntKind.min, IntKind.max, IntKind.signed, IntKind.bits, Bool.and_eq_true] at hw
  simp at hw
  omega
theorem bytes_of_cells (h : DataW.trod enc Tryz.prog w 0 (fun _ => true) true fuel t_s_uint8 cs = some x) : ∃ (s : Sl) (l : List UInt8), cs = [slV s] ∧ Bs w s l := by
  rcases open_ints u_s_uint8 u_uint8 (by kernel_rfl) h with ⟨hcs, _⟩ | ⟨a, n, c, zs, hcs, _, hl, hm, hz, _, hcell, hwz⟩
  · exact ⟨⟨none, 0, 0⟩, [], hcs, Bs.nil _ _⟩
  · obtain ⟨l, hB⟩ := rowB (w := w) (a := some a) (len := n) (cap := c) (zs := zs) (.inr ⟨a, rfl, hl, hm, by simpa using hz, hcell, hwz⟩)
    exact ⟨⟨some a, n, c⟩, l, hcs, hB⟩
/-- A row of structs that comes in. -/
theorem rowIn {t e : TypeId} (ht : Tryz.prog.underlying t = some (.slice e)) {sz : Nat} (hc : Tryz.prog.cellsOf e = sz) {E : Type} {f : E → List Value} {R : E → Prop}
    (hel : ∀ {fuel : Nat} {cs : List Value} {x : DataW H × List MemPlace}, DataW.trod enc Tryz.prog w 0 (fun _ => true) true fuel e cs = some x → ∃ y : E, cs = f y ∧ R y) (hlen : ∀ y, (f y).length = sz)
    (h : DataW.trod enc Tryz.prog w 0 (fun _ => true) true fuel t cs = some x) : ∃ (s : Sl) (xs : List E), cs = [slV s] ∧ s.n = xs.length ∧ Rd w s.a (xs.flatMap f) ∧ ∀ y ∈ xs, R y := by
  rcases DataW.trod_slice ht h with ⟨h0, _⟩ | ⟨a, len, cap, elems, rest, n, _, rfl, _, _, _, _, hlen', hels, _, _⟩
  · exact ⟨⟨none, 0, 0⟩, [], h0, rfl, Rd.nil _ _, by simp⟩
  suffices hx : ∀ m, m ≤ len → ∃ xs : List E, xs.length = m ∧ Rd w (some a) (xs.flatMap f) ∧ ∀ y ∈ xs, R y by
    obtain ⟨xs, h1, h2, h3⟩ := hx len (Nat.le_refl _)
    exact ⟨⟨some a, len, cap⟩, xs, rfl, h1.symm, h2, h3⟩
  intro m
  induction m with
  | zero => exact fun _ => ⟨[], rfl, Rd.nil _ _, by simp⟩
  | succ m ih =>
    intro hm
    obtain ⟨xs, h1, h2, h3⟩ := ih (by omega)
    have hb := hels m (by omega)
    rw [hc, List.getElem?_eq_getElem (by omega), Option.bind_eq_some_iff] at hb
    obtain ⟨cs', hcs, hy⟩ := hb
    obtain ⟨y, rfl, hR⟩ := hel hy
    refine ⟨xs ++ [y], by simp [h1], ?_, fun z hz => ?_⟩
    · rw [List.flatMap_append, List.flatMap_singleton]
      intro i v hv
      refine ⟨a, rfl, ?_⟩
      by_cases hi : i < (xs.flatMap f).length
      · rw [List.getElem?_append_left hi] at hv
        obtain ⟨ad, ha, hcell⟩ := h2 i v hv
        cases ha; exact hcell
      · rw [List.getElem?_append_right (by omega), flat_len hlen, h1] at hv
        rw [flat_len hlen, h1] at hi
        obtain ⟨_, hl', hcc⟩ := World.cells?_some hcs
        have hj : i - m * sz < sz := by have := (List.getElem?_eq_some_iff.1 hv).1; rwa [hlen] at this
        have := hcc _ hj
        rw [add_add, show m * sz + (i - m * sz) = i from by omega] at this
        rw [this]; exact hv
    · rcases List.mem_append.1 hz with hz | hz
      · exact h3 z hz
      · rw [List.mem_singleton] at hz; rw [hz]; exact hR
/-- A packet that came in. -/
abbrev PkE : Type := Pk × Sl
abbrev pkC (e : PkE) : List Value := pkL e.1 e.2
structure PkIn (w : World) (e : PkE) : Prop where
  data : Bs w e.2 e.1.data
  q : e.1.q
theorem pk_of_cells (h : DataW.trod enc Tryz.prog w 0 (fun _ => true) true fuel t_api_Packet cs = some x) : ∃ e : PkE, cs = pkC e ∧ PkIn w e := by
  obtain ⟨xs, n, rfl, rfl, hl, hxl, hf⟩ := DataW.trod_struct u_api_Packet h
  have c1 : Tryz.prog.cellsOf t_int = 1 := by kernel_rfl
  have c2 : Tryz.prog.cellsOf t_s_uint8 = 1 := by kernel_rfl
  have c4 : Tryz.prog.cellsOf t_uint32 = 1 := by kernel_rfl
  have c11 : Tryz.prog.cellsOf t_api_Packet = 11 := by kernel_rfl
  have hxl : xs.length = 11 := hxl
  rw [c11] at hl
  have f0 := hf 0 _ rfl
  have f1 := hf 1 _ rfl
  have f2 := hf 2 _ rfl
  have f3 := hf 3 _ rfl
  have f4 := hf 4 _ rfl
  have f5 := hf 5 _ rfl
  have f6 := hf 6 _ rfl
  have f7 := hf 7 _ rfl
  have f8 := hf 8 _ rfl
  have f9 := hf 9 _ rfl
  have f10 := hf 10 _ rfl
  rw [List.getElem?_eq_getElem (by omega)] at f0 f1 f2 f3 f4 f5 f6 f7 f8 f9 f10
  obtain ⟨k0, h0, _⟩ := int_of_cells u_int f0
  obtain ⟨k1, h1, _⟩ := int_of_cells u_int f1
  obtain ⟨k2, h2, _⟩ := int_of_cells u_int f2
  obtain ⟨k3, h3, _⟩ := int_of_cells u_int f3
  obtain ⟨k4, h4, b4⟩ := u32_of_cells u_uint32 f4
  obtain ⟨k5, h5, b5⟩ := u32_of_cells u_uint32 f5
  obtain ⟨k6, h6, _⟩ := int_of_cells u_int f6
  obtain ⟨k7, h7, _⟩ := int_of_cells u_int f7
  obtain ⟨k8, h8, _⟩ := int_of_cells u_int f8
  obtain ⟨k9, h9, _⟩ := int_of_cells u_int f9
  obtain ⟨sl, l, h10, hB⟩ := bytes_of_cells f10
  have h0' : (cs.drop 0).take 1 = [.int .i64 k0] := (congrArg (fun n => (cs.drop 0).take n) c1).symm.trans h0
  have h1' : (cs.drop 1).take 1 = [.int .i64 k1] := (congrArg (fun n => (cs.drop 1).take n) c1).symm.trans h1
  have h2' : (cs.drop 2).take 1 = [.int .i64 k2] := (congrArg (fun n => (cs.drop 2).take n) c1).symm.trans h2
  have h3' : (cs.drop 3).take 1 = [.int .i64 k3] := (congrArg (fun n => (cs.drop 3).take n) c1).symm.trans h3
  have h4' : (cs.drop 4).take 1 = [.int .u32 k4] := (congrArg (fun n => (cs.drop 4).take n) c4).symm.trans h4
  have h5' : (cs.drop 5).take 1 = [.int .u32 k5] := (congrArg (fun n => (cs.drop 5).take n) c4).symm.trans h5
  have h6' : (cs.drop 6).take 1 = [.int .i64 k6] := (congrArg (fun n => (cs.drop 6).take n) c1).symm.trans h6
  have h7' : (cs.drop 7).take 1 = [.int .i64 k7] := (congrArg (fun n => (cs.drop 7).take n) c1).symm.trans h7
  have h8' : (cs.drop 8).take 1 = [.int .i64 k8] := (congrArg (fun n => (cs.drop 8).take n) c1).symm.trans h8
  have h9' : (cs.drop 9).take 1 = [.int .i64 k9] := (congrArg (fun n => (cs.drop 9).take n) c1).symm.trans h9
  have h10' : (cs.drop 10).take 1 = [slV sl] := (congrArg (fun n => (cs.drop 10).take n) c2).symm.trans h10
  refine ⟨(⟨k0, k1, k2, k3, k4, k5, k6, k7, k8, k9, l⟩, sl), ?_, ⟨hB, b4, b5⟩⟩
  have e0 := take1 h0'
  have e10 := take1 h10'
  rw [List.drop_of_length_le (i := 11) (by omega)] at e10
  rw [List.drop_zero] at e0
  rw [e0, take1 h1', take1 h2', take1 h3', take1 h4', take1 h5', take1 h6', take1 h7', take1 h8', take1 h9', e10]
  rfl
end
set_option maxRecDepth 100000 in
theorem pks_in {H : Type} {enc : TypeId × Value → H} {w : World} {base : Nat} {v : Value} {dd : DataW H} {ps : List MemPlace} (hv : Value.okWide Tryz.prog w .any base t_s_api_Packet v) (h : DataW.Trod enc Tryz.prog w 0 (fun _ => true) true t_s_api_Packet v dd ps) :
    ∃ (s : Sl) (xs : List PkE), v = slV s ∧ s.n = xs.length ∧ Rd w s.a (xs.flatMap pkC) ∧ ∀ e ∈ xs, PkIn w e := by
  obtain ⟨a, len, cap, rfl⟩ := okWide_slice u_s_api_Packet hv
  obtain ⟨fuel, hf⟩ := h
  obtain ⟨s, xs, hcs, h1, h2, h3⟩ := rowIn u_s_api_Packet (sz := 11) (by kernel_rfl) (f := pkC) (R := PkIn w) (fun h => pk_of_cells h) (fun _ => rfl) hf
  refine ⟨s, xs, ?_, h1, h2, h3⟩
  have : ([Value.slice a len cap] : List Value) = [slV s] := hcs
  injection this
end Go.Proofs.YtoglafmpllimgaaGreatDoor
namespace Go.Proofs.YtoglafmpllimgaaGreatDoor
open Go.RowKit Go.Fl

def numN (l : List UInt8) : Nat := l.foldl (fun n x => 256 * n + x.toNat) 0
theorem numN_snoc (l : List UInt8) (x : UInt8) : numN (l ++ [x]) = 256 * numN l + x.toNat := by
  unfold numN; rw [List.foldl_append]; rfl
theorem numN_take (l : List UInt8) {i : Nat} (hi : i < l.length) : numN (l.take (i + 1)) = 256 * numN (l.take i) + (l[i]).toNat := by
  rw [List.take_succ_eq_append_getElem hi, numN_snoc]
theorem numN_mono (l : List UInt8) : ∀ k, numN (l.take k) ≤ numN (l.take (k + 1)) := fun k => by
  by_cases hk : k < l.length
  · rw [numN_take l hk]; omega
  · rw [List.take_of_length_le (by omega), List.take_of_length_le (by omega)]; exact Nat.le_refl _
theorem numN_le (l : List UInt8) : ∀ (d k : Nat), numN (l.take k) ≤ numN (l.take (k + d))
  | 0, _ => Nat.le_refl _
  | d + 1, k => Nat.le_trans (numN_le l d k) (numN_mono l (k + d))
theorem numN_be2 {n : Int} (h : 0 ≤ n ∧ n < 65536) : (numN (be2 n) : Int) = n := by
  have a := b8_nat (n / 256)
  have b := b8_nat n
  show ((256 * (256 * 0 + (b8 (n / 256)).toNat) + (b8 n).toNat : Nat) : Int) = n
  omega
theorem numN_be4 {n : Int} (h : 0 ≤ n ∧ n < 4294967296) : (numN (be4 n) : Int) = n := by
  have a := b8_nat (n / 16777216)
  have b := b8_nat (n / 65536)
  have c := b8_nat (n / 256)
  have d := b8_nat n
  show ((256 * (256 * (256 * (256 * 0 + (b8 (n / 16777216)).toNat) + (b8 (n / 65536)).toNat) + (b8 (n / 256)).toNat) + (b8 n).toNat : Nat) : Int) = n
  omega
theorem numN_be8 {n : Int} (h : 0 ≤ n ∧ n ≤ 1099511627776) : (numN (be4 (n / 4294967296) ++ be4 n) : Int) = n := by
  have h1 := numN_be4 (n := n / 4294967296) (by omega)
  have a := b8_nat (n / 16777216)
  have b := b8_nat (n / 65536)
  have c := b8_nat (n / 256)
  have d := b8_nat n
  have e : numN (be4 (n / 4294967296) ++ be4 n) = 256 * (256 * (256 * (256 * numN (be4 (n / 4294967296)) + (b8 (n / 16777216)).toNat) + (b8 (n / 65536)).toNat) + (b8 (n / 256)).toNat) + (b8 n).toNat := by
    unfold numN; rw [List.foldl_append]; rfl
  rw [e]
  omega
section
variable {w : World}
theorem num_ok {x : Sl} {l : List UInt8} (hx : Bs w x l) (hl : l.length ≤ 1000) (hN : numN l < 9223372036854775808) : cl Tryz.prog n_flumeref04_num #[.slice x.a x.n x.c] (.I .i64) w fun (r : Int) w' => r = (numN l : Nat) ∧ w = w' := by
  refine flumeref04_num.cl (p0 := x) ?_
  unfold flumeref04_num
  have hn := hx.len
  refine lpI (fun (s : Int × Int × Unit) v => ∃ i : Nat, s.2.1 = (i : Int) ∧ i ≤ l.length ∧ s.1 = (numN (l.take i) : Nat) ∧ w = v) (fun s _ => l.length - s.2.1.toNat) ⟨0, rfl, Nat.zero_le _, rfl, rfl⟩ ?_
  rintro D ⟨_, _, ⟨⟩⟩ _ ⟨i, rfl, hi, rfl, rfl⟩
  dsimp -zeta only
  refine bD ?_ ?_ <;> intro hlt
  · have hil : i < l.length := by omega
    refine ixBc hx.rd hn (by omega) (c := l[i]) (by rw [show (i : Int).toNat = i from by omega]; exact List.getElem?_eq_getElem hil) (Fr.refl _) ?_
    have h1 := numN_take l hil
    have h2 := numN_le l (l.length - (i + 1)) (i + 1)
    rw [show i + 1 + (l.length - (i + 1)) = l.length from by omega, List.take_length] at h2
    have h3 := (l[i]).toNat_lt
    rw [i64w (n := ((l[i]).toNat : Int)) (by omega) (by omega), i64w (n := 256 * ((numN (l.take i) : Nat) : Int)) (by omega) (by omega), i64w (n := (i : Int) + 1) (by omega) (by omega), i64w (by omega) (by omega)]
    exact ⟨⟨i + 1, by omega, by omega, by omega, rfl⟩, by omega⟩
  · have e : i = l.length := by omega
    subst e
    exact ⟨by rw [List.take_length], rfl⟩
theorem cutB {x : Sl} {l : List UInt8} (hx : Bs w x l) {i j : Nat} (hij : i ≤ j) (hj : j ≤ l.length) {K : Sl → Prop} (k : Bs w (cut x i j 1) ((l.take j).drop i) → K (cut x i j 1)) : sls x (i : Int) (j : Int) 1 K := by
  have hn := hx.len
  have hc := hx.cap
  exact ⟨by omega, by omega, by omega, k (hx.cut hij hj)⟩
theorem gset {l : List Bool} {i j : Nat} (h : i ≠ j) : (l.set i true).getD j true = l.getD j true := by simp [List.getD, h]
theorem gsetS {l : List Bool} {i : Nat} (h : l.getD i true = false) : (l.set i true).getD i true = true := by
  unfold List.getD
  by_cases hi : i < l.length
  · rw [List.getElem?_set_self hi]; rfl
  · rw [List.getElem?_eq_none (by rw [List.length_set]; omega)]; rfl
theorem gft {l : List Bool} {i : Nat} (h : l.getD i false = true) : l.getD i true = true := by
  unfold List.getD at *
  cases h' : l[i]? with
  | none => rfl
  | some b => rw [h'] at h; exact h
theorem u32w_id {n : Int} (h0 : 0 ≤ n) (h1 : n < 4294967296) : IntKind.u32.wrap n = n := by rw [u32w]; omega
set_option maxHeartbeats 1600000 in
theorem rpGet_ok {p : Pk} {x : Sl} (hk : p.ok) (hq : p.q) (hx : Bs w x (bytesP p)) : cl Tryz.prog n_flumeref04_Get #[.slice x.a x.n x.c] (.tup (.pair k_api_Packet (.pair (.I .i64) .nil))) w fun (r : y_api_Packet × Int × Unit) w' => (∃ s, r = (pkT p s, 0, ())) ∧ Fr w w' := by
  refine flumeref04_Get.cl (p0 := x) ?_
  unfold flumeref04_Get
  have hn := hx.len
  have hl := bytesP_len p
  have hol := optP_len p
  have hk' := hk
  have hq' := hq
  obtain ⟨k1, k2, k3, k4, k5, k6, k7, k8, k9, k10⟩ := hk
  obtain ⟨q1, q2⟩ := hq
  have h20 : ((bytesP p)[20]?) = some (b8 (optP p).length) := rfl
  have b20 : (((b8 (optP p).length).toNat : Nat) : Int) = ((optP p).length : Int) := by rw [b8_nat]; omega
  obtain ⟨FF, hF, hFl⟩ : ∃ FF, bytesP p = FF ++ (optP p ++ p.data) ∧ FF.length = 22 := by
    refine ⟨frontP p ++ be2 (inetN (frontP p ++ [0, 0] ++ tailP p)) ++ [b8 (optP p).length, 0], ?_, by rfl⟩
    unfold bytesP
    conv => lhs; arg 2; unfold tailP
    simp only [List.append_assoc]
  have hopt : ((bytesP p).take (22 + (optP p).length)).drop 22 = optP p := by
    rw [hF, ← hFl, List.take_length_add_append, List.drop_left, List.take_left]
  have hdat : (bytesP p).drop (22 + (optP p).length) = p.data := by
    rw [hF, ← hFl, List.drop_length_add_append, List.drop_left]
  refine newPk pk0 ⟨none, 0, 0⟩ fun a1 w2 ha1 f2 hb1 => ?_
  have z2 := f2.size
  refine bN (by omega) ?_
  refine ixBc hx.rd hn (by omega) (c := b8 (optP p).length) h20 f2 ?_
  rw [b20, i64w (n := ((optP p).length : Int)) (by omega) (by omega), i64w (by omega) (by omega)]
  refine bN (by omega) ?_
  intro j12
  have J12 : ∀ u, Fr w2 u → j12 u := by
    intro u fu
    unfold j12
    refine ixBc hx.rd hn (by omega) (c := b8 (optP p).length) h20 (f2.trans fu) ?_
    rw [b20, i64w (n := ((optP p).length : Int)) (by omega) (by omega), i64w (n := 22 + ((optP p).length : Int)) (by omega) (by omega), i64w (by omega) (by omega)]
    refine bN (by omega) ?_
    intro n
    have fu0 := fu.trans (Fr.drewN u n)
    generalize u.drewN n = u at *
    have fw := f2.trans fu0
    have hxu := hx.fr fw
    have num : ∀ {i j : Nat} {m : Int} {v : World} {K : Int → World → Prop}, i ≤ j → j ≤ (bytesP p).length → j - i ≤ 4 → (numN (((bytesP p).take j).drop i) : Int) = m → m < 4294967296 → Fr w2 v → K m v → cl Tryz.prog n_flumeref04_num #[.slice (cut x i j 1).a (cut x i j 1).n (cut x i j 1).c] (.I .i64) v K := by
      intro i j m v K h1 h2 h3 h4 h5 h6 hK
      have hc := (hx.fr (f2.trans h6)).cut h1 h2
      refine (num_ok hc (by rw [List.length_drop, List.length_take]; omega) (by omega)).mono ?_
      rintro _ _ ⟨rfl, rfl⟩
      rw [h4]
      exact hK
    have N1 : (numN (((bytesP p).take 6).drop 4) : Int) = p.sport := numN_be2 (by omega)
    have N2 : (numN (((bytesP p).take 8).drop 6) : Int) = p.dport := numN_be2 (by omega)
    have N3 : (numN (((bytesP p).take 12).drop 8) : Int) = p.seq := numN_be4 q1
    have N4 : (numN (((bytesP p).take 16).drop 12) : Int) = p.ack := numN_be4 q2
    have N5 : (numN (((bytesP p).take 18).drop 16) : Int) = p.window := numN_be2 (by omega)
    have n1 : ∀ {v : World} {K : Int → World → Prop}, Fr w2 v → K p.sport v → cl Tryz.prog n_flumeref04_num #[.slice (cut x 4 6 1).a (cut x 4 6 1).n (cut x 4 6 1).c] (.I .i64) v K := fun h k => num (by omega) (by omega) (by omega) N1 (by omega) h k
    have n2 : ∀ {v : World} {K : Int → World → Prop}, Fr w2 v → K p.dport v → cl Tryz.prog n_flumeref04_num #[.slice (cut x 6 8 1).a (cut x 6 8 1).n (cut x 6 8 1).c] (.I .i64) v K := fun h k => num (by omega) (by omega) (by omega) N2 (by omega) h k
    have n3 : ∀ {v : World} {K : Int → World → Prop}, Fr w2 v → K p.seq v → cl Tryz.prog n_flumeref04_num #[.slice (cut x 8 12 1).a (cut x 8 12 1).n (cut x 8 12 1).c] (.I .i64) v K := fun h k => num (by omega) (by omega) (by omega) N3 (by omega) h k
    have n4 : ∀ {v : World} {K : Int → World → Prop}, Fr w2 v → K p.ack v → cl Tryz.prog n_flumeref04_num #[.slice (cut x 12 16 1).a (cut x 12 16 1).n (cut x 12 16 1).c] (.I .i64) v K := fun h k => num (by omega) (by omega) (by omega) N4 (by omega) h k
    have n5 : ∀ {v : World} {K : Int → World → Prop}, Fr w2 v → K p.window v → cl Tryz.prog n_flumeref04_num #[.slice (cut x 16 18 1).a (cut x 16 18 1).n (cut x 16 18 1).c] (.I .i64) v K := fun h k => num (by omega) (by omega) (by omega) N5 (by omega) h k
    have e1 : ((b8 p.src).toNat : Int) = p.src := by rw [b8_nat]; omega
    have e2 : ((b8 p.dst).toNat : Int) = p.dst := by rw [b8_nat]; omega
    have e3 : ((b8 p.flags).toNat : Int) = p.flags := by rw [b8_nat]; omega
    obtain ⟨Inv, hInv⟩ : ∃ Inv : List Bool → World → Prop, Inv = fun l v => (l.getD 30 true = false → v = u ∧ l.getD 31 true = false) ∧ (l.getD 30 true = true → Fr w2 v ∧ PkB v u.heap.size (if l.getD 31 true = true then { p with probe := 0, origin := 0, data := [] } else pk0) ⟨none, 0, 0⟩) := ⟨_, rfl⟩
    have mkI : ∀ {l : List Bool} {v : World}, ((l.getD 30 true = false → v = u ∧ l.getD 31 true = false) ∧ (l.getD 30 true = true → Fr w2 v ∧ PkB v u.heap.size (if l.getD 31 true = true then { p with probe := 0, origin := 0, data := [] } else pk0) ⟨none, 0, 0⟩)) → Inv l v := by
      intro l v h
      rw [hInv]
      exact h
    have keep : ∀ {l : List Bool} {v : World} {i : Nat}, Inv l v → i ≠ 30 → i ≠ 31 → Inv (l.set i true) v := by
      intro l v i h h0 h1
      rw [hInv] at h ⊢
      dsimp only at h ⊢
      rw [gset h0, gset h1]
      exact h
    have fI : ∀ {l : List Bool} {v : World}, Inv l v → Fr w2 v := by
      intro l v h
      rw [hInv] at h
      cases h' : l.getD 30 true with
      | false => rw [(h.1 h').1]; exact fu0
      | true => exact (h.2 h').1
    have ax : ∀ {i : Nat} {c : UInt8} {m : Int} {l : List Bool} {v : World}, (bytesP p)[i]? = some c → (c.toNat : Int) = m → Inv l v → ixa x.a x.n i 1 (fun a => x.a.map (atOff · i 1) = some a ∧ Inv l v) ∧ nz (x.a.map (atOff · i 1)) (fun a => ld (.I .u8) v a fun y => m = y ∧ Inv l v) := by
      intro i c m l v h1 h2 h3
      obtain ⟨z1, z2, z3⟩ := ixBc (K := fun y => m = y ∧ Inv l v) hx.rd hn (i := i) (by omega) (c := c) (by simpa using h1) (f2.trans (fI h3)) ⟨h2.symm, h3⟩
      cases hxa : x.a with
      | none => rw [hxa] at z3; exact z3.elim
      | some a =>
        rw [hxa] at z3
        exact ⟨⟨z1, z2, rfl, h3⟩, z3⟩
    refine ⟨(x, x.a.map (atOff · 1 1), p.src, p.src, x, x.a.map (atOff · 2 1), p.dst, p.dst, x, x.a.map (atOff · 3 1), p.flags, p.flags, x, cut x 4 6 1, p.sport, x, cut x 6 8 1, p.dport, x, cut x 8 12 1, p.seq, p.seq, x, cut x 12 16 1, p.ack, p.ack, x, cut x 16 18 1, p.window, pkT { p with probe := 0, origin := 0, data := [] } ⟨none, 0, 0⟩, some ⟨u.heap.size, 0, none⟩, ()), Inv, ?_⟩
    have cutI : ∀ {i j : Nat} {l : List Bool} {v : World}, i ≤ j → j ≤ (bytesP p).length → Inv l v → sls x i j 1 fun r => cut x i j 1 = r ∧ Inv l v := fun h1 h2 h3 => cutB (hx.fr (f2.trans (fI h3))) h1 h2 fun _ => ⟨rfl, h3⟩
    refine ⟨?_, fun l v h hI => ⟨rfl, keep hI (by decide) (by decide)⟩, fun l v h hI => (ax rfl e1 (keep hI (by decide) (by decide))).1, fun l v h hI => (ax rfl e1 (keep hI (by decide) (by decide))).2, fun l v h hI => ⟨(i64w (n := p.src) (by omega) (by omega)).symm, keep hI (by decide) (by decide)⟩,
      fun l v h hI => ⟨rfl, keep hI (by decide) (by decide)⟩, fun l v h hI => (ax rfl e2 (keep hI (by decide) (by decide))).1, fun l v h hI => (ax rfl e2 (keep hI (by decide) (by decide))).2, fun l v h hI => ⟨(i64w (n := p.dst) (by omega) (by omega)).symm, keep hI (by decide) (by decide)⟩,
      fun l v h hI => ⟨rfl, keep hI (by decide) (by decide)⟩, fun l v h hI => (ax rfl e3 (keep hI (by decide) (by decide))).1, fun l v h hI => (ax rfl e3 (keep hI (by decide) (by decide))).2, fun l v h hI => ⟨(i64w (n := p.flags) (by omega) (by omega)).symm, keep hI (by decide) (by decide)⟩,
      fun l v h hI => ⟨rfl, keep hI (by decide) (by decide)⟩, fun l v h hI => cutI (i := 4) (j := 6) (by decide) (by omega) (keep hI (by decide) (by decide)), fun l v h hI => n1 (fI hI) ⟨rfl, keep hI (by decide) (by decide)⟩,
      fun l v h hI => ⟨rfl, keep hI (by decide) (by decide)⟩, fun l v h hI => cutI (i := 6) (j := 8) (by decide) (by omega) (keep hI (by decide) (by decide)), fun l v h _ hI => n2 (fI hI) ⟨rfl, keep hI (by decide) (by decide)⟩,
      fun l v h hI => ⟨rfl, keep hI (by decide) (by decide)⟩, fun l v h hI => cutI (i := 8) (j := 12) (by decide) (by omega) (keep hI (by decide) (by decide)), fun l v h _ hI => n3 (fI hI) ⟨rfl, keep hI (by decide) (by decide)⟩, fun l v h _ hI => ⟨(u32w_id q1.1 q1.2).symm, keep hI (by decide) (by decide)⟩,
      fun l v h hI => ⟨rfl, keep hI (by decide) (by decide)⟩, fun l v h hI => cutI (i := 12) (j := 16) (by decide) (by omega) (keep hI (by decide) (by decide)), fun l v h _ hI => n4 (fI hI) ⟨rfl, keep hI (by decide) (by decide)⟩, fun l v h _ hI => ⟨(u32w_id q2.1 q2.2).symm, keep hI (by decide) (by decide)⟩,
      fun l v h hI => ⟨rfl, keep hI (by decide) (by decide)⟩, fun l v h hI => cutI (i := 16) (j := 18) (by decide) (by omega) (keep hI (by decide) (by decide)), fun l v h _ hI => n5 (fI hI) ⟨rfl, keep hI (by decide) (by decide)⟩,
      fun l v h _ _ _ _ _ _ _ _ hI => ⟨rfl, keep hI (by decide) (by decide)⟩, ?_, ?_, ?_⟩
    · rw [hInv]
      exact ⟨fun _ => ⟨rfl, rfl⟩, fun h => by cases h⟩
    · intro l v h hI
      rw [hInv] at hI
      obtain ⟨e, h31⟩ := hI.1 h
      clear hI
      subst e
      refine newPk pk0 ⟨none, 0, 0⟩ fun a v' ha hf hb => ?_
      subst ha
      refine ⟨rfl, mkI ⟨fun h' => (by rw [gsetS h] at h'; cases h'), fun _ => ⟨fu0.trans hf, ?_⟩⟩⟩
      rw [gset (by decide), h31]
      exact hb
    · intro l v h h30 _ _ _ _ _ _ _ _ _ _ _ _ hI
      rw [hInv] at hI
      obtain ⟨hf, hb⟩ := hI.2 (gft h30)
      rw [h] at hb
      rw [nz]
      refine stPk { p with probe := 0, origin := 0, data := [] } ⟨none, 0, 0⟩ (q := pk0) hb fun v' hb' hg' hs' => ?_
      refine mkI ⟨fun h' => (by rw [gset (by decide), gft h30] at h'; cases h'), fun _ => ⟨Mv.on (F := fun k => k = u.heap.size) hf (Mv.of_grown hg' rfl) fun k hk => by have := fu0.size; omega, ?_⟩⟩
      rw [gsetS h]
      exact hb'
    intro v hI
    rw [hInv] at hI
    obtain ⟨fv, hb⟩ := hI.2 rfl
    have hb : PkB v u.heap.size { p with probe := 0, origin := 0, data := [] } ⟨none, 0, 0⟩ := hb
    obtain ⟨a, ha'⟩ : ∃ a, a = u.heap.size := ⟨_, rfl⟩
    have ha : w2.heap.size ≤ a := by have := fu0.size; omega
    clear keep fI ax cutI hInv hI
    dsimp -zeta only
    rw [← ha'] at hb ⊢
    have hxv := hx.fr (f2.trans fv)
    have zv := fv.size
    refine nwI fun bq v2 hbq hs2 fv2 hblk2 _ => ?_
    rw [show 22 + ((optP p).length : Int) = ((22 + (optP p).length : Nat) : Int) from by omega, hn]
    refine cutB (hxv.fr fv2) (by omega) (Nat.le_refl _) fun hcd => ?_
    rw [List.take_length, hdat] at hcd
    refine app_B slB (base := v.heap.size) (l := []) (OwB.new hblk2 (by omega)) hcd.rd hcd.len.symm (by simp; omega) fv2.size fun r3 v3 o3 hb3 _ _ => ?_
    have o3 : OwB v3 v.heap.size t_uint8 r3 p.data := by simpa using o3
    have fv3 : Fr v v3 := fv2.on hb3
    have hb3' : PkB v3 a { p with probe := 0, origin := 0, data := [] } ⟨none, 0, 0⟩ := fv3.heap hb
    rw [nz, addOff]
    refine stData (l := p.data) hb3' fun v4 hb4 hg4 => ?_
    have own : ∀ {u u' : World} {q : Pk} {s : Sl}, OwB u v.heap.size t_uint8 r3 p.data → PkB u a q s → u.grownBy u' (some a) → OwB u' v.heap.size t_uint8 r3 p.data := fun {u u' q s} o h hg =>
      o.mv (Mv.of_grown (F := fun k => k = a) hg rfl) fun ad had e => own_neC o h (by decide) had e
    have frA : ∀ {u u' : World}, Fr w2 u → u.grownBy u' (some a) → Fr w2 u' := fun {u u'} h hg => Mv.on (F := fun k => k = a) h (Mv.of_grown hg rfl) fun k hk => by omega
    have o4 := own o3 hb3' hg4
    have f4 : Fr w2 v4 := frA (fv.trans fv3) hg4
    have hx4 := hx.fr (f2.trans f4)
    have hk22 : (cut x 22 (22 + (optP p).length) 1).n = (optP p).length := by show 22 + _ - 22 = _; omega
    refine cutB (i := 22) (j := 22 + (optP p).length) hx4 (by omega) (by omega) fun _ => ?_
    have hoB : ∀ {u : World}, Fr w2 u → Bs u (cut x 22 (22 + (optP p).length) 1) (optP p) := fun {u} hu => by
      have := (hx.fr (f2.trans hu)).cut (i := 22) (j := 22 + (optP p).length) (by omega) (by omega)
      rwa [hopt] at this
    generalize hO : cut x 22 (22 + (optP p).length) 1 = O at *
    intro j21
    have J21 : ∀ u, Fr w2 u → PkB u a { p with origin := 0 } r3 → OwB u v.heap.size t_uint8 r3 p.data → j21 u := by
      intro u fu hu ou
      unfold j21
      intro j23
      have J23 : ∀ u, Fr w2 u → PkB u a p r3 → OwB u v.heap.size t_uint8 r3 p.data → j23 u := by
        intro u fu hu ou
        unfold j23
        rw [nz]
        refine ldPk hu ?_
        refine (rpPut_ok ou.bs hq').mono ?_
        rintro ⟨r5, r6⟩ w6 ⟨o6, e6, f6⟩
        rw [show putP p = (bytesP p, 0) from if_pos hk'] at o6 e6
        dsimp only at o6 e6
        subst e6
        refine bF rfl ?_
        refine bstrI o6.rd o6.len.symm (Fr.refl _) ?_
        have hx6 := hx.fr (f2.trans (fu.trans f6))
        refine bstrI hx6.rd hx6.len.symm (Fr.refl _) ?_
        refine bF (by rw [beqB_eq]; simp) ?_
        have hu6 : PkB w6 a p r3 := f6.heap hu
        rw [nz]
        refine ldPk hu6 ?_
        have hb16 : PkB w6 a1 pk0 ⟨none, 0, 0⟩ := (fu.trans f6).heap hb1
        refine stPk p r3 hb16 fun w7 hb7 hg7 hs7 => ?_
        refine ldPk hb7 ⟨⟨r3, rfl⟩, ?_⟩
        exact Mv.on (F := fun k => k = a1) (f2.trans (fu.trans f6)) (Mv.of_grown hg7 rfl) fun k hk => by omega
      clear_value j23
      intro j22
      have J22 : ∀ yb : Bool, (yb = true ↔ 0 < p.origin) → j22 yb u := by
        intro yb hy
        unfold j22
        refine bB ?_ ?_ <;> intro hyb
        · have ho := hy.1 hyb
          have e2 : (optP p).length = ((if p.probe > 0 then [1, 10] ++ be4 (p.probe / 4294967296) ++ be4 p.probe else []) ++ [2, 4] : List UInt8).length + 2 := by
            unfold optP; rw [if_pos (show p.origin > 0 from ho)]; simp [be2] <;> omega
          have e3 : ((optP p).take (optP p).length).drop ((optP p).length - 2) = be2 p.origin := by
            rw [List.take_length, e2, Nat.add_sub_cancel]
            unfold optP
            rw [if_pos (show p.origin > 0 from ho), ← List.append_assoc, List.drop_left]
          rw [hk22, i64w (by omega) (by omega), show ((optP p).length : Int) - 2 = (((optP p).length - 2 : Nat) : Int) from by omega]
          refine cutB (hoB fu) (by omega) (Nat.le_refl _) fun hc => ?_
          rw [e3] at hc
          have hN := numN_be2 (n := p.origin) (by omega)
          refine (num_ok hc (by simp [be2]) (by omega)).mono ?_
          rintro _ _ ⟨rfl, rfl⟩
          rw [hN, nz, addOff]
          refine stOrigin hu fun u' hu' hg' => ?_
          have hu' : PkB u' a p r3 := by cases p; exact hu'
          exact J23 u' (frA fu hg') hu' (own ou hu hg')
        · have ho : p.origin = 0 := by
            have : ¬0 < p.origin := fun h => by rw [hy.2 h] at hyb; cases hyb
            omega
          exact J23 u fu (by cases p; dsimp only at ho; subst ho; exact hu) ou
      clear_value j22
      have len4 : (optP p).length = (if p.probe > 0 then 10 else 0) + (if p.origin > 0 then 4 else 0) := by
        unfold optP
        rw [List.length_append]
        congr 1 <;> split <;> simp [be4, be2]
      rw [hk22]
      refine bE ?_ ?_ <;> intro h4
      · refine J22 true ⟨fun _ => ?_, fun _ => rfl⟩
        split at len4 <;> split at len4 <;> omega
      · refine J22 _ ?_
        rw [beq_iff_eq]
        split at len4 <;> split at len4 <;> omega
    clear_value j21
    intro j18
    have hb4' : PkB v4 a { p with probe := 0, origin := 0 } r3 := hb4
    have J18 : ∀ yb : Bool, (yb = true ↔ 0 < p.probe) → j18 yb v4 := by
      intro yb hy
      unfold j18
      refine bB ?_ ?_ <;> intro hyb
      · have hp := hy.1 hyb
        have e3 : ((optP p).take 10).drop 2 = be4 (p.probe / 4294967296) ++ be4 p.probe := by
          unfold optP; rw [if_pos (show p.probe > 0 from hp)]; rfl
        have e4 : 10 ≤ (optP p).length := by
          unfold optP; rw [if_pos (show p.probe > 0 from hp)]; simp [be4]
        have hN := numN_be8 (n := p.probe) (by omega)
        refine cutB (i := 2) (j := 10) (hoB f4) (by omega) e4 fun hc => ?_
        rw [e3] at hc
        refine (num_ok hc (by simp [be4]) (by omega)).mono ?_
        rintro _ _ ⟨rfl, rfl⟩
        rw [hN]
        refine bN (by omega) ?_
        refine cutB (i := 2) (j := 10) (hoB f4) (by omega) e4 fun _ => ?_
        refine (num_ok hc (by simp [be4]) (by omega)).mono ?_
        rintro _ _ ⟨rfl, rfl⟩
        rw [hN, nz, addOff]
        refine stProbe hb4' fun u' hu' hg' => ?_
        have hu' : PkB u' a { p with origin := 0 } r3 := hu'
        exact J21 u' (frA f4 hg') hu' (own o4 hb4' hg')
      · have hp : p.probe = 0 := by
          have : ¬0 < p.probe := fun h => by rw [hy.2 h] at hyb; cases hyb
          omega
        exact J21 v4 f4 (by cases p; dsimp only at hp; subst hp; exact hb4') o4
    clear_value j18
    have len4 : (optP p).length = (if p.probe > 0 then 10 else 0) + (if p.origin > 0 then 4 else 0) := by
      unfold optP
      rw [List.length_append]
      congr 1 <;> split <;> simp [be4, be2]
    rw [hk22]
    refine bE ?_ ?_ <;> intro h4
    · refine J18 true ⟨fun _ => ?_, fun _ => rfl⟩
      split at len4 <;> split at len4 <;> omega
    · refine J18 _ ?_
      rw [beq_iff_eq]
      split at len4 <;> split at len4 <;> omega
  clear_value j12
  refine nwI fun b9 w10 hb9 hs10 f10 hblk10 _ => ?_
  have hx10 := hx.fr (f2.trans f10)
  refine (rInet_ok hblk10 hx10 (by omega)).mono fun r w12 h => ?_
  have f12 := h.2.2
  have e12 := h.1
  clear h
  subst e12
  have hI := inet_bytesP p (by omega)
  generalize inetN (bytesP p) = m at hI ⊢
  refine bNe ?_ ?_ <;> intro h0
  · refine bNe ?_ ?_ <;> intro h1
    · rcases hI with h | h
      · exact absurd (by rw [h]; rfl) h1
      · exact absurd (by rw [h]; rfl) h0
    · exact J12 w12 (f10.trans f12)
  · exact J12 w12 (f10.trans f12)
end
end Go.Proofs.YtoglafmpllimgaaGreatDoor
namespace Go.Proofs.YtoglafmpllimgaaGreatDoor
open Go.RowKit Go.Fl Go.ChangeShapes Go.WideShapes Go.ChangeAt

section
variable {w v v' : World} {E Fa Fb Fa' Fb' : Nat → Prop} {ga gb : Nat} {a b : Bb} {ta tb : Tn}
/-- A number of a packet in a block is written. -/
theorem stSrc {g : Nat} {p : Pk} {s : Sl} {n : Int} {K : World → Prop} (h : PkB w g p s) (hk : ∀ w', PkB w' g { p with src := n } s → w.grownBy w' (some g) → K w') : st1 w ⟨g, 0, none⟩ (.int .i64 n) K :=
  st0 h (by show 0 < 11; decide) fun w' hb hg _ => hk w' hb hg
theorem stDst {g : Nat} {p : Pk} {s : Sl} {n : Int} {K : World → Prop} (h : PkB w g p s) (hk : ∀ w', PkB w' g { p with dst := n } s → w.grownBy w' (some g) → K w') : st1 w ⟨g, 1, none⟩ (.int .i64 n) K :=
  st0 h (by show 1 < 11; decide) fun w' hb hg _ => hk w' hb hg
/-- The packets' rounds: whatever stood there. -/
theorem round_ok {iss pa pb : Int} {p : Pk} {s : Sl} {g : Nat} (hn : Nb2 w v (fun k => k = g) Fa Fb ga gb { bb0 3 1 iss with pass := pa } (tn0 1048577) { bb0 4 1 iss with pass := pb } (tn0 1048577)) (hg0 : w.heap.size ≤ g) {K : World → Prop} {KF : World → Prop}
    (hok : Pk.ok { p with src := 1, dst := 2, probe := 0 }) (hq : p.q) (hpk : PkB v g { p with src := 1, dst := 2, probe := 0 } s) (hs : Bs w s p.data) {x : Sl} (hx : Cb v (Z2 (fun k => k = g) Fa Fb) x (bytesP { p with src := 1, dst := 2, probe := 0 }))
    (hK : ∀ v' Fa' Fb' pa' pb', Nb2 w v' (fun k => k = g) Fa' Fb' ga gb { bb0 3 1 iss with pass := pa' } (tn0 1048577) { bb0 4 1 iss with pass := pb' } (tn0 1048577) → K v') :
    cl Tryz.prog n_box_Box_Lan #[.pointer (some ⟨ga, 0, none⟩), .slice x.a x.n x.c] (.tup .nil) v fun (_ : Unit) w117 => cl Tryz.prog n_box_Box_Out #[.pointer (some ⟨ga, 0, none⟩)] (.tup (.pair .L (.pair .L .nil))) w117 fun (x118 : (Sl × (Sl × Unit))) w119 => bif ((x118.1.n : Int) != 0) then
  (KF w119)
  else bif ((x118.2.1.n : Int) != 1) then
  (KF w119)
  else ixa x118.2.1.a x118.2.1.n 0 1 fun a120 => ld .L w119 a120 fun (x121 : Sl) => cl Tryz.prog n_flumeref04_Get #[.slice x121.a x121.n x121.c] (.tup (.pair k_api_Packet (.pair (.I .i64) .nil))) w119 fun (x122 : (y_api_Packet × (Int × Unit))) w123 => nw w123 ((Kd.av k_api_Packet z_api_Packet).cells) t_api_Packet fun a124 w125 => st w125 a124 (Kd.av k_api_Packet x122.1) fun w126 => ld (.I .i64) w126 (a124.add 8) fun (x127 : Int) => bif (x122.2.1 != 0) then
  (KF w126)
  else ld (.I .i64) w126 ((⟨g, 0, none⟩ : Addr).add 6) fun (x128 : Int) => bif (!((decide (x127 > 0)) == (x128 == 1))) then
  (KF w126)
  else ixa x118.2.1.a x118.2.1.n 0 1 fun a129 => ld .L w126 a129 fun (x130 : Sl) => cl Tryz.prog n_box_Box_Wan #[.pointer (some ⟨gb, 0, none⟩), .slice x130.a x130.n x130.c] (.tup .nil) w126 fun (_ : Unit) w132 => cl Tryz.prog n_box_Box_Out #[.pointer (some ⟨gb, 0, none⟩)] (.tup (.pair .L (.pair .L .nil))) w132 fun (x133 : (Sl × (Sl × Unit))) w134 => bif ((x133.1.n : Int) != 1) then
  (KF w134)
  else ixa x133.1.a x133.1.n 0 1 fun a135 => ld .L w134 a135 fun (x136 : Sl) => cl Tryz.prog n_bytes_Equal #[.slice x136.a x136.n x136.c, .slice x.a x.n x.c] .B w134 fun (x137 : Bool) w138 => bif (!x137) then
  (KF w138)
  else ld (.I .i64) w138 ((⟨g, 0, none⟩ : Addr).add 6) fun (x139 : Int) => bif (!(((x133.2.1.n : Int) == 1) == (x139 == 1))) then
  (KF w138)
  else ld (.I .i64) w138 ((⟨g, 0, none⟩ : Addr).add 1) fun (x140 : Int) => ld (.I .i64) w138 ⟨g, 0, none⟩ fun (x141 : Int) => st1 w138 ⟨g, 0, none⟩ (.int .i64 x140) fun w142 => st1 w142 ((⟨g, 0, none⟩ : Addr).add 1) (.int .i64 x141) fun w143 => ld k_api_Packet w143 ⟨g, 0, none⟩ fun (x144 : y_api_Packet) => cl Tryz.prog n_flumeref04_Put #[(Kd.av k_api_Packet x144).val] (.tup (.pair .L (.pair (.I .i64) .nil))) w143 fun (x145 : (Sl × (Int × Unit))) w146 => cl Tryz.prog n_box_Box_Lan #[.pointer (some ⟨gb, 0, none⟩), .slice x145.1.a x145.1.n x145.1.c] (.tup .nil) w146 fun (_ : Unit) w148 => cl Tryz.prog n_box_Box_Out #[.pointer (some ⟨gb, 0, none⟩)] (.tup (.pair .L (.pair .L .nil))) w148 fun (x149 : (Sl × (Sl × Unit))) w150 => bif ((x149.2.1.n : Int) != 1) then
  (KF w150)
  else ixa x149.2.1.a x149.2.1.n 0 1 fun a151 => ld .L w150 a151 fun (x152 : Sl) => cl Tryz.prog n_bytes_Equal #[.slice x152.a x152.n x152.c, .slice x145.1.a x145.1.n x145.1.c] .B w150 fun (x153 : Bool) w154 => bif (!x153) then
  (KF w154)
  else cl Tryz.prog n_box_Box_Wan #[.pointer (some ⟨ga, 0, none⟩), .slice x145.1.a x145.1.n x145.1.c] (.tup .nil) w154 fun (_ : Unit) w156 => cl Tryz.prog n_box_Box_Out #[.pointer (some ⟨ga, 0, none⟩)] (.tup (.pair .L (.pair .L .nil))) w156 fun (x157 : (Sl × (Sl × Unit))) w158 => bif ((x157.1.n : Int) != 1) then
  (KF w158)
  else ixa x157.1.a x157.1.n 0 1 fun a159 => ld .L w158 a159 fun (x160 : Sl) => cl Tryz.prog n_bytes_Equal #[.slice x160.a x160.n x160.c, .slice x145.1.a x145.1.n x145.1.c] .B w158 fun (x161 : Bool) w162 => bif (!x161) then
  (KF w162)
  else K w162 := by
  generalize hqd : ({ p with src := 1, dst := 2, probe := 0 } : Pk) = q at *
  have qsrc : q.src = 1 := by rw [← hqd]
  have qdst : q.dst = 2 := by rw [← hqd]
  have qprobe : q.probe = 0 := by rw [← hqd]
  have qdata : q.data = p.data := by rw [← hqd]
  have qq : q.q := by rw [← hqd]; exact hq
  obtain ⟨y, hy⟩ : ∃ y : Pk, y = if q.flags = 1 then { q with probe := 1048577 } else q := ⟨_, rfl⟩
  have yok : y.ok := by
    rw [hy]
    split
    · obtain ⟨k1, k2, k3, k4, k5, k6, k7, k8, k9, k10⟩ := hok
      exact ⟨k1, k2, k3, k4, k5, k6, k7, (by decide : (0 : Int) ≤ 1048577 ∧ (1048577 : Int) ≤ 1099511627776), k9, k10⟩
    · exact hok
  have yq : y.q := by rw [hy]; split <;> exact qq
  have ydata : y.data = q.data := by rw [hy]; split <;> rfl
  have ysrc : y.src = 1 := by rw [hy]; split <;> exact qsrc
  have ydst : y.dst = 2 := by rw [hy]; split <;> exact qdst
  have yprobe : (y.probe > 0) ↔ q.flags = 1 := by
    rw [hy]
    split
    · rename_i h; exact ⟨fun _ => h, fun _ => (by decide : (1048577 : Int) > 0)⟩
    · rename_i h; exact ⟨fun h' => by rw [qprobe] at h'; omega, fun h' => absurd h' h⟩
  have yback : ({ y with probe := 0 } : Pk) = q := by
    rw [hy]
    split <;> (cases q; dsimp only at qprobe; subst qprobe; rfl)
  have hdl : q.data.length ≤ 128 := hok.2.2.2.2.2.2.2.2.2
  have ql : (bytesP q).length ≤ 1048576 := by rw [bytesP_len]; have := optP_len q; omega
  have yl : (bytesP y).length ≤ 1048576 := by rw [bytesP_len, ydata]; have := optP_len y; omega
  have hme : (1 : Int) ≤ (tn0 1048577).me := by decide
  have gE : ∀ {u : World} {Fa Fb : Nat → Prop} {a b : Bb} {ta tb : Tn} {ga gb : Nat}, Nb2 w u (fun k => k = g) Fa Fb ga gb a ta b tb → ¬Fa g := fun h => h.one.fl.2.2 g (.inl rfl)
  -- the left box hands it on
  obtain ⟨_, _, _, _, _, _, _, na, ea⟩ := hn.one
  refine (lanL na rfl qsrc qdst rfl hme hx.bs ql (getP_put hok qq) (by show (0 : Nat) ≤ 1073741824; decide)).mono ?_
  rintro _ w1 hto
  rw [← ea] at hto
  obtain ⟨Fa1, h1, s1⟩ := hn.act hto
  have e1 : (if q.flags = 1 then (putP { q with probe := (tn0 1048577).me }).1 else bytesP q) = bytesP y := by
    by_cases hf : q.flags = 1
    · rw [if_pos hf] at hy ⊢
      rw [show ({ q with probe := (tn0 1048577).me } : Pk) = y from hy.symm, putP, if_pos yok]
    · rw [if_neg hf] at hy ⊢
      rw [hy]
  rw [e1] at h1
  have S1 := stpA (E := fun k => k = g) (Fb := Fb) s1
  refine h1.out (by decide : (3 : Int) ≠ 0) hme (by show 1 + 0 ≤ _; decide) fun r2 w2 Fa2 h2 s2 rl2 rw2 _ => ?_
  have S2 := S1.trans (stpA (Fb := Fb) s2)
  have rl2 : RowB w2 (Z2 (fun k => k = g) Fa2 Fb) r2.1 [] := rl2
  have rw2 : RowB w2 (Z2 (fun k => k = g) Fa2 Fb) r2.2.1 [bytesP y] := rw2
  refine bF (by rw [rl2.len]; rfl) (bF (by rw [rw2.len]; rfl) ?_)
  refine row0 rw2 fun s3 c3 => ?_
  refine (rpGet_ok yok yq c3.bs).mono ?_
  rintro _ w3 ⟨⟨s4, rfl⟩, f3⟩
  refine newPk pk0 ⟨none, 0, 0⟩ fun a4 w4 ha4 f4 hb4 => ?_
  have z3 := f3.size
  refine stPk y s4 hb4 fun w5 hb5 hg5 hs5 => ?_
  have f5 : Fr w2 w5 := Mv.on (F := fun k => k = a4) (f3.trans f4) (Mv.of_grown hg5 rfl) fun k hk => by omega
  rw [addOff, addOff]
  refine ldI0 (n := y.probe) hb5 rfl ?_
  refine bF rfl ?_
  have hp2 : PkB w2 g q s := s2.heap (s1.heap hpk (gE hn)) (gE h1)
  have hp5 : PkB w5 g q s := f5.heap hp2
  refine ldI0 (n := q.flags) hp5 rfl ?_
  refine bF (by
    by_cases hf : q.flags = 1
    · rw [decide_eq_true (yprobe.2 hf), show (q.flags == 1) = true from by rw [hf]; rfl]; rfl
    · rw [decide_eq_false fun h => hf (yprobe.1 h), show (q.flags == 1) = false from by simpa using hf]; rfl) ?_
  have rw5 := rw2.fr f5
  refine row0 rw5 fun s6 c6 => ?_
  -- the right box takes it
  have h5 := h2.fr f5
  obtain ⟨FBb, FTb, gtb, xb, lb, mb, yb, nb, eb⟩ := h5.two
  have c6' : Cb w5 (Zt (fun k => k = g ∨ Fa2 k) (fun k => FBb k ∨ FTb k)) s6 (bytesP y) := c6.anti fun k hk => by
    rw [← eb] at hk
    exact zS (zA hk)
  refine (wanP nb (by decide : (4 : Int) ≠ 0) c6' yl (getP_put yok yq) fun {u s'} nu cu => overR nu rfl ysrc ydst hme cu yl (getP_put yok yq) (by show (0 : Nat) ≤ 1073741824; decide) (by show (0 : Nat) ≤ 1073741824; decide)).mono ?_
  rintro _ w6 hto
  rw [← eb] at hto
  obtain ⟨Fb6, h6, s6'⟩ := h5.symm.act hto
  have e6 : (if y.probe > 0 then (putP { y with probe := 0 }).1 else bytesP y) = bytesP q := by
    by_cases hf : q.flags = 1
    · rw [if_pos (yprobe.2 hf), yback, putP, if_pos hok]
    · rw [if_neg fun h => hf (yprobe.1 h), hy, if_neg hf]
  rw [e6] at h6
  obtain ⟨t6, ht6⟩ : ∃ t6, t6 = if y.probe > 0 then (tn0 1048577).hint y.probe else tn0 1048577 := ⟨_, rfl⟩
  rw [← ht6] at h6
  have t6me : t6.me = 1048577 := by
    rw [ht6]; split
    · unfold Tn.hint; split <;> rfl
    · rfl
  have yle : y.probe ≤ 1099511627776 := yok.2.2.2.2.2.2.2.1.2
  have t6out : t6.out.length = if q.flags = 1 then 1 else 0 := by
    rw [ht6]
    by_cases hf : q.flags = 1
    · have hp := yprobe.2 hf
      rw [if_pos hp, if_pos hf]
      unfold Tn.hint
      rw [if_pos ⟨by omega, yle⟩]
      rfl
    · rw [if_neg fun h => hf (yprobe.1 h), if_neg hf]; rfl
  have t6clear : t6.clear = tn0 1048577 := by
    rw [ht6]; split
    · unfold Tn.hint; split <;> rfl
    · rfl
  have S6 := (S2.fr f5).trans (stpB (Fa := Fa2) s6')
  refine h6.out (by decide : (4 : Int) ≠ 0) (by rw [t6me]; decide) (by show 0 + t6.out.length ≤ _; rw [t6out]; split <;> decide) fun r7 w7 Fb7 h7 s7 rl7 rw7 _ => ?_
  rw [t6clear] at h7
  have S7 := S6.trans (stpB (Fa := Fa2) s7)
  have rl7 : RowB w7 (Z2 (fun k => k = g) Fb7 Fa2) r7.1 [bytesP q] := rl7
  have rw7 : RowB w7 (Z2 (fun k => k = g) Fb7 Fa2) r7.2.1 t6.out := rw7
  refine bF (by rw [rl7.len]; rfl) ?_
  refine row0 rl7 fun s8 c8 => ?_
  have hx7 : Cb w7 (Z2 (fun k => k = g) Fa2 Fb7) x (bytesP q) := S7.cb hx
  refine (Equal_ok c8.bs hx7.bs).mono ?_
  rintro _ _ ⟨rfl, rfl⟩
  refine bF (by simp) ?_
  have hp7 : PkB w7 g q s := s7.heap (s6'.heap hp5 (gE h5.symm)) (gE h6)
  refine ldI0 (n := q.flags) hp7 rfl ?_
  refine bF (by
    rw [rw7.len, t6out]
    by_cases hf : q.flags = 1
    · rw [if_pos hf, show (q.flags == 1) = true from by rw [hf]; rfl]; rfl
    · rw [if_neg hf, show (q.flags == 1) = false from by simpa using hf]; rfl) ?_
  refine ldI0 (n := q.dst) hp7 rfl (ldI0 (n := q.src) hp7 rfl ?_)
  rw [qsrc, qdst]
  refine stSrc hp7 fun w8 hb8 hg8 => stDst hb8 fun w9 hb9 hg9 => ?_
  have mg : Mv (fun k => k = g) w7 w9 := (Mv.of_grown (F := fun k => k = g) hg8 rfl).trans (Mv.of_grown (F := fun k => k = g) hg9 rfl) fun k hk => .inl hk
  have h9 := h7.symm.turn mg fun k hk => by omega
  generalize hq2 : ({ q with src := 2, dst := 1 } : Pk) = q2 at *
  have hp9 : PkB w9 g q2 s := hq2 ▸ hb9
  have q2ok : q2.ok := by
    rw [← hq2]
    obtain ⟨k1, k2, k3, k4, k5, k6, k7, k8, k9, k10⟩ := hok
    exact ⟨(by decide : (1 : Int) ≤ 2 ∧ (2 : Int) ≤ 4), (by decide : (1 : Int) ≤ 1 ∧ (1 : Int) ≤ 4), (by decide : (2 : Int) ≠ 1), k4, k5, k6, k7, k8, k9, k10⟩
  have q2q : q2.q := by rw [← hq2]; exact qq
  have q2data : q2.data = p.data := by rw [← hq2]; exact qdata
  have q2src : q2.src = 2 := by rw [← hq2]
  have q2dst : q2.dst = 1 := by rw [← hq2]
  have q2l : (bytesP q2).length ≤ 1048576 := by rw [bytesP_len, q2data, ← qdata]; have := optP_len q2; omega
  refine ldPk hp9 ?_
  refine (rpPut_ok (p := q2) (by rw [q2data]; exact hs.fr h9.fr0) q2q).mono ?_
  rintro ⟨x10, e10⟩ w10 ⟨o10, _, f10⟩
  rw [show (putP q2).1 = bytesP q2 from by rw [putP, if_pos q2ok]] at o10
  have c10 : Cb w10 (Z2 (fun k => k = g) Fa2 Fb7) x10 (bytesP q2) := Cb.own o10 fun k hk => h9.lt hk
  have h10 := h9.fr f10
  obtain ⟨_, _, _, _, _, _, _, nb10, eb10⟩ := h10.two
  refine (lanR nb10 rfl q2src q2dst c10.bs q2l (getP_put q2ok q2q) (by show (0 : Nat) ≤ 1073741824; decide)).mono ?_
  rintro _ w11 hto
  rw [← eb10] at hto
  obtain ⟨Fb11, h11, s11⟩ := h10.symm.act hto
  have S11 := stpB (E := fun k => k = g) (Fa := Fa2) s11
  refine h11.out (by decide : (4 : Int) ≠ 0) hme (by show 1 + 0 ≤ _; decide) fun r12 w12 Fb12 h12 s12 rl12 rw12 _ => ?_
  have S12 := S11.trans (stpB (Fa := Fa2) s12)
  have rw12 : RowB w12 (Z2 (fun k => k = g) Fb12 Fa2) r12.2.1 [bytesP q2] := rw12
  refine bF (by rw [rw12.len]; rfl) ?_
  refine row0 rw12 fun s13 c13 => ?_
  have c12 := S12.cb c10
  refine (Equal_ok c13.bs c12.bs).mono ?_
  rintro _ _ ⟨rfl, rfl⟩
  refine bF (by simp) ?_
  -- and the left one hands it back
  have h12 := h12.symm
  obtain ⟨_, _, _, _, _, _, _, na12, ea12⟩ := h12.one
  refine (wanP na12 (by decide : (3 : Int) ≠ 0) (c12.anti fun k hk => by rw [← ea12] at hk; exact zA hk) q2l (getP_put q2ok q2q) fun {u s'} nu cu => overL nu rfl q2src q2dst cu.bs q2l (by show (0 : Nat) ≤ 1073741824; decide)).mono ?_
  rintro _ w14 hto
  rw [← ea12] at hto
  obtain ⟨Fa14, h14, s14⟩ := h12.act hto
  refine h14.out (by decide : (3 : Int) ≠ 0) hme (by show 0 + 0 ≤ _; decide) fun r15 w15 Fa15 h15 s15 rl15 rw15 _ => ?_
  have S15 := S12.trans ((stpA (Fb := Fb12) s14).trans (stpA (Fb := Fb12) s15))
  have rl15 : RowB w15 (Z2 (fun k => k = g) Fa15 Fb12) r15.1 [bytesP q2] := rl15
  refine bF (by rw [rl15.len]; rfl) ?_
  refine row0 rl15 fun s16 c16 => ?_
  have c15 := S15.cb c10
  refine (Equal_ok c16.bs c15.bs).mono ?_
  rintro _ _ ⟨rfl, rfl⟩
  refine bF (by simp) ?_
  exact hK w15 Fa15 Fb12 _ _ h15
end
set_option maxRecDepth 100000 in
theorem BoxPasses_law {H : Type} {enc : TypeId × Value → H} {w : World} {base : Nat} {iss : Int} {v : Value} {dd : DataW H} {ps : List MemPlace} (hd : Crc w) (_ : (Lit.int .u32 iss).wf = true) (hv : Value.okWide Tryz.prog w .any base t_s_api_Packet v) (h : DataW.Trod enc Tryz.prog w 0 (fun _ => true) true t_s_api_Packet v dd ps) :
    Calls Tryz.prog n_flumelaw14_BoxPasses #[.int .u32 iss, v] w fun e w' => e = .returned (.bool true) ∧ Below w.heap.size w w' := by
  refine lawE ?_
  obtain ⟨s, xs, rfl, hsn, hrd, hin⟩ := pks_in hv h
  have aw : ∀ {u : World}, Fr w u → cl Tryz.prog n_flumelaw14_awake #[] .B u fun (r : Bool) w' => r = true ∧ Fr w w' := fun {u} hu => (awake14_ok (hd.fr hu)).mono fun _ _ ⟨h1, h2⟩ => ⟨h1, hu.trans h2⟩
  refine flumelaw14_BoxPasses.cl (p0 := iss) (p1 := s) ?_
  unfold flumelaw14_BoxPasses
  intro j1
  have J1 : ∀ n : Int, j1 n w := by
    intro n
    unfold j1
    refine bD ?_ ?_ <;> intro h0
    · exact aw (Fr.refl w)
    refine bD ?_ ?_ <;> intro h1
    · exact aw (Fr.refl w)
    refine two_new hd (.inl rfl) (.inr rfl) (by decide) (by decide) fun ga gb v Fa Fb h2 => ?_
    have h2 : Nb2 w v (fun _ => False) Fa Fb ga gb { bb0 3 1 iss with pass := 0 } (tn0 1048577) { bb0 4 1 iss with pass := 0 } (tn0 1048577) := h2
    refine lpI (fun (s' : Int × Unit) u => ∃ (i : Nat) (E Fa Fb : Nat → Prop) (pa pb : Int), s'.1 = (i : Int) ∧ i ≤ xs.length ∧ Nb2 w u E Fa Fb ga gb { bb0 3 1 iss with pass := pa } (tn0 1048577) { bb0 4 1 iss with pass := pb } (tn0 1048577)) (fun s' _ => xs.length - s'.1.toNat) ⟨0, _, _, _, _, _, rfl, Nat.zero_le _, h2⟩ ?_
    rintro D ⟨_, ⟨⟩⟩ u ⟨i, E, Fa, Fb, pa, pb, rfl, hi, hn⟩
    dsimp -zeta only
    refine bD ?_ ?_ <;> intro hlt
    · have hix : i < xs.length := by omega
      have fu := hn.fr0
      refine ixE (f := pkC) (sz := 11) (fun _ => rfl) (s := s) (xs := xs) (hrd.below fu) hsn hix (by decide) fun a hcell => ?_
      have he := hin _ (List.getElem_mem hix)
      generalize xs[i] = e at *
      obtain ⟨p, sl⟩ := e
      obtain ⟨hdat, hpq⟩ := he
      dsimp only at hdat hpq
      refine ldAt k_api_Packet (pkT p sl) rfl (fun j v hj => hcell j v hj) ?_
      refine newPk pk0 ⟨none, 0, 0⟩ fun a3 u4 ha3 f4 hb4 => ?_
      refine stPk p sl hb4 fun u5 hb5 hg5 hs5 => ?_
      have f5 : Fr u u5 := Mv.on (F := fun k => k = a3) f4 (Mv.of_grown hg5 rfl) fun k hk => by omega
      refine ldPk hb5 ?_
      refine newPk pk0 ⟨none, 0, 0⟩ fun g u8 hg f8 hb8 => ?_
      have z5 := f5.size
      have z8 := f8.size
      have zu := fu.size
      refine stPk p sl hb8 fun u9 hb9 hg9 hs9 => ?_
      refine stSrc hb9 fun u10 hb10 hg10 => ?_
      rw [addOff, addOff]
      refine stDst hb10 fun u11 hb11 hg11 => ?_
      refine stProbe hb11 fun u12 hb12 hg12 => ?_
      have mg : Mv (fun k => k = g) u8 u12 := (((Mv.of_grown (F := fun k => k = g) hg9 rfl).trans (Mv.of_grown (F := fun k => k = g) hg10 rfl) fun k hk => .inl hk).trans (Mv.of_grown (F := fun k => k = g) hg11 rfl) fun k hk => .inl hk).trans (Mv.of_grown (F := fun k => k = g) hg12 rfl) fun k hk => .inl hk
      have f12 : Fr u u12 := Mv.on (F := fun k => k = g) (f5.trans f8) mg fun k hk => by omega
      have hb12 : PkB u12 g { p with src := 1, dst := 2, probe := 0 } sl := hb12
      refine ldPk hb12 ?_
      have hgl := (Array.getElem?_eq_some_iff.1 hb12).1
      have next : ∀ {u' : World} {E Fa Fb : Nat → Prop} {pa pb : Int}, Nb2 w u' E Fa Fb ga gb { bb0 3 1 iss with pass := pa } (tn0 1048577) { bb0 4 1 iss with pass := pb } (tn0 1048577) →
          (∃ (i' : Nat) (E Fa Fb : Nat → Prop) (pa pb : Int), IntKind.i64.wrap ((i : Int) + 1) = (i' : Int) ∧ i' ≤ xs.length ∧ Nb2 w u' E Fa Fb ga gb { bb0 3 1 iss with pass := pa } (tn0 1048577) { bb0 4 1 iss with pass := pb } (tn0 1048577)) ∧ xs.length - (IntKind.i64.wrap ((i : Int) + 1)).toNat < xs.length - (i : Int).toNat := fun {u' E Fa Fb pa pb} h => by
        rw [i64w (by omega) (by omega)]
        exact ⟨⟨i + 1, _, _, _, _, _, by omega, by omega, h⟩, by omega⟩
      refine (rpPut_ok (p := { p with src := 1, dst := 2, probe := 0 }) (s := sl) (hdat.fr (fu.trans f12)) hpq).mono ?_
      rintro ⟨x13, e13⟩ u13 ⟨o13, he13, f13⟩
      dsimp only at he13
      subst he13
      by_cases hok : Pk.ok { p with src := 1, dst := 2, probe := 0 }
      rotate_left
      · rw [putP, if_neg hok]
        refine bT rfl ?_
        exact next (hn.fr (f12.trans f13))
      rw [putP, if_pos hok] at o13 ⊢
      refine bF rfl ?_
      have hn13 := hn.env (E' := fun k => k = g) (f12.trans f13) fun k hk => ⟨.inr (by omega), by have := f13.size; omega⟩
      refine round_ok (KF := fun _ => _) hn13 (by omega) hok hpq (f13.heap hb12) hdat (Cb.own o13 fun k hk => ?_) fun v' Fa' Fb' pa' pb' h' => next h'
      rcases hk with hk | hk | hk
      · omega
      · have := hn.one.fl.1 k hk; have := f12.size; omega
      · have := hn.two.fl.1 k hk; have := f12.size; omega
    · obtain ⟨_, _, _, _, _, _, _, na, _⟩ := hn.one
      obtain ⟨_, _, _, _, _, _, _, nb, _⟩ := hn.two
      refine (bFlows_ok na (by decide : (3 : Int) ≠ 0)).mono ?_
      rintro _ _ ⟨rfl, rfl⟩
      refine (bFlows_ok nb (by decide : (4 : Int) ≠ 0)).mono ?_
      rintro _ _ ⟨rfl, rfl⟩
      refine bT rfl ?_
      exact aw hn.fr0
  clear_value j1
  refine lpI (fun (s' : Int × Int × Unit) u => ∃ i : Nat, s'.2.1 = (i : Int) ∧ i ≤ xs.length ∧ w = u) (fun s' _ => xs.length - s'.2.1.toNat) ⟨0, rfl, Nat.zero_le _, rfl⟩ ?_
  rintro D ⟨n, _, ⟨⟩⟩ _ ⟨i, rfl, hi, rfl⟩
  dsimp -zeta only
  refine bD ?_ ?_ <;> intro hlt
  · refine bD ?_ ?_ <;> intro h200
    · have hix : i < xs.length := by omega
      refine ixE (f := pkC) (sz := 11) (fun _ => rfl) (s := s) (xs := xs) hrd hsn hix (by decide) fun a hcell => ?_
      refine ⟨(xs[i]).2, hcell 10 _ rfl, ?_⟩
      rw [i64w (n := (i : Int) + 1) (by omega) (by omega)]
      exact ⟨⟨i + 1, by omega, by omega, rfl⟩, by omega⟩
    · exact J1 n
  · exact J1 n
end Go.Proofs.YtoglafmpllimgaaGreatDoor
namespace Go.Proofs.YtoglafmpllimgaaGreatDoor
open Go.RowKit Go.Fl

abbrev laid2 : List (String × DataW Unit) := [("flume/digest.first", Rows.laid_flume_digest_first), ("flume/digest.rounds", Rows.laid_flume_digest_rounds), ("flume/sums.nibbles", Rows.laid_flume_sums_nibbles)]
/-- The door's own heap meets the condition. -/
theorem door_met (os : Os) (args : Array Value) : laidMetH Tryz.prog laid2 ((World.doorLaid Tryz.prog 400 os).forCall (fun _ _ => 0) ⟨#[], args, []⟩).memory :=
  laidMetH_of_parts3 (fuel := 8) (laidMet_of_run' 8 (by kernel_rfl) (by kernel_rfl)) (by kernel_rfl) (by kernel_rfl)
theorem glob_of_tab {W : World} {name : String} {zs : List Int} {g : Nat} (h : Lib.TabIs Tryz.prog W name .u32 zs) (hg : Tryz.prog.globalNamed name = some g) : Glob W g zs := fun i hi => by
  rw [h.cell hg i hi, List.getD_eq_getElem?_getD, List.getElem?_eq_getElem hi]
  rfl
def tabTyB (P : Program) (g n : Nat) : Bool := match (P.globals[g]?).map (·.type) with
  | some t => match P.underlying t with
    | some (.array m e) => match P.underlying e with
      | some (.int .u32) => m == n && P.cellsOf e == 1 && P.cellsOf t == n
      | _ => false
    | _ => false
  | none => false
theorem tab_of {P : Program} {W : World} {name : String} {zs : List Int} {rest : List (String × DataW Unit)} {g n : Nat} (hg : P.globalNamed name = some g) (hB : tabTyB P g n = true) (h : laidMet P ((name, Lib.tabData .u32 zs) :: rest) W) : Lib.TabIs P W name .u32 zs := by
  unfold tabTyB at hB
  split at hB
  · rename_i t ht
    split at hB
    · rename_i m e hu
      split at hB
      · rename_i he
        simp only [Bool.and_eq_true, beq_iff_eq] at hB
        obtain ⟨⟨rfl, h1⟩, h2⟩ := hB
        exact Lib.tabIs_of_head hg ht hu he h1 h2 h
      · cases hB
    · cases hB
  · cases hB
theorem dig_of_laid {W : World} (h : laidMetH Tryz.prog laid2 W) : Crc W := by
  rw [MakeChecks.laidMetH_plain _ _ _ (by kernel_rfl)] at h
  have h1 : laidMet Tryz.prog (("flume/digest.first", Rows.laid_flume_digest_first) :: ("flume/digest.rounds", Rows.laid_flume_digest_rounds) :: [("flume/sums.nibbles", Lib.tabData .u32 Nib)]) W := h
  exact glob_of_tab (tab_of (g := g_sums_nibbles) (n := 16) (by kernel_rfl) (by kernel_rfl) h1.tail.tail) (by kernel_rfl)
end Go.Proofs.YtoglafmpllimgaaGreatDoor
