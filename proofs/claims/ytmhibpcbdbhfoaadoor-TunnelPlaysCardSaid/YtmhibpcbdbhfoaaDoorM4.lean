/- Contracts and plain laws that the claims of this seat lean on, put together. -/
import Derived.Test.YtmhibpcbdbhfoaaDoorM3
import Derived.SizedLaws
import Derived.Test.YtmhibpcbdbhfoaaDoorRows
import Derived.Lib.LaidTab
import Derived.LaidMore
import Derived.ProofKit
import Derived.Stop.LaidErr
import Derived.Stop.Joined
namespace Go.Fl

/-- Has a message come? -/
def Rc (t : Tn) (q : Int) : Prop := q ≤ t.expect ∨ (t.early q).isSome = true
/-- Does an acknowledgement name a number? -/
def cov (f : Fm) (q : Int) : Bool := gone f (q, [], 0)
theorem gone_cov (f : Fm) (x : Int × List UInt8 × Int) : gone f x = cov f x.1 := rfl
theorem can_nil {t : Tn} (h : t.way = []) : t.can = true := by unfold Tn.can; rw [h]
theorem can_cons {t : Tn} {x : Int × List UInt8 × Int} {l : List (Int × List UInt8 × Int)} (h : t.way = x :: l) : t.can = decide (wr (wr (t.next + 1) - x.1) < 16) := by unfold Tn.can; rw [h]
/-- What a slide keeps. -/
theorem slideF_ind {P : Tn → Prop} (hs : ∀ t b q, P t → t.queue = b :: q → t.can = true → P (t.put1 b q)) : ∀ (k : Nat) {t : Tn}, P t → P (slideF k t)
  | 0, _, h => h
  | k + 1, t, h => by
    unfold slideF
    split
    · exact h
    · rename_i b q hq
      split
      · rename_i hc
        exact slideF_ind hs k (hs t b q h hq hc)
      · exact h
theorem slide_ind {P : Tn → Prop} {t : Tn} (h : P t) (hs : ∀ t b q, P t → t.queue = b :: q → t.can = true → P (t.put1 b q)) : P t.slide := slideF_ind hs _ h
theorem slideF_stuck : ∀ (k : Nat) {t : Tn}, t.queue.length ≤ k → (slideF k t).queue ≠ [] → (slideF k t).can = false
  | 0, t, h, hn => by
    have : t.queue = [] := List.eq_nil_of_length_eq_zero (by omega)
    exact absurd this hn
  | k + 1, t, h, hn => by
    unfold slideF at hn ⊢
    split
    · rename_i hq
      rw [hq] at hn
      exact absurd hq hn
    · rename_i b q hq
      rw [hq] at hn
      dsimp only at hn
      split
      · rename_i hc
        rw [if_pos hc] at hn
        refine slideF_stuck k ?_ hn
        show q.length ≤ k
        rw [hq] at h
        simpa using h
      · rename_i hc
        simpa using hc
theorem slide_stuck (t : Tn) : t.slide.queue ≠ [] → t.slide.can = false := slideF_stuck _ (Nat.le_refl _)
/-- What a datagram does. -/
theorem take_cases {t : Tn} {d : List UInt8} {f : Fm} (h : getF d = some f) :
    (f.yo ≠ t.me ∧ t.you ≤ f.fr ∧ (t.take d).1 = t.say (hel f.fr)) ∨
    (((f.yo ≠ t.me ∧ f.fr < t.you) ∨ (f.yo = t.me ∧ f.k = 1 ∧ f.fr < t.you) ∨ (f.yo = t.me ∧ f.k ≠ 1 ∧ (t.up = false ∨ f.fr ≠ t.you))) ∧ (t.take d).1 = t) ∨
    (f.yo = t.me ∧ f.k = 1 ∧ (f.fr > t.you ∨ (f.fr = t.you ∧ t.up = false)) ∧ (t.take d).1 = t.beg f.fr) ∨
    (f.yo = t.me ∧ f.k = 1 ∧ f.fr = t.you ∧ t.up = true ∧ (t.take d).1 = { t with sil := 0 }) ∨
    (f.yo = t.me ∧ f.k = 3 ∧ f.fr = t.you ∧ t.up = true ∧ (t.take d).1 = ({ t with sil := 0 } : Tn).ack f) ∨
    (f.yo = t.me ∧ f.k = 2 ∧ f.fr = t.you ∧ t.up = true ∧ (t.take d).1 = (({ t with sil := 0 } : Tn).data f).1) := by
  have hk := (okF_in (getF_back h).1).1
  unfold Tn.take
  rw [h]
  dsimp only
  split
  · rename_i h1
    unfold Tn.hello
    split
    · rename_i h2
      split
      · rename_i h3; exact .inl ⟨h2, by omega, rfl⟩
      · rename_i h3; exact .inr (.inl ⟨.inl ⟨h2, by omega⟩, rfl⟩)
    · rename_i h2
      have h2 : f.yo = t.me := Classical.byContradiction h2
      split
      · rename_i h3; exact .inr (.inr (.inl ⟨h2, h1, h3, rfl⟩))
      · rename_i h3
        split
        · rename_i h4
          refine .inr (.inr (.inr (.inl ⟨h2, h1, h4, ?_, rfl⟩)))
          cases hu : t.up with
          | true => rfl
          | false => exact absurd (.inr ⟨h4, hu⟩) h3
        · rename_i h4; exact .inr (.inl ⟨.inr (.inl ⟨h2, h1, by omega⟩), rfl⟩)
  · rename_i h1
    split
    · rename_i hcond
      split
      · rename_i h3; exact .inl ⟨h3.1, by omega, rfl⟩
      · rename_i h3
        refine .inr (.inl ⟨?_, rfl⟩)
        by_cases hy : f.yo = t.me
        · refine .inr (.inr ⟨hy, h1, ?_⟩)
          rcases hcond with hc | hc | hc
          · exact .inl hc
          · exact .inr hc
          · exact absurd hy hc
        · refine .inl ⟨hy, ?_⟩
          apply Classical.byContradiction
          intro hf
          exact h3 ⟨hy, by omega⟩
    · rename_i hcond
      have hu : t.up = true := by
        cases hu : t.up with
        | true => rfl
        | false => exact absurd (.inl hu) hcond
      have hfr : f.fr = t.you := Classical.byContradiction fun e => hcond (.inr (.inl e))
      have hyo : f.yo = t.me := Classical.byContradiction fun e => hcond (.inr (.inr e))
      split
      · rename_i h3; exact .inr (.inr (.inr (.inr (.inl ⟨hyo, h3, hfr, hu, rfl⟩))))
      · rename_i h3; exact .inr (.inr (.inr (.inr (.inr ⟨hyo, by omega, hfr, hu, rfl⟩))))
/-- What holds of each tunnel; N bounds what it counts. -/
structure TL (t : Tn) (N : Int) : Prop where
  nx : 0 ≤ t.next ∧ t.next + t.queue.length ≤ N
  sort : t.way.Pairwise fun x y => x.1 < y.1
  win : ∀ x ∈ t.way, 1 ≤ x.1 ∧ x.1 ≤ t.next ∧ t.next < x.1 + 16
  age : ∀ x ∈ t.way, 0 ≤ x.2.2 ∧ x.2.2 ≤ t.ticks
  ticks : 0 ≤ t.ticks ∧ t.ticks ≤ N
  idle : t.up = false → t.queue = [] ∧ t.way = []
  upy : t.up = true → 1 ≤ t.you
structure Rest (t : Tn) : Prop where
  early : t.early (t.expect + 1) = none
  stuck : t.queue ≠ [] → t.can = false
section
variable {t : Tn} {N : Int}
theorem TL.say (h : TL t N) (f : Fm) : TL (t.say f) N := ⟨h.nx, h.sort, h.win, h.age, h.ticks, h.idle, h.upy⟩
theorem TL.clear (h : TL t N) : TL t.clear N := ⟨h.nx, h.sort, h.win, h.age, h.ticks, h.idle, h.upy⟩
theorem TL.calm (h : TL t N) : TL { t with sil := 0 } N := ⟨h.nx, h.sort, h.win, h.age, h.ticks, h.idle, h.upy⟩
theorem TL.mono {M : Int} (h : TL t N) (hM : N ≤ M) : TL t M := ⟨⟨h.nx.1, by have := h.nx.2; omega⟩, h.sort, h.win, h.age, ⟨h.ticks.1, by have := h.ticks.2; omega⟩, h.idle, h.upy⟩
theorem TL.zero (h0 : 0 ≤ N) (me : Int) : TL (tn0 me) N := ⟨⟨Int.le_refl _, h0⟩, .nil, fun _ hx => (by cases hx), fun _ hx => (by cases hx), ⟨Int.le_refl _, h0⟩, fun _ => ⟨rfl, rfl⟩, fun hu => (by cases hu)⟩
theorem TL.beg (h : TL t N) {you : Int} (hy : 1 ≤ you) : TL (t.beg you) N :=
  ⟨⟨Int.le_refl _, by have := h.ticks; show (0 : Int) + 0 ≤ N; omega⟩, .nil, fun _ hx => (by cases hx), fun _ hx => (by cases hx), h.ticks, fun hu => (by cases hu), fun _ => hy⟩
theorem TL.fin (h : TL t N) : TL t.fin N :=
  ⟨⟨Int.le_refl _, by have := h.ticks; show (0 : Int) + 0 ≤ N; omega⟩, .nil, fun _ hx => (by cases hx), fun _ hx => (by cases hx), h.ticks, fun _ => ⟨rfl, rfl⟩, fun hu => (by cases hu)⟩
theorem TL.put1 (h : TL t N) (hN : N < 1099511627776) (hu : t.up = true) {b : List UInt8} {q : Rows8} (hq : t.queue = b :: q) (hc : t.can = true) : TL (t.put1 b q) N := by
  have hn := h.nx
  rw [hq] at hn
  simp only [List.length_cons] at hn
  have e : wr (t.next + 1) = t.next + 1 := by rw [wr, IntKind.wrap_i64]; omega
  have hhead : ∀ x ∈ t.way, t.next + 1 < x.1 + 16 := by
    intro x hx
    cases hw : t.way with
    | nil => rw [hw] at hx; cases hx
    | cons y l =>
      rw [can_cons hw, decide_eq_true_eq, e] at hc
      have hy := h.win y (by rw [hw]; exact List.mem_cons_self ..)
      have hc' : t.next + 1 - y.1 < 16 := by
        rw [wr, IntKind.wrap_i64] at hc; omega
      have hs := h.sort
      rw [hw] at hs hx
      rcases List.mem_cons.1 hx with rfl | hx
      · omega
      · have := (List.pairwise_cons.1 hs).1 x hx
        omega
  refine ⟨?_, ?_, fun x hx => ?_, fun x hx => ?_, h.ticks, fun hu' => ?_, h.upy⟩
  · show 0 ≤ wr (t.next + 1) ∧ wr (t.next + 1) + (q.length : Int) ≤ N
    rw [e]; omega
  · show (t.way ++ [(wr (t.next + 1), b, (0 : Int))]).Pairwise _
    rw [e]
    refine List.pairwise_append.2 ⟨h.sort, by simp, fun x hx y hy => ?_⟩
    rw [List.mem_singleton] at hy
    have := h.win x hx
    rw [hy]
    show x.1 < t.next + 1
    omega
  · have hx : x ∈ t.way ++ [(wr (t.next + 1), b, 0)] := hx
    show 1 ≤ x.1 ∧ x.1 ≤ wr (t.next + 1) ∧ wr (t.next + 1) < x.1 + 16
    rw [e] at hx ⊢
    rcases List.mem_append.1 hx with hx | hx
    · have h1 := h.win x hx
      have h2 := hhead x hx
      omega
    · rw [List.mem_singleton] at hx
      rw [hx]
      show 1 ≤ t.next + 1 ∧ t.next + 1 ≤ t.next + 1 ∧ t.next + 1 < t.next + 1 + 16
      omega
  · have hx : x ∈ t.way ++ [(wr (t.next + 1), b, 0)] := hx
    rcases List.mem_append.1 hx with hx | hx
    · exact h.age x hx
    · rw [List.mem_singleton] at hx
      rw [hx]
      exact ⟨Int.le_refl _, h.ticks.1⟩
  · have hu' : t.up = false := hu'
    rw [hu] at hu'; cases hu'
theorem TL.slide (h : TL t N) (hN : N < 1099511627776) (hu : t.up = true) : TL t.slide N :=
  (slide_ind (P := fun t => TL t N ∧ t.up = true) ⟨h, hu⟩ fun _ _ _ h hq hc => ⟨h.1.put1 hN h.2 hq hc, h.2⟩).1
theorem TL.drop (h : TL t N) (p : Int × List UInt8 × Int → Bool) : TL { t with way := t.way.filter p } N :=
  ⟨h.nx, h.sort.filter p, fun x hx => h.win x (List.mem_filter.1 hx).1, fun x hx => h.age x (List.mem_filter.1 hx).1, h.ticks, fun hu => ⟨(h.idle hu).1, by show t.way.filter p = []; rw [(h.idle hu).2]; rfl⟩, h.upy⟩
theorem TL.ack (h : TL t N) (hN : N < 1099511627776) (hu : t.up = true) (f : Fm) : TL (t.ack f) N := (h.drop _).slide hN hu
theorem TL.keep (h : TL t N) (f : Fm) : TL (t.keep f) N := by
  unfold Tn.keep
  split
  · exact ⟨h.nx, h.sort, h.win, h.age, h.ticks, h.idle, h.upy⟩
  · exact h
theorem TL.tell : ∀ (n : Nat) {t : Tn} {l : Rows8}, TL t N → TL (tellF n t l).1 N
  | 0, _, _, h => h
  | n + 1, t, l, h => by
    unfold tellF
    split
    · exact h
    · exact TL.tell n ⟨h.nx, h.sort, h.win, h.age, h.ticks, h.idle, h.upy⟩
theorem TL.data (h : TL t N) (f : Fm) : TL (t.data f).1 N := (TL.tell 17 (h.keep f)).say _
theorem TL.take (h : TL t N) (hN : N < 1099511627776) {d : List UInt8} {f : Fm} (hf : getF d = some f) : TL (t.take d).1 N := by
  have hok := (getF_back hf).1.1
  rcases take_cases (t := t) hf with ⟨_, _, e⟩ | ⟨_, e⟩ | ⟨_, _, _, e⟩ | ⟨_, _, _, _, e⟩ | ⟨_, _, _, hu, e⟩ | ⟨_, _, _, _, e⟩ <;> rw [e]
  · exact h.say _
  · exact h
  · exact h.beg hok.1
  · exact h.calm
  · exact h.calm.ack hN hu f
  · exact h.calm.data f
theorem TL.push (h : TL t N) (hu : t.up = true) (b : List UInt8) : TL { t with queue := t.queue ++ [b] } (N + 1) :=
  ⟨⟨h.nx.1, by have := h.nx.2; show t.next + ((t.queue ++ [b]).length : Int) ≤ N + 1; simp; omega⟩, h.sort, h.win, h.age, ⟨h.ticks.1, by have := h.ticks.2; show t.ticks ≤ N + 1; omega⟩, fun hu' => (by have hu' : t.up = false := hu'; rw [hu] at hu'; cases hu'), h.upy⟩
theorem TL.send (h : TL t N) (hN : N + 1 < 1099511627776) (b : List UInt8) : TL (t.send b).1 (N + 1) := by
  unfold Tn.send
  split
  · exact h.mono (by omega)
  · rename_i hu
    have hu : t.up = true := by simpa using hu
    split
    · exact h.mono (by omega)
    · split
      · exact h.mono (by omega)
      · exact (h.push hu b).slide hN hu
theorem TL.hint (h : TL t N) (n : Int) : TL (t.hint n) N := by
  unfold Tn.hint; split
  · exact h.say _
  · exact h
theorem ageF_eq (l : List (Int × List UInt8 × Int)) (t : Tn) : ∃ o, ageF t l = { t with out := t.out ++ o } := (ageF_out l t).imp fun _ h => h.1
theorem TL.tick (h : TL t N) (hN : N + 1 < 1099511627776) : TL t.tick (N + 1) := by
  have ht := h.ticks
  have e : wr (t.ticks + 1) = t.ticks + 1 := by rw [wr, IntKind.wrap_i64]; omega
  have h1 : ∀ s, TL { t with ticks := wr (t.ticks + 1), sil := s } (N + 1) := fun s =>
    ⟨⟨h.nx.1, by have := h.nx.2; show t.next + (t.queue.length : Int) ≤ N + 1; omega⟩, h.sort, h.win, fun x hx => ⟨(h.age x hx).1, by have := (h.age x hx).2; show x.2.2 ≤ wr (t.ticks + 1); omega⟩, by show 0 ≤ wr (t.ticks + 1) ∧ wr (t.ticks + 1) ≤ N + 1; omega, h.idle, h.upy⟩
  unfold Tn.tick
  dsimp only
  split
  · split
    · exact (h1 t.sil).say _
    · exact h1 t.sil
  · rename_i hu0
    have hu : t.up = true := by simpa using hu0
    split
    · exact (h1 _).fin
    · unfold Tn.tickUp
      dsimp only
      have h3 : TL (if Int.tmod (wr (t.ticks + 1)) 8 = 0 then ({ t with ticks := wr (t.ticks + 1), sil := wr (t.sil + 1) } : Tn).say (hel t.you) else { t with ticks := wr (t.ticks + 1), sil := wr (t.sil + 1) }) (N + 1) := by
        split
        · exact (h1 _).say _
        · exact h1 _
      have hw : (if Int.tmod (wr (t.ticks + 1)) 8 = 0 then ({ t with ticks := wr (t.ticks + 1), sil := wr (t.sil + 1) } : Tn).say (hel t.you) else { t with ticks := wr (t.ticks + 1), sil := wr (t.sil + 1) }).ticks = t.ticks + 1 ∧ (if Int.tmod (wr (t.ticks + 1)) 8 = 0 then ({ t with ticks := wr (t.ticks + 1), sil := wr (t.sil + 1) } : Tn).say (hel t.you) else { t with ticks := wr (t.ticks + 1), sil := wr (t.sil + 1) }).way = t.way ∧
          (if Int.tmod (wr (t.ticks + 1)) 8 = 0 then ({ t with ticks := wr (t.ticks + 1), sil := wr (t.sil + 1) } : Tn).say (hel t.you) else { t with ticks := wr (t.ticks + 1), sil := wr (t.sil + 1) }).up = true := by
        split <;> exact ⟨e, rfl, hu⟩
      generalize (if Int.tmod (wr (t.ticks + 1)) 8 = 0 then ({ t with ticks := wr (t.ticks + 1), sil := wr (t.sil + 1) } : Tn).say (hel t.you) else { t with ticks := wr (t.ticks + 1), sil := wr (t.sil + 1) }) = t3 at *
      obtain ⟨o, ho⟩ := ageF_eq t.way t3
      rw [ho]
      refine ⟨h3.nx, ?_, fun x hx => ?_, fun x hx => ?_, h3.ticks, fun hu' => ?_, h3.upy⟩
      · show (older t.way).Pairwise _
        unfold older
        rw [List.pairwise_map]
        exact h.sort
      · have hx : x ∈ older t.way := hx
        obtain ⟨y, hy, rfl⟩ := List.mem_map.1 hx
        exact h3.win y (by rw [hw.2.1]; exact hy)
      · have hx : x ∈ older t.way := hx
        obtain ⟨y, hy, rfl⟩ := List.mem_map.1 hx
        have ha := h.age y hy
        have e2 : wr (y.2.2 + 1) = y.2.2 + 1 := by rw [wr, IntKind.wrap_i64]; omega
        show 0 ≤ wr (y.2.2 + 1) ∧ wr (y.2.2 + 1) ≤ t3.ticks
        rw [e2, hw.1]
        omega
      · have hu' : t3.up = false := hu'
        rw [hw.2.2] at hu'; cases hu'
end
end Go.Fl
namespace Go.Proofs.YtmhibpcbdbhfoaaDoor
open Go.RowKit Go.Fl

theorem slR : SlT Tryd.prog t_s_flumeref12_Way t_flumeref12_Way 3 40 := SlT.mk' (z := .agg #[.int .i64 0, .slice none 0 0, .int .i64 0]) (by kernel_rfl) (by kernel_rfl) rfl (by decide)
theorem wayV_append (a b : WayH) : wayV (a ++ b) = wayV a ++ wayV b := by unfold wayV; rw [List.flatMap_append]
/-- How many messages wait, as the world has it. -/
def queueR (g : Nat) (w : World) : Nat := match w.heap[g]? with
  | some (Obj.cells cs _ _) => (match (cs[9]? : Option Value) with | some (Value.slice _ n _) => n | _ => 0)
  | _ => 0
/-- A row of frames of one's own. -/
theorem wayOwn {w : World} {Z : Nat → Prop} {base : Nat} {e : TypeId} {s : Sl} {hs : WayH} {ls : List (Int × List UInt8 × Int)} (h : w.ownsRow base e 3 (.slice s.a s.n s.c) s.n (wayV hs)) (hZ : ∀ k, Z k → k < base) (ha : All2 (fun a b => a.1 = b.1 ∧ Cb w Z a.2.1 b.2.1 ∧ a.2.2 = b.2.2) hs ls) : WayR w Z s hs ls := by
  refine ⟨Rd.of_own h, ?_, ?_, fun _ ad had hz => ?_, ha⟩
  · have := h.1; rw [wayV_length] at this; omega
  · rcases h.2 with ⟨hv, hn⟩ | ⟨g, cap, cur, hv, _, _, hc, _⟩
    · injection hv with _ h1 h2; omega
    · injection hv with _ h1 h2; omega
  · have := (World.ownsRow.lt h ad.block (by rw [had]; rfl)).1
    have := hZ _ hz
    omega
section
variable {w w' : World} {Z : Nat → Prop} {g m : Nat} {t : Tn} {y : RShp} {N : Int}
theorem queueR_eq (h : Rf w Z g t y m) : queueR g w = t.queue.length := by
  obtain ⟨hs, h2⟩ := h.queue
  rw [← h2.count]
  unfold queueR
  rw [h.cells]
  rfl
theorem can_ref (hT : TL t N) (hN : N < 1099511627776) {x : Int × List UInt8 × Int} {l : List (Int × List UInt8 × Int)} (hw : t.way = x :: l) : t.can = !decide (wr (t.next + 1) ≥ wr (x.1 + 16)) := by
  have hn := hT.nx
  have hx := hT.win x (by rw [hw]; exact List.mem_cons_self ..)
  have e1 : wr (t.next + 1) = t.next + 1 := by rw [wr, IntKind.wrap_i64]; omega
  have e2 : wr (x.1 + 16) = x.1 + 16 := by rw [wr, IntKind.wrap_i64]; omega
  have e3 : wr (t.next + 1 - x.1) = t.next + 1 - x.1 := by rw [wr, IntKind.wrap_i64]; omega
  rw [can_cons hw, e1, e2, e3]
  by_cases h : t.next + 1 - x.1 < 16
  · rw [decide_eq_true h, decide_eq_false (by omega)]; rfl
  · rw [decide_eq_false h, decide_eq_true (by omega)]; rfl
set_option maxRecDepth 8000 in
theorem rslide_ok (h : Rf w Z g t y m) (hT : TL t N) (hN : N < 1099511627776) (hr : t.queue.length + t.way.length ≤ 64) (hl : t.out.length + t.queue.length ≤ 1073741000) :
    cl Tryd.prog n_flumeref12_Tunnel_slide #[.pointer (some ⟨g, 0, none⟩)] (.tup .nil) w fun (_ : Unit) w' => RfTo w w' Z g t.slide m := by
  refine flumeref12_Tunnel_slide.cl (p0 := some ⟨g, 0, none⟩) ?_
  unfold flumeref12_Tunnel_slide
  refine lpI (fun _ w' => ∃ t1, RfTo w w' Z g t1 m ∧ slideF t1.queue.length t1 = t.slide ∧ TL t1 N ∧ t1.queue.length + t1.way.length ≤ 64 ∧ t1.out.length + t1.queue.length ≤ 1073741000) (fun _ w' => queueR g w') ⟨t, RfTo.refl h, rfl, hT, hr, hl⟩ ?_
  rintro D ⟨⟩ w2 ⟨t1, ⟨y1, h1, m1⟩, hfin, hT1, hr1, hl1⟩
  have hqN := queueR_eq h1
  obtain ⟨hsw, hw⟩ := h1.way
  obtain ⟨hsq, hq⟩ := h1.queue
  have nw1 := hw.count
  have nq1 := hq.count
  have nw2 := hw.all.length
  have nq2 := hq.all.length
  refine nzS ?_
  rw [addOff]
  refine ldL0 (s := y1.queue) h1.cells rfl ?_
  have stop : ∀ {u}, Fr w2 u → t1 = t.slide → RfTo w u Z g t.slide m := fun hf e => by
    rw [← e]; exact RfTo.fr ⟨y1, h1, m1⟩ hf
  refine bD ?_ ?_ <;> intro hq0
  rotate_left
  · have : t1.queue = [] := List.eq_nil_of_length_eq_zero (by omega)
    rw [this] at hfin
    exact stop (Fr.refl _) hfin
  obtain ⟨b, q, hbq⟩ : ∃ b q, t1.queue = b :: q := List.exists_cons_of_ne_nil (fun e => by rw [e] at nq1; simp at nq1; omega)
  have hu1 : t1.up = true := by
    cases hu : t1.up with
    | true => rfl
    | false => rw [(hT1.idle hu).1] at hbq; cases hbq
  rw [hbq, List.length_cons] at hfin
  have hfin2 : (if t1.can then slideF q.length (t1.put1 b q) else t1) = t.slide := by
    rw [← hfin, slideF, hbq]
  intro j2
  have J2 : ∀ (u : World), Fr w2 u → t1.can = true → j2 u := by
    intro u hfu hcan
    unfold j2
    rw [if_pos hcan] at hfin2
    have hql : q.length + 1 + t1.way.length ≤ 64 := by have := hr1; rw [hbq] at this; simpa using this
    have hu := h1.fr hfu
    refine nzS ?_
    rw [addOff]
    refine ldI0 hu.cells (show (refL t1 y1).toArray[6]? = some (.int .i64 t1.next) from rfl) (nzS ?_)
    rw [addOff]
    refine st0 hu.cells (by show 6 < 12; decide) fun w90 hb90 hg90 hs90 => ?_
    have hb90 : w90.heap[g]? = some (.cells (refL { t1 with next := wr (t1.next + 1) } y1).toArray t_flumeref12_Tunnel (0, 0)) := hb90
    have h90 := hu.cell (t' := { t1 with next := wr (t1.next + 1) }) hg90 hb90 rfl rfl rfl (fun _ _ => rfl) (Int.le_refl _)
    obtain ⟨hsq2, hq2⟩ := h90.queue
    have hqa : All2 (Cb w90 Z) hsq2 (b :: q) := by have := hq2.all; rwa [show ({ t1 with next := wr (t1.next + 1) } : Tn).queue = b :: q from hbq] at this
    obtain ⟨s1, hsq3, rfl⟩ : ∃ s1 hsq3, hsq2 = s1 :: hsq3 := by
      cases hsq2 with
      | nil => exact hqa.elim
      | cons a l => exact ⟨a, l, rfl⟩
    have hqn := hq2.len
    have hqc := hq2.cap
    rw [List.length_cons] at hqn
    refine nzS ?_
    rw [addOff]
    refine ldL0 (s := y1.queue) hb90 rfl ?_
    refine ixS (j := 0) hq2.rd hq2.len rfl (by simp) (Fr.refl _) (nzS ?_)
    rw [addOff]
    refine ldL0 (s := y1.queue) hb90 rfl ?_
    have hcut := hq2.cut (i := 1) (j := (s1 :: hsq3).length) (by simp) (Nat.le_refl _)
    rw [List.take_length] at hcut
    refine ⟨by decide, by omega, by omega, ?_⟩
    rw [show ((1 : Int)).toNat = 1 from rfl, show ((y1.queue.n : Int)).toNat = (s1 :: hsq3).length from by rw [List.length_cons]; omega]
    refine nzS ?_
    rw [addOff]
    refine st0 hb90 (by show 9 < 12; decide) fun w99 hb99 hg99 hs99 => ?_
    generalize cut y1.queue 1 (s1 :: hsq3).length 1 = r97 at hcut hb99
    have hb99 : w99.heap[g]? = some (.cells (refL { t1 with next := wr (t1.next + 1), queue := q } { y1 with queue := r97 }).toArray t_flumeref12_Tunnel (0, 0)) := hb99
    have m99 : Mv (fun k => k = g) w90 w99 := Mv.of_grown hg99 rfl
    have hcutq : RwB w90 Z r97 hsq3 q := by
      have e : ({ t1 with next := wr (t1.next + 1) } : Tn).queue = b :: q := hbq
      have hle := hqa.length
      rw [e, List.length_cons] at hcut
      rw [List.length_cons] at hle
      simp only [List.drop_one, List.tail_cons] at hcut
      rw [show hsq3.length + 1 = (b :: q).length from hle, List.take_length] at hcut
      exact hcut
    have hZg : ∀ k, k = g → Z k ∨ w90.heap.size ≤ k := fun k hk => .inl (by rw [hk]; exact h1.zg)
    have h99 : Rf w99 Z g { t1 with next := wr (t1.next + 1), queue := q } { y1 with queue := r97 } m := h90.own (t' := { t1 with next := wr (t1.next + 1), queue := q }) (y' := { y1 with queue := r97 }) m99 hb99 (h90.wayK m99) ⟨_, hcutq.mv m99 hZg fun k hk => .inl hk⟩ (h90.saidK m99) (h90.earlyK m99)
    have hs1 : Cb w99 Z s1 b := hqa.1.mv m99 hZg fun k hk => .inl hk
    have hm0 : Mv (fun k => k = g) w w99 := ((m1.trans (Mv.of_fr (F := fun _ => False) hfu) fun _ h => h.elim).trans (Mv.of_grown (F := fun k => k = g) hg90 rfl) fun k hk => .inl hk).trans m99 fun k hk => .inl hk
    intro j3
    have J3 : ∀ (v : World) (y2 : RShp), Rf v Z g { t1 with next := wr (t1.next + 1), queue := q, way := t1.way ++ [(wr (t1.next + 1), b, 0)] } y2 m → Mv (fun k => k = g) w99 v → j3 v := by
      intro v y2 hv hmv
      unfold j3
      refine nzS ?_
      rw [addOff]
      refine ldI0 hv.cells (show (refL { t1 with next := wr (t1.next + 1), queue := q, way := t1.way ++ [(wr (t1.next + 1), b, 0)] } y2).toArray[6]? = some (.int .i64 (wr (t1.next + 1))) from rfl) ?_
      refine nwI fun a147 w148 ha147 hs148 hf148 hb148 _ => ?_
      refine stW (Kd.av k_api_Frame (2, 0, 0, wr (t1.next + 1), 0, 0, s1, ())) rfl hb148 rfl fun w149 hb149 hg149 hs149 => ?_
      have hf149 : Fr v w149 := hf148.on (grown_below hg149 (by omega) hf148.size)
      have h149 := hv.fr hf149
      refine nzS ?_
      rw [addOff]
      refine ldI0 h149.cells (show (refL { t1 with next := wr (t1.next + 1), queue := q, way := t1.way ++ [(wr (t1.next + 1), b, 0)] } y2).toArray[1]? = some (.int .i64 t1.you) from rfl) ?_
      rw [addOff]
      refine st0 hb149 (by show 2 < 7; decide) fun w152 hb152 hg152 hs152 => ?_
      have hb152 : w152.heap[a147]? = some (.cells (frC (2, 0, t1.you, wr (t1.next + 1), 0, 0, s1, ())).toArray t_api_Frame (0, 0)) := hb152
      have hf152 : Fr v w152 := hf149.on (grown_below hg152 (by omega) hf149.size)
      refine ldW (k := k_api_Frame) (x := (2, 0, t1.you, wr (t1.next + 1), 0, 0, s1, ())) hb152 rfl ?_
      have hsb : Cb v Z s1 b := hs1.mv hmv (fun k hk => .inl (by rw [hk]; exact h1.zg)) fun k hk => .inl hk
      have hlq : t1.out.length + (q.length + 1) ≤ 1073741000 := by have := hl1; rw [hbq] at this; simpa using this
      refine (rsay_ok (p := (2, 0, t1.you, wr (t1.next + 1), 0, 0, s1, ())) (b := b) (hv.fr hf152) (hsb.bs.fr hf152) (by show t1.out.length ≤ _; omega)).mono ?_
      rintro ⟨⟩ w155 ⟨y3, h3, m3⟩
      have h3 : Rf w155 Z g (t1.put1 b q) y3 m := h3
      refine ⟨⟨t1.put1 b q, ⟨y3, h3, (hm0.trans hmv fun k hk => .inl hk).trans ((Mv.of_fr (F := fun k => k = g) hf152).trans m3 fun k hk => .inl hk) fun k hk => .inl hk⟩, hfin2, hT1.put1 hN hu1 hbq hcan, ?_, ?_⟩, ?_⟩
      · show q.length + (t1.way ++ [_]).length ≤ 64
        simp; omega
      · show (t1.out ++ [_]).length + q.length ≤ _
        simp; omega
      · rw [queueR_eq h3, hqN, hbq]
        show q.length < q.length + 1
        omega
    clear_value j3
    intro dn
    have hfn := Fr.drewN w99 dn
    have h100 := h99.fr hfn
    generalize w99.drewN dn = w100 at *
    obtain ⟨hsw2, hw2⟩ := h100.way
    have hwl := hw2.len
    have hwl2 := hw2.all.length
    have hwl3 : hsw2.length = t1.way.length := hwl2
    refine nzS ?_
    rw [addOff]
    refine ldL0 (s := y1.way) h100.cells rfl (nzS ?_)
    rw [addOff]
    refine ldI0 h100.cells (show (refL { t1 with next := wr (t1.next + 1), queue := q } { y1 with queue := r97 }).toArray[6]? = some (.int .i64 (wr (t1.next + 1))) from rfl) ?_
    refine snoc3 slR hw2.rd (by rw [wayV_length, hwl]) (wayV_one _) rfl (fun v hv => by simp only [List.mem_cons, List.not_mem_nil, or_false] at hv; rcases hv with rfl | rfl | rfl <;> rfl) (by omega) (by omega) fun r wz hrn ho hfz => ?_
    refine nzS ?_
    rw [addOff]
    have hz := h100.fr hfz
    refine st0 hz.cells (by show 8 < 12; decide) fun w114 hb114 hg114 hs114 => ?_
    have m114 : Mv (fun k => k = g) wz w114 := Mv.of_grown hg114 rfl
    have ho2 : wz.ownsRow w100.heap.size t_flumeref12_Way 3 (.slice r.a r.n r.c) r.n (wayV (hsw2 ++ [(wr (t1.next + 1), s1, 0)])) := by rw [wayV_append]; exact ho
    have ho3 : w114.ownsRow w100.heap.size t_flumeref12_Way 3 (.slice r.a r.n r.c) r.n (wayV (hsw2 ++ [(wr (t1.next + 1), s1, 0)])) := own_kp ho2 m114.kp fun ad had e => by
      have := (World.ownsRow.lt ho2 ad.block (by rw [had]; rfl)).1
      have := h100.zl g h100.zg
      omega
    have mz : Mv (fun k => k = g) w100 w114 := (Mv.of_fr hfz).trans m114 fun k hk => .inl hk
    have hZ2 : ∀ k, k = g → Z k ∨ w100.heap.size ≤ k := fun k hk => .inl (by rw [hk]; exact h1.zg)
    have hall : All2 (fun a b => a.1 = b.1 ∧ Cb w114 Z a.2.1 b.2.1 ∧ a.2.2 = b.2.2) (hsw2 ++ [(wr (t1.next + 1), s1, 0)]) (t1.way ++ [(wr (t1.next + 1), b, 0)]) := by
      refine All2.append (hw2.all.mono fun a c _ _ hr => ⟨hr.1, hr.2.1.mv mz hZ2 fun k hk => .inl hk, hr.2.2⟩) (show All2 _ [_] [_] from ⟨⟨rfl, ?_, rfl⟩, trivial⟩)
      exact (hs1.mv (Mv.of_fr (F := fun _ => False) hfn) (fun _ h => h.elim) fun k hk => .inl hk).mv mz hZ2 fun k hk => .inl hk
    refine J3 w114 { y1 with queue := r97, way := r } (hz.own (t' := { t1 with next := wr (t1.next + 1), queue := q, way := t1.way ++ [(wr (t1.next + 1), b, 0)] }) (y' := { y1 with queue := r97, way := r }) m114 hb114 ⟨_, wayOwn ho3 (fun k hk => h100.zl k hk) hall⟩ (hz.queueK m114) (hz.saidK m114) (hz.earlyK m114)) ((Mv.of_fr hfn).trans mz fun k hk => .inl hk)
  clear_value j2
  refine nzS ?_
  rw [addOff]
  refine ldL0 (s := y1.way) h1.cells rfl ?_
  refine bD ?_ ?_ <;> intro hw0
  · obtain ⟨x, l, hwx⟩ : ∃ x l, t1.way = x :: l := List.exists_cons_of_ne_nil (fun e => by rw [e] at nw1; simp at nw1; omega)
    have hcan := can_ref hT1 hN hwx
    have hw1 : 0 < hsw.length := by omega
    have hx1 : hsw[0].1 = x.1 := by
      have hg0 := hw.all.get hw1 (by omega)
      have : t1.way[0]'(by omega) = x := by simp [hwx]
      rw [hg0.1, this]
    refine nzS ?_
    rw [addOff]
    refine ldI0 h1.cells (show (refL t1 y1).toArray[6]? = some (.int .i64 t1.next) from rfl) (nzS ?_)
    rw [addOff]
    refine ldL0 (s := y1.way) h1.cells rfl ?_
    refine ixSeq (j := 0) hw.rd hw.len hw1 ?_
    intro dn
    have hfn := Fr.drewN w2 dn
    generalize w2.drewN dn = w15 at *
    rw [hx1]
    refine bD ?_ ?_ <;> intro hge
    · have hge : wr (t1.next + 1) ≥ wr (x.1 + 16) := hge
      rw [decide_eq_true hge] at hcan
      rw [hcan] at hfin2
      exact stop hfn hfin2
    · have hge : ¬wr (t1.next + 1) ≥ wr (x.1 + 16) := hge
      rw [decide_eq_false hge] at hcan
      exact J2 w15 hfn hcan
  · have : t1.way = [] := List.eq_nil_of_length_eq_zero (by omega)
    intro dn
    exact J2 _ (Fr.drewN w2 dn) (can_nil this)
end
end Go.Proofs.YtmhibpcbdbhfoaaDoor
namespace Go.Proofs.YtmhibpcbdbhfoaaDoor
open Go.RowKit Go.Fl

theorem Rf.zh {w : World} {Z : Nat → Prop} {g m : Nat} {t : Tn} {y : RShp} (h : Rf w Z g t y m) {v : World} : ∀ k, k = g → Z k ∨ v.heap.size ≤ k := fun k hk => .inl (by rw [hk]; exact h.zg)
section
variable {w w' : World} {Z : Nat → Prop} {g m : Nat} {t : Tn} {y : RShp} {N : Int}
theorem rSend_ok {s : Sl} {b : List UInt8} (h : Rf w Z g t y m) (hT : TL t N) (hN : N + 1 < 1099511627776) (hi : t.inv) (hb : Bs w s b) (hl : t.out.length ≤ 1073740000) :
    cl Tryd.prog n_flumeref12_Tunnel_Send #[.pointer (some ⟨g, 0, none⟩), .slice s.a s.n s.c] (.I .i64) w fun (r : Int) w' => r = (t.send b).2 ∧ RfTo w w' Z g (t.send b).1 m := by
  refine flumeref12_Tunnel_Send.cl (p0 := some ⟨g, 0, none⟩) (p1 := s) ?_
  unfold flumeref12_Tunnel_Send
  have hbn := hb.len
  have hroom := Tn.room_eq hi
  have hrm := hi.room
  refine nzS ?_
  rw [addOff]
  refine ldB0 h.cells (show (refL t y).toArray[4]? = some (.bool t.up) from rfl) ?_
  cases hu : t.up with
  | false =>
    have e : t.send b = (t, 121) := by unfold Tn.send; rw [if_pos hu]
    rw [e]
    exact bT rfl ⟨rfl, RfTo.refl h⟩
  | true =>
  refine bF rfl ?_
  refine bD ?_ ?_ <;> intro h512
  · have e : t.send b = (t, 4) := by unfold Tn.send; rw [if_neg (by rw [hu]; decide), if_pos (by omega)]
    rw [e]
    exact ⟨rfl, RfTo.refl h⟩
  refine (rRoom_ok h hrm).mono ?_
  rintro _ w4 ⟨rfl, hf4⟩
  rw [if_pos hu] at hroom
  refine bE ?_ ?_ <;> intro hfull
  · have e : t.send b = (t, 7) := by unfold Tn.send; rw [if_neg (by rw [hu]; decide), if_neg (by omega), if_pos (by omega)]
    rw [e]
    exact ⟨rfl, RfTo.fr (RfTo.refl h) hf4⟩
  have e : t.send b = (({ t with queue := t.queue ++ [b] } : Tn).slide, 0) := by unfold Tn.send; rw [if_neg (by rw [hu]; decide), if_neg (by omega), if_neg (by omega)]
  rw [e]
  have h4 := h.fr hf4
  obtain ⟨hsq, hq⟩ := h4.queue
  have hqn := hq.len
  have hqa := hq.all.length
  refine nwI fun a5 w6 ha5 hs6 hf6 hb6 _ => nzS ?_
  rw [addOff]
  refine ldL0 (s := y.queue) (hf6.heap h4.cells) rfl ?_
  refine app0V slS (base := w4.heap.size) hb6 (by omega) (hq.rd.below hf6) (by rw [List.length_map, hqn]; omega) (slsV_one _) (by omega) (by omega) hf6.size fun r9 w10 hr9 ho9 hf10 => ?_
  refine nwI fun a11 w12 ha11 hs12 hf12 hb11 _ => ?_
  have hf12' := (hf6.trans hf10).trans hf12
  have hz12 := hf12'.size
  have hz6 := hf6.size
  have hz10 := hf10.size
  refine app0B slB (base := w10.heap.size) hb11 (by omega) (hb.fr (hf4.trans hf12')) (by omega) hf12.size fun r13 w14 h13 hf14 => ?_
  refine nwI fun a15 w16 ha15 hs16 hf16 hb16 hr16 => ?_
  have hf16' := (hf12'.trans hf14).trans hf16
  refine snoc2 slS (w0 := w4) hf16' (own_kept ho9 ((hf12.trans hf14).trans hf16)) hr16 rfl (fun v hv => by rw [List.mem_singleton] at hv; rw [hv]; rfl) (by rw [hr9]; omega) (by omega) fun r17 w18 hr17 ho17 hf18 hg18 => ?_
  rw [ownB_slice] at hg18
  have h13' : OwB w18 w10.heap.size t_uint8 r13 b := by
    refine (h13.fr hf16).kp (S := fun k => w10.heap.size ≤ k ∧ some k ≠ r9.a.map (·.block)) (fun k hk hS => hg18.block k hk hS.2) fun ad had => ⟨(h13.own ad had).1, fun e => ?_⟩
    have h1 := (h13.own ad had).1
    have h2 := (World.ownsRow.lt ho9 ad.block (by rw [ownB_slice']; exact e.symm)).2
    omega
  have h18 := h4.fr hf18
  refine nzS ?_
  rw [addOff]
  refine st0 h18.cells (by show 9 < 12; decide) fun w20 hb20 hg20 hs20 => ?_
  have m20 : Mv (fun k => k = g) w18 w20 := Mv.of_grown hg20 rfl
  have m4 : Mv (fun k => k = g) w4 w20 := (Mv.of_fr hf18).trans m20 fun k hk => .inl hk
  have hown : OwS w18 w4.heap.size t_s_uint8 r17 (hsq ++ [r13]) := by
    unfold OwS
    have e : slsV (hsq ++ [r13]) = slsV hsq ++ [slV r13] := by simp [slsV]
    rw [e]; exact ho17
  have hown20 : OwS w20 w4.heap.size t_s_uint8 r17 (hsq ++ [r13]) := hown.mv m20 fun ad ha e => by have := (hown.own ad ha).1; have := h4.zl g h4.zg; omega
  have hc13 : Cb w20 Z r13 b := (Cb.own h13' fun k hk => by have := h4.zl k hk; omega).mv m20 h18.zh fun k hk => .inl hk
  have hall : All2 (Cb w20 Z) (hsq ++ [r13]) (t.queue ++ [b]) := All2.append (hq.all.mono fun a c _ _ hc => hc.mv m4 h4.zh fun k hk => .inl hk) (show All2 _ [r13] [b] from ⟨hc13, trivial⟩)
  have h20 : Rf w20 Z g { t with queue := t.queue ++ [b] } { y with queue := r17 } m := h4.own (t' := { t with queue := t.queue ++ [b] }) (y' := { y with queue := r17 }) m4 hb20 (h4.wayK m4) ⟨_, OwS.rw hown20 (fun k hk => h4.zl k hk) hall⟩ (h4.saidK m4) (h4.earlyK m4)
  refine (rslide_ok h20 (hT.push hu b) hN (by show (t.queue ++ [b]).length + t.way.length ≤ 64; simp; omega) (by show t.out.length + (t.queue ++ [b]).length ≤ _; simp; omega)).mono ?_
  rintro ⟨⟩ w22 h22
  exact ⟨rfl, RfTo.step ((Mv.of_fr hf4).trans m4 fun k hk => .inl hk) h22⟩
/-- Frames on the way that are not acknowledged. -/
theorem rack_ok {p : y_api_Frame} {b : List UInt8} (h : Rf w Z g t y m) (hT : TL t N) (hN : N < 1099511627776) (hi : t.inv) (hbi : 0 ≤ p.2.2.2.2.2.1) (hl : t.out.length ≤ 1073740000) :
    cl Tryd.prog n_flumeref12_Tunnel_ack #[.pointer (some ⟨g, 0, none⟩), frV p] (.tup .nil) w fun (_ : Unit) w' => RfTo w w' Z g (t.ack (fmOf p b)) m := by
  refine flumeref12_Tunnel_ack.cl (p0 := some ⟨g, 0, none⟩) (p1 := p) ?_
  unfold flumeref12_Tunnel_ack
  have hrm := hi.room
  refine nwI fun a1 w2 ha1 hs2 hf2 hb1 _ => ?_
  have hb1 : w2.heap[a1]? = some (.cells (frC p).toArray t_api_Frame (0, 0)) := hb1
  have h2 := h.fr hf2
  obtain ⟨hs, hw⟩ := h2.way
  have hwl := hw.len
  have hwa := hw.all.length
  refine nzS ?_
  rw [addOff]
  refine ldL0 (s := y.way) h2.cells rfl ?_
  refine lpI (fun (s' : Sl × Int × Unit) v => ∃ j : Nat, j ≤ hs.length ∧ s'.2.1 = j ∧ Fr w2 v ∧ v.ownsRow w2.heap.size t_flumeref12_Way 3 (.slice s'.1.a s'.1.n s'.1.c) s'.1.n (wayV ((hs.take j).filter fun a => !gone (fmOf p b) (a.1, [], a.2.2))) ∧ s'.1.n ≤ j) (fun s' _ => (y.way.n - s'.2.1).toNat)
    ⟨0, Nat.zero_le _, rfl, Fr.refl _, World.ownsRow_nil w2 w2.heap.size t_flumeref12_Way 3, Nat.le_refl _⟩ ?_
  rintro D ⟨acc, j', ⟨⟩⟩ v ⟨j, hj, rfl, hfv, hown, hacc⟩
  dsimp -zeta only at hown hacc ⊢
  refine bD ?_ ?_ <;> intro hlt
  · have hj1 : j < hs.length := by omega
    refine ixW3 (hw.rd.below hfv) hwl rfl hj1 ?_
    refine nwI fun a11 w12 ha11 hs12 hf12 hb12 _ => ?_
    refine stW (Kd.av k_tunnel_sent (elW hs[j])) rfl hb12 rfl fun w13 hb13 hg13 hs13 => ?_
    have hf13 : Fr v w13 := hf12.on (grown_below hg13 (by omega) hf12.size)
    have hf213 := hfv.trans hf13
    refine ldI0 hb13 (show ((Kd.av k_tunnel_sent (elW hs[j])).cells).toArray[0]? = some (.int .i64 hs[j].1) from rfl) ?_
    rw [addOff]
    refine ldI0 (hf213.heap hb1) (show (frC p).toArray[4]? = some (.int .i64 p.2.2.2.2.1) from rfl) ?_
    have htake : hs.take (j + 1) = hs.take j ++ [hs[j]] := List.take_succ_eq_append_getElem hj1
    have egone : gone (fmOf p b) (hs[j].1, [], hs[j].2.2) = (decide (wr (wr (hs[j].1 - p.2.2.2.2.1) - 1) < 0) || (decide (wr (wr (hs[j].1 - p.2.2.2.2.1) - 1) < 16) && decide ((p.2.2.2.2.2.1 / 2 ^ (wr (wr (hs[j].1 - p.2.2.2.2.1) - 1)).toNat) % 2 = 1))) := rfl
    have next : ∀ {n : Int}, IntKind.i64.wrap ((j : Int) + 1) = n → n = ((j + 1 : Nat) : Int) := fun h => by rw [← h, i64w (by omega) (by omega)]; rfl
    have skip : ∀ {u}, Fr v u → gone (fmOf p b) (hs[j].1, [], hs[j].2.2) = true → (∃ j2 : Nat, j2 ≤ hs.length ∧ IntKind.i64.wrap ((j : Int) + 1) = j2 ∧ Fr w2 u ∧ u.ownsRow w2.heap.size t_flumeref12_Way 3 (.slice acc.a acc.n acc.c) acc.n (wayV ((hs.take j2).filter fun a => !gone (fmOf p b) (a.1, [], a.2.2))) ∧ acc.n ≤ j2) ∧ (y.way.n - IntKind.i64.wrap ((j : Int) + 1)).toNat < (y.way.n - (j : Int)).toNat := by
      intro u hfu hg
      refine ⟨⟨j + 1, by omega, by rw [i64w (by omega) (by omega)]; rfl, hfv.trans hfu, ?_, by omega⟩, by rw [i64w (by omega) (by omega)]; omega⟩
      rw [htake, List.filter_append]
      have : [hs[j]].filter (fun a => !gone (fmOf p b) (a.1, [], a.2.2)) = [] := by simp [hg]
      rw [this, List.append_nil]
      exact own_kept hown hfu
    intro j1
    have J1 : gone (fmOf p b) (hs[j].1, [], hs[j].2.2) = false → j1 w13 := by
      intro hg
      unfold j1
      refine ldW (k := k_tunnel_sent) (x := elW hs[j]) hb13 rfl ?_
      refine nwI fun a24 w25 ha24 hs25 hf25 hb25 hr25 => ?_
      refine snoc2 slR (w0 := w2) (hf213.trans hf25) (own_kept hown (hf13.trans hf25)) hr25 rfl (fun v hv => by simp only [List.mem_cons, List.not_mem_nil, or_false] at hv; rcases hv with rfl | rfl | rfl <;> rfl) (by omega) (by omega) fun r26 w27 hr26 ho26 hf26 _ => ?_
      refine ⟨⟨j + 1, by omega, by rw [i64w (by omega) (by omega)]; rfl, hf26, ?_, by omega⟩, by rw [i64w (by omega) (by omega)]; omega⟩
      rw [htake, List.filter_append]
      have : [hs[j]].filter (fun a => !gone (fmOf p b) (a.1, [], a.2.2)) = [hs[j]] := by simp [hg]
      rw [this, wayV_append]
      exact ho26
    clear_value j1
    refine bD ?_ ?_ <;> intro h0
    · exact skip hf13 (by rw [egone, decide_eq_true h0]; rfl)
    · refine bD ?_ ?_ <;> intro h16
      · rw [addOff]
        refine ldI0 (hf213.heap hb1) (show (frC p).toArray[5]? = some (.int .i64 p.2.2.2.2.2.1) from rfl) ?_
        have h0 : ¬wr (wr (hs[j].1 - p.2.2.2.2.1) - 1) < 0 := h0
        have h16 : wr (wr (hs[j].1 - p.2.2.2.2.1) - 1) < 16 := h16
        rw [show IntKind.i64.wrap (IntKind.i64.wrap (hs[j].1 - p.2.2.2.2.1) - 1) = wr (wr (hs[j].1 - p.2.2.2.2.1) - 1) from rfl]
        generalize wr (wr (hs[j].1 - p.2.2.2.2.1) - 1) = ov at *
        have eu : IntKind.u64.wrap ov = ov := by simp only [IntKind.wrap, IntKind.bits, IntKind.signed]; simp; omega
        rw [eu, Nat.min_eq_left (by omega)]
        refine bT (decide_eq_true (by omega)) ?_
        have hdiv : 0 ≤ p.2.2.2.2.2.1 / 2 ^ ov.toNat := Int.ediv_nonneg hbi (Int.pow_nonneg (by decide))
        rw [Int.tmod_eq_emod_of_nonneg hdiv]
        refine bE ?_ ?_ <;> intro hbit
        · exact skip hf13 (by rw [egone, decide_eq_true h16, decide_eq_true hbit]; simp)
        · exact J1 (by rw [egone, decide_eq_false h0, decide_eq_false hbit]; simp)
      · exact J1 (by rw [egone, decide_eq_false h0, decide_eq_false h16]; rfl)
  · obtain rfl : j = hs.length := by omega
    rw [List.take_length] at hown
    have hv := h2.fr hfv
    refine nzS ?_
    rw [addOff]
    refine st0 hv.cells (by show 8 < 12; decide) fun w29 hb29 hg29 hs29 => ?_
    have m29 : Mv (fun k => k = g) v w29 := Mv.of_grown hg29 rfl
    have m2 : Mv (fun k => k = g) w2 w29 := (Mv.of_fr hfv).trans m29 fun k hk => .inl hk
    have hown29 := own_kp hown m29.kp fun ad had e => by
      have := (World.ownsRow.lt hown ad.block (by rw [had]; rfl)).1
      have := h2.zl g h2.zg
      omega
    have hall : All2 (fun a b => a.1 = b.1 ∧ Cb w29 Z a.2.1 b.2.1 ∧ a.2.2 = b.2.2) (hs.filter fun a => !gone (fmOf p b) (a.1, [], a.2.2)) (t.way.filter fun x => !gone (fmOf p b) x) := by
      refine (all2_filter hw.all fun a c hr => ?_).mono fun a c _ _ hr => ⟨hr.1, hr.2.1.mv m2 h2.zh fun k hk => .inl hk, hr.2.2⟩
      rw [gone_body (fmOf p b) (a.1, [], a.2.2) c hr.1]
    have h29 : Rf w29 Z g { t with way := t.way.filter fun x => !gone (fmOf p b) x } { y with way := acc } m := h2.own (t' := { t with way := t.way.filter fun x => !gone (fmOf p b) x }) (y' := { y with way := acc }) m2 hb29 ⟨_, wayOwn hown29 (fun k hk => h2.zl k hk) hall⟩ (h2.queueK m2) (h2.saidK m2) (h2.earlyK m2)
    have hfl := List.length_filter_le (fun x => !gone (fmOf p b) x) t.way
    refine (rslide_ok h29 (hT.drop _) hN (by show t.queue.length + (t.way.filter _).length ≤ 64; omega) (by show t.out.length + t.queue.length ≤ _; omega)).mono ?_
    rintro ⟨⟩ w31 h31
    exact RfTo.step ((Mv.of_fr hf2).trans m2 fun k hk => .inl hk) h31
end
end Go.Proofs.YtmhibpcbdbhfoaaDoor
namespace Go.Proofs.YtmhibpcbdbhfoaaDoor
open Go.RowKit Go.Fl

/-- Frames of one's own. -/
def OwV (e : TypeId) (w : World) (base : Nat) (s : Sl) (hs : WayH) : Prop := w.ownsRow base e 3 (.slice s.a s.n s.c) s.n (wayV hs)
section
variable {e : TypeId}
theorem OwV.len {w : World} {base : Nat} {s : Sl} {hs : WayH} (h : OwV e w base s hs) : s.n = hs.length := by
  have := h.1; rw [wayV_length] at this; omega
theorem OwV.rd {w : World} {base : Nat} {s : Sl} {hs : WayH} (h : OwV e w base s hs) : Rd w s.a (wayV hs) := Rd.of_own h
theorem OwV.fr {w w' : World} {base : Nat} {s : Sl} {hs : WayH} (h : OwV e w base s hs) (hf : Fr w w') : OwV e w' base s hs := own_kept h hf
theorem OwV.own {w : World} {base : Nat} {s : Sl} {hs : WayH} (h : OwV e w base s hs) : ∀ ad, s.a = some ad → base ≤ ad.block ∧ ad.block < w.heap.size := fun ad ha => World.ownsRow.lt h ad.block (by rw [ha]; rfl)
theorem OwV.mv {F : Nat → Prop} {w w' : World} {base : Nat} {s : Sl} {hs : WayH} (h : OwV e w base s hs) (hm : Mv F w w') (hF : ∀ ad, s.a = some ad → ¬F ad.block) : OwV e w' base s hs := own_kp h hm.kp hF
/-- The age of a frame of an own row is written. -/
theorem stAgeV {w : World} {base : Nat} {s : Sl} {hs : WayH} {i v : Int} {j : Nat} {K : World → Prop} (h : OwV e w base s hs) (hij : i = (j : Int)) (hj : j < hs.length)
    (hk : ∀ w', OwV e w' base s (hs.set j (hs[j].1, hs[j].2.1, v)) → Mv (BK s) w w' → w'.heap.size = w.heap.size → K w') : ixa s.a s.n i 3 fun ad => st1 w (ad.add 2) (.int .i64 v) K := by
  subst hij
  have hl := h.len
  obtain ⟨h1, h2⟩ := h
  rcases h2 with ⟨_, hn⟩ | ⟨g, cap, cur, hs', hb, hg, hnc, hcm, hsz, ht⟩
  · omega
  · have ha : s.a = some ⟨g, 0, none⟩ := by injection hs'
    refine ⟨by omega, by omega, ?_⟩
    rw [ha]
    show st1 w ((atOff ⟨g, 0, none⟩ (j : Int) 3).add 2) _ K
    rw [atOff_eq, addOff, addOff, Nat.zero_add, Int.toNat_natCast]
    refine st0 hg (by omega) fun w' hb' hgr hsz' => hk w' ⟨by rw [wayV_length, List.length_set]; omega, .inr ⟨g, cap, _, hs', hb, hb', hnc, hcm, by simp; omega, ?_⟩⟩ (Mv.of_grown hgr ⟨_, ha, rfl⟩) hsz'
    rw [Array.toList_setIfInBounds, List.take_set, ht, wayV_set2 hj]
end
section
variable {w w' : World} {Z : Nat → Prop} {g m : Nat} {t : Tn} {y : RShp} {N : Int}
set_option maxRecDepth 8000 in
/-- All that is on the way is one tick older. -/
theorem rage_ok {u : World} {t3 : Tn} (h3 : Rf u Z g t3 y m) (hw64 : t3.way.length ≤ 64) (hout : t3.out.length ≤ 1073740100) {K : World → Prop}
    (hK : ∀ v, RfTo u v Z g { (ageF t3 t3.way) with way := older t3.way } m → K v)
    {body : Sl → (Nat → AV) → ((Int × Unit) → World → Prop) → (Int × Unit) → World → Prop}
    (hbody : ∀ r74 D J (s76 : Int × Unit) w77, (bif (decide (s76.1 < (r74.n : Int))) then
  (ixa r74.a r74.n s76.1 3 fun a80 => ld (.I .i64) w77 (a80.add 2) fun (x81 : Int) => ixa r74.a r74.n s76.1 3 fun a82 => st1 w77 (a82.add 2) (.int .i64 (IntKind.i64.wrap (x81 + 1))) fun w83 => ixa r74.a r74.n s76.1 3 fun a84 => ld (.I .i64) w83 (a84.add 2) fun (x85 : Int) => bif ((Int.tmod x85 4) == 0) then
  (dr w83 fun w86 => ixa r74.a r74.n s76.1 3 fun a87 => ld (.I .i64) w86 a87 fun (x88 : Int) => ixa r74.a r74.n s76.1 3 fun a89 => ld .L w86 (a89.add 1) fun (x90 : Sl) => nw w86 ((Kd.av k_api_Frame z_api_Frame).cells) t_api_Frame fun a91 w92 => Fr w86 w92 ∧ st w92 a91 (Kd.av k_api_Frame (2, (0, (0, (x88, (0, (0, (x90, ())))))))) fun w93 => nz (some ⟨g, 0, none⟩) fun a94 => ld (.I .i64) w93 (a94.add 1) fun (x95 : Int) => st1 w93 (a91.add 2) (.int .i64 x95) fun w96 => ld k_api_Frame w96 a91 fun (x97 : y_api_Frame) => cl Tryd.prog n_flumeref12_Tunnel_say #[.pointer (some ⟨g, 0, none⟩), (Kd.av k_api_Frame x97).val] (.tup .nil) w96 fun (_x98 : Unit) w99 => J ((IntKind.i64.wrap (s76.1 + 1)), ()) w99)
  else J ((IntKind.i64.wrap (s76.1 + 1)), ()) w83)
  else nz (some ⟨g, 0, none⟩) fun a100 => st1 w77 (a100.add 8) (.slice r74.a r74.n r74.c) fun w101 => K w101) → body r74 D J s76 w77) :
    nw u [] t_flumeref12_Way fun a70 w71 => nz (some ⟨g, 0, none⟩) fun a72 => ld .L w71 (a72.add 8) fun (x73 : Sl) => app Tryd.prog t_s_flumeref12_Way t_s_flumeref12_Way ⟨(some a70), 0, 0⟩ x73 w71 fun r74 w75 => lp (α := (Int × Unit)) (fun K => K (0, ())) w75 (body r74) := by
  obtain ⟨hs, hwr⟩ := h3.way
  have hwl := hwr.all.length
  have hwn := hwr.len
  refine nwI fun a70 w71 ha70 hs71 hf71 hb71 _ => nzS ?_
  rw [addOff]
  refine ldL0 (s := y.way) (hf71.heap h3.cells) rfl ?_
  refine app0V slR (base := u.heap.size) hb71 (by omega) (hwr.rd.below hf71) (by rw [wayV_length, hwn]) (wayV_one _) (by omega) (by omega) hf71.size fun r74 w75 hr74 h5 hf75 => ?_
  have h5 : OwV t_flumeref12_Way w75 u.heap.size r74 hs := h5
  have hfu := hf71.trans hf75
  have hx5 : ∀ ad, r74.a = some ad → u.heap.size ≤ ad.block ∧ ad.block < w75.heap.size := h5.own
  have hz5 := hfu.size
  have hgl := h3.zl g h3.zg
  let Z1 : Nat → Prop := fun k => Z k ∨ (u.heap.size ≤ k ∧ k < w75.heap.size)
  have hZ1 : ∀ k, Z1 k → Z k ∨ u.heap.size ≤ k := fun k hk => hk.imp id fun h => h.1
  have h66 : Rf w75 Z1 g t3 y m := h3.other (E := fun _ => False) (Mv.of_fr hfu) (fun _ h => h.elim) hZ1 (.inl h3.zg) fun k hk => hk.elim (fun h => by have := h3.zl k h; omega) fun h => h.2
  have hn5 := h5.len
  refine lpI (fun (s' : Int × Unit) v => ∃ (i : Nat) (y4 : RShp) (o : Rows8), i ≤ hs.length ∧ s'.1 = i ∧ o.length ≤ i ∧ Rf v Z1 g { t3 with out := t3.out ++ o } y4 m ∧ ageF { t3 with out := t3.out ++ o } (t3.way.drop i) = ageF t3 t3.way ∧ OwV t_flumeref12_Way v u.heap.size r74 ((hs.take i).map oldH ++ hs.drop i) ∧
      All2 (fun a b => a.1 = b.1 ∧ Cb v Z1 a.2.1 b.2.1 ∧ a.2.2 = b.2.2) hs t3.way ∧ Mv (fun k => k = g) u v ∧ w75.heap.size ≤ v.heap.size) (fun s' _ => (r74.n - s'.1).toNat)
    ⟨0, y, [], Nat.zero_le _, rfl, Nat.le_refl _, by rw [List.append_nil]; exact h66, by rw [List.append_nil]; rfl, by simpa using h5, ?_, Mv.of_fr hfu, Nat.le_refl _⟩ ?_
  · exact hwr.all.mono fun a c _ _ hr => ⟨hr.1, hr.2.1.mv (Mv.of_fr (F := fun _ => False) hfu) (fun _ h => h.elim) hZ1, hr.2.2⟩
  rintro D ⟨i', ⟨⟩⟩ v ⟨i, y4, o, hih, rfl, hol, h4, hage, hown, hall, hmv, hzv⟩
  refine hbody _ _ _ _ _ ?_
  dsimp -zeta only
  have hrl : ((hs.take i).map oldH ++ hs.drop i).length = hs.length := by
    rw [List.length_append, List.length_map, List.length_take, List.length_drop]; omega
  have hal := hall.length
  refine bD ?_ ?_ <;> intro hlt
  · have hi1 : i < hs.length := by omega
    have hi2 : i < t3.way.length := by omega
    have hi3 : i < ((hs.take i).map oldH ++ hs.drop i).length := by omega
    have hi4 : i < ((hs.take (i + 1)).map oldH ++ hs.drop (i + 1)).length := by
      rw [List.length_append, List.length_map, List.length_take, List.length_drop]; omega
    obtain ⟨ra, rb, rc⟩ := hall.get hi1 hi2
    refine ixAge hown.rd hown.len hi3 ?_
    rw [age_get hi1]
    refine stAgeV hown rfl hi3 fun v2 hown2 hmb hzs => ?_
    rw [age_get hi1] at hown2
    have hown2 : OwV t_flumeref12_Way v2 u.heap.size r74 (((hs.take i).map oldH ++ hs.drop i).set i (oldH hs[i])) := hown2
    rw [age_set hi1] at hown2
    refine ixAge hown2.rd hown2.len hi4 ?_
    rw [age_get2 hi1, i64w (n := (i : Int) + 1) (by omega) (by omega)]
    have hbE : ∀ k, BK r74 k → (Z1 k ∧ k ≠ g) ∨ v.heap.size ≤ k := fun k ⟨ad, h1, h2⟩ => by
      have hz := hx5 ad h1
      rw [h2] at hz
      exact .inl ⟨.inr hz, by omega⟩
    have h42 : Rf v2 Z1 g { t3 with out := t3.out ++ o } y4 m := h4.other hmb hbE (fun k hk => .inl hk) h4.zg fun k hk => by have := h4.zl k hk; omega
    have hall2 : All2 (fun a b => a.1 = b.1 ∧ Cb v2 Z1 a.2.1 b.2.1 ∧ a.2.2 = b.2.2) hs t3.way := hall.mono fun a c _ _ hr => ⟨hr.1, hr.2.1.mv hmb (fun k hk => (hbE k hk).imp (fun h => h.1) id) fun k hk => .inl hk, hr.2.2⟩
    have hmv2 : Mv (fun k => k = g) u v2 := hmv.trans hmb fun k ⟨ad, h1, h2⟩ => by rw [← h2]; exact .inr (hx5 ad h1).1
    have hdrop : t3.way.drop i = t3.way[i] :: t3.way.drop (i + 1) := List.drop_eq_getElem_cons hi2
    rw [hdrop, ageF] at hage
    dsimp only at hage
    have hcond : (oldH hs[i]).2.2 = wr (t3.way[i].2.2 + 1) := by show wr (hs[i].2.2 + 1) = _; rw [rc]
    refine bE ?_ ?_ <;> intro hmod
    · rw [hcond] at hmod
      rw [if_pos hmod] at hage
      intro n
      have hfn := Fr.drewN v2 n
      have hzn : (v2.drewN n).heap.size = v2.heap.size := rfl
      generalize v2.drewN n = v3 at *
      have h43 := h42.fr hfn
      have hown3 := hown2.fr hfn
      have hall3 : All2 (fun a b => a.1 = b.1 ∧ Cb v3 Z1 a.2.1 b.2.1 ∧ a.2.2 = b.2.2) hs t3.way := hall2.mono fun a c _ _ hr => ⟨hr.1, hr.2.1.mv (Mv.of_fr (F := fun _ => False) hfn) (fun _ h => h.elim) fun k hk => .inl hk, hr.2.2⟩
      refine ixSeq hown3.rd hown3.len hi4 ?_
      refine ixBody hown3.rd hown3.len hi4 ?_
      rw [age_get2 hi1]
      obtain ⟨_, rb3, _⟩ := hall3.get hi1 hi2
      refine nwI fun a91 w92 ha91 hs92 hf92 hb92 _ => ⟨hf92, ?_⟩
      refine stW (Kd.av k_api_Frame (2, 0, 0, hs[i].1, 0, 0, hs[i].2.1, ())) rfl hb92 rfl fun w93 hb93 hg93 hs93 => ?_
      have hf93 : Fr v3 w93 := hf92.on (grown_below hg93 (by omega) hf92.size)
      refine nzS ?_
      rw [addOff]
      refine ldI0 (h43.fr hf93).cells (show (refL { t3 with out := t3.out ++ o } y4).toArray[1]? = some (.int .i64 t3.you) from rfl) ?_
      rw [addOff]
      refine st0 hb93 (by show 2 < 7; decide) fun w96 hb96 hg96 hs96 => ?_
      have hb96 : w96.heap[a91]? = some (.cells (frC (2, 0, t3.you, hs[i].1, 0, 0, hs[i].2.1, ())).toArray t_api_Frame (0, 0)) := hb96
      have hf96 : Fr v3 w96 := hf93.on (grown_below hg96 (by omega) hf93.size)
      refine ldW (k := k_api_Frame) (x := (2, 0, t3.you, hs[i].1, 0, 0, hs[i].2.1, ())) hb96 rfl ?_
      refine (rsay_ok (p := (2, 0, t3.you, hs[i].1, 0, 0, hs[i].2.1, ())) (b := t3.way[i].2.1) (h43.fr hf96) (rb3.bs.fr hf96) ?_).mono fun _ v4 h' => ?_
      · show (t3.out ++ o).length ≤ _
        rw [List.length_append]; omega
      obtain ⟨y5, h5', m5⟩ := h'
      have hsay : ({ t3 with out := t3.out ++ o } : Tn).say (fmOf (2, 0, t3.you, hs[i].1, 0, 0, hs[i].2.1, ()) t3.way[i].2.1) = { t3 with out := t3.out ++ (o ++ [(putF { (⟨2, 0, t3.you, t3.way[i].1, 0, 0, t3.way[i].2.1⟩ : Fm) with fr := t3.me }).1]) } := by
        rw [← ra]
        show ({ t3 with out := (t3.out ++ o) ++ [_] } : Tn) = _
        rw [List.append_assoc]
      have hsay2 : ({ t3 with out := t3.out ++ o } : Tn).say ⟨2, 0, t3.you, t3.way[i].1, 0, 0, t3.way[i].2.1⟩ = { t3 with out := t3.out ++ (o ++ [(putF { (⟨2, 0, t3.you, t3.way[i].1, 0, 0, t3.way[i].2.1⟩ : Fm) with fr := t3.me }).1]) } := by
        show ({ t3 with out := (t3.out ++ o) ++ [_] } : Tn) = _
        rw [List.append_assoc]
      rw [hsay] at h5'
      rw [hsay2] at hage
      have hz43 := m5.size
      have hz96 := hf96.size
      have m4 : Mv (fun k => k = g) v3 v4 := (Mv.of_fr hf96).trans m5 fun k hk => .inl hk
      refine ⟨⟨i + 1, y5, _, by omega, rfl, by rw [List.length_append]; simp; omega, h5', hage, ?_, ?_, ?_, by omega⟩, by omega⟩
      · exact hown3.mv m4 fun ad ha e => by have := (hx5 ad ha).1; omega
      · exact hall3.mono fun a c _ _ hr => ⟨hr.1, hr.2.1.mv m4 h43.zh fun k hk => .inl hk, hr.2.2⟩
      · exact (hmv2.trans (Mv.of_fr (F := fun _ => False) hfn) fun _ h => h.elim).trans m4 fun k hk => .inl hk
    · rw [hcond] at hmod
      rw [if_neg hmod] at hage
      exact ⟨⟨i + 1, y4, o, by omega, rfl, by omega, h42, hage, hown2, hall2, hmv2, by omega⟩, by omega⟩
  · obtain rfl : i = hs.length := by omega
    rw [List.take_length, List.drop_length, List.append_nil] at hown
    rw [hal, List.drop_length] at hage
    have hage : ({ t3 with out := t3.out ++ o } : Tn) = ageF t3 t3.way := hage
    refine nzS ?_
    rw [addOff]
    refine st0 h4.cells (by show 8 < 12; decide) fun v2 hb2 hg2 hs2 => hK v2 ?_
    have hmg : Mv (fun k => k = g) v v2 := Mv.of_grown hg2 rfl
    rw [← hage]
    have hown2 : OwV t_flumeref12_Way v2 u.heap.size r74 (hs.map oldH) := hown.mv hmg fun ad ha e => by have := (hx5 ad ha).1; omega
    have h4' : Rf v Z g { t3 with out := t3.out ++ o } y4 m := h4.other (E := fun _ => False) (Mv.refl _ _) (fun _ h => h.elim) (fun k hk => .inl (.inl hk)) h3.zg fun k hk => h4.zl k (.inl hk)
    have hall' : All2 (fun a b => a.1 = b.1 ∧ Cb v2 Z a.2.1 b.2.1 ∧ a.2.2 = b.2.2) (hs.map oldH) (older t3.way) := by
      refine All2.map2 (hall.mono fun a c _ _ hr => ⟨hr.1, (hr.2.1.anti fun k hk => .inl hk).mv hmg h4'.zh fun k hk => .inl hk, by show wr (a.2.2 + 1) = wr (c.2.2 + 1); rw [hr.2.2]⟩)
    exact ⟨{ y4 with way := r74 }, h4'.own (t' := { t3 with out := t3.out ++ o, way := older t3.way }) (y' := { y4 with way := r74 }) hmg hb2 ⟨_, wayOwn hown2 (fun k hk => h3.zl k hk) hall'⟩ (h4'.queueK hmg) (h4'.saidK hmg) (h4'.earlyK hmg), hmv.trans hmg fun k hk => .inl hk⟩
theorem rTick_ok (h : Rf w Z g t y m) (hi : t.inv) (hl : t.out.length ≤ 1073740000) :
    cl Tryd.prog n_flumeref12_Tunnel_Tick #[.pointer (some ⟨g, 0, none⟩)] (.tup .nil) w fun (_ : Unit) w' => RfTo w w' Z g t.tick m := by
  refine flumeref12_Tunnel_Tick.cl (p0 := some ⟨g, 0, none⟩) ?_
  unfold flumeref12_Tunnel_Tick
  have hsil := hi.sil
  have hrm := hi.room
  refine nzS ?_
  rw [addOff]
  refine ldI0 h.cells (show (refL t y).toArray[3]? = some (.int .i64 t.ticks) from rfl) (nzS ?_)
  rw [addOff]
  refine st0 h.cells (by show 3 < 12; decide) fun w4 hb4 hg4 hs4 => ?_
  have hb4 : w4.heap[g]? = some (.cells (refL { t with ticks := wr (t.ticks + 1) } y).toArray t_flumeref12_Tunnel (0, 0)) := hb4
  have h4 := h.cell (t' := { t with ticks := wr (t.ticks + 1) }) hg4 hb4 rfl rfl rfl (fun _ _ => rfl) (Int.le_refl _)
  have m4 : Mv (fun k => k = g) w w4 := Mv.of_grown hg4 rfl
  refine nzS ?_
  rw [addOff]
  refine ldB0 hb4 (show (refL { t with ticks := wr (t.ticks + 1) } y).toArray[4]? = some (.bool t.up) from rfl) ?_
  cases hu : t.up with
  | false =>
    have e : t.tick = if t.you > 0 ∧ Int.tmod (wr (t.ticks + 1)) 4 = 0 then ({ t with ticks := wr (t.ticks + 1) } : Tn).say (hel t.you) else { t with ticks := wr (t.ticks + 1) } := by
      unfold Tn.tick; dsimp only; rw [if_pos hu]
    rw [e]
    refine bT rfl (nzS ?_)
    rw [addOff]
    refine ldI0 hb4 (show (refL { t with ticks := wr (t.ticks + 1) } y).toArray[1]? = some (.int .i64 t.you) from rfl) ?_
    refine bD ?_ ?_ <;> intro hy
    · refine nzS ?_
      rw [addOff]
      refine ldI0 hb4 (show (refL { t with ticks := wr (t.ticks + 1) } y).toArray[3]? = some (.int .i64 (wr (t.ticks + 1))) from rfl) ?_
      refine bE ?_ ?_ <;> intro h0
      · rw [if_pos ⟨hy, h0⟩]
        refine nzS ?_
        rw [addOff]
        refine ldI0 hb4 (show (refL { t with ticks := wr (t.ticks + 1) } y).toArray[1]? = some (.int .i64 t.you) from rfl) ?_
        refine (rhello_ok h4 (by show t.out.length ≤ _; omega)).mono ?_
        rintro ⟨⟩ w14 h14
        exact RfTo.step m4 h14
      · rw [if_neg fun hh => h0 hh.2]
        exact RfTo.step m4 (RfTo.refl h4)
    · rw [if_neg fun hh => hy hh.1]
      exact RfTo.step m4 (RfTo.refl h4)
  | true =>
  refine bF rfl (nzS ?_)
  rw [addOff]
  refine ldI0 hb4 (show (refL { t with ticks := wr (t.ticks + 1) } y).toArray[5]? = some (.int .i64 t.sil) from rfl) (nzS ?_)
  rw [addOff]
  refine st0 hb4 (by show 5 < 12; decide) fun w18 hb18 hg18 hs18 => ?_
  let t2 : Tn := { t with ticks := wr (t.ticks + 1), sil := wr (t.sil + 1) }
  have hb18 : w18.heap[g]? = some (.cells (refL t2 y).toArray t_flumeref12_Tunnel (0, 0)) := hb18
  have h18 : Rf w18 Z g t2 y m := h4.cell (t' := t2) hg18 hb18 rfl rfl rfl (fun _ _ => rfl) (Int.le_refl _)
  have m18 : Mv (fun k => k = g) w w18 := m4.trans (Mv.of_grown (F := fun k => k = g) hg18 rfl) fun k hk => .inl hk
  have e : t.tick = if t2.sil ≥ 64 then t2.fin else t2.tickUp := by
    unfold Tn.tick; dsimp only; rw [if_neg (by rw [hu]; decide)]
  have es : wr (t.sil + 1) = t.sil + 1 := by rw [wr, IntKind.wrap_i64]; omega
  rw [e]
  refine nzS ?_
  rw [addOff]
  refine ldI0 hb18 (show (refL t2 y).toArray[5]? = some (.int .i64 (wr (t.sil + 1))) from rfl) ?_
  refine bE ?_ ?_ <;> intro h64
  · rw [if_pos (show t2.sil ≥ 64 by show wr (t.sil + 1) ≥ 64; omega)]
    refine (rclear_ok h18).mono ?_
    rintro ⟨⟩ w22 ⟨y2, h22, m22⟩
    refine nzS ?_
    refine ldI0 h22.cells (show (refL (Tn.cleared t2) y2).toArray[0]? = some (.int .i64 t.me) from rfl) (nzS ?_)
    refine st0 h22.cells (by show 0 < 12; decide) fun w26 hb26 hg26 hs26 => nzS ?_
    have hb26 : w26.heap[g]? = some (.cells (refL { Tn.cleared t2 with me := min (wr (t.me + 1)) 1099511627776 } y2).toArray t_flumeref12_Tunnel (0, 0)) := hb26
    have h26 := h22.cell (t' := { Tn.cleared t2 with me := min (wr (t.me + 1)) 1099511627776 }) hg26 hb26 rfl rfl rfl (fun _ _ => rfl) (Int.le_refl _)
    rw [addOff]
    refine ldI0 hb26 (show (refL { Tn.cleared t2 with me := min (wr (t.me + 1)) 1099511627776 } y2).toArray[2]? = some (.int .i64 t.epoch) from rfl) (nzS ?_)
    rw [addOff]
    refine st0 hb26 (by show 2 < 12; decide) fun w30 hb30 hg30 hs30 => ?_
    have hb30 : w30.heap[g]? = some (.cells (refL t2.fin y2).toArray t_flumeref12_Tunnel (0, 0)) := hb30
    have h30 : Rf w30 Z g t2.fin y2 0 := h26.cell (t' := t2.fin) hg30 hb30 rfl rfl rfl (fun _ _ => rfl) (Int.le_refl _)
    exact ⟨y2, h30.mono (Nat.zero_le _), ((m18.trans m22 fun k hk => .inl hk).trans (Mv.of_grown (F := fun k => k = g) hg26 rfl) fun k hk => .inl hk).trans (Mv.of_grown (F := fun k => k = g) hg30 rfl) fun k hk => .inl hk⟩
  · rw [if_neg (show ¬t2.sil ≥ 64 by show ¬wr (t.sil + 1) ≥ 64; omega)]
    intro j1
    have J1 : ∀ (u : World) (t3 : Tn) (y3 : RShp), Rf u Z g t3 y3 m → Mv (fun k => k = g) w u → t3 = (if Int.tmod t2.ticks 8 = 0 then t2.say (hel t2.you) else t2) → t3.way = t.way → t3.out.length ≤ 1073740100 → j1 u := by
      intro u t3 y3 h3 m3 ht3 hway3 hout3
      have e3 : t2.tickUp = { (ageF t3 t3.way) with way := older t3.way } := by
        unfold Tn.tickUp
        rw [← ht3, hway3]
      unfold j1
      refine rage_ok h3 (by rw [hway3]; omega) hout3 (K := fun v => RfTo w v Z g t2.tickUp m) (fun v hv => ?_) fun r74 D J s76 w77 hx => hx
      rw [e3]
      exact RfTo.step m3 hv
    clear_value j1
    refine nzS ?_
    rw [addOff]
    refine ldI0 hb18 (show (refL t2 y).toArray[3]? = some (.int .i64 (wr (t.ticks + 1))) from rfl) ?_
    refine bE ?_ ?_ <;> intro h8
    · refine nzS ?_
      rw [addOff]
      refine ldI0 hb18 (show (refL t2 y).toArray[1]? = some (.int .i64 t.you) from rfl) ?_
      refine (rhello_ok h18 (by show t.out.length ≤ _; omega)).mono ?_
      rintro ⟨⟩ w36 ⟨y3, h36, m36⟩
      refine J1 w36 _ y3 h36 (m18.trans m36 fun k hk => .inl hk) ?_ rfl ?_
      · rw [if_pos (show Int.tmod t2.ticks 8 = 0 from h8)]
      · show (t.out ++ [_]).length ≤ _
        simp; omega
    · exact J1 w18 t2 y h18 m18 (by rw [if_neg (show ¬Int.tmod t2.ticks 8 = 0 from h8)]) rfl (by show t.out.length ≤ _; omega)
end
end Go.Proofs.YtmhibpcbdbhfoaaDoor
namespace Go.Proofs.YtmhibpcbdbhfoaaDoor
open Go.RowKit Go.Fl

theorem slE : SlT Tryd.prog t_s_flumeref12_Early t_flumeref12_Early 2 32 := SlT.mk' (z := .agg #[.int .i64 0, .slice none 0 0]) (by kernel_rfl) (by kernel_rfl) rfl (by decide)
theorem lookE_append : ∀ (ls : List (Int × List UInt8)) (x : Int × List UInt8) (n : Int), lookE (ls ++ [x]) n = match lookE ls n with | some b => some b | none => if x.1 = n then some x.2 else none
  | [], x, n => rfl
  | z :: ls, x, n => by
    rw [List.cons_append, lookE, lookE]
    split
    · rfl
    · exact lookE_append ls x n
theorem lookE_map (s : Int) (b : List UInt8) : ∀ (ls : List (Int × List UInt8)) (n : Int), lookE (ls.map fun e => if e.1 = s then (e.1, b) else e) n = if n = s then (lookE ls n).map (fun _ => b) else lookE ls n
  | [], n => by simp [lookE]
  | z :: ls, n => by
    rw [List.map_cons, lookE, lookE, lookE_map s b ls n]
    by_cases hz : z.1 = s
    · rw [if_pos hz]
      dsimp only
      by_cases hn : z.1 = n
      · rw [if_pos hn, if_pos hn, if_pos (by omega)]; rfl
      · rw [if_neg hn, if_neg hn]
    · rw [if_neg hz]
      by_cases hn : z.1 = n
      · rw [if_pos hn, if_pos hn, if_neg (by omega)]
      · rw [if_neg hn, if_neg hn]
/-- Early messages of one's own. -/
def OwE (w : World) (base : Nat) (s : Sl) (hs : EarH) : Prop := w.ownsRow base t_flumeref12_Early 2 (.slice s.a s.n s.c) s.n (earV hs)
theorem OwE.len {w : World} {base : Nat} {s : Sl} {hs : EarH} (h : OwE w base s hs) : s.n = hs.length := by
  have := h.1; rw [earV_length] at this; omega
theorem OwE.rd {w : World} {base : Nat} {s : Sl} {hs : EarH} (h : OwE w base s hs) : Rd w s.a (earV hs) := Rd.of_own h
theorem OwE.fr {w w' : World} {base : Nat} {s : Sl} {hs : EarH} (h : OwE w base s hs) (hf : Fr w w') : OwE w' base s hs := own_kept h hf
theorem OwE.own {w : World} {base : Nat} {s : Sl} {hs : EarH} (h : OwE w base s hs) : ∀ ad, s.a = some ad → base ≤ ad.block ∧ ad.block < w.heap.size := fun ad ha => World.ownsRow.lt h ad.block (by rw [ha]; rfl)
theorem OwE.mv {F : Nat → Prop} {w w' : World} {base : Nat} {s : Sl} {hs : EarH} (h : OwE w base s hs) (hm : Mv F w w') (hF : ∀ ad, s.a = some ad → ¬F ad.block) : OwE w' base s hs := own_kp h hm.kp hF
theorem OwE.ear {w : World} {Z : Nat → Prop} {base : Nat} {s : Sl} {hs : EarH} {ls : List (Int × List UInt8)} (h : OwE w base s hs) (hZ : ∀ k, Z k → k < base) (ha : All2 (fun a b => a.1 = b.1 ∧ Cb w Z a.2 b.2) hs ls) : EarR w Z s hs ls :=
  ⟨h.rd, h.len, fun _ ad had hz => by have := (h.own ad had).1; have := hZ _ hz; omega, ha⟩
theorem earV_set {hs : EarH} {j : Nat} (h : j < hs.length) (s : Sl) : (earV hs).set (j * 2 + 1) (slV s) = earV (hs.set j (hs[j].1, s)) := by
  induction hs generalizing j with
  | nil => simp at h
  | cons a l ih =>
    have e : ∀ (a : Int × Sl) (l : EarH), earV (a :: l) = .int .i64 a.1 :: slV a.2 :: earV l := fun _ _ => rfl
    cases j with
    | zero => rfl
    | succ j =>
      have := ih (j := j) (by simpa using h)
      rw [List.set_cons_succ, e, e, show (j + 1) * 2 + 1 = j * 2 + 1 + 1 + 1 from by omega]
      simp only [List.set_cons_succ, List.getElem_cons_succ]
      rw [this]
theorem stEar {w : World} {base : Nat} {s x : Sl} {hs : EarH} {j : Nat} {K : World → Prop} (h : OwE w base s hs) (hj : j < hs.length)
    (hk : ∀ w', OwE w' base s (hs.set j (hs[j].1, x)) → Mv (BK s) w w' → w'.heap.size = w.heap.size → K w') : ixa s.a s.n (j : Int) 2 fun ad => st1 w (ad.add 1) (.slice x.a x.n x.c) K := by
  have hl := h.len
  obtain ⟨h1, h2⟩ := h
  rcases h2 with ⟨_, hn⟩ | ⟨g, cap, cur, hs', hb, hg, hnc, hcm, hsz, ht⟩
  · omega
  · have ha : s.a = some ⟨g, 0, none⟩ := by injection hs'
    refine ⟨by omega, by omega, ?_⟩
    rw [ha]
    show st1 w ((atOff ⟨g, 0, none⟩ (j : Int) 2).add 1) _ K
    rw [atOff_eq, addOff, addOff, Nat.zero_add, Int.toNat_natCast]
    refine st0 hg (by omega) fun w' hb' hgr hsz' => hk w' ⟨by rw [earV_length, List.length_set]; omega, .inr ⟨g, cap, _, hs', hb, hb', hnc, hcm, by simp; omega, ?_⟩⟩ (Mv.of_grown hgr ⟨_, ha, rfl⟩) hsz'
    rw [Array.toList_setIfInBounds, List.take_set, ht]
    exact earV_set hj x
theorem ixE0 {w : World} {s : Sl} {hs : EarH} {j : Nat} {K : Int → Prop} (hr : Rd w s.a (earV hs)) (hl : s.n = hs.length) (hj : j < hs.length) (h : K hs[j].1) : ixa s.a s.n (j : Int) 2 fun a => ld (.I .i64) w a K := by
  obtain ⟨ad, ha, hc⟩ := hr _ _ (earV_get hj).1
  refine ⟨by omega, by omega, ?_⟩
  rw [ha]
  show ld (.I .i64) w (atOff ad (j : Int) 2) K
  rw [atOff_eq, Int.toNat_natCast]
  exact ⟨hs[j].1, hc, h⟩
theorem map_take_drop {α : Type} (f : α → α) {l : List α} {i : Nat} (h : i < l.length) : ((l.take i).map f ++ l.drop i).set i (f l[i]) = (l.take (i + 1)).map f ++ l.drop (i + 1) := by
  have hl : ((l.take i).map f).length = i := by rw [List.length_map, List.length_take]; omega
  rw [List.set_append_right _ _ (by omega), hl, Nat.sub_self, List.drop_eq_getElem_cons h, List.set_cons_zero, List.take_succ_eq_append_getElem h, List.map_append]
  simp
theorem map_take_get {α : Type} (f : α → α) {l : List α} {i : Nat} (h : i < l.length) (h' : i < ((l.take i).map f ++ l.drop i).length) : ((l.take i).map f ++ l.drop i)[i] = l[i] := by
  have hl : ((l.take i).map f).length = i := by rw [List.length_map, List.length_take]; omega
  have e : ((l.take i).map f ++ l.drop i)[i]? = l[i]? := by rw [List.getElem?_append_right (by omega), hl, Nat.sub_self, List.getElem?_drop, Nat.add_zero]
  exact Option.some.inj ((List.getElem?_eq_getElem h').symm.trans (e.trans (List.getElem?_eq_getElem h)))
section
variable {w w' : World} {Z : Nat → Prop} {g m : Nat} {t : Tn} {y : RShp} {N : Int}
/-- What early asks, as steps. -/
theorem early_step {n : Int} (h : Rf w Z g t y m) (hm : m ≤ 1073741824) (hn : t.expect < n) {K : Sl × Bool × Unit → World → Prop} (h1 : ∀ v, Fr w v → t.early n = none → K (⟨none, 0, 0⟩, false, ()) v) (h2 : ∀ v s b, Fr w v → t.early n = some b → Cb v Z s b → K (s, true, ()) v) :
    cl Tryd.prog n_flumeref12_Tunnel_early #[.pointer (some ⟨g, 0, none⟩), .int .i64 n] (.tup (.pair .L (.pair .B .nil))) w K := by
  refine (rearly_ok h hm hn).mono ?_
  rintro ⟨s, f, ⟨⟩⟩ v ⟨hr, hf⟩
  cases he : t.early n with
  | none =>
    rw [he] at hr
    cases hr
    exact h1 v hf he
  | some b =>
    rw [he] at hr
    obtain ⟨e, hc⟩ := hr
    cases e
    exact h2 v s b hf he hc
set_option maxRecDepth 8000 in
theorem rdata_ok {p : y_api_Frame} {b : List UInt8} (h : Rf w Z g t y m) (hm : m ≤ 1073740000) (hi : t.inv) (_hsq : 0 ≤ p.2.2.2.1 ∧ p.2.2.2.1 ≤ 1099511627776) (hb : Cb w Z p.2.2.2.2.2.2.1 b) (hl : t.out.length ≤ 1073740000) :
    cl Tryd.prog n_flumeref12_Tunnel_data #[.pointer (some ⟨g, 0, none⟩), frV p] .L w fun (r : Sl) w' => RfTo w w' Z g (t.data (fmOf p b)).1 (m + 1) ∧ ∃ hs, OwS w' w.heap.size t_s_uint8 r hs ∧ All2 (Cb w' Z) hs (t.data (fmOf p b)).2 := by
  refine flumeref12_Tunnel_data.cl (p0 := some ⟨g, 0, none⟩) (p1 := p) ?_
  unfold flumeref12_Tunnel_data
  have hex := hi.ex
  have hgl := h.zl g h.zg
  refine nwI fun a1 w2 ha1 hs2 hf2 hb1 _ => ?_
  have hb1 : w2.heap[a1]? = some (.cells (frC p).toArray t_api_Frame (0, 0)) := hb1
  have h2 := h.fr hf2
  have hz2 := hf2.size
  have hc2 : Cb w2 Z p.2.2.2.2.2.2.1 b := hb.mv (Mv.of_fr (F := fun _ => False) hf2) (fun _ h => h.elim) fun k hk => .inl hk
  dsimp -zeta only
  intro j3
  have J3 : ∀ (u : World) (y3 : RShp), Rf u Z g (t.keep (fmOf p b)) y3 (m + 1) → Mv (fun k => k = g) w2 u → j3 u := by
    intro u y3 h3 m3
    have hkx : (t.keep (fmOf p b)).expect = t.expect := by unfold Tn.keep; split <;> rfl
    have hko : (t.keep (fmOf p b)).out = t.out := by unfold Tn.keep; split <;> rfl
    have hdata : t.data (fmOf p b) = ((tellF 17 (t.keep (fmOf p b)) []).1.acks, (tellF 17 (t.keep (fmOf p b)) []).2) := rfl
    generalize t.keep (fmOf p b) = tk at *
    unfold j3
    intro j4
    have J4 : ∀ (s : Sl) (v : World) (tt : Tn) (ll : Rows8) (y4 : RShp) (hs : List Sl), tellF 17 tk [] = (tt, ll) → Rf v Z g tt y4 (m + 1) → Mv (fun k => k = g) w2 v → OwS v w2.heap.size t_s_uint8 s hs → All2 (Cb v Z) hs ll → tt.out = t.out → 0 ≤ tt.expect → tt.expect ≤ 1099511628000 → j4 s v := by
      intro s v tt ll y4 hs htell h4 m4 ho ha hout he0 he1
      unfold j4
      refine nzS ?_
      rw [addOff]
      refine ldI0 h4.cells (show (refL tt y4).toArray[7]? = some (.int .i64 tt.expect) from rfl) ?_
      refine nwI fun a5 v6 ha5 hs6 hf6 hb6 _ => ?_
      refine stW (Kd.av k_api_Frame (3, 0, 0, 0, tt.expect, 0, ⟨none, 0, 0⟩, ())) rfl hb6 rfl fun v7 hb7 hg7 hs7 => ?_
      have hf7 : Fr v v7 := hf6.on (grown_below hg7 (by omega) hf6.size)
      refine nzS ?_
      rw [addOff]
      refine ldI0 (h4.fr hf7).cells (show (refL tt y4).toArray[1]? = some (.int .i64 tt.you) from rfl) ?_
      rw [addOff]
      refine st0 hb7 (by show 2 < 7; decide) fun v8 hb8 hg8 hs8 => ?_
      have hb8 : v8.heap[a5]? = some (.cells (frC (3, 0, tt.you, 0, tt.expect, 0, ⟨none, 0, 0⟩, ())).toArray t_api_Frame (0, 0)) := hb8
      have hf8 : Fr v v8 := hf7.on (grown_below hg8 (by omega) hf7.size)
      refine lpI (fun (s' : Int × Int × Unit) x => ∃ i : Nat, i ≤ 16 ∧ s'.2.1 = i ∧ s'.1 = ((2 ^ i : Nat) : Int) ∧ Fr v x ∧ x.heap[a5]? = some (.cells (frC (3, 0, tt.you, 0, tt.expect, ((bitsN tt.early tt.expect i : Nat) : Int), ⟨none, 0, 0⟩, ())).toArray t_api_Frame (0, 0))) (fun s' _ => (16 - s'.2.1).toNat) ⟨0, by omega, rfl, rfl, hf8, hb8⟩ ?_
      rintro D ⟨bit, i', ⟨⟩⟩ x ⟨i, hi16, rfl, rfl, hfx, hbx⟩
      dsimp only
      have hbl := bitsN_lt tt.early tt.expect i
      refine bD ?_ ?_ <;> intro hlt
      · have hx4 := h4.fr hfx
        have hp : (2 : Nat) ^ i ≤ 2 ^ 15 := Nat.pow_le_pow_right (by decide) (by omega)
        have hp2 : (2 : Nat) ^ (i + 1) = 2 * 2 ^ i := by rw [Nat.pow_succ]; omega
        refine nzS ?_
        rw [addOff]
        refine ldI0 hx4.cells (show (refL tt y4).toArray[7]? = some (.int .i64 tt.expect) from rfl) ?_
        rw [i64w (n := tt.expect + 1) (by omega) (by omega), i64w (n := tt.expect + 1 + (i : Int)) (by omega) (by omega), i64w (n := (i : Int) + 1) (by omega) (by omega)]
        have e2 : IntKind.i64.wrap (2 * ((2 ^ i : Nat) : Int)) = ((2 ^ (i + 1) : Nat) : Int) := by
          rw [hp2, i64w (by omega) (by omega)]; omega
        rw [e2]
        have eb : bitsN tt.early tt.expect (i + 1) = bitsN tt.early tt.expect i + if (tt.early (tt.expect + 1 + i)).isSome then 2 ^ i else 0 := rfl
        refine early_step hx4 (by omega) (by omega) (fun x2 hf2 he => ?_) fun x2 sl bb hf2 he _ => ?_
        · refine bF rfl ?_
          rw [he] at eb
          refine ⟨⟨i + 1, by omega, rfl, rfl, hfx.trans hf2, ?_⟩, by omega⟩
          rw [eb]
          exact hf2.heap hbx
        · refine bT rfl ?_
          rw [he] at eb
          rw [addOff]
          refine ldI0 (hf2.heap hbx) (show (frC (3, 0, tt.you, 0, tt.expect, ((bitsN tt.early tt.expect i : Nat) : Int), ⟨none, 0, 0⟩, ())).toArray[5]? = some (.int .i64 ((bitsN tt.early tt.expect i : Nat) : Int)) from rfl) ?_
          refine st0 (hf2.heap hbx) (by show 5 < 7; decide) fun x3 hb3 hg3 hs3 => ?_
          have hz2' := hf2.size
          refine ⟨⟨i + 1, by omega, rfl, rfl, (hfx.trans hf2).on (grown_below hg3 (by omega) (hfx.trans hf2).size), ?_⟩, by omega⟩
          simp only [Option.isSome_some, if_true] at eb
          rw [eb]
          have e3 : IntKind.i64.wrap (((bitsN tt.early tt.expect i : Nat) : Int) + ((2 ^ i : Nat) : Int)) = ((bitsN tt.early tt.expect i + 2 ^ i : Nat) : Int) := by
            rw [i64w (by omega) (by omega)]; omega
          rw [e3] at hb3
          exact hb3
      · obtain rfl : i = 16 := by omega
        refine ldW (k := k_api_Frame) (x := (3, 0, tt.you, 0, tt.expect, ((bitsN tt.early tt.expect 16 : Nat) : Int), ⟨none, 0, 0⟩, ())) hbx rfl ?_
        refine (rsay_ok (p := (3, 0, tt.you, 0, tt.expect, ((bitsN tt.early tt.expect 16 : Nat) : Int), ⟨none, 0, 0⟩, ())) (b := []) (h4.fr hfx) (Bs.nil _ _) (by rw [hout]; omega)).mono ?_
        rintro ⟨⟩ x5 ⟨y5, h5, m5⟩
        rw [hdata, htell]
        have mx : Mv (fun k => k = g) v x5 := (Mv.of_fr hfx).trans m5 fun k hk => .inl hk
        refine ⟨⟨y5, h5, ((Mv.of_fr hf2).trans m4 fun k hk => .inl hk).trans mx fun k hk => .inl hk⟩, hs, (ho.mono hz2).mv mx fun ad had e => ?_, ha.mono fun a c _ _ hc => hc.mv mx h4.zh fun k hk => .inl hk⟩
        have := (ho.own ad had).1
        omega
    clear_value j4
    refine lpI (fun (s' : Sl × Int × Unit) v => ∃ (i k : Nat) (tt : Tn) (ll : Rows8) (y4 : RShp) (hs : List Sl), i + k = 17 ∧ s'.2.1 = i ∧ tellF k tt ll = tellF 17 tk [] ∧ Rf v (fun k => Z k ∨ BK s'.1 k) g tt y4 (m + 1) ∧ Mv (fun k => k = g) w2 v ∧ OwS v w2.heap.size t_s_uint8 s'.1 hs ∧ All2 (Cb v fun k => Z k ∨ BK s'.1 k) hs ll ∧ tt.out = t.out ∧ t.expect ≤ tt.expect ∧ tt.expect ≤ t.expect + i ∧ hs.length ≤ i) (fun s' _ => (17 - s'.2.1).toNat)
      ⟨0, 17, tk, [], y3, [], rfl, rfl, rfl, by
        rw [show (fun k => Z k ∨ BK (⟨none, 0, 0⟩ : Sl) k) = Z from funext fun k => propext ⟨fun h => h.elim id fun h => absurd h BK.none, .inl⟩]
        exact h3, m3, OwS.nil _ _ _, trivial, hko, by omega, by omega, Nat.le_refl _⟩ ?_
    rintro D ⟨s, i', ⟨⟩⟩ v ⟨i, k, tt, ll, y4, hs, hik, rfl, htell, h4, m4, ho, ha, hout, hx1, hx2, hsl⟩
    dsimp only at ho h4 ha ⊢
    have down : ∀ {u tt' yy}, Rf u (fun k => Z k ∨ BK s k) g tt' yy (m + 1) → Rf u Z g tt' yy (m + 1) := fun hh => hh.other (E := fun _ => False) (Mv.refl _ _) (fun _ h => h.elim) (fun k hk => .inl (.inl hk)) h.zg fun k hk => hh.zl k (.inl hk)
    refine bD ?_ ?_ <;> intro hlt
    · obtain ⟨k', rfl⟩ : ∃ k', k = k' + 1 := ⟨k - 1, by omega⟩
      refine nzS ?_
      rw [addOff]
      refine ldI0 h4.cells (show (refL tt y4).toArray[7]? = some (.int .i64 tt.expect) from rfl) ?_
      rw [i64w (n := tt.expect + 1) (by omega) (by omega)]
      rw [tellF] at htell
      refine early_step h4 (by omega) (by omega) (fun v2 hfv he => ?_) fun v2 sl bb hfv he hcb => ?_
      · refine bT rfl ?_
        rw [he] at htell
        exact J4 s v2 tt ll y4 hs htell.symm (down (h4.fr hfv)) (m4.trans (Mv.of_fr (F := fun _ => False) hfv) fun _ h => h.elim) (ho.fr hfv) (ha.mono fun a c _ _ hc => hc.mv (Mv.of_fr (F := fun _ => False) hfv) (fun _ h => h.elim) fun k hk => .inl (.inl hk)) hout (by omega) (by omega)
      · refine bF rfl ?_
        rw [he] at htell
        dsimp only at htell
        have h42 := h4.fr hfv
        refine nzS ?_
        rw [addOff]
        refine ldI0 h42.cells (show (refL tt y4).toArray[7]? = some (.int .i64 tt.expect) from rfl) (nzS ?_)
        rw [addOff]
        refine st0 h42.cells (by show 7 < 12; decide) fun v3 hb3 hg3 hs3 => ?_
        rw [i64w (n := tt.expect + 1) (by omega) (by omega)] at hb3
        let t5 : Tn := { tt with early := setE tt.early (tt.expect + 1) none, expect := tt.expect + 1 }
        have hb3 : v3.heap[g]? = some (.cells (refL t5 y4).toArray t_flumeref12_Tunnel (0, 0)) := hb3
        have h5 : Rf v3 (fun k => Z k ∨ BK s k) g t5 y4 (m + 1) := h42.cell (t' := t5) hg3 hb3 rfl rfl rfl (fun n hn => by
          have hn : tt.expect + 1 < n := hn
          show setE tt.early (tt.expect + 1) none n = _
          unfold setE
          rw [if_neg (by omega)]) (by show tt.expect ≤ tt.expect + 1; omega)
        have m3' : Mv (fun k => k = g) v v3 := (Mv.of_fr hfv).trans (Mv.of_grown (F := fun k => k = g) hg3 rfl) fun k hk => .inl hk
        have mg3 : Mv (fun k => k = g) v2 v3 := Mv.of_grown hg3 rfl
        have hz24 := m4.size
        have hgne : ∀ ad, s.a = some ad → ad.block ≠ g := fun ad had e => by have := (ho.own ad had).1; omega
        refine nwI fun a196 v4 ha196 hs4 hf4 hb4 hr4 => ?_
        have ho4 := (ho.mv m3' hgne).fr hf4
        refine app_S slS (by decide) (base := w2.heap.size) (ms := [sl]) ho4 hr4 rfl (by simp; omega) (by have := m3'.size; have := hf4.size; omega) fun r v5 h5o hg5 hat => ?_
        rw [ownB_slice] at hg5
        rw [ownB_slice, ownB_slice] at hat
        have hfs : Mv (fun k => BK s k) v4 v5 := ⟨hg5.os, hg5.tape, hg5.output, hg5.size, fun k hk hn => hg5.block k hk fun e => by
          cases hxa : s.a with
          | none => rw [hxa] at e; cases e
          | some o => rw [hxa] at e; exact hn ⟨o, hxa, (Option.some.inj e).symm⟩⟩
        have hBK : ∀ k, BK s k → w2.heap.size ≤ k := fun k ⟨ad, had, e⟩ => by rw [← e]; exact (ho.own ad had).1
        have hrb : ∀ k, BK r k → BK s k ∨ k = v4.heap.size := by
          rintro k ⟨o, hro, rfl⟩
          rw [hro] at hat
          rcases hat with h1 | h1
          · cases hxa : s.a with
            | none => rw [hxa] at h1; cases h1
            | some o' => rw [hxa] at h1; exact .inl ⟨o', hxa, (Option.some.inj h1).symm⟩
          · exact .inr (Option.some.inj h1)
        have h54 := h5.fr hf4
        have hz35 := hfs.size
        have hZ5 : ∀ k, (Z k ∨ BK r k) → (Z k ∨ BK s k) ∨ v4.heap.size ≤ k := fun k hk => by
          rcases hk with hk | hk
          · exact .inl (.inl hk)
          · rcases hrb k hk with h1 | h1
            · exact .inl (.inr h1)
            · exact .inr (by omega)
        have h55 : Rf v5 (fun k => Z k ∨ BK r k) g t5 y4 (m + 1) := h54.other hfs (fun k hk => .inl ⟨.inr hk, fun e => by have := hBK k hk; omega⟩) hZ5 (.inl h.zg) fun k hk => by
          rcases hk with hk | ⟨ad, had, e⟩
          · have := h54.zl k (.inl hk); omega
          · rw [← e]; exact (h5o.own ad had).2
        have hsz3 := m3'.size
        have hsz4 := hf4.size
        refine ⟨⟨i + 1, k', t5, ll ++ [bb], y4, hs ++ [sl], by omega, by rw [i64w (by omega) (by omega)]; rfl, htell, h55, ?_, h5o, ?_, hout, by show t.expect ≤ tt.expect + 1; omega, by show tt.expect + 1 ≤ t.expect + ((i + 1 : Nat) : Int); omega, by simp; omega⟩, by rw [i64w (by omega) (by omega)]; omega⟩
        · refine (m4.trans m3' fun k hk => .inl hk).trans ((Mv.of_fr (F := fun k => BK s k) hf4).trans hfs fun k hk => .inl hk) fun k hk => .inr (hBK k hk)
        · have m35 : Mv (fun k => k = g ∨ BK s k) v v5 := (m3'.mono fun k hk => .inl (.inl hk)).trans ((Mv.of_fr (F := fun k => BK s k) hf4).trans hfs fun k hk => .inl hk) fun k hk => .inl (.inr hk)
          have hZv : ∀ k, (Z k ∨ BK r k) → (Z k ∨ BK s k) ∨ v.heap.size ≤ k := fun k hk => (hZ5 k hk).imp id fun h => by omega
          refine All2.append (ha.mono fun a c _ _ hc => hc.mv m35 (fun k hk => by
            rcases hk with hk | hk
            · exact .inl (.inl (by rw [hk]; exact h.zg))
            · exact .inl (.inr hk)) hZv) (show All2 _ [sl] [bb] from ⟨?_, trivial⟩)
          refine hcb.mv (Z' := fun k => Z k ∨ BK r k) ((mg3.mono fun k hk => .inl (.inl hk) : Mv (fun k => k = g ∨ BK s k) v2 v3).trans ((Mv.of_fr (F := fun k => BK s k) hf4).trans hfs fun k hk => .inl hk) fun k hk => .inl (.inr hk)) (fun k hk => ?_) fun k hk => ?_
          · rcases hk with hk | hk
            · exact .inl (.inl (by rw [hk]; exact h.zg))
            · exact .inl (.inr hk)
          · have := hfv.size
            have := mg3.size
            rcases hZ5 k hk with h1 | h1
            · exact .inl h1
            · right; omega
    · have hi17 : i = 17 := by omega
      have hk0 : k = 0 := by omega
      subst hk0
      exact J4 s v tt ll y4 hs htell.symm (down h4) m4 ho (ha.mono fun a c _ _ hc => hc.anti fun k hk => .inl hk) hout (by omega) (by omega)
  clear_value j3
  -- a message that came early is kept
  have esq : (fmOf p b).sq = p.2.2.2.1 := rfl
  have ebd : (fmOf p b).bd = b := rfl
  intro j1
  have J1 : ∀ (c : Bool) (u : World), Fr w2 u → (c = true ↔ (p.2.2.2.1 > t.expect ∧ p.2.2.2.1 - t.expect ≤ 16)) → j1 c u := by
    intro c u hfu hc
    unfold j1
    have hu := h2.fr hfu
    have hcu : Cb u Z p.2.2.2.2.2.2.1 b := hc2.mv (Mv.of_fr (F := fun _ => False) hfu) (fun _ h => h.elim) fun k hk => .inl hk
    cases c with
    | false =>
      have ek : t.keep (fmOf p b) = t := by
        unfold Tn.keep
        rw [if_neg]
        intro hh
        have := hc.2 hh
        cases this
      refine bF rfl (J3 u y ?_ (Mv.of_fr hfu))
      rw [ek]
      exact hu.mono (by omega)
    | true =>
      have hcond := hc.1 rfl
      have ek : t.keep (fmOf p b) = { t with early := setE t.early p.2.2.2.1 (some b) } := by
        unfold Tn.keep
        rw [if_pos (by rw [esq]; exact hcond)]
      refine bT rfl ?_
      rw [addOff]
      refine ldI0 (hfu.heap hb1) (show (frC p).toArray[3]? = some (.int .i64 p.2.2.2.1) from rfl) ?_
      refine early_step hu (by omega) hcond.1 (fun v hfv he => ?_) fun v sl bb hfv he _ => ?_
      · -- it is new
        refine bT rfl ?_
        intro dn
        have hfn := Fr.drewN v dn
        have hf70 := hfv.trans hfn
        generalize v.drewN dn = v2 at *
        have h70 := hu.fr hf70
        have hb70 := (hfu.trans hf70).heap hb1
        obtain ⟨hs, ls, e1, e2, e3⟩ := h70.early
        have hel := e1.len
        have hea := e1.all.length
        refine nzS ?_
        rw [addOff]
        refine ldL0 (s := y.early) h70.cells rfl ?_
        rw [addOff]
        refine ldI0 hb70 (show (frC p).toArray[3]? = some (.int .i64 p.2.2.2.1) from rfl) ?_
        refine ldL0 (s := p.2.2.2.2.2.2.1) hb70 rfl ?_
        refine snoc3 slE e1.rd (by rw [earV_length, hel]) (earV_one _) rfl (fun v hv => by simp only [List.mem_cons, List.not_mem_nil, or_false] at hv; rcases hv with rfl | rfl <;> rfl) (by omega) (by omega) fun r wz hrn ho hfz => ?_
        have hz := h70.fr hfz
        refine nzS ?_
        rw [addOff]
        refine st0 hz.cells (by show 10 < 12; decide) fun w85 hb85 hg85 hs85 => ?_
        have m85 : Mv (fun k => k = g) wz w85 := Mv.of_grown hg85 rfl
        have mz : Mv (fun k => k = g) v2 w85 := (Mv.of_fr hfz).trans m85 fun k hk => .inl hk
        have ho2 : OwE wz v2.heap.size r (hs ++ [(p.2.2.2.1, p.2.2.2.2.2.2.1)]) := by unfold OwE; rw [earV_append]; exact ho
        have ho3 := ho2.mv m85 fun ad had e => by have := (ho2.own ad had).1; have := h70.zl g h70.zg; omega
        have hall : All2 (fun a b => a.1 = b.1 ∧ Cb w85 Z a.2 b.2) (hs ++ [(p.2.2.2.1, p.2.2.2.2.2.2.1)]) (ls ++ [(p.2.2.2.1, b)]) := by
          refine All2.append (e1.all.mono fun a c _ _ hr => ⟨hr.1, hr.2.mv mz h70.zh fun k hk => .inl hk⟩) (show All2 _ [_] [_] from ⟨⟨rfl, ?_⟩, trivial⟩)
          exact (hcu.mv (Mv.of_fr (F := fun _ => False) hf70) (fun _ h => h.elim) fun k hk => .inl hk).mv mz h70.zh fun k hk => .inl hk
        refine J3 w85 { y with early := r } ?_ ((Mv.of_fr (hfu.trans hf70)).trans mz fun k hk => .inl hk)
        rw [ek]
        refine h70.own (t' := { t with early := setE t.early p.2.2.2.1 (some b) }) (y' := { y with early := r }) mz hb85 (h70.wayK mz) (h70.queueK mz) (h70.saidK mz) ⟨_, _, ho3.ear (fun k hk => h70.zl k hk) hall, by simp; omega, fun n hn => ?_⟩
        show setE t.early p.2.2.2.1 (some b) n = _
        have hn : t.expect < n := hn
        rw [lookE_append, ← e3 n hn]
        unfold setE
        by_cases hq : n = p.2.2.2.1
        · rw [if_pos hq, hq, he]
          dsimp only
          rw [if_pos rfl]
        · rw [if_neg hq]
          cases hl : t.early n with
          | none => dsimp only; rw [if_neg (by omega)]
          | some c => rfl
      · -- it came before
        refine bF rfl ?_
        have hv := hu.fr hfv
        have hbv := (hfu.trans hfv).heap hb1
        obtain ⟨hs, ls, e1, e2, e3⟩ := hv.early
        have hel := e1.len
        have hea := e1.all.length
        have hzg := hv.zl g hv.zg
        refine nwI fun a104 w105 ha104 hs105 hf105 hb105 _ => nzS ?_
        rw [addOff]
        refine ldL0 (s := y.early) (hf105.heap hv.cells) rfl ?_
        refine app0V slE (base := v.heap.size) hb105 (by omega) (e1.rd.below hf105) (by rw [earV_length, hel]) (earV_one _) (by omega) (by omega) hf105.size fun r108 w109 hr108 ho109 hf109 => ?_
        have ho109 : OwE w109 v.heap.size r108 hs := ho109
        have hn108 := ho109.len
        let upd : Int × Sl → Int × Sl := fun a => if a.1 = p.2.2.2.1 then (a.1, p.2.2.2.2.2.2.1) else a
        refine lpI (fun (s' : Int × Unit) x => ∃ i : Nat, i ≤ hs.length ∧ s'.1 = i ∧ Fr v x ∧ OwE x v.heap.size r108 ((hs.take i).map upd ++ hs.drop i)) (fun s' _ => (r108.n - s'.1).toNat) ⟨0, Nat.zero_le _, rfl, hf105.trans hf109, by simpa using ho109⟩ ?_
        rintro D ⟨i', ⟨⟩⟩ x ⟨i, hi16, rfl, hfx, hox⟩
        dsimp only
        have hrl : ((hs.take i).map upd ++ hs.drop i).length = hs.length := by
          rw [List.length_append, List.length_map, List.length_take, List.length_drop]; omega
        refine bD ?_ ?_ <;> intro hlt
        · have hi1 : i < hs.length := by omega
          have hi3 : i < ((hs.take i).map upd ++ hs.drop i).length := by omega
          refine ixE0 hox.rd hox.len hi3 ?_
          rw [map_take_get upd hi1]
          rw [addOff]
          refine ldI0 (hfx.heap hbv) (show (frC p).toArray[3]? = some (.int .i64 p.2.2.2.1) from rfl) ?_
          intro dn
          have hfn := Fr.drewN x dn
          generalize x.drewN dn = x2 at *
          have hox2 := hox.fr hfn
          have hfx2 := hfx.trans hfn
          rw [i64w (n := (i : Int) + 1) (by omega) (by omega)]
          have hset := map_take_drop upd hi1
          refine bE ?_ ?_ <;> intro heq
          · refine ldL0 (s := p.2.2.2.2.2.2.1) (hfx2.heap hbv) rfl ?_
            refine stEar hox2 hi3 fun x3 ho3 hm3 hs3 => ?_
            rw [map_take_get upd hi1] at ho3
            have eu : upd hs[i] = (hs[i].1, p.2.2.2.2.2.2.1) := if_pos heq
            rw [eu] at hset
            rw [hset] at ho3
            refine ⟨⟨i + 1, by omega, rfl, Mv.on hfx2 hm3 fun k ⟨ad, had, e⟩ => ?_, ho3⟩, by omega⟩
            rw [← e]; exact (hox2.own ad had).1
          · have eu : upd hs[i] = hs[i] := if_neg heq
            have hself : ((hs.take i).map upd ++ hs.drop i).set i hs[i] = (hs.take i).map upd ++ hs.drop i := by
              have hg := map_take_get upd hi1 hi3
              rw [← hg]
              exact List.set_getElem_self hi3
            rw [eu, hself] at hset
            rw [hset] at hox2
            exact ⟨⟨i + 1, by omega, rfl, hfx2, hox2⟩, by omega⟩
        · obtain rfl : i = hs.length := by omega
          rw [List.take_length, List.drop_length, List.append_nil] at hox
          have hx := hv.fr hfx
          refine nzS ?_
          rw [addOff]
          refine st0 hx.cells (by show 10 < 12; decide) fun w122 hb122 hg122 hs122 => ?_
          have m122 : Mv (fun k => k = g) x w122 := Mv.of_grown hg122 rfl
          have mv122 : Mv (fun k => k = g) v w122 := (Mv.of_fr hfx).trans m122 fun k hk => .inl hk
          have ho3 := hox.mv m122 fun ad had e => by have := (hox.own ad had).1; omega
          have hall : All2 (fun a b => a.1 = b.1 ∧ Cb w122 Z a.2 b.2) (hs.map upd) (ls.map fun e => if e.1 = p.2.2.2.1 then (e.1, b) else e) := by
            refine All2.map2 (e1.all.mono fun a c _ _ hr => ?_)
            by_cases hq : a.1 = p.2.2.2.1
            · have eu : upd a = (a.1, p.2.2.2.2.2.2.1) := if_pos hq
              rw [eu, if_pos (by rw [← hr.1]; exact hq)]
              exact ⟨hr.1, (hcu.mv (Mv.of_fr (F := fun _ => False) hfv) (fun _ h => h.elim) fun k hk => .inl hk).mv mv122 hv.zh fun k hk => .inl hk⟩
            · have eu : upd a = a := if_neg hq
              rw [eu, if_neg (by rw [← hr.1]; exact hq)]
              exact ⟨hr.1, hr.2.mv mv122 hv.zh fun k hk => .inl hk⟩
          refine J3 w122 { y with early := r108 } ?_ ((Mv.of_fr (hfu.trans hfv)).trans mv122 fun k hk => .inl hk)
          rw [ek]
          refine hv.own (t' := { t with early := setE t.early p.2.2.2.1 (some b) }) (y' := { y with early := r108 }) mv122 hb122 (hv.wayK mv122) (hv.queueK mv122) (hv.saidK mv122) ⟨_, _, ho3.ear (fun k hk => hv.zl k hk) hall, by rw [List.length_map]; omega, fun n hn => ?_⟩
          show setE t.early p.2.2.2.1 (some b) n = _
          have hn : t.expect < n := hn
          rw [lookE_map, ← e3 n hn]
          unfold setE
          by_cases hq : n = p.2.2.2.1
          · rw [if_pos hq, if_pos hq, hq, he]; rfl
          · rw [if_neg hq, if_neg hq]
  clear_value j1
  rw [addOff]
  refine ldI0 hb1 (show (frC p).toArray[3]? = some (.int .i64 p.2.2.2.1) from rfl) (nzS ?_)
  rw [addOff]
  refine ldI0 h2.cells (show (refL t y).toArray[7]? = some (.int .i64 t.expect) from rfl) ?_
  refine bD ?_ ?_ <;> intro hgt
  · refine ldI0 hb1 (show (frC p).toArray[3]? = some (.int .i64 p.2.2.2.1) from rfl) (nzS ?_)
    refine ldI0 h2.cells (show (refL t y).toArray[7]? = some (.int .i64 t.expect) from rfl) ?_
    intro dn
    refine J1 _ _ (Fr.drewN w2 dn) ?_
    rw [i64w (n := t.expect + 16) (by omega) (by omega), decide_eq_true_iff]
    omega
  · intro dn
    exact J1 false _ (Fr.drewN w2 dn) ⟨(fun h => by cases h), fun hh => by omega⟩
end
end Go.Proofs.YtmhibpcbdbhfoaaDoor
namespace Go.Proofs.YtmhibpcbdbhfoaaDoor
open Go.RowKit Go.Fl

section
variable {t : Tn} {d : List UInt8} {f : Fm}
theorem takeA (h : getF d = some f) (hy : f.yo ≠ t.me) : t.take d = ((if f.fr ≥ t.you then t.say (hel f.fr) else t), [], 0) := by
  unfold Tn.take
  rw [h]
  dsimp only
  split
  · unfold Tn.hello; rw [if_pos hy]
  · rw [if_pos (.inr (.inr hy))]
    by_cases hc : f.fr ≥ t.you
    · rw [if_pos ⟨hy, hc⟩, if_pos hc]
    · rw [if_neg fun h => hc h.2, if_neg hc]
theorem takeB (h : getF d = some f) (hy : f.yo = t.me) (hk : f.k = 1) : t.take d = ((if f.fr > t.you ∨ (f.fr = t.you ∧ t.up = false) then t.beg f.fr else if f.fr = t.you then { t with sil := 0 } else t), [], 0) := by
  unfold Tn.take
  rw [h]
  dsimp only
  rw [if_pos hk]
  unfold Tn.hello
  rw [if_neg fun h => h hy]
theorem takeD (h : getF d = some f) (hk : f.k ≠ 1) (hu : t.up = false ∨ f.fr ≠ t.you) (hy : f.yo = t.me) : t.take d = (t, [], 0) := by
  unfold Tn.take
  rw [h]
  dsimp only
  rw [if_neg hk, if_pos (by rcases hu with hu | hu; exact .inl hu; exact .inr (.inl hu)), if_neg fun h => h.1 hy]
theorem takeE (h : getF d = some f) (hk : f.k ≠ 1) (hu : t.up = true) (hf : f.fr = t.you) (hy : f.yo = t.me) : t.take d = if f.k = 3 then (({ t with sil := 0 } : Tn).ack f, [], 0) else ((({ t with sil := 0 } : Tn).data f).1, (({ t with sil := 0 } : Tn).data f).2, 0) := by
  unfold Tn.take
  rw [h]
  dsimp only
  rw [if_neg hk, if_neg]
  rintro (h | h | h)
  · rw [hu] at h; cases h
  · exact h hf
  · exact h hy
end
section
variable {w w' : World} {Z : Nat → Prop} {g m : Nat} {t : Tn} {y : RShp} {N : Int}
/-- What a call of Take hands out. -/
def RTook (w w' : World) (Z : Nat → Prop) (g m : Nat) (x : Tn × Rows8 × Int) (r : Sl × Int × Unit) : Prop :=
  r.2.1 = x.2.2 ∧ RfTo w w' Z g x.1 m ∧ ∃ hs, OwS w' w.heap.size t_s_uint8 r.1 hs ∧ All2 (Cb w' Z) hs x.2.1
theorem RTook.nil {t' : Tn} {e : Int} (h : RfTo w w' Z g t' m) : RTook w w' Z g m (t', [], e) (⟨none, 0, 0⟩, e, ()) := ⟨rfl, h, [], OwS.nil _ _ _, trivial⟩
set_option maxRecDepth 8000 in
theorem rTake_ok {s : Sl} {b : List UInt8} (h : Rf w Z g t y m) (hm : m ≤ 1073740000) (hi : t.inv) (hT : TL t N) (hN : N < 1099511627776) (hb : Bs w s b) (hbl : b.length ≤ 140737488351232) (hl : t.out.length ≤ 1073740000) :
    cl Tryd.prog n_flumeref12_Tunnel_Take #[.pointer (some ⟨g, 0, none⟩), .slice s.a s.n s.c] (.tup (.pair .L (.pair (.I .i64) .nil))) w fun (r : Sl × Int × Unit) w' => RTook w w' Z g (m + 1) (t.take b) r := by
  refine flumeref12_Tunnel_Take.cl (p0 := some ⟨g, 0, none⟩) (p1 := s) ?_
  unfold flumeref12_Tunnel_Take
  refine (rtGet_own hb hbl).mono ?_
  rintro ⟨p, e, ⟨⟩⟩ w2 ⟨⟨hG, hf2⟩, hbo⟩
  dsimp -zeta only at hbo ⊢
  refine nwI fun a3 w4 ha3 hs4 hf4 hb4 _ => ?_
  have hz2 := hf2.size
  refine stW (Kd.av k_api_Frame p) rfl hb4 rfl fun w5 hb5 hg5 hs5 => ?_
  have hb5 : w5.heap[a3]? = some (.cells (frC p).toArray t_api_Frame (0, 0)) := hb5
  have hf5 : Fr w w5 := (hf2.trans hf4).on (grown_below hg5 (by omega) (hf2.trans hf4).size)
  have hf25 : Fr w2 w5 := hf4.on (grown_below hg5 (by omega) hf4.size)
  have h5 := h.fr hf5
  have to5 : ∀ {u : World} {t' : Tn}, RfTo w5 u Z g t' m → RfTo w u Z g t' (m + 1) := fun ⟨y', a, b⟩ => ⟨y', a.mono (by omega), (Mv.of_fr hf5).trans b fun k hk => .inl hk⟩
  cases hgf : getF b with
  | none =>
    unfold RFGetP at hG
    rw [hgf] at hG
    obtain ⟨rfl, he⟩ := Prod.mk.inj hG
    obtain ⟨rfl, _⟩ := Prod.mk.inj he
    have hne : getE b ≠ 0 := fun h => by have := getE_zero.1 h; rw [hgf] at this; cases this
    have et : t.take b = (t, [], getE b) := by unfold Tn.take; rw [hgf]
    rw [et]
    exact bNe (fun _ => RTook.nil (to5 (RfTo.refl h5))) fun h => absurd h hne
  | some f =>
    unfold RFGetP at hG
    rw [hgf] at hG
    obtain ⟨h1, hp, hbs⟩ := hG
    obtain ⟨rfl, _⟩ := Prod.mk.inj h1
    dsimp only at hp hbs
    have hok := (getF_back hgf).1
    have hin := okF_in hok
    have ek : p.1 = f.k := congrArg Fm.k hp
    have efr : p.2.1 = f.fr := congrArg Fm.fr hp
    have eyo : p.2.2.1 = f.yo := congrArg Fm.yo hp
    have esq : p.2.2.2.1 = f.sq := congrArg Fm.sq hp
    have ebi : p.2.2.2.2.2.1 = f.bi := congrArg Fm.bi hp
    have cfr : ∀ {u : World} {K : Int → Prop}, Fr w5 u → K f.fr → ld (.I .i64) u ((⟨a3, 0, none⟩ : Addr).add 1) K := fun hf hK => ldI0 (hf.heap hb5) (show (frC p).toArray[1]? = some (.int .i64 p.2.1) from rfl) (by rw [efr]; exact hK)
    have you : ∀ {u : World} {K : Int → Prop}, Fr w5 u → K t.you → nz (some ⟨g, 0, none⟩) fun a => ld (.I .i64) u (a.add 1) K := fun hf hK => ldI0 (hf.heap h5.cells) (show (refL t y).toArray[1]? = some (.int .i64 t.you) from rfl) hK
    have hcb : ∀ {u : World}, Fr w5 u → Cb u Z p.2.2.2.2.2.2.1 f.bd := fun hf => ⟨(hbs.fr hf25).fr hf, fun _ ad had hz => by have := hbo ad had; have := h.zl _ hz; omega⟩
    refine bF rfl ?_
    refine ldI0 hb5 (show (frC p).toArray[2]? = some (.int .i64 p.2.2.1) from rfl) (nzS ?_)
    rw [eyo]
    refine ldI0 h5.cells (show (refL t y).toArray[0]? = some (.int .i64 t.me) from rfl) ?_
    intro d9
    have hf9 := Fr.drewN w5 d9
    generalize w5.drewN d9 = w9 at *
    have h9 := h5.fr hf9
    have toU : ∀ {u v : World} {t' : Tn}, Fr w5 u → RfTo u v Z g t' m → RfTo w v Z g t' (m + 1) := fun hf hh => to5 (RfTo.step (Mv.of_fr hf) hh)
    refine bNe ?_ ?_ <;> intro hy
    · rw [takeA hgf hy]
      refine cfr hf9 (you hf9 ?_)
      intro d13
      have hf13 := hf9.trans (Fr.drewN w9 d13)
      generalize w9.drewN d13 = w13 at *
      refine bD ?_ ?_ <;> intro hge
      · rw [if_pos hge]
        refine cfr hf13 ?_
        refine (rhello_ok (h5.fr hf13) (by omega)).mono ?_
        rintro ⟨⟩ w16 h16
        exact RTook.nil (toU hf13 h16)
      · rw [if_neg hge]
        exact RTook.nil (toU hf13 (RfTo.refl (h5.fr hf13)))
    refine ldI0 (hf9.heap hb5) (show (frC p).toArray[0]? = some (.int .i64 p.1) from rfl) ?_
    rw [ek]
    refine bE ?_ ?_ <;> intro hk1
    · rw [takeB hgf hy hk1]
      intro j1
      have J1 : ∀ (c : Bool) (u : World), Fr w5 u → (c = true ↔ (f.fr > t.you ∨ (f.fr = t.you ∧ t.up = false))) → j1 c u := by
        intro c u hfu hc
        unfold j1
        have hu := h5.fr hfu
        cases c with
        | true =>
          rw [if_pos (hc.1 rfl)]
          refine bT rfl ?_
          refine (rclear_ok hu).mono ?_
          rintro ⟨⟩ w46 ⟨y2, h46, m46⟩
          have hm46 : ∀ {x : Nat}, w5.heap.size ≤ x ∨ x ≠ g → True := fun _ => trivial
          have hga : a3 ≠ g := fun e => by have := h.zl g h.zg; omega
          have hb46 : w46.heap[a3]? = some (.cells (frC p).toArray t_api_Frame (0, 0)) := m46.heap (hfu.heap hb5) hga
          refine nzS ?_
          rw [addOff]
          refine st0 h46.cells (by show 4 < 12; decide) fun w48 hb48 hg48 hs48 => ?_
          have hb48 : w48.heap[g]? = some (.cells (refL { Tn.cleared t with up := true } y2).toArray t_flumeref12_Tunnel (0, 0)) := hb48
          have h48 := h46.cell (t' := { Tn.cleared t with up := true }) hg48 hb48 rfl rfl rfl (fun _ _ => rfl) (Int.le_refl _)
          have m48 : Mv (fun k => k = g) w46 w48 := Mv.of_grown hg48 rfl
          rw [addOff]
          refine ldI0 (m48.heap hb46 hga) (show (frC p).toArray[1]? = some (.int .i64 p.2.1) from rfl) (nzS ?_)
          rw [efr, addOff]
          refine st0 hb48 (by show 1 < 12; decide) fun w51 hb51 hg51 hs51 => nzS ?_
          have hb51 : w51.heap[g]? = some (.cells (refL { Tn.cleared t with up := true, you := f.fr } y2).toArray t_flumeref12_Tunnel (0, 0)) := hb51
          have h51 := h48.cell (t' := { Tn.cleared t with up := true, you := f.fr }) hg51 hb51 rfl rfl rfl (fun _ _ => rfl) (Int.le_refl _)
          have m51 : Mv (fun k => k = g) w48 w51 := Mv.of_grown hg51 rfl
          rw [addOff]
          refine ldI0 hb51 (show (refL { Tn.cleared t with up := true, you := f.fr } y2).toArray[2]? = some (.int .i64 t.epoch) from rfl) (nzS ?_)
          rw [addOff]
          refine st0 hb51 (by show 2 < 12; decide) fun w55 hb55 hg55 hs55 => ?_
          have hb55 : w55.heap[g]? = some (.cells (refL (t.fresh f.fr) y2).toArray t_flumeref12_Tunnel (0, 0)) := hb55
          have h55 : Rf w55 Z g (t.fresh f.fr) y2 0 := h51.cell (t' := t.fresh f.fr) hg55 hb55 rfl rfl rfl (fun _ _ => rfl) (Int.le_refl _)
          have m55 : Mv (fun k => k = g) w51 w55 := Mv.of_grown hg55 rfl
          have mall : Mv (fun k => k = g) w46 w55 := (m48.trans m51 fun k hk => .inl hk).trans m55 fun k hk => .inl hk
          refine ldI0 (mall.heap hb46 hga) (show (frC p).toArray[1]? = some (.int .i64 p.2.1) from rfl) ?_
          rw [efr]
          refine (rhello_ok h55 (by show t.out.length ≤ _; omega)).mono ?_
          rintro ⟨⟩ w58 ⟨y3, h58, m58⟩
          exact RTook.nil (toU hfu ⟨y3, h58.mono (Nat.zero_le _), (m46.trans mall fun k hk => .inl hk).trans m58 fun k hk => .inl hk⟩)
        | false =>
          rw [if_neg fun hh => by have := hc.2 hh; cases this]
          refine bF rfl (cfr hfu (you hfu ?_))
          intro d62
          have hf62 := hfu.trans (Fr.drewN u d62)
          generalize u.drewN d62 = w62 at *
          have h62 := h5.fr hf62
          refine bE ?_ ?_ <;> intro he
          · rw [if_pos he]
            refine nzS ?_
            rw [addOff]
            refine st0 h62.cells (by show 5 < 12; decide) fun w64 hb64 hg64 hs64 => ?_
            have hb64 : w64.heap[g]? = some (.cells (refL { t with sil := 0 } y).toArray t_flumeref12_Tunnel (0, 0)) := hb64
            have h64 := h62.cell (t' := { t with sil := 0 }) hg64 hb64 rfl rfl rfl (fun _ _ => rfl) (Int.le_refl _)
            exact RTook.nil (toU hf62 ⟨y, h64, Mv.of_grown hg64 rfl⟩)
          · rw [if_neg he]
            exact RTook.nil (toU hf62 (RfTo.refl h62))
      clear_value j1
      refine cfr hf9 (you hf9 ?_)
      refine bD ?_ ?_ <;> intro hgt
      · intro d21
        exact J1 true _ (hf9.trans (Fr.drewN w9 d21)) ⟨fun _ => .inl hgt, fun _ => rfl⟩
      · refine cfr hf9 (you hf9 ?_)
        refine bE ?_ ?_ <;> intro heq
        · refine nzS ?_
          rw [addOff]
          refine ldB0 h9.cells (show (refL t y).toArray[4]? = some (.bool t.up) from rfl) ?_
          intro d27
          refine J1 _ _ (hf9.trans (Fr.drewN w9 d27)) ?_
          cases t.up
          · exact ⟨fun _ => .inr ⟨heq, rfl⟩, fun _ => rfl⟩
          · exact ⟨(fun h => by cases h), fun hh => by rcases hh with hh | ⟨_, hh⟩; exact absurd hh hgt; cases hh⟩
        · intro d28
          exact J1 false _ (hf9.trans (Fr.drewN w9 d28)) ⟨(fun h => by cases h), fun hh => by rcases hh with hh | ⟨hh, _⟩; exact absurd hh hgt; exact absurd hh heq⟩
    refine nzS ?_
    rw [addOff]
    refine ldB0 h9.cells (show (refL t y).toArray[4]? = some (.bool t.up) from rfl) ?_
    cases hu : t.up with
    | false =>
      rw [takeD hgf hk1 (.inl hu) hy]
      refine bT rfl ?_
      intro d67
      have hf67 := hf9.trans (Fr.drewN w9 d67)
      exact RTook.nil (toU hf67 (RfTo.refl (h5.fr hf67)))
    | true =>
    refine bF rfl (cfr hf9 (you hf9 ?_))
    intro d71
    have hf71 := hf9.trans (Fr.drewN w9 d71)
    generalize w9.drewN d71 = w71 at *
    have h71 := h5.fr hf71
    refine bNe ?_ ?_ <;> intro hfe
    · rw [takeD hgf hk1 (.inr hfe) hy]
      exact RTook.nil (toU hf71 (RfTo.refl h71))
    rw [takeE hgf hk1 hu hfe hy]
    refine nzS ?_
    rw [addOff]
    refine st0 h71.cells (by show 5 < 12; decide) fun w73 hb73 hg73 hs73 => ?_
    have hb73 : w73.heap[g]? = some (.cells (refL { t with sil := 0 } y).toArray t_flumeref12_Tunnel (0, 0)) := hb73
    have h73 := h71.cell (t' := { t with sil := 0 }) hg73 hb73 rfl rfl rfl (fun _ _ => rfl) (Int.le_refl _)
    have m73 : Mv (fun k => k = g) w71 w73 := Mv.of_grown hg73 rfl
    have hga : a3 ≠ g := fun e => by have := h.zl g h.zg; omega
    have hb3 : w73.heap[a3]? = some (.cells (frC p).toArray t_api_Frame (0, 0)) := m73.heap (hf71.heap hb5) hga
    have hfp : fmOf p f.bd = f := hp
    have hi0 : ({ t with sil := 0 } : Tn).inv := hi.calm
    refine ldI0 hb3 (show (frC p).toArray[0]? = some (.int .i64 p.1) from rfl) ?_
    rw [ek]
    refine bE ?_ ?_ <;> intro hk3
    · rw [if_pos hk3]
      refine ldW (k := k_api_Frame) (x := p) hb3 rfl ?_
      refine (rack_ok (p := p) (b := f.bd) h73 hT.calm hN hi0 (by rw [ebi]; omega) (by show t.out.length ≤ _; omega)).mono ?_
      rintro ⟨⟩ w77 ⟨y7, h77, m77⟩
      rw [hfp] at h77
      exact RTook.nil (toU hf71 ⟨y7, h77, m73.trans m77 fun k hk => .inl hk⟩)
    · rw [if_neg hk3]
      refine ldW (k := k_api_Frame) (x := p) hb3 rfl ?_
      have hc73 : Cb w73 Z p.2.2.2.2.2.2.1 f.bd := (hcb hf71).mv m73 h71.zh fun k hk => .inl hk
      refine (rdata_ok (p := p) (b := f.bd) h73 hm hi0 (by rw [esq]; omega) hc73 (by show t.out.length ≤ _; omega)).mono ?_
      rintro x79 w80 ⟨⟨y8, h80, m80⟩, hs, ho80, ha80⟩
      rw [hfp] at h80 ha80
      have hsz : w.heap.size ≤ w73.heap.size := by have := hf5.size; have := hf71.size; have := m73.size; omega
      exact ⟨rfl, ⟨y8, h80, (Mv.of_fr hf5).trans ((Mv.of_fr hf71).trans (m73.trans m80 fun k hk => .inl hk) fun k hk => .inl hk) fun k hk => .inl hk⟩, hs, ho80.mono hsz, ha80⟩
end
end Go.Proofs.YtmhibpcbdbhfoaaDoor
namespace Go.Proofs.YtmhibpcbdbhfoaaDoor
open Go.RowKit Go.Fl Go.ChangeShapes Go.WideShapes Go.ChangeAt

section
variable {H : Type} {enc : TypeId × Value → H} {w : World} {fuel : Nat} {cs : List Value} {x : DataW H × List MemPlace}
theorem bytes_of_cellsW (h : DataW.trod enc Tryd.prog w 0 (fun _ => true) true fuel t_s_uint8 cs = some x) : ∃ (s : Sl) (l : List UInt8), cs = [slV s] ∧ Bs w s l ∧ ((∀ n ∈ x.1.weights Tryd.prog t_s_uint8, n ≤ reachBytes) → l.length ≤ reachBytes) := by
  rcases open_ints u_s_uint8 u_uint8 (by kernel_rfl) h with ⟨hcs, _⟩ | ⟨a, n, c, zs, hcs, _, hl, hm, hz, hx, hcell, hwz⟩
  · exact ⟨⟨none, 0, 0⟩, [], hcs, Bs.nil _ _, fun _ => Nat.zero_le _⟩
  · obtain ⟨l, hB⟩ := rowB (w := w) (a := some a) (len := n) (cap := c) (zs := zs) (.inr ⟨a, rfl, hl, hm, by simpa using hz, hcell, hwz⟩)
    refine ⟨⟨some a, n, c⟩, l, hcs, hB, fun hw => ?_⟩
    have hz : zs.length = c := by simpa using hz
    have hn := hB.len
    have hb1 : Tryd.prog.bytesOf t_uint8 = 1 := by kernel_rfl
    have hlit : ∀ {k : IntKind} (z : List Int), (lits k z : List (DataW H)).length = z.length := fun z => by simp [lits]
    have := hw ((n + (c - n)) * 1) (by
      rw [hx]
      unfold DataW.weights
      rw [u_s_uint8]
      refine List.mem_cons.2 (.inl ?_)
      rw [hlit, hlit, List.length_take, List.length_drop, hz, hb1, Nat.min_eq_left hl])
    have hn : n = l.length := hn
    omega
theorem do_of_cellsW (h : DataW.trod enc Tryd.prog w 0 (fun _ => true) true fuel t_flumelaw12_Do cs = some x) (hw : ∀ n ∈ x.1.weights Tryd.prog t_flumelaw12_Do, n ≤ reachBytes) : ∃ e : DoE, cs = doC e ∧ DoIn w e ∧ e.2.1.length ≤ reachBytes := by
  obtain ⟨xs, n, rfl, rfl, hl, hxl, hf⟩ := DataW.trod_struct u_flumelaw12_Do h
  have c1 : Tryd.prog.cellsOf t_int = 1 := by kernel_rfl
  have c2 : Tryd.prog.cellsOf t_s_uint8 = 1 := by kernel_rfl
  have c7 : Tryd.prog.cellsOf t_api_Frame = 7 := by kernel_rfl
  have cb : Tryd.prog.cellsOf t_bool = 1 := by kernel_rfl
  have c11 : Tryd.prog.cellsOf t_flumelaw12_Do = 11 := by kernel_rfl
  have hxl : xs.length = 5 := hxl
  rw [c11] at hl
  have f0 := hf 0 _ rfl
  have f1 := hf 1 _ rfl
  have f2 := hf 2 _ rfl
  have f3 := hf 3 _ rfl
  have f4 := hf 4 _ rfl
  rw [List.getElem?_eq_getElem (by omega)] at f0 f1 f2 f3 f4
  obtain ⟨k0, h0, b0⟩ := int_of_cells u_int f0
  obtain ⟨k1, h1, b1⟩ := int_of_cells u_int f1
  obtain ⟨sl, l, h2, hB, hbw⟩ := bytes_of_cellsW f2
  obtain ⟨p, m, h3, hF⟩ := frame_of_cells f3
  obtain ⟨b, h4⟩ := bool_of_cells u_bool f4
  have h0' : (cs.drop 0).take 1 = [.int .i64 k0] := (congrArg (fun n => (cs.drop 0).take n) c1).symm.trans h0
  have h1' : (cs.drop 1).take 1 = [.int .i64 k1] := (congrArg (fun n => (cs.drop 1).take n) c1).symm.trans h1
  have h2' : (cs.drop 2).take 1 = [slV sl] := (congrArg (fun n => (cs.drop 2).take n) c2).symm.trans h2
  have h3' : (cs.drop 3).take 7 = frC p := (congrArg (fun n => (cs.drop 3).take n) c7).symm.trans h3
  have h4' : (cs.drop 10).take 1 = [.bool b] := (congrArg (fun n => (cs.drop 10).take n) cb).symm.trans h4
  refine ⟨((k0, k1, sl, p, b, ()), l, m), ?_, ⟨b0, b1, hB, hF⟩, hbw fun n hn => hw n ?_⟩
  · have e0 := take1 h0'
    have e4 := take1 h4'
    rw [List.drop_of_length_le (i := 11) (by omega)] at e4
    rw [List.drop_zero] at e0
    have e3 : cs.drop 3 = frC p ++ cs.drop 10 := by
      have := List.take_append_drop 7 (cs.drop 3)
      rw [h3', List.drop_drop] at this
      exact this.symm
    rw [e0, take1 h1', take1 h2', e3, e4]
    rfl
  · unfold DataW.weights
    rw [u_flumelaw12_Do]
    exact DataW.weights_mem_each (j := 2) (t := t_s_uint8) (d := xs[2].1) rfl (by rw [List.getElem?_map, List.getElem?_eq_getElem (by omega)]; rfl) n hn
theorem weightsAll_mem {P : Program} {e : TypeId} : ∀ {l : List (DataW H)} {d : DataW H}, d ∈ l → ∀ n ∈ d.weights P e, n ∈ DataW.weightsAll P e l
  | c :: l, d, hd, n, hn => by
    unfold DataW.weightsAll
    rcases List.mem_cons.1 hd with rfl | hd
    · exact List.mem_append_left _ hn
    · exact List.mem_append_right _ (weightsAll_mem hd n hn)
/-- A row of structs that comes in, each within the form's reach. -/
theorem rowInW {t e : TypeId} (ht : Tryd.prog.underlying t = some (.slice e)) {sz : Nat} (hc : Tryd.prog.cellsOf e = sz) {E : Type} {f : E → List Value} {R : E → Prop}
    (hel : ∀ {fuel : Nat} {cs : List Value} {x : DataW H × List MemPlace}, DataW.trod enc Tryd.prog w 0 (fun _ => true) true fuel e cs = some x → (∀ n ∈ x.1.weights Tryd.prog e, n ≤ reachBytes) → ∃ y : E, cs = f y ∧ R y) (hlen : ∀ y, (f y).length = sz)
    (h : DataW.trod enc Tryd.prog w 0 (fun _ => true) true fuel t cs = some x) (hw : ∀ n ∈ x.1.weights Tryd.prog t, n ≤ reachBytes) : ∃ (s : Sl) (xs : List E), cs = [slV s] ∧ s.n = xs.length ∧ Rd w s.a (xs.flatMap f) ∧ ∀ y ∈ xs, R y := by
  rcases DataW.trod_slice ht h with ⟨h0, _⟩ | ⟨a, len, cap, elems, rest, n, _, rfl, hx, _, _, _, hlen', hels, _, _⟩
  · exact ⟨⟨none, 0, 0⟩, [], h0, rfl, Rd.nil _ _, by simp⟩
  have hwe : ∀ y ∈ elems, ∀ n ∈ y.1.weights Tryd.prog e, n ≤ reachBytes := fun y hy n hn => hw n (by
    rw [hx]
    unfold DataW.weights
    rw [ht]
    exact List.mem_cons_of_mem _ (List.mem_append_left _ (weightsAll_mem (List.mem_map_of_mem hy) n hn)))
  suffices hx : ∀ m, m ≤ len → ∃ xs : List E, xs.length = m ∧ Rd w (some a) (xs.flatMap f) ∧ ∀ y ∈ xs, R y by
    obtain ⟨xs, h1, h2, h3⟩ := hx len (Nat.le_refl _)
    exact ⟨⟨some a, len, cap⟩, xs, rfl, h1.symm, h2, h3⟩
  intro m
  induction m with
  | zero => exact fun _ => ⟨[], rfl, Rd.nil _ _, by simp⟩
  | succ m ih =>
    intro hm
    obtain ⟨xs, h1, h2, h3⟩ := ih (by omega)
    have hb := hels m (by omega)
    rw [hc, List.getElem?_eq_getElem (by omega), Option.bind_eq_some_iff] at hb
    obtain ⟨cs', hcs, hy⟩ := hb
    obtain ⟨y, rfl, hR⟩ := hel hy (hwe _ (List.getElem_mem _))
    refine ⟨xs ++ [y], by simp [h1], ?_, fun z hz => ?_⟩
    · rw [List.flatMap_append, List.flatMap_singleton]
      intro i v hv
      refine ⟨a, rfl, ?_⟩
      by_cases hi : i < (xs.flatMap f).length
      · rw [List.getElem?_append_left hi] at hv
        obtain ⟨ad, ha, hcell⟩ := h2 i v hv
        cases ha; exact hcell
      · rw [List.getElem?_append_right (by omega), flat_len hlen, h1] at hv
        rw [flat_len hlen, h1] at hi
        obtain ⟨_, hl', hcc⟩ := World.cells?_some hcs
        have hj : i - m * sz < sz := by have := (List.getElem?_eq_some_iff.1 hv).1; rwa [hlen] at this
        have := hcc _ hj
        rw [add_add, show m * sz + (i - m * sz) = i from by omega] at this
        rw [this]; exact hv
    · rcases List.mem_append.1 hz with hz | hz
      · exact h3 z hz
      · rw [List.mem_singleton] at hz; rw [hz]; exact hR
end
set_option maxRecDepth 100000 in
theorem do_inW {H : Type} {enc : TypeId × Value → H} {w : World} {base : Nat} {v : Value} {dd : DataW H} {ps : List MemPlace} (hv : Value.okWide Tryd.prog w .any base t_s_flumelaw12_Do v) (h : DataW.Trod enc Tryd.prog w 0 (fun _ => true) true t_s_flumelaw12_Do v dd ps) (hw : ∀ n ∈ dd.weights Tryd.prog t_s_flumelaw12_Do, n ≤ reachBytes) :
    ∃ (s : Sl) (xs : List DoE), v = slV s ∧ s.n = xs.length ∧ Rd w s.a (xs.flatMap doC) ∧ ∀ e ∈ xs, DoIn w e ∧ e.2.1.length ≤ reachBytes := by
  obtain ⟨a, len, cap, rfl⟩ := okWide_slice u_s_flumelaw12_Do hv
  obtain ⟨fuel, hf⟩ := h
  obtain ⟨s, xs, hcs, h1, h2, h3⟩ := rowInW u_s_flumelaw12_Do (sz := 11) (by kernel_rfl) (f := doC) (R := fun e => DoIn w e ∧ e.2.1.length ≤ reachBytes) (fun h hw => do_of_cellsW h hw) (fun _ => rfl) hf hw
  refine ⟨s, xs, ?_, h1, h2, h3⟩
  have : ([Value.slice a len cap] : List Value) = [slV s] := hcs
  injection this
/-- One byte of an own row is turned. -/
theorem flipB {w : World} {base : Nat} {e : TypeId} {s : Sl} {l : List UInt8} {i : Nat} (h : OwB w base e s l) (hi : i < l.length) {K : World → Prop}
    (hk : ∀ w' l', l'.length = l.length → OwB w' base e s l' → Mv (BK s) w w' → K w') :
    ixa s.a s.n (i : Int) 1 fun a => ld (.I .u8) w a fun (x : Int) => ixa s.a s.n (i : Int) 1 fun a' => st1 w a' (.int .u8 (bits .xor .u8 x 255)) K := by
  refine ixBc (c := l[i]) h.rd h.len (by omega) (by rw [Int.toNat_natCast]; exact List.getElem?_eq_getElem hi) (Fr.refl w) ?_
  refine stB h (by omega) (by rw [Int.toNat_natCast]; exact hi) (l[i] ^^^ 255) ?_ fun w' h' hb hk' _ => hk w' _ (by simp) h' ?_
  · rw [show (255 : Int) = ((255 : Nat) : Int) from rfl, u8_xor_nat _ _ (UInt8.toNat_lt _) (by decide), UInt8.toNat_xor]
    rfl
  · exact ⟨hb.os, hb.tape, hb.output, hb.size, fun k hk hn => hk' k fun e => by
      rw [ownB_slice'] at e
      cases hxa : s.a with
      | none => rw [hxa] at e; cases e
      | some o => rw [hxa] at e; exact hn ⟨o, hxa, (Option.some.inj e).symm⟩⟩
theorem ownB_most {w : World} {base : Nat} {e : TypeId} {s : Sl} {l : List UInt8} (h : OwB w base e s l) : l.length ≤ 9223372036854775807 := by
  have hn := h.len
  rcases h.2 with ⟨_, h0⟩ | ⟨g, cap, cur, _, _, _, hc, hm, _⟩
  · omega
  · simp only [maxLen] at hm; omega
/-- All bytes of an own row are turned. -/
theorem flips {w : World} {base : Nat} {e : TypeId} {s : Sl} {l : List UInt8} (h : OwB w base e s l) {K : World → Prop} (hK : ∀ w' l', OwB w' base e s l' → Mv (BK s) w w' → w.heap.size ≤ w'.heap.size → K w')
    {body : (Nat → AV) → ((Int × Unit) → World → Prop) → (Int × Unit) → World → Prop}
    (hbody : ∀ D J (s196 : Int × Unit) w197, (bif (decide (s196.1 < (s.n : Int))) then
    (ixa s.a s.n s196.1 1 fun a200 => ld (.I .u8) w197 a200 fun (x201 : Int) => ixa s.a s.n s196.1 1 fun a202 => st1 w197 a202 (.int .u8 (bits .xor .u8 x201 255)) fun w203 => J ((IntKind.i64.wrap (s196.1 + 1)), ()) w203)
    else K w197) → body D J s196 w197) : lp (α := Int × Unit) (fun K => K (0, ())) w body := by
  have hn := h.len
  have hl := ownB_most h
  refine lpI (fun (s' : Int × Unit) v => ∃ (i : Nat) (l' : List UInt8), i ≤ l.length ∧ s'.1 = i ∧ l'.length = l.length ∧ OwB v base e s l' ∧ Mv (BK s) w v) (fun s' _ => (s.n - s'.1).toNat) ⟨0, l, Nat.zero_le _, rfl, rfl, h, Mv.refl _ _⟩ ?_
  rintro D ⟨i', ⟨⟩⟩ v ⟨i, l', hi, rfl, hl', ho, hm⟩
  refine hbody _ _ _ _ ?_
  dsimp only
  refine bD ?_ ?_ <;> intro hlt
  · refine flipB ho (by omega) fun v2 l2 h2 ho2 hm2 => ?_
    rw [i64w (n := (i : Int) + 1) (by omega) (by omega)]
    exact ⟨⟨i + 1, l2, by omega, rfl, by omega, ho2, hm.trans hm2 fun k hk => .inl hk⟩, by omega⟩
  · exact hK v l' ho hm hm.size
end Go.Proofs.YtmhibpcbdbhfoaaDoor
namespace Go.Proofs.YtmhibpcbdbhfoaaDoor
open Go.RowKit Go.Fl

theorem clv_Equal' {s x : Sl} {l m : List UInt8} {w : World} (hs : Bs w s l) (hx : Bs w x m) {K : Bool → World → Prop} (hK : K (decide (l = m)) w) :
    clv Tryd.prog (.func (.func n_bytes_Equal) #[] #[]) #[.slice s.a s.n s.c, .slice x.a x.n x.c] .B w K := by
  refine ⟨n_bytes_Equal, #[], #[], rfl, ⟨Tryd.f17, Tryd.func17, by kernel_rfl, by kernel_rfl⟩, ?_⟩
  show cl Tryd.prog n_bytes_Equal #[.slice s.a s.n s.c, .slice x.a x.n x.c] .B w K
  refine (Equal_ok hs hx).mono ?_
  rintro _ _ ⟨rfl, rfl⟩
  exact hK
theorem rows_ok' {s x : Sl} {hs hx : List Sl} {l m : Rows8} {w : World} (hr : Rd w s.a (slsV hs)) (hl : s.n = hs.length) (hc : All2 (Bs w) hs l) (kr : Rd w x.a (slsV hx)) (kl : x.n = hx.length) (kc : All2 (Bs w) hx m) (hsz : l.length ≤ 1099511627776) :
    cl Tryd.prog n_flumelaw12_rows #[.slice s.a s.n s.c, .slice x.a x.n x.c] .B w fun (r : Bool) w' => r = decide (l = m) ∧ w = w' := by
  refine flumelaw12_rows.cl ?_
  unfold flumelaw12_rows
  refine slices_EqualFunc_rows_byte_rows_byte_byte_byte.cl (p2 := .func (.func n_bytes_Equal) #[] #[]) ?_
  unfold slices_EqualFunc_rows_byte_rows_byte_byte_byte
  have e1 := hc.length
  have e2 := kc.length
  rcases Nat.decEq l.length m.length with hlen | hlen
  · refine bT (by rw [bne_iff_ne]; omega) ⟨?_, rfl⟩
    rw [eq_comm, decide_eq_false_iff_not]
    rintro rfl; exact hlen rfl
  refine bF (by rw [bne_eq_false_iff_eq]; omega) ?_
  refine lpI (fun (s' : Int × Unit) v => v = w ∧ ∃ j : Nat, j ≤ hs.length ∧ s'.1 = j ∧ l.take j = m.take j) (fun s' _ => (s.n - s'.1).toNat) ⟨rfl, 0, Nat.zero_le _, rfl, rfl⟩ ?_
  rintro D ⟨j', ⟨⟩⟩ v ⟨rfl, j, hj, rfl, ht⟩
  dsimp only
  refine bD ?_ ?_ <;> intro hlt
  · have hj1 : j < hs.length := by omega
    have hj2 : j < hx.length := by omega
    refine ixS hr hl rfl hj1 (Fr.refl _) (ixS kr kl rfl hj2 (Fr.refl _) ?_)
    have hl1 : j < l.length := by omega
    have hm1 : j < m.length := by omega
    refine clv_Equal' (hc.get hj1 hl1) (kc.get hj2 hm1) ?_
    by_cases he : l[j] = m[j]
    · rw [decide_eq_true he]
      refine bF rfl ?_
      rw [i64w (n := (j : Int) + 1) (by omega) (by omega)]
      refine ⟨⟨rfl, j + 1, by omega, rfl, ?_⟩, by omega⟩
      rw [List.take_succ_eq_append_getElem hl1, List.take_succ_eq_append_getElem hm1, ht, he]
    · rw [decide_eq_false he]
      refine bT rfl ⟨?_, rfl⟩
      rw [eq_comm, decide_eq_false_iff_not]
      rintro rfl; exact he rfl
  · obtain rfl : j = hs.length := by omega
    refine ⟨?_, rfl⟩
    rw [List.take_of_length_le (by omega), List.take_of_length_le (by omega)] at ht
    rw [ht]; simp
/-- A tunnel at ga and the reference's at gb; B: what the law itself may turn; P: what they leave alone. -/
structure Dbl (w0 v : World) (ga gb : Nat) (t1 t2 : Tn) (m : Nat) (B P : Nat → Prop) : Prop where
  ex : ∃ G F x Z y, Tun v G F ga t1 x ∧ Rf v Z gb t2 y m ∧ G gb ∧ (∀ k, F k → Z k) ∧ (∀ k, Z k → w0.heap.size ≤ k) ∧ (∀ k, B k → G k ∧ Z k ∧ k ≠ gb) ∧ ∀ k, P k → ¬F k ∧ k ≠ gb ∧ k < v.heap.size
  base : Fr w0 v
section
variable {w0 v v1 : World} {ga gb m : Nat} {t1 t2 t1' t2' : Tn} {B P : Nat → Prop} {G F Z : Nat → Prop} {x : Shp} {y : RShp}
theorem Dbl.fr (h : Dbl w0 v ga gb t1 t2 m B P) (hf : Fr v v1) : Dbl w0 v1 ga gb t1 t2 m B P := by
  obtain ⟨G, F, x, Z, y, h1, h2, h3, h4, h5, h6, h7⟩ := h.ex
  exact ⟨⟨G, F, x, Z, y, h1.fr hf, h2.fr hf, h3, h4, h5, h6, fun k hk => ⟨(h7 k hk).1, (h7 k hk).2.1, Nat.lt_of_lt_of_le (h7 k hk).2.2 hf.size⟩⟩, h.base.trans hf⟩
theorem Dbl.less (h : Dbl w0 v ga gb t1 t2 m B P) {B' P' : Nat → Prop} (hB : ∀ k, B' k → B k) (hP : ∀ k, P' k → P k) : Dbl w0 v ga gb t1 t2 m B' P' := by
  obtain ⟨G, F, x, Z, y, h1, h2, h3, h4, h5, h6, h7⟩ := h.ex
  exact ⟨⟨G, F, x, Z, y, h1, h2, h3, h4, h5, fun k hk => h6 k (hB k hk), fun k hk => h7 k (hP k hk)⟩, h.base⟩
theorem Dbl.mono (h : Dbl w0 v ga gb t1 t2 m B P) {m' : Nat} (hm : m ≤ m') : Dbl w0 v ga gb t1 t2 m' B P := by
  obtain ⟨G, F, x, Z, y, h1, h2, h3⟩ := h.ex
  exact ⟨⟨G, F, x, Z, y, h1, h2.mono hm, h3⟩, h.base⟩
/-- What may be turned was turned. -/
theorem Dbl.turn (h : Dbl w0 v ga gb t1 t2 m B P) (hm : Mv B v v1) : Dbl w0 v1 ga gb t1 t2 m B P := by
  obtain ⟨G, F, x, Z, y, h1, h2, h3, h4, h5, h6, h7⟩ := h.ex
  refine ⟨⟨G, F, x, Z, y, h1.other hm (fun k hk => .inl ⟨(h6 k hk).1, h1.gf k (h6 k hk).1⟩) (fun k hk => .inl hk) fun k hk => ?_, h2.other hm (fun k hk => .inl (h6 k hk).2) (fun k hk => .inl hk) h2.zg fun k hk => ?_, h3, h4, h5, h6, fun k hk => ⟨(h7 k hk).1, (h7 k hk).2.1, Nat.lt_of_lt_of_le (h7 k hk).2.2 hm.size⟩⟩, Mv.on h.base hm fun k hk => h5 k (h6 k hk).2.1⟩
  · have := h1.gl k hk; have := hm.size; omega
  · have := h2.zl k hk; have := hm.size; omega
/-- New blocks are the law's own. -/
theorem Dbl.addB (h : Dbl w0 v ga gb t1 t2 m B P) (hf : Fr v v1) {B2 : Nat → Prop} (hB : ∀ k, B2 k → v.heap.size ≤ k ∧ k < v1.heap.size) : Dbl w0 v1 ga gb t1 t2 m (fun k => B k ∨ B2 k) P := by
  obtain ⟨G, F, x, Z, y, h1, h2, h3, h4, h5, h6, h7⟩ := h.ex
  have hz := hf.size
  have hz0 := h.base.size
  have m1 : Mv (fun _ => False) v v1 := Mv.of_fr hf
  refine ⟨⟨fun k => G k ∨ B2 k, F, x, fun k => Z k ∨ B2 k, y, h1.other m1 (fun _ h => h.elim) (fun k hk => hk.imp id fun hk => (hB k hk).1) fun k hk => ?_, h2.other m1 (fun _ h => h.elim) (fun k hk => hk.imp id fun hk => (hB k hk).1) (.inl h2.zg) fun k hk => ?_, .inl h3, fun k hk => .inl (h4 k hk), fun k hk => ?_, fun k hk => ?_, fun k hk => ⟨(h7 k hk).1, (h7 k hk).2.1, Nat.lt_of_lt_of_le (h7 k hk).2.2 hz⟩⟩, h.base.trans hf⟩
  · rcases hk with hk | hk
    · have := h1.gl k hk; omega
    · exact (hB k hk).2
  · rcases hk with hk | hk
    · have := h2.zl k hk; omega
    · exact (hB k hk).2
  · rcases hk with hk | hk
    · exact h5 k hk
    · have := (hB k hk).1; omega
  · rcases hk with hk | hk
    · exact ⟨.inl (h6 k hk).1, .inl (h6 k hk).2.1, (h6 k hk).2.2⟩
    · exact ⟨.inr hk, .inr hk, fun e => by have := (hB k hk).1; have := h2.zl gb h2.zg; omega⟩
/-- The tunnel went on. -/
theorem Dbl.ofT (h1 : Tun v G F ga t1 x) (h2 : Rf v Z gb t2 y m) (h3 : G gb) (h4 : ∀ k, F k → Z k) (h5 : ∀ k, Z k → w0.heap.size ≤ k) (h6 : ∀ k, B k → G k ∧ Z k ∧ k ≠ gb) (h7 : ∀ k, P k → ¬F k ∧ k ≠ gb ∧ k < v.heap.size) (hb : Fr w0 v) (ht : TunTo v v1 G F ga t1') : Dbl w0 v1 ga gb t1' t2 m B P := by
  obtain ⟨F', x', a1, a2, a3⟩ := ht
  have hz := a2.size
  have hz0 := hb.size
  refine ⟨⟨G, F', x', fun k => Z k ∨ F' k, y, a1, h2.other a2 (fun k hk => .inl ⟨h4 k hk, fun e => h1.gf gb h3 (by rw [← e]; exact hk)⟩) (fun k hk => ?_) (.inl h2.zg) fun k hk => ?_, h3, fun k hk => .inr hk, fun k hk => ?_, fun k hk => ⟨(h6 k hk).1, .inl (h6 k hk).2.1, (h6 k hk).2.2⟩, fun k hk => ⟨fun hF => ?_, (h7 k hk).2.1, Nat.lt_of_lt_of_le (h7 k hk).2.2 hz⟩⟩, Mv.on hb a2 fun k hk => h5 k (h4 k hk)⟩
  · rcases hk with hk | hk
    · exact .inl hk
    · exact (a3 k hk).imp (h4 k) id
  · rcases hk with hk | hk
    · have := h2.zl k hk; omega
    · exact a1.fl k hk
  · rcases hk with hk | hk
    · exact h5 k hk
    · rcases a3 k hk with h | h
      · exact h5 k (h4 k h)
      · omega
  · rcases a3 k hF with h | h
    · exact (h7 k hk).1 h
    · have := (h7 k hk).2.2; omega
/-- The reference's went on. -/
theorem Dbl.ofR (h1 : Tun v G F ga t1 x) (h3 : G gb) (h4 : ∀ k, F k → Z k) (h5 : ∀ k, Z k → w0.heap.size ≤ k) (h6 : ∀ k, B k → G k ∧ Z k ∧ k ≠ gb) (h7 : ∀ k, P k → ¬F k ∧ k ≠ gb ∧ k < v.heap.size) (hb : Fr w0 v) {m' : Nat} (hr : RfTo v v1 Z gb t2' m') (hzg : Z gb) : Dbl w0 v1 ga gb t1 t2' m' B P := by
  obtain ⟨y', a1, a2⟩ := hr
  refine ⟨⟨G, F, x, Z, y', h1.other a2 (fun k hk => .inl (by rw [hk]; exact ⟨h3, h1.gf gb h3⟩)) (fun k hk => .inl hk) (fun k hk => Nat.lt_of_lt_of_le (h1.gl k hk) a2.size), a1, h3, h4, h5, h6, fun k hk => ⟨(h7 k hk).1, (h7 k hk).2.1, Nat.lt_of_lt_of_le (h7 k hk).2.2 a2.size⟩⟩, Mv.on hb a2 fun k hk => by rw [hk]; exact h5 gb hzg⟩
/-- What they leave alone. -/
abbrev Lft (B P : Nat → Prop) : Nat → Prop := fun k => ¬(B k ∨ P k)
/-- A call upon the tunnel. -/
theorem Dbl.callT {f : FuncId} {args : Array Value} {kd : Kd} {R : kd.T → Prop} (h : Dbl w0 v ga gb t1 t2 m B P) (hc : ∀ G F x, Tun v G F ga t1 x → cl Tryd.prog f args kd v fun r v' => R r ∧ TunTo v v' G F ga t1') {K : kd.T → World → Prop} (hK : ∀ r v', R r → Dbl w0 v' ga gb t1' t2 m B P → Mv (Lft B P) v v' → K r v') : cl Tryd.prog f args kd v K := by
  obtain ⟨G, F, x, Z, y, h1, h2, h3, h4, h5, h6, h7⟩ := h.ex
  refine (hc G F x h1).mono fun r v' hr => hK r v' hr.1 (Dbl.ofT h1 h2 h3 h4 h5 h6 h7 h.base hr.2) ?_
  obtain ⟨F', x', a1, a2, a3⟩ := hr.2
  exact a2.mono fun k hk => .inl fun hh => by
    rcases hh with hh | hh
    · exact h1.gf k (h6 k hh).1 hk
    · exact (h7 k hh).1 hk
/-- A call upon the reference's. -/
theorem Dbl.callR {f : FuncId} {args : Array Value} {kd : Kd} {R : kd.T → Prop} (h : Dbl w0 v ga gb t1 t2 m B P) {m' : Nat} (hc : ∀ Z y, Rf v Z gb t2 y m → cl Tryd.prog f args kd v fun r v' => R r ∧ RfTo v v' Z gb t2' m') {K : kd.T → World → Prop} (hK : ∀ r v', R r → Dbl w0 v' ga gb t1 t2' m' B P → Mv (Lft B P) v v' → K r v') : cl Tryd.prog f args kd v K := by
  obtain ⟨G, F, x, Z, y, h1, h2, h3, h4, h5, h6, h7⟩ := h.ex
  refine (hc Z y h2).mono fun r v' hr => hK r v' hr.1 (Dbl.ofR h1 h3 h4 h5 h6 h7 h.base hr.2 h2.zg) ?_
  obtain ⟨y', a1, a2⟩ := hr.2
  exact a2.mono fun k hk => .inl fun hh => by
    rcases hh with hh | hh
    · exact (h6 k hh).2.2 hk
    · exact (h7 k hh).2.1 hk
theorem tells_ok {t : Tn} (h : Dbl w0 v ga gb t t m B P) (hi : t.inv) (hl : t.out.length ≤ 1073740000) :
    cl Tryd.prog n_flumelaw12_tells #[.pointer (some ⟨ga, 0, none⟩), .pointer (some ⟨gb, 0, none⟩)] .B v fun (r : Bool) v' => r = true ∧ Dbl w0 v' ga gb t.clear t.clear m B P ∧ Mv (Lft B P) v v' := by
  refine flumelaw12_tells.cl (p0 := some ⟨ga, 0, none⟩) (p1 := some ⟨gb, 0, none⟩) ?_
  unfold flumelaw12_tells
  have hme := hi.me.1
  intro dn
  have hfn := Fr.drewN v dn
  have h := h.fr hfn
  generalize v.drewN dn = v0 at *
  obtain ⟨G, F, x, Z, y, h1, h2, h3, h4, h5, h6, h7⟩ := h.ex
  refine nzS ?_
  refine ldI0 h2.cells (show (refL t y).toArray[0]? = some (.int .i64 t.me) from rfl) ?_
  refine (tMe_ok h1 hme).mono ?_
  rintro _ _ ⟨rfl, rfl⟩
  refine ⟨Fr.refl _, bT (by simp) (nzS ?_)⟩
  rw [addOff]
  refine ldI0 h2.cells (show (refL t y).toArray[1]? = some (.int .i64 t.you) from rfl) ?_
  refine (tYou_ok h1 hme).mono ?_
  rintro _ _ ⟨rfl, rfl⟩
  refine ⟨Fr.refl _, bT (by simp) (nzS ?_)⟩
  rw [addOff]
  refine ldI0 h2.cells (show (refL t y).toArray[2]? = some (.int .i64 t.epoch) from rfl) ?_
  refine (tEpoch_ok h1 hme).mono ?_
  rintro _ _ ⟨rfl, rfl⟩
  refine ⟨Fr.refl _, bT (by simp) (nzS ?_)⟩
  rw [addOff]
  refine ldB0 h2.cells (show (refL t y).toArray[4]? = some (.bool t.up) from rfl) ?_
  refine (tUp_ok h1 hme).mono ?_
  rintro _ _ ⟨rfl, rfl⟩
  refine ⟨Fr.refl _, bT (by simp) ?_⟩
  refine (tRoom_ok h1 hme).mono ?_
  rintro _ u1 ⟨rfl, f1⟩
  refine (rRoom_ok (h2.fr f1) hi.room).mono ?_
  rintro _ u2 ⟨rfl, f2⟩
  refine bT (by simp) ?_
  have f12 := f1.trans f2
  refine (tWaiting_ok (h1.fr f12) hme).mono ?_
  rintro _ u3 ⟨rfl, f3⟩
  have f13 := f12.trans f3
  refine (rWaiting_ok (h2.fr f13)).mono ?_
  rintro _ u4 ⟨rfl, f4⟩
  refine bT (by simp) ?_
  have f14 := f13.trans f4
  refine (tOut_ok (h1.fr f14) hme).mono ?_
  rintro r5 u5 ⟨F', x', hs, t5, m5, s5, o5, c5, b5⟩
  have r5' : Rf u5 Z gb t y m := (h2.fr f14).other m5 (fun k hk => .inl ⟨h4 k hk, fun e => h1.gf gb h3 (by rw [← e]; exact hk)⟩) (fun k hk => .inl hk) h2.zg fun k hk => by have := h2.zl k hk; have := f14.size; have := m5.size; omega
  refine (rOut_ok r5').mono ?_
  rintro r6 u6 ⟨⟨y6, h66, m6⟩, hs6, h6r⟩
  have hgb : ∀ k, k = gb → Zt G F' k ∨ u5.heap.size ≤ k := fun k hk => .inl (.inl (by rw [hk]; exact h3))
  have o6 : OwS u6 0 t_s_uint8 r5 hs := o5.mv m6 fun ad ha e => h1.gf gb h3 (by rw [← e]; exact (b5 ad ha).1)
  have c6 : All2 (Bs u6) hs t.out := c5.mono fun a b _ _ hc => (hc.mv m6 (Z' := Zt G F') hgb fun k hk => .inl hk).bs
  refine (rows_ok' o6.rd o6.len c6 h6r.rd h6r.len (h6r.all.mono fun _ _ _ _ hc => hc.bs) (by omega)).mono ?_
  rintro _ _ ⟨rfl, rfl⟩
  have hz14 := f14.size
  have hz5 := m5.size
  have hz6 := m6.size
  refine ⟨decide_eq_true rfl, ⟨⟨G, F', x', Z, y6, t5.other m6 (fun k hk => .inl (by rw [hk]; exact ⟨h3, t5.gf gb h3⟩)) (fun k hk => .inl hk) (fun k hk => Nat.lt_of_lt_of_le (t5.gl k hk) m6.size), h66, h3, fun k hk => h4 k (s5 k hk), h5, h6, fun k hk => ⟨fun hF => (h7 k hk).1 (s5 k hF), (h7 k hk).2.1, by have := (h7 k hk).2.2; omega⟩⟩, ?_⟩, ?_⟩
  · exact Mv.on (Mv.on (h.base.trans f14) m5 fun k hk => h5 k (h4 k hk)) m6 fun k hk => by rw [hk]; exact h5 gb h2.zg
  · have m5' : Mv (Lft B P) u4 u5 := m5.mono fun k hk => .inl fun hh => by
      rcases hh with hh | hh
      · exact h1.gf k (h6 k hh).1 hk
      · exact (h7 k hh).1 hk
    have m6' : Mv (Lft B P) u5 u6 := m6.mono fun k hk => .inl fun hh => by
      rcases hh with hh | hh
      · exact (h6 k hh).2.2 hk
      · exact (h7 k hh).2.1 hk
    exact ((Mv.of_fr (F := Lft B P) (hfn.trans f14)).trans m5' fun k hk => .inl hk).trans m6' fun k hk => .inl hk
end
end Go.Proofs.YtmhibpcbdbhfoaaDoor
namespace Go.Proofs.YtmhibpcbdbhfoaaDoor
open Go.RowKit Go.Fl

section
variable {w0 u0 v v1 w1 : World} {ga gb m : Nat} {t t1 t2 : Tn} {B P : Nat → Prop}
/-- New blocks that they leave alone. -/
theorem Dbl.addP (h : Dbl w0 v ga gb t1 t2 m B P) (hf : Fr v v1) {P2 : Nat → Prop} (hP : ∀ k, P2 k → v.heap.size ≤ k ∧ k < v1.heap.size) : Dbl w0 v1 ga gb t1 t2 m B fun k => P k ∨ P2 k := by
  obtain ⟨G, F, x, Z, y, h1, h2, h3, h4, h5, h6, h7⟩ := h.ex
  refine ⟨⟨G, F, x, Z, y, h1.fr hf, h2.fr hf, h3, h4, h5, h6, fun k hk => ?_⟩, h.base.trans hf⟩
  rcases hk with hk | hk
  · exact ⟨(h7 k hk).1, (h7 k hk).2.1, Nat.lt_of_lt_of_le (h7 k hk).2.2 hf.size⟩
  · obtain ⟨a, b⟩ := hP k hk
    exact ⟨fun e => by have := h1.fl k e; omega, fun e => by have := h2.zl gb h2.zg; omega, b⟩
/-- A datagram comes to the tunnel. -/
theorem mid_ok (h : Dbl w0 u0 ga gb t t m (fun _ => False) P) (hf : Fr u0 v) (hi : t.inv) {s1 s2 : Sl} {b : List UInt8} (hb1 : Bs v s1 b) (hb2 : Bs v s2 b) (hcold : b ≠ [] → ∀ ad, s2.a = some ad → ad.block < w0.heap.size ∨ u0.heap.size ≤ ad.block) (hbl : b.length ≤ 140737488351232) (hl : t.out.length ≤ 1073740000) {K : Sl × Int × Unit → World → Prop}
    (hK : ∀ xa w1 hs, Dbl w0 w1 ga gb (t.take b).1 t m (NB hs) (fun k => BK xa k ∨ (u0.heap.size ≤ k ∧ k < v.heap.size)) → OwS w1 0 t_s_uint8 xa hs → All2 (OwB w1 0 t_uint8) hs (t.take b).2.1 → hs.Pairwise (fun a b => ∀ y z, a.a = some y → b.a = some z → y.block ≠ z.block) → (∀ k, BK xa k → ¬NB hs k) → Bs w1 s2 b → (∀ k o, u0.heap.size ≤ k → v.heap[k]? = some o → w1.heap[k]? = some o) → K (xa, (t.take b).2.2, ()) w1) :
    cl Tryd.prog n_tunnel_Tunnel_Take #[.pointer (some ⟨ga, 0, none⟩), .slice s1.a s1.n s1.c] (.tup (.pair .L (.pair (.I .i64) .nil))) v K := by
  obtain ⟨G, F, x, Z, y, h1, h2, h3, h4, h5, h6, h7⟩ := h.ex
  have hz := hf.size
  have hz0 := h.base.size
  refine (take_ok (h1.fr hf) hi hb1 hbl (by omega)).mono ?_
  rintro ⟨xa, e, ⟨⟩⟩ w1 ⟨he, F', x', hs, t1, m1, f1, or1, ob1, pw1, nb1, rb1⟩
  have he : e = (t.take b).2.2 := he
  subst he
  have hz1 := m1.size
  have hgbl := h2.zl gb h2.zg
  have hF : ∀ k, F k → k ≠ gb := fun k hk e => h1.gf gb h3 (by rw [← e]; exact hk)
  have hFn : ∀ k, F k → k < u0.heap.size ∧ w0.heap.size ≤ k := fun k hk => ⟨h1.fl k hk, h5 k (h4 k hk)⟩
  have hrf : Rf w1 (fun k => Z k ∨ F' k ∨ NB hs k) gb t y m := (h2.fr hf).other m1 (fun k hk => .inl ⟨h4 k hk, hF k hk⟩) (fun k hk => by
      rcases hk with hk | hk | hk
      · exact .inl hk
      · exact (f1 k hk).imp (h4 k) id
      · exact (nb1 k hk).imp (h4 k) id) (.inl h2.zg) fun k hk => by
      rcases hk with hk | hk | hk
      · have := h2.zl k hk; omega
      · exact t1.fl k hk
      · exact t1.gl k (.inr hk)
  refine hK xa w1 hs ⟨⟨_, F', x', _, y, t1, hrf, .inl h3, fun k hk => .inr (.inl hk), fun k hk => ?_, fun k hk => ⟨.inr hk, .inr (.inr hk), fun e => ?_⟩, fun k hk => ?_⟩, Mv.on (h.base.trans hf) m1 fun k hk => (hFn k hk).2⟩ (or1.mono (Nat.zero_le _)) ob1 pw1 (fun k ⟨ad, had, e⟩ hn => (rb1 ad had).2 (by rw [e]; exact hn)) ?_ fun k o hk ho => m1.heap ho fun hF => by have := (hFn k hF).1; omega
  · rcases hk with hk | hk | hk
    · exact h5 k hk
    · rcases f1 k hk with h | h
      · exact (hFn k h).2
      · omega
    · rcases nb1 k hk with h | h
      · exact (hFn k h).2
      · omega
  · rcases nb1 k hk with h | h
    · exact hF k h e
    · omega
  · rcases hk with ⟨ad, had, e⟩ | ⟨hk1, hk2⟩
    · have ho := or1.own ad had
      rw [e] at ho
      exact ⟨by rw [← e]; exact (rb1 ad had).1, by omega, ho.2⟩
    · refine ⟨fun hF' => ?_, by omega, by omega⟩
      rcases f1 k hF' with h | h
      · have := (hFn k h).1; omega
      · omega
  · refine hb2.kpn m1.kp fun hne ad had hF => ?_
    rcases hcold hne ad had with h | h
    · have := (hFn _ hF).2; omega
    · have := (hFn _ hF).1; omega
/-- A datagram comes to the reference's. -/
theorem Dbl.takeR {N : Int} (h : Dbl w0 w1 ga gb t1 t m B P) (hm : m ≤ 1073740000) (hi : t.inv) (hT : TL t N) (hN : N < 1099511627776) {s2 : Sl} {b : List UInt8} (hb : Bs w1 s2 b) (hbl : b.length ≤ 140737488351232) (hl : t.out.length ≤ 1073740000) {K : Sl × Int × Unit → World → Prop}
    (hK : ∀ xb w2 hsB, Dbl w0 w2 ga gb t1 (t.take b).1 (m + 1) B P → Mv (Lft B P) w1 w2 → Rd w2 xb.a (slsV hsB) → xb.n = hsB.length → All2 (Bs w2) hsB (t.take b).2.1 → K (xb, (t.take b).2.2, ()) w2) :
    cl Tryd.prog n_flumeref12_Tunnel_Take #[.pointer (some ⟨gb, 0, none⟩), .slice s2.a s2.n s2.c] (.tup (.pair .L (.pair (.I .i64) .nil))) w1 K := by
  obtain ⟨G, F, x, Z, y, h1, h2, h3, h4, h5, h6, h7⟩ := h.ex
  refine (rTake_ok h2 hm hi hT hN hb hbl hl).mono ?_
  rintro ⟨xb, e, ⟨⟩⟩ w2 ⟨he, hr, hs, ho, ha⟩
  have he : e = (t.take b).2.2 := he
  subst he
  refine hK xb w2 hs (Dbl.ofR h1 h3 h4 h5 h6 h7 h.base hr h2.zg) ?_ ho.rd ho.len (ha.mono fun _ _ _ _ hc => hc.bs)
  obtain ⟨y', a1, a2⟩ := hr
  exact a2.mono fun k hk => .inl fun hh => by
    rcases hh with hh | hh
    · exact (h6 k hh).2.2 hk
    · exact (h7 k hh).2.1 hk
/-- What was told is turned. -/
theorem flipAll (h : Dbl w0 v ga gb t1 t2 m B P) {xa : Sl} {hs : List Sl} {l : Rows8} (ho : OwS v 0 t_s_uint8 xa hs) (hb : All2 (OwB v 0 t_uint8) hs l) (hp : hs.Pairwise (fun a b => ∀ y z, a.a = some y → b.a = some z → y.block ≠ z.block)) (hB : ∀ k, NB hs k → B k) (hx : ∀ k, BK xa k → ¬NB hs k) (hln : l.length ≤ 1000000) {K : World → Prop} (hK : ∀ v', Dbl w0 v' ga gb t1 t2 m B P → K v')
    {body : (Nat → AV) → ((Int × Unit) → World → Prop) → (Int × Unit) → World → Prop}
    (hbody : ∀ D J (s190 : Int × Unit) w191, (bif (decide (s190.1 < (xa.n : Int))) then
   (ixa xa.a xa.n s190.1 1 fun a194 => ld .L w191 a194 fun (x195 : Sl) => lp (α := (Int × Unit)) (fun K => K (0, ())) w191 fun _ J199 s196 w197 =>
   bif (decide (s196.1 < (x195.n : Int))) then
    (ixa x195.a x195.n s196.1 1 fun a200 => ld (.I .u8) w197 a200 fun (x201 : Int) => ixa x195.a x195.n s196.1 1 fun a202 => st1 w197 a202 (.int .u8 (bits .xor .u8 x201 255)) fun w203 => J199 ((IntKind.i64.wrap (s196.1 + 1)), ()) w203)
    else J ((IntKind.i64.wrap (s190.1 + 1)), ()) w197)
   else K w191) → body D J s190 w191) : lp (α := Int × Unit) (fun K => K (0, ())) v body := by
  have hlen := hb.length
  have hn := ho.len
  refine lpI (fun (s' : Int × Unit) u => ∃ (i : Nat) (l' : Rows8), i ≤ hs.length ∧ s'.1 = i ∧ Dbl w0 u ga gb t1 t2 m B P ∧ OwS u 0 t_s_uint8 xa hs ∧ All2 (OwB u 0 t_uint8) hs l') (fun s' _ => (xa.n - s'.1).toNat) ⟨0, l, Nat.zero_le _, rfl, h, ho, hb⟩ ?_
  rintro D ⟨i', ⟨⟩⟩ u ⟨i, l', hi, rfl, hu, hou, hbu⟩
  refine hbody _ _ _ _ ?_
  dsimp only
  refine bD ?_ ?_ <;> intro hlt
  · have hi1 : i < hs.length := by omega
    have hl' := hbu.length
    refine ixS hou.rd hou.len rfl hi1 (Fr.refl _) ?_
    have hbi := hbu.get hi1 (by omega)
    refine flips hbi (fun u2 l2 hb2 hm2 _ => ?_) fun D J s196 w197 hx => hx
    have hNB : ∀ k, BK hs[i] k → NB hs k := fun k hk => ⟨hs[i], List.getElem_mem _, hk⟩
    rw [i64w (n := (i : Int) + 1) (by omega) (by omega)]
    refine ⟨⟨i + 1, l'.set i l2, by omega, rfl, hu.turn (hm2.mono fun k hk => .inl (hB k (hNB k hk))), hou.mv hm2 fun ad had e => hx _ ⟨ad, had, rfl⟩ (hNB _ e), ?_⟩, by omega⟩
    refine All2.of_get (by rw [List.length_set]; exact hl') fun j h1 h2 => ?_
    by_cases hij : i = j
    · subst hij
      rw [List.getElem_set_self]
      exact hb2
    · rw [List.getElem_set_ne hij]
      refine (hbu.get h1 (by omega)).mv hm2 fun ad had hk => ?_
      obtain ⟨ad2, had2, e⟩ := hk
      rw [List.pairwise_iff_getElem] at hp
      rcases Nat.lt_or_gt_of_ne hij with hlt2 | hlt2
      · exact hp i j hi1 h1 hlt2 ad2 ad had2 had e
      · exact hp j i h1 hi1 hlt2 ad ad2 had had2 e.symm
  · exact hK u hu
end
end Go.Proofs.YtmhibpcbdbhfoaaDoor
namespace Go.Proofs.YtmhibpcbdbhfoaaDoor
open Go.RowKit Go.Fl Go.ChangeShapes Go.WideShapes Go.ChangeAt

theorem tlTake {t : Tn} {N : Int} (h : TL t N) (hN : N < 1099511627776) (d : List UInt8) : TL (t.take d).1 N := by
  cases hg : getF d with
  | none =>
    have e : (t.take d).1 = t := by unfold Tn.take; rw [hg]
    rw [e]; exact h
  | some f => exact h.take hN hg
theorem mod70 (n : Int) : ∃ k : Nat, k < 70 ∧ IntKind.i64.wrap (Int.tmod (IntKind.u64.wrap n) 70) = k := by
  have hu : 0 ≤ IntKind.u64.wrap n := by simp only [IntKind.wrap, IntKind.bits, IntKind.signed]; simp; omega
  generalize IntKind.u64.wrap n = u at *
  rw [Int.tmod_eq_emod_of_nonneg hu, i64w (by omega) (by omega)]
  exact ⟨(u % 70).toNat, by omega, by omega⟩
set_option maxRecDepth 100000 in
theorem TunnelPlays_law {H : Type} {enc : TypeId × Value → H} {w : World} {me : Int} {b1 : Nat} {v1 : Value} {d1 : DataW H} {p1 : List MemPlace} (hd : Crc w) (_hm : (Lit.int .i64 me).wf = true)
    (o1 : Value.okWide Tryd.prog w .any b1 t_s_flumelaw12_Do v1) (h1 : DataW.Trod enc Tryd.prog w 0 (fun _ => true) true t_s_flumelaw12_Do v1 d1 p1) (hwt : ∀ n ∈ d1.weights Tryd.prog t_s_flumelaw12_Do, n ≤ reachBytes) :
    Calls Tryd.prog n_flumelaw12_TunnelPlays #[.int .i64 me, v1] w fun e w' => e = .returned (.bool true) ∧ Below w.heap.size w w' := by
  refine lawE ?_
  obtain ⟨s, xs, rfl, hsl, hsr, hin⟩ := do_inW o1 h1 hwt
  refine flumelaw12_TunnelPlays.cl (p0 := me) (p1 := s) ?_
  unfold flumelaw12_TunnelPlays
  refine (tNew_ok (G := fun _ => False) hd (fun _ h => h.elim) fun h => h).mono ?_
  rintro r1 w2 ⟨hr1, hf2⟩
  by_cases hme : 1 ≤ me ∧ me ≤ 1099511627776
  rotate_left
  · rw [if_neg hme] at hr1
    refine (rNew_ok (Z := fun _ => False) (fun _ h => h.elim)).mono ?_
    rintro r3 w4 ⟨hr3, hf4⟩
    rw [if_neg hme] at hr3
    rw [hr1, hr3]
    refine bF rfl (bF rfl (bT rfl ?_))
    exact awake_law hd (hf2.trans hf4)
  rw [if_pos hme] at hr1
  obtain ⟨ga, x0, rfl, hga, t0⟩ := hr1
  have hgal := tun_lt t0
  refine (rNew_ok (Z := fun k => k = ga) (fun k hk => by omega)).mono ?_
  rintro r3 w4 ⟨hr3, hf4⟩
  rw [if_pos hme] at hr3
  obtain ⟨gb, y0, rfl, hgb, r0⟩ := hr3
  have hz2 := hf2.size
  have hz4 := hf4.size
  have hgbl := r0.zl gb (.inr rfl)
  refine bF rfl (bF rfl (bF rfl ?_))
  have D0 : Dbl w w4 ga gb (tn0 me) (tn0 me) 0 (fun _ => False) (fun _ => False) := by
    refine ⟨⟨fun k => k = gb, fun k => k = ga, x0, _, y0, t0.other (E := fun _ => False) (Mv.of_fr hf4) (fun _ h => h.elim) (fun k hk => .inr (by omega)) (fun k hk => by omega), r0, rfl, fun k hk => .inl hk, fun k hk => ?_, fun _ h => h.elim, fun _ h => h.elim⟩, hf2.trans hf4⟩
    rcases hk with hk | hk <;> omega
  refine (short_ok hsl (hsr.below (hf2.trans hf4))).mono ?_
  rintro sh w6 ⟨hsh, hf6⟩
  cases sh with
  | false => exact bT rfl (awake_law hd ((hf2.trans hf4).trans hf6))
  | true =>
  refine bF rfl ?_
  have h120 := hsh rfl
  refine lpI (fun (s' : Int × Unit) v => ∃ (i : Nat) (t : Tn), i ≤ xs.length ∧ s'.1 = i ∧ Dbl w v ga gb t t i (fun _ => False) (fun _ => False) ∧ t.inv ∧ TL t (200 * i) ∧ t.out = []) (fun s' _ => (s.n - s'.1).toNat) ⟨0, tn0 me, Nat.zero_le _, rfl, D0.fr hf6, inv_tn0 hme, TL.zero (by omega) me, rfl⟩ ?_
  rintro D ⟨i', ⟨⟩⟩ v ⟨i, t, hi, rfl, hD, inv, hTL, hout⟩
  dsimp -zeta only
  refine bD ?_ ?_ <;> intro hlt
  rotate_left
  · exact awake_law hd hD.base
  have hi1 : i < xs.length := by omega
  have ho0 : t.out.length = 0 := by rw [hout]; rfl
  refine ixE (f := doC) (sz := 11) (fun _ => rfl) (hsr.below hD.base) hsl hi1 (by decide) fun ad hcell => ?_
  refine ldAt k_flumelaw12_Do xs[i].1 rfl hcell ?_
  obtain ⟨hx, hxb⟩ := hin xs[i] (List.getElem_mem hi1)
  refine nwI fun a17 w18 ha17 hs18 hf18 hb18 _ => ?_
  refine stW (Kd.av k_flumelaw12_Do xs[i].1) rfl hb18 rfl fun w19 hb19 hg19 hs19 => ?_
  have hb19 : w19.heap[a17]? = some (.cells (doC xs[i]).toArray t_flumelaw12_Do (0, 0)) := hb19
  have hf19 : Fr v w19 := hf18.on (grown_below hg19 (show v.heap.size ≤ a17 by omega) hf18.size)
  have hz19 := hf19.size
  have hz18 := hf18.size
  have hbl : xs[i].2.1.length ≤ 140737488351232 := hxb
  -- the answers are compared
  intro j4
  have J4 : ∀ (xa xb : Sl) (e : Int) (u : World) (t' : Tn) (l : Rows8) (hsA hsB : List Sl) (P : Nat → Prop), Dbl w u ga gb t' t' (i + 1) (NB hsA) P → (∀ k, BK xa k → P k) → t'.inv → TL t' (200 * ((i + 1 : Nat) : Int)) → t'.out.length ≤ 100000 → OwS u 0 t_s_uint8 xa hsA → All2 (OwB u 0 t_uint8) hsA l → hsA.Pairwise (fun a b => ∀ y z, a.a = some y → b.a = some z → y.block ≠ z.block) → (∀ k, BK xa k → ¬NB hsA k) →
      Rd u xb.a (slsV hsB) → xb.n = hsB.length → All2 (Bs u) hsB l → l.length ≤ 1000 → j4 xa xb e e u := by
    intro xa xb e u t' l hsA hsB P hu hP iv hT ho hoA hbA hpA hxA hrB hnB hbB hll
    unfold j4
    refine bF (by simp) ?_
    refine (rows_ok' hoA.rd hoA.len (hbA.mono fun _ _ _ _ hc => hc.bs) hrB hnB hbB (by omega)).mono ?_
    rintro _ _ ⟨rfl, rfl⟩
    refine bF (by simp) ?_
    refine (tells_ok hu iv (by omega)).mono ?_
    rintro _ u2 ⟨rfl, hu2, m2⟩
    refine bF rfl ?_
    have hoA2 : OwS u2 0 t_s_uint8 xa hsA := hoA.mv m2 fun ad had hk => hk (.inr (hP _ ⟨ad, had, rfl⟩))
    have hbA2 : All2 (OwB u2 0 t_uint8) hsA l := hbA.mono fun a c ha _ hc => hc.mv m2 fun ad had hk => hk (.inl ⟨a, ha, ad, had, rfl⟩)
    refine flipAll hu2 hoA2 hbA2 hpA (fun k hk => hk) hxA (by omega) (fun u3 hu3 => ?_) fun D J s190 w191 hx => hx
    rw [i64w (n := (i : Int) + 1) (by omega) (by omega)]
    exact ⟨⟨i + 1, t'.clear, by omega, rfl, hu3.less (fun _ h => h.elim) fun _ h => h.elim, iv.clear, hT.clear, rfl⟩, by omega⟩
  clear_value j4
  have J4n : ∀ (e : Int) (u : World) (t' : Tn) (B P : Nat → Prop), Dbl w u ga gb t' t' (i + 1) B P → t'.inv → TL t' (200 * ((i + 1 : Nat) : Int)) → t'.out.length ≤ 100000 → j4 ⟨none, 0, 0⟩ ⟨none, 0, 0⟩ e e u := fun e u t' B P hu iv hT ho =>
    J4 ⟨none, 0, 0⟩ ⟨none, 0, 0⟩ e u t' [] [] [] (fun _ => False) (hu.less (fun k ⟨_, h, _⟩ => by cases h) fun _ h => h.elim) (fun k hk => absurd hk BK.none) iv hT ho (OwS.nil _ _ _) trivial .nil (fun k hk => absurd hk BK.none) (Rd.nil _ _) rfl trivial (Nat.zero_le _)
  refine ldI0 hb19 (show (doC xs[i]).toArray[0]? = some (.int .i64 xs[i].1.1) from rfl) ?_
  obtain ⟨o, ho8, hoe⟩ := mod8 xs[i].1.1
  rw [hoe]
  have hN1 : (200 * (i : Int)) < 1099511627776 := by omega
  have hNs : ∀ {t' : Tn} {M : Int}, TL t' M → M ≤ 200 * ((i + 1 : Nat) : Int) → TL t' (200 * ((i + 1 : Nat) : Int)) := fun h hM => h.mono hM
  -- the input's bytes are old
  have hold : xs[i].2.1 ≠ [] → ∀ ad, xs[i].1.2.2.1.a = some ad → ad.block < w.heap.size := fun hne ad had => hx.b.lt hne ad had
  intro j2
  have J2 : ∀ y : Bool, j2 y w19 := by
    intro yb
    unfold j2
    refine bB ?_ ?_ <;> intro _
    · -- a frame comes
      intro dn
      have hfn := Fr.drewN w19 dn
      have hD93 := hD.fr (hf19.trans hfn)
      have hb93 := hfn.heap hb19
      generalize w19.drewN dn = w93 at *
      refine ldW (k := k_flumelaw12_Do) (x := xs[i].1) hb93 rfl ?_
      obtain ⟨G, F, x, Z, y, c1, c2, c3⟩ := hD93.ex
      refine nzS (ldI0 c2.cells (show (refL t y).toArray[0]? = some (.int .i64 t.me) from rfl) (nzS ?_))
      rw [addOff]
      refine ldI0 c2.cells (show (refL t y).toArray[1]? = some (.int .i64 t.you) from rfl) ?_
      refine (frame_ok (e := xs[i]) (hx.f.data.fr hD93.base)).mono ?_
      rintro x99 w100 ⟨h99, hf100⟩
      have hpl := putF_len (doF xs[i] t.me t.you)
      refine (Clone_byte_ok h99.bs (by omega)).mono ?_
      rintro x101 w102 ⟨h101, hf102⟩
      refine mid_ok hD93 (hf100.trans hf102) inv h101.bs (s2 := x99) (h99.bs.fr hf102) (fun _ ad had => .inr (h99.own ad had).1) (by omega) (by omega) fun xa w104 hs d104 oA bA pA nA b104 _ => ?_
      refine d104.takeR (by omega) inv hTL hN1 b104 (by omega) (by omega) fun xb w106 hsB d106 m106 rB nB bB => ?_
      have htl := take_len t (putF (doF xs[i] t.me t.you)).1
      have hto := take_out inv (putF (doF xs[i] t.me t.you)).1
      refine J4 xa xb _ w106 _ _ hs hsB _ d106 (fun k hk => .inl hk) (inv.take _) (hNs (tlTake hTL hN1 _) (by omega)) (by omega) (oA.mv m106 fun ad had hk => hk (.inr (.inl ⟨ad, had, rfl⟩))) (bA.mono fun a c ha _ hc => hc.mv m106 fun ad had hk => hk (.inl ⟨a, ha, ad, had, rfl⟩)) pA nA rB nB bB (by omega)
    refine bE ?_ ?_ <;> intro h5
    · -- time passes
      rw [addOff]
      refine ldI0 hb19 (show (doC xs[i]).toArray[1]? = some (.int .i64 xs[i].1.2.1) from rfl) ?_
      obtain ⟨k70, hk70, hke⟩ := mod70 xs[i].1.2.1
      rw [hke]
      refine lpI (fun (s' : Int × Unit) u => ∃ (n : Nat) (t' : Tn), n ≤ k70 ∧ s'.1 = n ∧ Dbl w u ga gb t' t' i (fun _ => False) (fun _ => False) ∧ t'.inv ∧ TL t' (200 * i + n) ∧ t'.out.length ≤ 65 * n) (fun s' _ => ((k70 : Int) - s'.1).toNat) ⟨0, t, Nat.zero_le _, rfl, hD.fr hf19, inv, hTL.mono (by omega), by omega⟩ ?_
      rintro D2 ⟨n', ⟨⟩⟩ u ⟨n, t', hn, rfl, hu, iv, hT, ho⟩
      dsimp only
      refine bD ?_ ?_ <;> intro hlt2
      · have hrm := iv.room
        refine hu.callT (kd := .tup .nil) (R := fun _ => True) (t1' := t'.tick) (fun G F x c => (tick_ok c iv.me.1 (by omega) (by omega)).mono fun _ _ h => ⟨trivial, h⟩) fun _ u2 _ hu2 _ => ?_
        refine hu2.callR (kd := .tup .nil) (R := fun _ => True) (t2' := t'.tick) (m' := i) (fun Z y c => (rTick_ok c iv (by omega)).mono fun _ _ h => ⟨trivial, h⟩) fun _ u3 _ hu3 _ => ?_
        have hto := tick_out iv
        rw [i64w (n := (n : Int) + 1) (by omega) (by omega)]
        refine ⟨⟨n + 1, t'.tick, by omega, rfl, hu3, iv.tick, ?_, by omega⟩, by omega⟩
        have := hT.tick (by omega)
        have e : 200 * (i : Int) + (n : Int) + 1 = 200 * (i : Int) + ((n + 1 : Nat) : Int) := by omega
        rwa [e] at this
      · exact J4n 0 u t' _ _ (hu.mono (by omega)) iv (hNs hT (by omega)) (by omega)
    refine bE ?_ ?_ <;> intro h6
    · -- somebody is told of
      have hDp := hD.addP hf19 (P2 := fun k => k = a17) (fun k hk => by omega)
      rw [addOff]
      refine ldI0 hb19 (show (doC xs[i]).toArray[1]? = some (.int .i64 xs[i].1.2.1) from rfl) ?_
      refine hDp.callT (kd := .tup .nil) (R := fun _ => True) (t1' := t.hint xs[i].1.2.1) (fun G F x c => (hint_ok c inv.me.1 (by omega)).mono fun _ _ h => ⟨trivial, h⟩) fun _ u2 _ hu2 m2 => ?_
      have hb2 := m2.heap hb19 fun hk => hk (.inr (.inr rfl))
      refine ldI0 hb2 (show (doC xs[i]).toArray[1]? = some (.int .i64 xs[i].1.2.1) from rfl) ?_
      refine hu2.callR (kd := .tup .nil) (R := fun _ => True) (t2' := t.hint xs[i].1.2.1) (m' := i) (fun Z y c => (rHint_ok c (by omega)).mono fun _ _ h => ⟨trivial, h⟩) fun _ u3 _ hu3 _ => ?_
      have hho := hint_out t xs[i].1.2.1
      exact J4n 0 u3 _ _ _ (hu3.mono (by omega)) (inv.hint _) (hNs (hTL.hint _) (by omega)) (by omega)
    have hD19 := hD.fr hf19
    have hb := hx.b.fr hD19.base
    refine bE ?_ ?_ <;> intro h7
    · -- bytes come
      rw [addOff]
      refine ldL0 (s := xs[i].1.2.2.1) hb19 rfl ?_
      refine (Clone_byte_ok hb hbl).mono ?_
      rintro x123 w124 ⟨h123, hf124⟩
      refine mid_ok hD (hf19.trans hf124) inv h123.bs (s2 := xs[i].1.2.2.1) (hb.fr hf124) (fun hne ad had => .inl (hold hne ad had)) hbl (by omega) fun xa w126 hs d126 oA bA pA nA b126 hheap => ?_
      have hb126 := hheap a17 _ (by omega) (hf124.heap hb19)
      refine ldL0 (s := xs[i].1.2.2.1) hb126 rfl ?_
      refine d126.takeR (by omega) inv hTL hN1 b126 hbl (by omega) fun xb w129 hsB d129 m129 rB nB bB => ?_
      have htl := take_len t xs[i].2.1
      have hto := take_out inv xs[i].2.1
      refine J4 xa xb _ w129 _ _ hs hsB _ d129 (fun k hk => .inl hk) (inv.take _) (hNs (tlTake hTL hN1 _) (by omega)) (by omega) (oA.mv m129 fun ad had hk => hk (.inr (.inl ⟨ad, had, rfl⟩))) (bA.mono fun a c ha _ hc => hc.mv m129 fun ad had hk => hk (.inl ⟨a, ha, ad, had, rfl⟩)) pA nA rB nB bB (by omega)
    -- something is sent
    rw [addOff]
    refine ldL0 (s := xs[i].1.2.2.1) hb19 rfl ?_
    refine (Clone_byte_ok hb hbl).mono ?_
    rintro x131 w132 ⟨h131, hf132⟩
    intro j3
    have J3 : ∀ (e : Int) (u : World) (P : Nat → Prop), Dbl w u ga gb (t.send xs[i].2.1).1 (t.send xs[i].2.1).1 (i + 1) (BK x131) P → OwB u 0 t_uint8 x131 xs[i].2.1 → j3 e e u := by
      intro e u P hu hox
      unfold j3
      refine flips hox (fun u2 l2 _ hm2 _ => ?_) fun D J s196 w197 hx => hx
      have hso := send_out inv xs[i].2.1
      have hTs := hTL.send (by omega) xs[i].2.1
      exact J4n e u2 _ _ _ (hu.turn hm2) (inv.send _) (hNs hTs (by omega)) (by omega)
    clear_value j3
    intro dn
    have hfn := Fr.drewN w132 dn
    have h131' := (h131.mono (Nat.zero_le _)).fr hfn
    have hf133 := (hf19.trans hf132).trans hfn
    have hb133 := (hf132.trans hfn).heap hb19
    have hbk : ∀ k, BK x131 k → w19.heap.size ≤ k ∧ k < (w132.drewN dn).heap.size := fun k ⟨ad, had, e⟩ => by
      have := h131.own ad had
      rw [e] at this
      exact ⟨this.1, this.2⟩
    generalize w132.drewN dn = w133 at *
    have hz133 := hf133.size
    have hfw : Fr w19 w133 := by
      have := hf132.trans hfn
      exact this
    have hDp : Dbl w w133 ga gb t t i (BK x131) (fun k => k = a17) := by
      have h1 := hD.addP hf19 (P2 := fun k => k = a17) (fun k hk => by omega)
      have h2 := h1.addB hfw (B2 := BK x131) hbk
      exact h2.less (fun k hk => .inr hk) fun k hk => .inr hk
    have hrm := inv.room
    have both : ∀ {K : Int → Int → World → Prop}, (∀ u, Dbl w u ga gb (t.send xs[i].2.1).1 (t.send xs[i].2.1).1 i (BK x131) (fun k => k = a17) → OwB u 0 t_uint8 x131 xs[i].2.1 → K (t.send xs[i].2.1).2 (t.send xs[i].2.1).2 u) →
        cl Tryd.prog n_tunnel_Tunnel_Send #[.pointer (some ⟨ga, 0, none⟩), .slice x131.a x131.n x131.c] (.I .i64) w133 fun (x134 : Int) w135 => (w135.heap[a17]? = some (.cells (doC xs[i]).toArray t_flumelaw12_Do (0, 0))) ∧ cl Tryd.prog n_flumeref12_Tunnel_Send #[.pointer (some ⟨gb, 0, none⟩), .slice xs[i].1.2.2.1.a xs[i].1.2.2.1.n xs[i].1.2.2.1.c] (.I .i64) w135 fun (x137 : Int) w138 => K x134 x137 w138 := by
      intro K hK
      refine hDp.callT (kd := .I .i64) (R := fun r => r = (t.send xs[i].2.1).2) (t1' := (t.send xs[i].2.1).1) (fun G F x c => send_ok c inv.me.1 h131'.bs (by omega) (by omega)) fun r u2 hr hu2 m2 => ?_
      have hox2 : OwB u2 0 t_uint8 x131 xs[i].2.1 := h131'.mv m2 fun ad had hk => hk (.inl ⟨ad, had, rfl⟩)
      refine ⟨m2.heap hb133 fun hk => hk (.inr rfl), ?_⟩
      refine hu2.callR (kd := .I .i64) (R := fun r => r = (t.send xs[i].2.1).2) (t2' := (t.send xs[i].2.1).1) (m' := i) (fun Z y c => rSend_ok c hTL (by omega) inv (hx.b.fr hu2.base) (by omega)) fun r3 u3 hr3 hu3 m3 => ?_
      have hr : r = (t.send xs[i].2.1).2 := hr
      have hr3 : r3 = (t.send xs[i].2.1).2 := hr3
      subst hr hr3
      exact hK u3 hu3 (hox2.mv m3 fun ad had hk => hk (.inl ⟨ad, had, rfl⟩))
    refine ⟨?_, ?_⟩
    · refine (both (K := fun a b u => j3 a b u) fun u hu hox => J3 _ u _ (hu.mono (by omega)) hox).mono ?_
      rintro x134 w135 ⟨hb135, h⟩
      exact ldL0 (s := xs[i].1.2.2.1) hb135 rfl h
    · refine ldL0 (s := xs[i].1.2.2.1) hb133 rfl ?_
      refine (both (K := fun a b u => j3 a b u) fun u hu hox => J3 _ u _ (hu.mono (by omega)) hox).mono ?_
      rintro x134 w135 ⟨hb135, h⟩
      exact h
  clear_value j2
  refine bE ?_ ?_ <;> intro _
  · exact J2 _
  refine bE ?_ ?_ <;> intro _
  · exact J2 _
  · exact J2 _
end Go.Proofs.YtmhibpcbdbhfoaaDoor
namespace Go.Proofs.YtmhibpcbdbhfoaaDoor
open Go.RowKit Go.Fl

abbrev laid2 : List (String × DataW Unit) := [("flume/sums.nibbles", Rows.laid_flume_sums_nibbles)]
/-- The door's own heap meets the condition. -/
theorem door_met (os : Os) (args : Array Value) : laidMetH Tryd.prog laid2 ((World.doorLaid Tryd.prog 400 os).forCall (fun _ _ => 0) ⟨#[], args, []⟩).memory :=
  laidMetH_of_parts3 (fuel := 8) (laidMet_of_run' 8 (by kernel_rfl) (by kernel_rfl)) (by kernel_rfl) (by kernel_rfl)
theorem glob_of_tab {W : World} {name : String} {zs : List Int} {g : Nat} (h : Lib.TabIs Tryd.prog W name .u32 zs) (hg : Tryd.prog.globalNamed name = some g) : Glob W g zs := fun i hi => by
  rw [h.cell hg i hi, List.getD_eq_getElem?_getD, List.getElem?_eq_getElem hi]
  rfl
def tabTyB (P : Program) (g n : Nat) : Bool := match (P.globals[g]?).map (·.type) with
  | some t => match P.underlying t with
    | some (.array m e) => match P.underlying e with
      | some (.int .u32) => m == n && P.cellsOf e == 1 && P.cellsOf t == n
      | _ => false
    | _ => false
  | none => false
theorem tab_of {P : Program} {W : World} {name : String} {zs : List Int} {rest : List (String × DataW Unit)} {g n : Nat} (hg : P.globalNamed name = some g) (hB : tabTyB P g n = true) (h : laidMet P ((name, Lib.tabData .u32 zs) :: rest) W) : Lib.TabIs P W name .u32 zs := by
  unfold tabTyB at hB
  split at hB
  · rename_i t ht
    split at hB
    · rename_i m e hu
      split at hB
      · rename_i he
        simp only [Bool.and_eq_true, beq_iff_eq] at hB
        obtain ⟨⟨rfl, h1⟩, h2⟩ := hB
        exact Lib.tabIs_of_head hg ht hu he h1 h2 h
      · cases hB
    · cases hB
  · cases hB
theorem dig_of_laid {W : World} (h : laidMetH Tryd.prog laid2 W) : Crc W := by
  rw [MakeChecks.laidMetH_plain _ _ _ (by kernel_rfl)] at h
  have h1 : laidMet Tryd.prog (("flume/sums.nibbles", Lib.tabData .u32 Nib) :: []) W := h
  exact glob_of_tab (tab_of (g := g_sums_nibbles) (n := 16) (by kernel_rfl) (by kernel_rfl) h1) (by kernel_rfl)
end Go.Proofs.YtmhibpcbdbhfoaaDoor
