/- Contracts and plain laws that the claims of this seat lean on, put together. -/
import Derived.Test.YtmhibpcbdbhfoaaDoorM4
import Derived.Test.YtmhibpcbdbhfoaaDoorRows
import Derived.Lib.LaidTab
import Derived.LaidMore
import Derived.ProofKit
import Derived.Stop.LaidErr
import Derived.Stop.Joined
namespace Go.Fl

theorem Dl.ticks {p q : Pr} {s : Bool} {d : List UInt8} {l : Rows8} {f : Fm} (h : Dl p q s d l f) (r : Bool) : (q.t r).ticks = (p.t r).ticks := by
  rcases bool_cases s r with rfl | rfl
  · rw [h.ts]
    show ((p.t r).take d).1.ticks = _
    rcases take_cases (t := p.t r) h.hf with ⟨_, _, e⟩ | ⟨_, e⟩ | ⟨_, _, _, e⟩ | ⟨_, _, _, _, e⟩ | ⟨_, _, _, _, e⟩ | ⟨_, _, _, _, e⟩ <;> rw [e]
    · rfl
    · rfl
    · exact slide_ind (P := fun s => s.ticks = (p.t r).ticks) (t := { p.t r with sil := 0, way := (p.t r).way.filter fun x => !gone f x }) rfl fun _ _ _ h _ _ => h
    · obtain ⟨e1, e2, h4⟩ := data_eq ({ p.t r with sil := 0 } : Tn) f
      have h5 : (({ p.t r with sil := 0 } : Tn).data f).1 = (tellF 17 (({ p.t r with sil := 0 } : Tn).keep f) []).1.acks := rfl
      rw [h5, h4]; rfl
  · rw [h.tO]
/-- A round. -/
def Rnd (h : Bool) (p q : Pr) : Prop := (∃ i, Dr (start h p) i q) ∧ ∀ r, q.bag r = []
/-- The state between two rounds. -/
structure Qt (p : Pr) (k : Nat) : Prop where
  gi : GI p k
  quiet : ∀ r, p.bag r = []
  small : k ≤ 10000000
section
variable {p q : Pr} {k : Nat} {h : Bool}
/-- What the deliveries of a round keep. -/
theorem Rnd.carry (hr : Rnd h p q) (hp : Qt p k) {J : Pr → Prop} (hJ : ∀ {a b : Pr} {m : Nat} {s d l f}, GI a m → m ≤ 1000000000 → Dl a b s d l f → J a → J b) (h0 : J (start h p)) : J q := by
  obtain ⟨⟨i, hd⟩, _⟩ := hr
  obtain ⟨j, hj, hg⟩ := start_gi h hp.gi (by have := hp.small; omega)
  exact (hd.carry hg (by have := hp.small; omega) (start_ok h hp.gi hp.quiet).cnt hJ h0).1
theorem Rnd.ticks (hr : Rnd h p q) (hp : Qt p k) (r : Bool) : (q.t r).ticks = (p.t r).ticks + 1 := by
  have hs := start_ok h hp.gi hp.quiet
  have hk := hp.small
  refine hr.carry hp (J := fun a => (a.t r).ticks = (p.t r).ticks + 1) (fun _ _ hd ha => by rw [hd.ticks]; exact ha) ?_
  rw [hs.t]
  have hi := (hp.gi.ps.pi.ti r).inv
  have hm := hp.gi.ps.pi.me r
  exact (tick_cases (hp.gi.li.tl r) (by omega) hi (by omega)).1
theorem Rnd.ob (hr : Rnd h p q) (hp : Qt p k) {z r : Bool} (h0 : Ob z (start h p) r) : Gz z q r :=
  ob_end (hr.carry hp (J := fun a => Ob z a r) (fun _ _ hd ha => hd.ob ha) h0) hr.2
theorem Rnd.us (hr : Rnd h p q) (hp : Qt p k) {r : Bool} {c : Int} (hc : 0 ≤ c) (h0 : Us (start h p) r c) : Us q r c :=
  hr.carry hp (J := fun a => Us a r c) (fun _ _ hd ha => hd.us hc ha) h0
theorem Qt.n1 (hp : Qt p k) : (k : Int) + 1 < 1099511627776 := by have := hp.small; omega
theorem Qt.m1 (hp : Qt p k) (r : Bool) : (p.t r).me < 1099511627776 := by have := hp.gi.ps.pi.me r; have := hp.small; omega
/-- A greeting that r said a moment ago. -/
theorem said_ob (hp : Qt p k) {r : Bool} {y : Int} (hm : ((start h p).t r).me = (p.t r).me) (hy : 0 ≤ y ∧ y ≤ 1099511627776) (hb : hel1 y (p.t r).me ∈ (start h p).bag (!r)) (hns : y ≠ ((start h p).t (!r)).me → ¬stl (start h p) r) :
    Ob true (start h p) (!r) ∧ (y ≠ ((start h p).t (!r)).me → Ob false (start h p) r) := by
  have hg : getF (hel1 y (p.t r).me) = some { hel y with fr := (p.t r).me } := getF_putF (hel_ok (hp.gi.ps.pi.ti r).inv.me hy)
  have hX : y ≠ ((start h p).t (!r)).me → hasX (start h p) r := fun hne => ⟨_, hb, _, hg, hm.symm, hne⟩
  refine ⟨?_, fun hne => .inr (.inr (.inl (hX hne)))⟩
  by_cases he : y = ((start h p).t (!r)).me
  · refine .inr (.inl ⟨_, hb, _, hg, rfl, ?_, he⟩)
    rw [Bool.not_not]; exact hm.symm
  · unfold Ob
    rw [Bool.not_not]
    exact .inr (.inr (.inr (.inr ⟨hX he, hns he⟩)))
/-- One with a session greets. -/
theorem Rnd.greet (hr : Rnd h p q) (hp : Qt p k) {r : Bool} (hu : (p.t r).up = true) (hs : (p.t r).sil + 1 < 64) (h8 : ((p.t r).ticks + 1) % 8 = 0) : stl q r ∧ stl q (!r) ∧ (q.t (!r)).sil = 0 := by
  have hst := start_ok h hp.gi hp.quiet
  have hy := (hp.gi.ps.pi.ti r).inv.you
  obtain ⟨_, hc⟩ := tick_cases (hp.gi.li.tl r) hp.n1 (hp.gi.ps.pi.ti r).inv (hp.m1 r)
  rcases hc with ⟨a, _⟩ | ⟨_, a, _⟩ | ⟨_, _, c1, c2, c3, c4, c5, _⟩
  · rw [hu] at a; cases a
  · omega
  · have hm : ((start h p).t r).me = (p.t r).me := by rw [hst.t]; exact c1
    have hyy : ((start h p).t r).you = (p.t r).you := by rw [hst.t]; exact c2
    have huu : ((start h p).t r).up = true := by rw [hst.t]; exact c3
    have hb : hel1 (p.t r).you (p.t r).me ∈ (start h p).bag (!r) := hst.mem (!r) _ (by rw [Bool.not_not]; exact c5 h8)
    have hns : (p.t r).you ≠ ((start h p).t (!r)).me → ¬stl (start h p) r := fun hne hs => hne (hyy.symm.trans hs.2)
    obtain ⟨o1, o2⟩ := said_ob hp hm hy hb hns
    obtain ⟨g1, g2⟩ := hr.ob hp o1
    refine ⟨?_, g1, g2 rfl⟩
    by_cases he : (p.t r).you = ((start h p).t (!r)).me
    · exact (hr.ob hp (z := false) (.inl ⟨⟨huu, hyy.trans he⟩, fun e => by cases e⟩)).1
    · exact (hr.ob hp (o2 he)).1
/-- Silence grows by one at most. -/
theorem Rnd.us1 (hr : Rnd h p q) (hp : Qt p k) {r : Bool} {c : Int} (hu : Us p r c) (hc : 0 ≤ c ∧ c + 1 < 64) : Us q r (c + 1) := by
  have hst := start_ok h hp.gi hp.quiet
  obtain ⟨_, hcs⟩ := tick_cases (hp.gi.li.tl r) hp.n1 (hp.gi.ps.pi.ti r).inv (hp.m1 r)
  have h2 := hu.2
  rcases hcs with ⟨a, _⟩ | ⟨_, a, _⟩ | ⟨_, _, c1, c2, c3, c4, _⟩
  · rw [hu.1] at a; cases a
  · omega
  · refine hr.us hp (by omega) ⟨by rw [hst.t]; exact c3, ?_⟩
    rw [hst.t]
    show (p.t r).tick.sil ≤ _
    omega
/-- One without a session greets. -/
theorem Rnd.down (hr : Rnd h p q) (hp : Qt p k) {r : Bool} (hu : (p.t r).up = false) (hy : 0 < (p.t r).you) (h4 : ((p.t r).ticks + 1) % 4 = 0) : Us q (!r) 0 := by
  have hst := start_ok h hp.gi hp.quiet
  have hyi := (hp.gi.ps.pi.ti r).inv.you
  obtain ⟨_, hc⟩ := tick_cases (hp.gi.li.tl r) hp.n1 (hp.gi.ps.pi.ti r).inv (hp.m1 r)
  rcases hc with ⟨_, c1, c2, c3, c4⟩ | ⟨a, _⟩ | ⟨a, _⟩
  · have hm : ((start h p).t r).me = (p.t r).me := by rw [hst.t]; exact c1
    have hb : hel1 (p.t r).you (p.t r).me ∈ (start h p).bag (!r) := hst.mem (!r) _ (by rw [Bool.not_not]; exact c4 hy h4)
    have hns : (p.t r).you ≠ ((start h p).t (!r)).me → ¬stl (start h p) r := fun _ hs => by
      have := hs.1
      rw [hst.t] at this
      have this : (p.t r).tick.up = true := this
      rw [c3] at this; cases this
    obtain ⟨g1, g2⟩ := hr.ob hp (said_ob hp hm hyi hb hns).1
    exact ⟨g1.1, by rw [g2 rfl]; exact Int.le_refl _⟩
  · rw [hu] at a; cases a
  · rw [hu] at a; cases a
/-- No session, but the other one is known. -/
def D0 (p : Pr) (r : Bool) : Prop := (p.t r).up = false ∧ 1 ≤ (p.t r).you
theorem Dl.d0 {a b : Pr} {s : Bool} {d : List UInt8} {l : Rows8} {f : Fm} (hd : Dl a b s d l f) {r : Bool} (h0 : D0 a r ∨ Us a r 0) : D0 b r ∨ Us b r 0 := by
  rcases h0 with ⟨h1, h2⟩ | h0
  · obtain ⟨_, _, _, w3, w4, _⟩ := hd.who
    rcases bool_cases s r with rfl | rfl
    · cases hu : (b.t r).up with
      | true =>
        rcases w3 hu with w3 | w3
        · rw [h1] at w3; cases w3
        · exact .inr ⟨hu, by rw [w3]; exact Int.le_refl _⟩
      | false =>
        rcases w4 with w4 | w4
        · exact .inl ⟨hu, by rw [w4]; exact h2⟩
        · rw [hu] at w4; cases w4
    · left
      unfold D0
      rw [hd.tO]
      exact ⟨h1, h2⟩
  · exact .inr (hd.us (Int.le_refl _) h0)
theorem Rnd.stay (hr : Rnd h p q) (hp : Qt p k) {r : Bool} (h0 : D0 p r) : D0 q r ∨ Us q r 0 := by
  have hst := start_ok h hp.gi hp.quiet
  refine hr.carry hp (J := fun a => D0 a r ∨ Us a r 0) (fun _ _ hd ha => hd.d0 ha) (.inl ?_)
  obtain ⟨_, hc⟩ := tick_cases (hp.gi.li.tl r) hp.n1 (hp.gi.ps.pi.ti r).inv (hp.m1 r)
  rcases hc with ⟨_, c1, c2, c3, _⟩ | ⟨a, _⟩ | ⟨a, _⟩
  · exact ⟨by rw [hst.t]; exact c3, by rw [hst.t]; show 1 ≤ (p.t r).tick.you; rw [c2]; exact h0.2⟩
  · rw [h0.1] at a; cases a
  · rw [h0.1] at a; cases a
/-- A round in which the first one is told of the other one. -/
theorem Rnd.hinted (hr : Rnd true p q) (hp : Qt p k) : Us q true 0 ∨ D0 q false ∨ Us q false 0 := by
  have hst := start_ok true hp.gi hp.quiet
  have hyo := (hp.gi.li.sd false).you
  obtain ⟨_, hc⟩ := tick_cases (hp.gi.li.tl false) hp.n1 (hp.gi.ps.pi.ti false).inv (hp.m1 false)
  have fine : (p.t false).tick.me = (p.t false).me → (p.t false).tick.you = (p.t false).you → Us q true 0 := by
    intro c1 c2
    have hm : ((start true p).t false).me = (p.t false).me := by rw [hst.t]; exact c1
    have hns : (p.t true).me ≠ ((start true p).t (!false)).me → ¬stl (start true p) false := fun hne hs => by
      have h2 := hs.2
      rw [hst.t, hst.t] at h2
      rw [hst.t] at hne
      have h2 : (p.t false).tick.you = (p.t true).tick.me := h2
      have hne : (p.t true).me ≠ (p.t true).tick.me := hne
      have hyo : (p.t false).you ≤ (p.t true).me := hyo
      obtain ⟨_, hc1⟩ := tick_cases (hp.gi.li.tl true) hp.n1 (hp.gi.ps.pi.ti true).inv (hp.m1 true)
      rcases hc1 with ⟨_, e, _⟩ | ⟨_, _, e, _⟩ | ⟨_, _, e, _⟩
      · exact hne e.symm
      · omega
      · exact hne e.symm
    have hmi := (hp.gi.ps.pi.ti true).inv.me
    obtain ⟨g1, g2⟩ := hr.ob hp (said_ob (r := false) hp hm (y := (p.t true).me) (by omega) (hst.hint rfl) hns).1
    exact ⟨g1.1, Int.le_of_eq (g2 rfl)⟩
  rcases hc with ⟨_, c1, c2, _⟩ | ⟨hu, _, c1, c2, c3⟩ | ⟨_, _, c1, c2, _⟩
  · exact .inl (fine c1 c2)
  · right
    refine hr.carry hp (J := fun a => D0 a false ∨ Us a false 0) (fun _ _ hd ha => hd.d0 ha) (.inl ?_)
    exact ⟨by rw [hst.t]; exact c3, by rw [hst.t]; show 1 ≤ (p.t false).tick.you; rw [c2]; exact (hp.gi.li.tl false).upy hu⟩
  · exact .inl (fine c1 c2)
/-- Both are in the session, and not silent. -/
def Ss (p : Pr) : Prop := ∀ r, stl p r ∧ (p.t r).sil ≤ 24 + (p.t (!r)).ticks % 8
theorem Ss.tick (hp : Qt p k) (hs : Ss p) (h : Bool) (r : Bool) : ((start h p).t r).me = (p.t r).me ∧ ((start h p).t r).you = (p.t r).you ∧ ((start h p).t r).up = true ∧ ((start h p).t r).sil = (p.t r).sil + 1 ∧ ((start h p).t r).way = older (p.t r).way ∧
    (((p.t r).ticks + 1) % 8 = 0 → hel1 (p.t r).you (p.t r).me ∈ (start h p).bag (!r)) ∧ ∀ x ∈ (p.t r).way, (x.2.2 + 1) % 4 = 0 → (putF ⟨2, (p.t r).me, (p.t r).you, x.1, 0, 0, x.2.1⟩).1 ∈ (start h p).bag (!r) := by
  have hst := start_ok h hp.gi hp.quiet
  obtain ⟨h1, h2⟩ := hs r
  obtain ⟨_, hc⟩ := tick_cases (hp.gi.li.tl r) hp.n1 (hp.gi.ps.pi.ti r).inv (hp.m1 r)
  rcases hc with ⟨a, _⟩ | ⟨_, a, _⟩ | ⟨_, _, c1, c2, c3, c4, c5, c6, c7⟩
  · rw [h1.1] at a; cases a
  · omega
  · rw [hst.t]
    exact ⟨c1, c2, c3, c4, c6, fun h8 => hst.mem (!r) _ (by rw [Bool.not_not]; exact c5 h8), fun x hx h4 => hst.mem (!r) _ (by rw [Bool.not_not]; exact c7 x hx h4)⟩
theorem Ss.start (hp : Qt p k) (hs : Ss p) (h : Bool) (r : Bool) : stl (start h p) r := by
  obtain ⟨_, c2, c3, _⟩ := hs.tick hp h r
  obtain ⟨d1, _⟩ := hs.tick hp h (!r)
  exact ⟨c3, by rw [c2, d1]; exact (hs r).1.2⟩
theorem Rnd.ss (hr : Rnd h p q) (hp : Qt p k) (hs : Ss p) : Ss q := by
  intro r
  have h1 := hs.start hp h r
  have hq : stl q r := hr.carry hp (J := fun a => stl a r) (fun _ _ hd ha => hd.settled ha) h1
  refine ⟨hq, ?_⟩
  rw [hr.ticks hp]
  obtain ⟨_, c2, c3, c4, _⟩ := hs.tick hp h r
  have hsl := (hs r).2
  by_cases h8 : ((p.t (!r)).ticks + 1) % 8 = 0
  · obtain ⟨d1, d2, _, _, _, d6, _⟩ := hs.tick hp h (!r)
    have hb := d6 h8
    rw [Bool.not_not] at hb
    have hgo : getF (hel1 (p.t (!r)).you (p.t (!r)).me) = some { hel (p.t (!r)).you with fr := (p.t (!r)).me } := getF_putF (hel_ok (hp.gi.ps.pi.ti (!r)).inv.me (hp.gi.ps.pi.ti (!r)).inv.you)
    have hyo := (hs (!r)).1.2
    rw [Bool.not_not] at hyo
    have hme := (hs.tick hp h r).1
    obtain ⟨_, g2⟩ := hr.ob hp (z := true) (r := r) (.inr (.inl ⟨_, hb, _, hgo, rfl, d1.symm, hyo.trans hme.symm⟩))
    rw [g2 rfl]
    have := Int.emod_nonneg ((p.t (!r)).ticks + 1) (b := 8) (by decide)
    omega
  · have hi := (hp.gi.ps.pi.ti r).inv.sil
    have hu := hr.us hp (r := r) (c := (p.t r).sil + 1) (by omega) ⟨c3, by rw [c4]; exact Int.le_refl _⟩
    have := hu.2
    omega
/-- What is left on the way is some ticks behind its fourth one. -/
def Fj (p : Pr) (j : Nat) : Prop := ∀ s, ∀ x ∈ (p.t s).way, (j : Int) ≤ x.2.2 % 4
theorem Rnd.flush (hr : Rnd h p q) (hp : Qt p k) (hs : Ss p) {j : Nat} (hj : Fj p j) : Fj q (j + 1) := by
  intro s
  have h0 : Fl4 (start h p) s ((j + 1 : Nat) : Int) := by
    intro x hx
    obtain ⟨c1, c2, _, _, c5, _, c7⟩ := hs.tick hp h s
    obtain ⟨d1, _⟩ := hs.tick hp h (!s)
    rw [c5] at hx
    obtain ⟨y, hy, rfl⟩ := List.mem_map.1 hx
    have ha := (hp.gi.li.tl s).age y hy
    have ht := (hp.gi.li.tl s).ticks
    have hw := (hp.gi.li.tl s).win y hy
    have hn := (hp.gi.li.tl s).nx
    have hk := hp.small
    have e2 : wr (y.2.2 + 1) = y.2.2 + 1 := by rw [wr, IntKind.wrap_i64]; omega
    have hjy := hj s y hy
    by_cases h4 : (y.2.2 + 1) % 4 = 0
    · right; left
      have hi := (hp.gi.ps.pi.ti s).inv
      have hok : (⟨2, (p.t s).me, (p.t s).you, y.1, 0, 0, y.2.1⟩ : Fm).ok := ⟨hi.me, hi.you, .inr (.inl ⟨rfl, by show 1 ≤ y.1 ∧ y.1 ≤ _; omega, rfl, rfl, hi.way y hy⟩)⟩
      refine ⟨_, c7 y hy h4, _, getF_putF hok, rfl, c1.symm, ?_, rfl⟩
      rw [d1]
      exact (hs s).1.2
    · left
      show ((j + 1 : Nat) : Int) ≤ wr (y.2.2 + 1) % 4
      rw [e2]
      omega
  have h1 : Fl4 q s ((j + 1 : Nat) : Int) ∧ stl q s ∧ stl q (!s) := hr.carry hp (J := fun a => Fl4 a s ((j + 1 : Nat) : Int) ∧ stl a s ∧ stl a (!s)) (fun hg hm hd ha => ⟨hd.fl4 hg hm ha.2.1 ha.2.2 ha.1, hd.settled ha.2.1, hd.settled ha.2.2⟩) ⟨h0, hs.start hp h s, hs.start hp h (!s)⟩
  exact fl4_end h1.1 hr.2
/-- How far they are ahead of round i. -/
def Stage (i : Nat) (p : Pr) : Prop :=
  i ≤ 20 ∨ (∃ n : Nat, D0 p false ∧ ((p.t false).ticks + n) % 4 = 0 ∧ 1 ≤ n ∧ i + n ≤ 25) ∨
  (∃ (r : Bool) (n c : Nat), Us p r c ∧ ((p.t r).ticks + n) % 8 = 0 ∧ 1 ≤ n ∧ i + n ≤ 34 ∧ c + n ≤ 20) ∨
  (Ss p ∧ Fj p (i - 34))
theorem next4 (t : Int) : ∃ n : Nat, (t + n) % 4 = 0 ∧ 1 ≤ n ∧ n ≤ 4 := ⟨(4 - t % 4).toNat, by omega, by omega, by omega⟩
theorem next8 (t : Int) : ∃ n : Nat, (t + n) % 8 = 0 ∧ 1 ≤ n ∧ n ≤ 8 := ⟨(8 - t % 8).toNat, by omega, by omega, by omega⟩
theorem stage_us {i : Nat} (hi : i ≤ 25) {r : Bool} (hu : Us p r 0) : Stage i p := by
  obtain ⟨n, h1, h2, h3⟩ := next8 (p.t r).ticks
  exact .inr (.inr (.inl ⟨r, n, 0, hu, h1, h2, by omega, by omega⟩))
theorem Stage.next {i : Nat} (hs : Stage i p) (hr : Rnd h p q) (hp : Qt p k) (hh : i = 20 → h = true) : Stage (i + 1) q := by
  rcases hs with hi | ⟨n, hd, h4, hn, hin⟩ | ⟨r, n, c, hu, h8, hn, hin, hcn⟩ | ⟨h1, h2⟩
  · by_cases h20 : i = 20
    · have := hh h20
      subst this
      rcases hr.hinted hp with h1 | h1 | h1
      · exact stage_us (by omega) h1
      · obtain ⟨n, e1, e2, e3⟩ := next4 (q.t false).ticks
        exact .inr (.inl ⟨n, h1, e1, e2, by omega⟩)
      · exact stage_us (by omega) h1
    · exact .inl (by omega)
  · by_cases h1 : n = 1
    · subst h1
      exact stage_us (r := true) (by omega) (hr.down hp hd.1 (by have := hd.2; omega) h4)
    · rcases hr.stay hp hd with h2 | h2
      · refine .inr (.inl ⟨n - 1, h2, ?_, by omega, by omega⟩)
        rw [hr.ticks hp]
        omega
      · exact stage_us (by omega) h2
  · have hu1 := hr.us1 hp hu (by omega)
    by_cases h1 : n = 1
    · subst h1
      have hsl := hu.2
      obtain ⟨g1, g2, g3⟩ := hr.greet hp hu.1 (by omega) h8
      refine .inr (.inr (.inr ⟨fun s => ?_, ?_⟩))
      · rcases bool_cases r s with rfl | rfl
        · refine ⟨g1, ?_⟩
          have := hu1.2
          have := Int.emod_nonneg (q.t (!s)).ticks (b := 8) (by decide)
          omega
        · refine ⟨g2, ?_⟩
          rw [g3]
          have := Int.emod_nonneg (q.t (!(!r))).ticks (b := 8) (by decide)
          omega
      · have e : i + 1 - 34 = 0 := by omega
        rw [e]
        intro s x hx
        exact Int.emod_nonneg _ (by decide)
    · refine .inr (.inr (.inl ⟨r, n - 1, c + 1, ⟨hu1.1, ?_⟩, ?_, by omega, by omega, by omega⟩))
      · have := hu1.2
        omega
      · rw [hr.ticks hp]
        omega
  · refine .inr (.inr (.inr ⟨hr.ss hp h1, ?_⟩))
    have h3 := hr.flush hp h1 h2
    by_cases hi : i < 34
    · have e : i + 1 - 34 = 0 := by omega
      rw [e]
      intro s x hx
      exact Int.emod_nonneg _ (by decide)
    · have e : i + 1 - 34 = i - 34 + 1 := by omega
      rw [e]; exact h3
/-- Behind a hundred rounds. -/
theorem Stage.done {i : Nat} (hi : 40 ≤ i) (hs : Stage i p) (hg : GI p k) : ∀ s, stl p s ∧ (p.t s).way = [] ∧ (p.t s).queue = [] ∧ p.told ((p.t s).me, (p.t s).you, sideI (!s)) = p.sent ((p.t s).me, (p.t s).you, sideI (!s)) := by
  rcases hs with hi | ⟨n, _, _, _, hin⟩ | ⟨r, n, c, _, _, _, hin, _⟩ | ⟨h1, h2⟩
  · omega
  · omega
  · omega
  · intro s
    have hst := (h1 s).1
    have hsto := (h1 (!s)).1
    have hw : (p.t s).way = [] := by
      cases hw : (p.t s).way with
      | nil => rfl
      | cons x l =>
        have h3 := h2 s x (by rw [hw]; exact List.mem_cons_self ..)
        have h4 : x.2.2 % 4 < 4 := Int.emod_lt_of_pos _ (by decide)
        omega
    obtain ⟨g1, g2⟩ := all_came hg hst hw
    refine ⟨hst, hw, g2, ?_⟩
    have hn := ((hg.ps.pi.ti s).snd hst.1).next
    rw [g2] at hn
    have ho := ((hg.ps.pi.ti (!s)).rcv hsto.1).told
    have e1 := hsto.2
    rw [Bool.not_not] at e1
    have e2 := hst.2
    rw [e1, ← e2] at ho
    rw [ho, List.take_of_length_le]
    simp only [List.length_nil] at hn
    omega
end
end Go.Fl
namespace Go.Proofs.YtmhibpcbdbhfoaaDoor
open Go.RowKit Go.Fl

section
variable {w w' w0 : World} {gp : Nat} {p : Pr} {k : Nat}
/-- A pair, all of it newer than a first world; what holds of it. -/
structure Own3 (w0 w : World) (gp : Nat) (p : Pr) (k : Nat) : Prop where
  ex : ∃ tag y, PairW w (fun _ => False) tag gp p y ∧ ∀ k, tag k ≠ .none → w0.heap.size ≤ k
  base : Fr w0 w
  gi : GI p k
theorem Own3.fr (h : Own3 w0 w gp p k) (hf : Fr w w') : Own3 w0 w' gp p k := by
  obtain ⟨tag, y, h1, h2⟩ := h.ex
  exact ⟨⟨tag, y, h1.fr hf, h2⟩, h.base.trans hf, h.gi⟩
theorem Own3.does (h : Own3 w0 w gp p k) (hk : k ≤ 800000) {e : ActE} (hb : Bs w0 e.1.2.2.2.1 e.2) :
    cl Tryd.prog n_flumelaw12_pair_does #[.pointer (some ⟨gp, 0, none⟩), (Kd.av k_flumelaw12_Act e.1).val] .B w fun (r : Bool) w' => r = true ∧ Own3 w0 w' gp (p.does (pact e)).1 (k + 1) := by
  obtain ⟨tag, y, h1, h2⟩ := h.ex
  have hg := h.gi.does (by omega) (pact e)
  refine (does_ok h1 h.gi.ps (by omega) (by omega) (by omega) (cb_old hb h.base fun k hk => ?_)).mono ?_
  · rcases hk with hk | hk
    · exact hk.elim
    · exact h2 k hk
  · rintro r w' ⟨rfl, tag', y', q1, q2, q3⟩
    refine ⟨hg.1, ⟨tag', y', q1, fun k hk => ?_⟩, Mv.on h.base q2 h2, hg.2⟩
    rcases q3 k hk with h3 | h3
    · exact h2 k h3
    · exact Nat.le_trans h.base.size h3
theorem pact_hint : pact ((8, 0, 0, ⟨none, 0, 0⟩, false, ()), []) = hintA := rfl
theorem pact_tick0 : pact ((4, 0, 0, ⟨none, 0, 0⟩, false, ()), []) = tickA false := rfl
theorem pact_tick1 : pact ((4, 1, 0, ⟨none, 0, 0⟩, false, ()), []) = tickA true := rfl
theorem pact_dl0 : pact ((0, 0, 0, ⟨none, 0, 0⟩, false, ()), []) = ⟨0, false, 0, [], false⟩ := rfl
theorem pact_dl1 : pact ((0, 1, 0, ⟨none, 0, 0⟩, false, ()), []) = ⟨0, true, 0, [], false⟩ := rfl
theorem Own3.act (h : Own3 w0 w gp p k) (hk : k ≤ 800000) (op sd : Int) {K : Bool → World → Prop} (hK : ∀ w', Own3 w0 w' gp (p.does (pact ((op, sd, 0, ⟨none, 0, 0⟩, false, ()), []))).1 (k + 1) → K true w') :
    cl Tryd.prog n_flumelaw12_pair_does #[.pointer (some ⟨gp, 0, none⟩), (Kd.av k_flumelaw12_Act (op, (sd, (0, (⟨none, 0, 0⟩, (false, ())))))).val] .B w K := by
  refine (h.does hk (e := ((op, sd, 0, ⟨none, 0, 0⟩, false, ()), [])) (Bs.nil _ _)).mono ?_
  rintro r w' ⟨rfl, h1⟩
  exact hK w' h1
set_option maxRecDepth 8000 in
/-- What was sent and what was told in a session, looked up. -/
theorem PairW.maps {G : Nat → Prop} {tag : Nat → Tag} {y : PShp} (h : PairW w G tag gp p y) {key : Key3} (hl : (p.sent key).length ≤ 1000000) {g : Nat} {tt : TypeId} (hg : w.heap[g]? = some (.cells ([.int .i64 key.1, .int .i64 key.2.1, .int .i64 key.2.2] : List Value).toArray tt (0, 0))) {K : Bool → World → Prop} (hK : K (decide (p.sent key = p.told key)) w) :
    nz (some ⟨gp, 0, none⟩) fun a113 => ld .M w (a113.add 4) fun (x114 : Option Nat) => ld (.row 3) w ⟨g, 0, none⟩ fun (x115 : {l : List Value // l.length = 3}) => qn Tryd.prog (Instr.lookup t_map_3_int_s_s_uint8 (.map x114) (.agg (x115.1).toArray) false) .L w fun (x116 : Sl) => nz (some ⟨gp, 0, none⟩) fun a117 => ld .M w (a117.add 5) fun (x118 : Option Nat) => ld (.row 3) w ⟨g, 0, none⟩ fun (x119 : {l : List Value // l.length = 3}) => qn Tryd.prog (Instr.lookup t_map_3_int_s_s_uint8 (.map x118) (.agg (x119.1).toArray) false) .L w fun (x120 : Sl) => cl Tryd.prog n_flumelaw12_rows #[.slice x116.a x116.n x116.c, .slice x120.a x120.n x120.c] .B w K := by
  have hkey : (Value.agg ([.int .i64 key.1, .int .i64 key.2.1, .int .i64 key.2.2] : List Value).toArray) = key3 key := rfl
  obtain ⟨xs, hss, s1, s2, s3, s4⟩ := h.sent.get key
  obtain ⟨xt, hst, t1, t2, t3, t4⟩ := h.told.get key
  refine nzS ?_
  rw [addOff]
  refine ldM0 h.cells rfl (ldR0 hg rfl ?_)
  dsimp only
  rw [hkey]
  refine qnM keyM3 u_map_3_int_s_s_uint8 zI (kd := .L) (ok := false) h.sent.map.mapF key xs (by exact s1) (nzS ?_)
  rw [addOff]
  refine ldM0 h.cells rfl (ldR0 hg rfl ?_)
  dsimp only
  rw [hkey]
  refine qnM keyM3 u_map_3_int_s_s_uint8 zI (kd := .L) (ok := false) h.told.map.mapF key xt (by exact t1) ?_
  refine (rows_ok s2.rd s2.len (s3.mono fun _ _ _ _ hc => hc.bs) t2.rd t2.len (t3.mono fun _ _ _ _ hc => hc.bs) (by omega)).mono ?_
  rintro r _ ⟨rfl, rfl⟩
  exact hK
end
set_option maxRecDepth 100000 in
theorem TunnelSettles_law {H : Type} {enc : TypeId × Value → H} {w : World} {b0 : Nat} {v0 : Value} {d0 : DataW H} {p0 : List MemPlace} (hd : Crc w)
    (o0 : Value.okWide Tryd.prog w .any b0 t_s_flumelaw12_Act v0) (h0 : DataW.Trod enc Tryd.prog w 0 (fun _ => true) true t_s_flumelaw12_Act v0 d0 p0) :
    Calls Tryd.prog n_flumelaw12_TunnelSettles #[v0] w fun e w' => e = .returned (.bool true) ∧ Below w.heap.size w w' := by
  refine lawE ?_
  obtain ⟨s, xs, rfl, hsl, hsr, hin⟩ := act_in o0 h0
  refine flumelaw12_TunnelSettles.cl (p0 := s) ?_
  unfold flumelaw12_TunnelSettles
  refine (few_ok hsl hsr).mono ?_
  rintro sh w2 ⟨hsh, hf2⟩
  cases sh with
  | false => exact bT rfl (awake_law hd hf2)
  | true =>
  refine bF rfl ?_
  have h400 := hsh rfl
  refine (begun2 hd hf2).mono ?_
  rintro r w6 ⟨gp, rfl, hp0⟩
  have hp0 : Own3 w w6 gp pr0 0 := ⟨hp0.ex, hp0.base, gi0⟩
  -- the acts
  refine lpI (fun (s' : Int × Unit) v => ∃ (i : Nat) (p : Pr), i ≤ xs.length ∧ s'.1 = i ∧ Own3 w v gp p i) (fun s' _ => (s.n - s'.1).toNat) ⟨0, pr0, Nat.zero_le _, rfl, hp0⟩ ?_
  rintro D ⟨i', ⟨⟩⟩ v ⟨i, p, hi, rfl, hp⟩
  dsimp -zeta only
  refine bD ?_ ?_ <;> intro hlt
  · have hi1 : i < xs.length := by omega
    refine ixE (f := actC) (sz := 5) (fun _ => rfl) (hsr.below hp.base) hsl hi1 (by decide) fun ad hcell => ?_
    refine ldAt k_flumelaw12_Act xs[i].1 rfl hcell ?_
    refine nwI fun a13 w14 ha13 hs14 hf14 hb14 _ => ?_
    refine stW (Kd.av k_flumelaw12_Act xs[i].1) rfl hb14 rfl fun w15 hb15 hg15 hs15 => ?_
    have hf15 : Fr v w15 := hf14.on (grown_below hg15 (show v.heap.size ≤ a13 by omega) hf14.size)
    refine ldW (k := k_flumelaw12_Act) (x := xs[i].1) hb15 rfl ?_
    refine ((hp.fr hf15).does (by omega) (hin xs[i] (List.getElem_mem hi1)).b).mono ?_
    rintro x w18 ⟨rfl, hp1⟩
    refine bF rfl ?_
    rw [i64w (n := (i : Int) + 1) (by omega) (by omega)]
    exact ⟨⟨i + 1, _, by omega, rfl, hp1⟩, by omega⟩
  -- the rounds
  have hi400 : i ≤ 400 := by omega
  clear hlt hi hp0
  refine lpI (fun (s' : Int × Unit) u => ∃ (j k : Nat) (p : Pr), j ≤ 100 ∧ s'.1 = j ∧ Own3 w u gp p k ∧ k ≤ 400 + 1600 * j ∧ (1 ≤ j → ∀ r, p.bag r = []) ∧ Stage j p) (fun s' _ => (100 - s'.1).toNat) ⟨0, i, p, by omega, rfl, hp, by omega, fun h => by omega, .inl (by omega)⟩ ?_
  clear hp p hi400 i
  rintro D2 ⟨j', ⟨⟩⟩ u ⟨j, k, p, hj, rfl, hp, hk, hquiet, hstage⟩
  dsimp -zeta only
  refine bD ?_ ?_ <;> intro hlt
  · have hj1 : j < 100 := by omega
    intro j2
    -- behind the hint
    have J2 : ∀ (h : Bool) (u1 : World) (k1 : Nat), (j = 20 → h = true) → k1 ≤ k + 1 → Own3 w u1 gp (if h then (p.does hintA).1 else p) k1 → j2 u1 := by
      intro h u1 k1 hh hk1 hp1
      unfold j2
      refine hp1.act (by omega) 4 0 fun u2 hp2 => ?_
      rw [pact_tick0] at hp2
      refine hp2.act (by omega) 4 1 fun u3 hp3 => ?_
      rw [pact_tick1] at hp3
      have hp3 : Own3 w u3 gp (Go.Fl.start h p) (k1 + 1 + 1) := hp3
      refine lpI (fun (s' : Int × Unit) v => ∃ (n : Nat) (q : Pr), s'.1 = n ∧ Dr (Go.Fl.start h p) n q ∧ Own3 w v gp q (k1 + 1 + 1 + n)) (fun s' _ => (1600 - s'.1).toNat) ⟨0, Go.Fl.start h p, rfl, Dr.refl, hp3⟩ ?_
      rintro D3 ⟨n', ⟨⟩⟩ v ⟨n, q, rfl, hdr, hq⟩
      dsimp -zeta only
      have hn := hdr.few hp3.gi (by omega)
      obtain ⟨tag, y, hw, hnew⟩ := hq.ex
      obtain ⟨a1, a2, _⟩ := hw.bag false
      obtain ⟨b1, b2, _⟩ := hw.bag true
      have al : (y.bag false).n = (q.bag false).length := by rw [a1.len, a2.length]
      have bl : (y.bag true).n = (q.bag true).length := by rw [b1.len, b2.length]
      have l1 := hq.gi.ps.bag false
      have l2 := hq.gi.ps.bag true
      refine nzS (hw.bagp (i := 0) (s := false) rfl (nzS (hw.bagp (i := 1) (s := true) rfl ?_)))
      intro dn
      have hfn := Fr.drewN v dn
      generalize v.drewN dn = v2 at *
      have hq2 := hq.fr hfn
      have hw2 := hw.fr hfn
      refine bD ?_ ?_ <;> intro hpos
      · rw [IntKind.wrap_i64] at hpos
        intro j3
        have J3 : ∀ (sd : Int) (sb : Bool), pact ((0, sd, 0, ⟨none, 0, 0⟩, false, ()), []) = ⟨0, sb, 0, [], false⟩ → q.bag sb ≠ [] → j3 sd v2 := by
          intro sd sb he hne
          unfold j3
          refine bF (decide_eq_false (by omega)) ?_
          refine hq2.act (by omega) 0 sd fun v3 hq3 => ?_
          rw [he] at hq3
          have hq3 : Own3 w v3 gp (dl q sb) (k1 + 1 + 1 + n + 1) := hq3
          refine bF rfl ?_
          have hdr2 := Dr.step sb hdr hne
          have hn2 := hdr2.few hp3.gi (by omega)
          rw [i64w (n := (n : Int) + 1) (by omega) (by omega)]
          exact ⟨⟨n + 1, _, rfl, hdr2, hq3⟩, by omega⟩
        clear_value j3
        refine nzS (hw2.bagp (i := 0) (s := false) rfl ?_)
        refine bE ?_ ?_ <;> intro h00
        · exact J3 1 true pact_dl1 fun e => by rw [e] at bl; simp at bl; omega
        · exact J3 0 false pact_dl0 fun e => by rw [e] at al; simp at al; omega
      · rw [IntKind.wrap_i64] at hpos
        have hemp : ∀ r, q.bag r = [] := fun r => by
          cases r
          · exact List.eq_nil_of_length_eq_zero (by omega)
          · exact List.eq_nil_of_length_eq_zero (by omega)
        rw [i64w (n := (j : Int) + 1) (by omega) (by omega)]
        refine ⟨⟨j + 1, k1 + 1 + 1 + n, q, by omega, rfl, hq2, by omega, fun _ => hemp, ?_⟩, by omega⟩
        by_cases hj0 : j = 0
        · exact .inl (by omega)
        · exact hstage.next (h := h) ⟨⟨n, hdr⟩, hemp⟩ ⟨hp.gi, hquiet (by omega), by omega⟩ hh
    clear_value j2
    have htm : Int.tmod (j : Int) 20 = ((j % 20 : Nat) : Int) := (Int.ofNat_tmod _ _).symm
    rw [htm]
    refine bE ?_ ?_ <;> intro h20
    · refine hp.act (by omega) 8 0 fun u1 hp1 => ?_
      rw [pact_hint] at hp1
      exact J2 true u1 (k + 1) (fun _ => rfl) (by omega) hp1
    · exact J2 false u k (fun e => by subst e; exact absurd rfl h20) (by omega) hp
  -- both are there
  have hdone := hstage.done (by omega) hp.gi
  obtain ⟨tag, y, hw, hnew⟩ := hp.ex
  have ti := hp.gi.ps.pi.ti
  have hme : ∀ s, 1 ≤ (p.t s).me := fun s => (ti s).inv.me.1
  have hwait : ∀ s, (p.t s).waiting = 0 := fun s => by
    obtain ⟨_, e1, e2, _⟩ := hdone s
    rw [waiting_eq (ti s).inv, e1, e2]; rfl
  refine nzS (hw.ptr (i := 0) (s := false) rfl (nzS (hw.ptr (i := 1) (s := true) rfl ?_)))
  intro dn
  have hfn := Fr.drewN u dn
  generalize u.drewN dn = u2 at *
  have hw2 := hw.fr hfn
  have ta := hw2.tun false
  have tb := hw2.tun true
  have d0 := (hdone false).1
  have d1 := (hdone true).1
  refine (tUp_ok ta (hme _)).mono ?_
  rintro _ _ ⟨rfl, rfl⟩
  refine bF (by rw [d0.1]; rfl) ?_
  refine (tUp_ok tb (hme _)).mono ?_
  rintro _ _ ⟨rfl, rfl⟩
  refine bF (by rw [d1.1]; rfl) ?_
  refine (tYou_ok ta (hme _)).mono ?_
  rintro _ _ ⟨rfl, rfl⟩
  refine (tMe_ok tb (hme _)).mono ?_
  rintro _ _ ⟨rfl, rfl⟩
  refine bF (by rw [bne_eq_false_iff_eq]; exact d0.2) ?_
  refine (tYou_ok tb (hme _)).mono ?_
  rintro _ _ ⟨rfl, rfl⟩
  refine (tMe_ok ta (hme _)).mono ?_
  rintro _ _ ⟨rfl, rfl⟩
  refine bF (by rw [bne_eq_false_iff_eq]; exact d1.2) ?_
  refine (tWaiting_ok ta (hme _)).mono ?_
  rintro _ u3 ⟨rfl, hf3⟩
  refine (tWaiting_ok (tb.fr hf3) (hme _)).mono ?_
  rintro _ u4 ⟨rfl, hf4⟩
  refine bF (by rw [hwait, hwait]; decide) (nzS ?_)
  have hfu : Fr u u4 := (hfn.trans hf3).trans hf4
  have hw4 := hw.fr hfu
  have hbase := hp.base
  clear ta tb hw2 hf3 hf4 hfn
  refine hw4.two ?_
  refine lpI (fun (s' : Int × Unit) v => ∃ (n : Nat), n ≤ 2 ∧ s'.1 = n ∧ Fr u4 v) (fun s' _ => (2 - s'.1).toNat) ⟨0, by omega, rfl, Fr.refl _⟩ ?_
  rintro D3 ⟨n', ⟨⟩⟩ v ⟨n, hn, rfl, hfv⟩
  dsimp only
  refine bD ?_ ?_ <;> intro hlt2
  · obtain ⟨sd, hsd, hsd2⟩ : ∃ sd, (n : Int) = sideI sd ∧ IntKind.i64.wrap (1 - (n : Int)) = sideI (!sd) := by
      obtain rfl | rfl : n = 0 ∨ n = 1 := by omega
      · exact ⟨false, rfl, by decide⟩
      · exact ⟨true, rfl, by decide⟩
    refine hw4.twoIx hsd ?_
    have hv := hw4.fr hfv
    have tv := hv.tun sd
    refine (tMe_ok tv (hme _)).mono ?_
    rintro _ _ ⟨rfl, rfl⟩
    refine (tYou_ok tv (hme _)).mono ?_
    rintro _ _ ⟨rfl, rfl⟩
    rw [hsd2]
    refine ⟨⟨[.int .i64 (p.t sd).me, .int .i64 (p.t sd).you, .int .i64 (sideI (!sd))], rfl⟩, fun w' _ => build_three _ _ _ w', ?_⟩
    refine nwI fun g w10 hg hs10 hf10 hb10 _ => ?_
    refine stL_row hb10 (show 0 + 3 ≤ 3 from Nat.le_refl 3) (fun v hv => by simp only [List.mem_cons, List.not_mem_nil, or_false] at hv; rcases hv with rfl | rfl | rfl <;> rfl) fun w11 hb11 hg11 hs11 => ?_
    have hf11 : Fr v w11 := hf10.on (grown_below hg11 (by omega) hf10.size)
    intro dn2
    have hfn2 := Fr.drewN w11 dn2
    have hb12 := hfn2.heap hb11
    have hf12 := hf11.trans hfn2
    generalize w11.drewN dn2 = w12 at *
    have hsl := hp.gi.ps.pi.len ((p.t sd).me, (p.t sd).you, sideI (!sd))
    refine (hv.fr hf12).maps (key := ((p.t sd).me, (p.t sd).you, sideI (!sd))) (by omega) hb12 ?_
    rw [decide_eq_true (hdone sd).2.2.2.symm]
    refine bF rfl ?_
    rw [i64w (n := (n : Int) + 1) (by omega) (by omega)]
    exact ⟨⟨n + 1, by omega, rfl, hfv.trans hf12⟩, by omega⟩
  · exact awake_law hd ((hbase.trans hfu).trans hfv)
end Go.Proofs.YtmhibpcbdbhfoaaDoor
namespace Go.Proofs.YtmhibpcbdbhfoaaDoor
open Go.RowKit Go.Fl

abbrev laid2 : List (String × DataW Unit) := [("flume/sums.nibbles", Rows.laid_flume_sums_nibbles)]
/-- The door's own heap meets the condition. -/
theorem door_met (os : Os) (args : Array Value) : laidMetH Tryd.prog laid2 ((World.doorLaid Tryd.prog 400 os).forCall (fun _ _ => 0) ⟨#[], args, []⟩).memory :=
  laidMetH_of_parts3 (fuel := 8) (laidMet_of_run' 8 (by kernel_rfl) (by kernel_rfl)) (by kernel_rfl) (by kernel_rfl)
theorem glob_of_tab {W : World} {name : String} {zs : List Int} {g : Nat} (h : Lib.TabIs Tryd.prog W name .u32 zs) (hg : Tryd.prog.globalNamed name = some g) : Glob W g zs := fun i hi => by
  rw [h.cell hg i hi, List.getD_eq_getElem?_getD, List.getElem?_eq_getElem hi]
  rfl
def tabTyB (P : Program) (g n : Nat) : Bool := match (P.globals[g]?).map (·.type) with
  | some t => match P.underlying t with
    | some (.array m e) => match P.underlying e with
      | some (.int .u32) => m == n && P.cellsOf e == 1 && P.cellsOf t == n
      | _ => false
    | _ => false
  | none => false
theorem tab_of {P : Program} {W : World} {name : String} {zs : List Int} {rest : List (String × DataW Unit)} {g n : Nat} (hg : P.globalNamed name = some g) (hB : tabTyB P g n = true) (h : laidMet P ((name, Lib.tabData .u32 zs) :: rest) W) : Lib.TabIs P W name .u32 zs := by
  unfold tabTyB at hB
  split at hB
  · rename_i t ht
    split at hB
    · rename_i m e hu
      split at hB
      · rename_i he
        simp only [Bool.and_eq_true, beq_iff_eq] at hB
        obtain ⟨⟨rfl, h1⟩, h2⟩ := hB
        exact Lib.tabIs_of_head hg ht hu he h1 h2 h
      · cases hB
    · cases hB
  · cases hB
theorem dig_of_laid {W : World} (h : laidMetH Tryd.prog laid2 W) : Crc W := by
  rw [MakeChecks.laidMetH_plain _ _ _ (by kernel_rfl)] at h
  have h1 : laidMet Tryd.prog (("flume/sums.nibbles", Lib.tabData .u32 Nib) :: []) W := h
  exact glob_of_tab (tab_of (g := g_sums_nibbles) (n := 16) (by kernel_rfl) (by kernel_rfl) h1) (by kernel_rfl)
end Go.Proofs.YtmhibpcbdbhfoaaDoor
