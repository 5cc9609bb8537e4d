/- 'vc' of code: regions that draw their order, branches, loops; that it suffices for a call. -/
import Derived.Test.YtkojpppnjloikaaDoorFlVr
import Derived.Deep.LoopGhost
namespace Go.Fl
open Go.RowKit

/-- The operations of a region that draws its order, none of which writes. -/
def qVC (P : Program) (all : List Oper) (Q : List AV → Prop) : List Oper → List AV → World → Prop
  | [], E, _ => Q E
  | o :: rest, E, w =>
    let go (E : List AV) : Prop := match o.op with
      | .call c => match c.callee, c.args.toList with
        | .value (.func f), args => bif !hasBody P f then False else qcl P f (args.map fun x => (rd E x).val).toArray (kdOf P 12 o.type) w fun x => qVC P all Q rest (putE E o.dst ((kdOf P 12 o.type).av x)) w
        | _, _ => pureVC P E o (fun v => qVC P all Q rest (putE E o.dst v) w) w
      | _ => pureVC P E o (fun v => qVC P all Q rest (putE E o.dst v) w) w
    match o.guard with
    | none => go E
    | some (j, want) => match guardVal all E j with
      | some (d, .v (.bool b)) =>
        bif b then (match want with | true => go (E.set d (.v (.bool true))) | false => qVC P all Q rest (putE (E.set d (.v (.bool true))) o.dst (.v undef)) w)
        else (match want with | true => qVC P all Q rest (putE (E.set d (.v (.bool false))) o.dst (.v undef)) w | false => go (E.set d (.v (.bool false))))
      | some (_d, .v (.tuple ⟨[]⟩)) => qVC P all Q rest (putE E o.dst (.v undef)) w
      | _ => False

theorem q_sound {P : Program} {all : List Oper} {Q : List AV → Prop} {w : World} : ∀ {l : List Oper} {E : List AV}, (∀ o ∈ l, ∀ f ∈ opFns o, callable P f = true) → qVC P all Q l E w →
    ∀ {Q' : Act → Prop}, (∀ E', E'.length = E.length → (∀ d, (∀ o ∈ l, o.dst ≠ some d) → E'.getD d (.v undef) = E.getD d (.v undef)) → Q E' → Q' (acts E')) → wpQuiet P all.toArray (fun w' => ∃ n, w' = w.drewN n) Q' l (acts E) := by
  intro l
  induction l with
  | nil => exact fun hc h Q' hq => hq _ rfl (fun _ _ => rfl) h
  | cons o rest ih =>
    intro E hc h Q' hq
    have hcr : ∀ o ∈ rest, ∀ f ∈ opFns o, callable P f = true := fun o ho => hc o (List.mem_cons_of_mem _ ho)
    have NEXT : ∀ {E : List AV} {v : AV}, (∀ E', E'.length = E.length → (∀ d, (∀ p ∈ o :: rest, p.dst ≠ some d) → E'.getD d (.v undef) = E.getD d (.v undef)) → Q E' → Q' (acts E')) →
        qVC P all Q rest (putE E o.dst v) w → wpQuiet P all.toArray (fun w' => ∃ n, w' = w.drewN n) Q' rest ((acts E).put o.dst v.val) := fun {E v} hq h => by
      rw [acts_put]
      exact ih hcr h fun E' hl hs hQ => hq E' (hl.trans (putE_length ..)) (fun d hd => (hs d fun p hp => hd p (List.mem_cons_of_mem _ hp)).trans (putE_getD (hd o (List.mem_cons_self ..)))) hQ
    have PU : ∀ {E : List AV}, (∀ E', E'.length = E.length → (∀ d, (∀ p ∈ o :: rest, p.dst ≠ some d) → E'.getD d (.v undef) = E.getD d (.v undef)) → Q E' → Q' (acts E')) →
        pureVC P E o (fun v => qVC P all Q rest (putE E o.dst v) w) w → o.quiet P (acts E) (fun w' => ∃ n, w' = w.drewN n) (wpQuiet P all.toArray (fun w' => ∃ n, w' = w.drewN n) Q' rest) := fun {E} hq h => by
      obtain ⟨v, hk, hr⟩ := pure_sound h
      refine ⟨v.val, ?_, NEXT hq hk⟩
      rintro _ ⟨n, rfl⟩
      unfold Oper.quietAt
      rw [acts_evalf, hr (w.drewN n) (fun _ _ => rfl)]
      exact ⟨rfl, rfl⟩
    have GO : ∀ {E : List AV}, (∀ E', E'.length = E.length → (∀ d, (∀ p ∈ o :: rest, p.dst ≠ some d) → E'.getD d (.v undef) = E.getD d (.v undef)) → Q E' → Q' (acts E')) →
        (match o.op with
          | .call c => match c.callee, c.args.toList with
            | .value (.func f), args => bif !hasBody P f then False else qcl P f (args.map fun x => (rd E x).val).toArray (kdOf P 12 o.type) w fun x => qVC P all Q rest (putE E o.dst ((kdOf P 12 o.type).av x)) w
            | _, _ => pureVC P E o (fun v => qVC P all Q rest (putE E o.dst v) w) w
          | _ => pureVC P E o (fun v => qVC P all Q rest (putE E o.dst v) w) w) → o.quiet P (acts E) (fun w' => ∃ n, w' = w.drewN n) (wpQuiet P all.toArray (fun w' => ∃ n, w' = w.drewN n) Q' rest) := fun {E} hq h => by
      split at h
      · rename_i c hop
        split at h
        · rename_i f hcal
          have hcf : callable P f = true := hc o (List.mem_cons_self ..) f (by
            obtain ⟨dst, op, ty, pos, after, guard⟩ := o
            obtain ⟨callee, args, ats⟩ := c
            simp only at hop hcal
            subst hop hcal
            simp [opFns])
          cases hbo : hasBody P f with
          | false => rw [hbo] at h; exact h.elim
          | true =>
          rw [hbo] at h
          obtain ⟨x, hx, hk⟩ := h
          refine ⟨_, ?_, NEXT hq hk⟩
          rintro _ ⟨n, rfl⟩
          unfold Oper.quietAt
          have hr : (execOp (acts E).eval o).run P (w.drewN n) = .ok (.enter f (c.args.toList.map fun x => (rd E x).val).toArray) (w.drewN n) := by
            obtain ⟨dst, op, ty, pos, after, guard⟩ := o
            obtain ⟨callee, args, ats⟩ := c
            obtain ⟨args⟩ := args
            simp only at hop hcal
            subst hop hcal
            simp [execOp, resolve, invoke, Deferred.ofValue, acts_evalf, rd, run_callFunc hcf hbo, Act.eval]
          rw [hr]
          refine ⟨rfl, Calls.mono (hx n) ?_⟩
          rintro e w' ⟨y, he, rfl, m, rfl⟩
          exact ⟨he, m, rfl⟩
        · exact PU hq h
      · exact PU hq h
    rw [qVC] at h
    rw [wpQuiet]
    split at h
    · rename_i hg
      rw [if_pos (by simp [Region.wanted, hg])]
      exact GO hq h
    · rename_i j want hg
      split at h
      · rename_i d b hv
        have hw := (wanted_of hg hv).1 b rfl
        have hE : E.set d (.v (.bool b)) = E := set_same (guardVal_spec hv).2
        cases b with
        | true =>
          simp only [cond_true, hE] at h
          cases want with
          | true => rw [if_pos (by rw [hw]; rfl)]; exact GO hq h
          | false => rw [if_neg (by rw [hw]; decide)]; exact NEXT (v := .v undef) hq h
        | false =>
          simp only [cond_false, hE] at h
          cases want with
          | true => rw [if_neg (by rw [hw]; decide)]; exact NEXT (v := .v undef) hq h
          | false => rw [if_pos (by rw [hw]; rfl)]; exact GO hq h
      · rename_i d hv
        have hw := (wanted_of hg hv).2 rfl
        rw [if_neg (by rw [hw]; decide)]
        exact NEXT (v := .v undef) hq h
      · exact h.elim

/-! ### Loops -/
abbrev LA := List (Nat × Kd)
@[reducible] def TS : LA → Type
  | [] => Unit
  | (_, k) :: A => k.T × TS A

def unav : (k : Kd) → AV → (k.T → Prop) → Prop
  | .B, .v (.bool x), K => K x
  | .I k, .v (.int k' n), K => bif decide (k = k') then K n else False
  | .S, .v (.string x), K => K x
  | .P, .v (.pointer x), K => K x
  | .L, .v (.slice a n c), K => K ⟨a, n, c⟩
  | .M, .v (.map x), K => K x
  | .U, .v x, K => K x
  | .nil, .nil, K => K ()
  | .pair k1 k2, .pair x y, K => unav k1 x fun a => unav k2 y fun b => K (a, b)
  | .row n, .row m l, K => if h : m = n then K (h ▸ l) else False
  | .tup k, .tup x, K => unav k x K
  | _, _, _ => False
theorem unav_elim : ∀ {k : Kd} {x : AV} {K : k.T → Prop}, unav k x K → ∃ y, x = k.av y ∧ K y := by
  intro k
  induction k with
  | pair k1 k2 ih1 ih2 =>
    intro x K h
    cases x <;> first | exact h.elim | skip
    rename_i x y
    obtain ⟨a, rfl, ha⟩ := ih1 h
    obtain ⟨b, rfl, hb⟩ := ih2 ha
    exact ⟨(a, b), rfl, hb⟩
  | tup k ih =>
    intro x K h
    cases x <;> first | exact h.elim | skip
    rename_i x
    obtain ⟨a, rfl, ha⟩ := ih h
    exact ⟨a, rfl, ha⟩
  | row n =>
    intro x K h
    cases x <;> first | exact h.elim | skip
    rename_i m l
    simp only [unav] at h
    split at h
    · rename_i e; subst e; exact ⟨l, rfl, h⟩
    · exact h.elim
  | nil =>
    intro x K h
    cases x <;> first | exact h.elim | exact ⟨(), rfl, h⟩
  | I k =>
    intro x K h
    cases x <;> first | exact h.elim | skip
    rename_i x
    cases x <;> first | exact h.elim | skip
    rename_i k' n
    simp only [unav] at h
    cases hk : decide (k = k') with
    | false => rw [hk] at h; exact h.elim
    | true => rw [hk] at h; obtain rfl := of_decide_eq_true hk; exact ⟨n, rfl, h⟩
  | U =>
    intro x K h
    cases x <;> first | exact h.elim | exact ⟨_, rfl, h⟩
  | _ =>
    intro x K h
    cases x <;> first | exact h.elim | skip
    rename_i x
    cases x <;> first | exact h.elim | exact ⟨_, rfl, h⟩

def inT : (A : LA) → List AV → (TS A → Prop) → Prop
  | [], _, K => K ()
  | (d, k) :: A, E, K => unav k (E.getD d (.v undef)) fun x => inT A E fun s => K (x, s)
def outT : (A : LA) → TS A → List Nat → List AV → List AV
  | [], _, _, E => E
  | (d, k) :: A, s, ds, E => outT A s.2 ds (bif ds.contains d then E.set d (k.av s.1) else E)
def hav (D : Nat → AV) : List Nat → List AV → List AV
  | [], E => E
  | d :: ds, E => hav D ds (E.set d (D d))

def lp {α : Type} (init : (α → Prop) → Prop) (w : World) (body : (Nat → AV) → (α → World → Prop) → α → World → Prop) : Prop :=
  ∃ (J : α → World → Prop) (μ : α → World → Nat), init (fun s => J s w) ∧ ∀ D s w', J s w' → body D (fun s' w'' => J s' w'' ∧ μ s' w'' < μ s w') s w'

/-- What follows, by a word of one's own between. -/
def jn {α : Type} (body : (Nat → AV) → α → World → Prop) (k : (α → World → Prop) → Prop) : Prop := ∃ J : α → World → Prop, (∀ D s w', J s w' → body D s w') ∧ k J

def firstReg : Code → Option Nat
  | .region id _ _ => some id
  | .seq a b => (firstReg a).or (firstReg b)
  | .cond _ a b => (firstReg a).or (firstReg b)
  | .block _ c => firstReg c
  | .loop c => firstReg c
  | _ => none
def dsts : Code → List Nat
  | .region _ ops _ => ops.toList.filterMap (·.dst)
  | .seq a b => dsts a ++ dsts b
  | .cond _ a b => dsts a ++ dsts b
  | .block _ c => dsts c
  | .loop c => dsts c
  | _ => []
def codeFns : Code → List FuncId
  | .region _ ops _ => ops.toList.flatMap opFns
  | .seq a b => codeFns a ++ codeFns b
  | .cond _ a b => codeFns a ++ codeFns b
  | .block _ c => codeFns c
  | .loop c => codeFns c
  | _ => []

/-- Behind some draws. -/
def dr (w : World) (K : World → Prop) : Prop := ∀ n, K (w.drewN n)

/-- What code asks. -/
def vc (P : Program) (an : Nat → LA) : Code → (Exit → List AV → World → Prop) → List AV → World → Prop
  | .skip, Q, E, w => Q .normal E w
  | .region _ ops false, Q, E, w => opsVC P ops.toList (fun E' w' => Q .normal E' w') ops.toList E w
  | .region id ops true, Q, E, w => bif (an (1000000 + id)).isEmpty then (bif P.follows .mixedOrders && Region.lexB .any ops then qVC P ops.toList (fun E' => dr w fun w' => Q .normal E' w') ops.toList E w else False)
    else (bif P.follows .mixedOrders && Region.noSelect ops then dr w fun w1 => bif (an (4000000 + id)).isEmpty then rVC P ops.toList (fun E' w' => Q .normal E' w') ops.toList.length (List.replicate ops.toList.length false) E w1
      else aVC P ops.toList (fun E' w' => Q .normal E' w') ops.toList.length (List.replicate ops.toList.length false) E w1 else False)
  | .seq a b, Q, E, w => bif (an (2000000 + (firstReg b).getD 0)).isEmpty then vc P an a (fun e E' w' => match e with | .normal => vc P an b Q E' w' | .exit i => Q (.exit i) E' w' | .ret => Q .ret E' w' | _ => False) E w
    else jn (α := TS (an (2000000 + (firstReg b).getD 0)).tail) (fun D s w' => vc P an b Q (outT (an (2000000 + (firstReg b).getD 0)).tail s (dsts a) (hav D (dsts a) E)) w')
      fun J => vc P an a (fun e E' w' => match e with | .normal => inT (an (2000000 + (firstReg b).getD 0)).tail E' (fun s => J s w') | .exit i => Q (.exit i) E' w' | .ret => Q .ret E' w' | _ => False) E w
  | .cond c x y, Q, E, w => match rd E c with
    | .v (.bool b) => bif b then vc P an x Q E w else vc P an y Q E w
    | _ => False
  | .block id c, Q, E, w => vc P an c (fun e E' w' => match e with | .normal => Q .normal E' w' | .exit i => (bif i == id then Q .normal E' w' else Q (.exit i) E' w') | .ret => Q .ret E' w' | _ => False) E w
  | .exit i, Q, E, w => Q (.exit i) E w
  | .ret, Q, E, w => Q .ret E w
  | .loop c, Q, E, w =>
    lp (α := TS (an ((firstReg c).getD 0))) (inT (an ((firstReg c).getD 0)) E) w fun D J s w' =>
      vc P an c (fun e E' w'' => match e with | .normal => inT (an ((firstReg c).getD 0)) E' (fun s' => J s' w'') | .exit i => Q (.exit i) E' w'' | .ret => Q .ret E' w'' | _ => False)
        (outT (an ((firstReg c).getD 0)) s (dsts c) (hav D (dsts c) E)) w'
  | _, _, _, _ => False

def Sim (ds : List Nat) (E E' : List AV) : Prop := E'.length = E.length ∧ ∀ d, d ∉ ds → E'.getD d (.v undef) = E.getD d (.v undef)
theorem Sim.refl (ds : List Nat) (E : List AV) : Sim ds E E := ⟨rfl, fun _ _ => rfl⟩
theorem Sim.trans {ds es fs : List Nat} {E F G : List AV} (h : Sim ds E F) (k : Sim es F G) (h1 : ∀ d ∈ ds, d ∈ fs) (h2 : ∀ d ∈ es, d ∈ fs) : Sim fs E G :=
  ⟨k.1.trans h.1, fun d hd => (k.2 d fun hm => hd (h2 d hm)).trans (h.2 d fun hm => hd (h1 d hm))⟩
theorem Sim.mono {ds fs : List Nat} {E F : List AV} (h : Sim ds E F) (h1 : ∀ d ∈ ds, d ∈ fs) : Sim fs E F := ⟨h.1, fun d hd => h.2 d fun hm => hd (h1 d hm)⟩

theorem hav_sim {D : Nat → AV} : ∀ {ds : List Nat} {E : List AV}, Sim ds E (hav D ds E)
  | [], E => Sim.refl _ _
  | d :: ds, E => by
    have h := hav_sim (D := D) (ds := ds) (E := E.set d (D d))
    refine ⟨h.1.trans (by simp), fun i hi => (h.2 i fun hm => hi (List.mem_cons_of_mem _ hm)).trans ?_⟩
    have hne : d ≠ i := fun e => hi (e ▸ List.mem_cons_self ..)
    simp [List.getD_eq_getElem?_getD, hne]
theorem hav_at {D : Nat → AV} : ∀ {ds : List Nat} {E : List AV} {d : Nat}, d ∈ ds → d < E.length → (hav D ds E).getD d (.v undef) = D d
  | e :: ds, E, d, h, hl => by
    by_cases hm : d ∈ ds
    · exact hav_at (ds := ds) hm (by simpa using hl)
    · have hde : d = e := (List.mem_cons.1 h).resolve_right hm
      subst hde
      have := (hav_sim (D := D) (ds := ds) (E := E.set d (D d))).2 d hm
      rw [show hav D (d :: ds) E = hav D ds (E.set d (D d)) from rfl, this]
      simp [List.getD_eq_getElem?_getD, hl]
theorem outT_sim : ∀ {A : LA} {s : TS A} {ds : List Nat} {E : List AV}, Sim ds E (outT A s ds E)
  | [], _, _, _ => Sim.refl _ _
  | (d, k) :: A, s, ds, E => by
    have h := outT_sim (A := A) (s := s.2) (ds := ds) (E := bif ds.contains d then E.set d (k.av s.1) else E)
    refine Sim.trans (ds := ds) ?_ h (fun _ h => h) (fun _ h => h)
    cases hc : ds.contains d with
    | false => exact Sim.refl _ _
    | true =>
      refine ⟨by simp, fun i hi => ?_⟩
      have hne : d ≠ i := fun e => hi (by rw [← e]; simpa using hc)
      simp [List.getD_eq_getElem?_getD, hne]

theorem ext_getD {E F : List AV} (hl : E.length = F.length) (h : ∀ d, d < E.length → E.getD d (.v undef) = F.getD d (.v undef)) : E = F := by
  apply List.ext_getElem? 
  intro i
  by_cases hi : i < E.length
  · have := h i hi
    rw [List.getD_eq_getElem?_getD, List.getD_eq_getElem?_getD, List.getElem?_eq_getElem hi, List.getElem?_eq_getElem (hl ▸ hi)] at this
    rw [List.getElem?_eq_getElem hi, List.getElem?_eq_getElem (hl ▸ hi)]
    exact congrArg some this
  · rw [List.getElem?_eq_none (by omega), List.getElem?_eq_none (by omega)]

/-- Slots that read as a state says are what the state lays. -/
theorem inT_out : ∀ {A : LA} {F : List AV} {K : TS A → Prop}, inT A F K → ∃ s, K s ∧ ∀ {ds : List Nat} {G : List AV}, Sim ds G F → (∀ d, d ∈ ds → (∀ p ∈ A, p.1 ≠ d) → G.getD d (.v undef) = F.getD d (.v undef)) → outT A s ds G = F
  | [], F, K, h => ⟨(), h, fun {ds G} hG hd => ext_getD hG.1.symm fun d _ => by
      by_cases hm : d ∈ ds
      · exact hd d hm (fun p hp => by cases hp)
      · exact (hG.2 d hm).symm⟩
  | (d, k) :: A, F, K, h => by
    obtain ⟨x, hx, hK⟩ := unav_elim h
    obtain ⟨s, hs, ho⟩ := inT_out hK
    refine ⟨(x, s), hs, fun {ds G} hG hd => ?_⟩
    show outT A s ds (bif ds.contains d then G.set d (k.av x) else G) = F
    refine ho ?_ ?_
    · cases hc : ds.contains d with
      | false => exact hG
      | true => 
        refine ⟨by simpa using hG.1, fun i hi => ?_⟩
        have hne : d ≠ i := fun e => hi (by rw [← e]; simpa using hc)
        rw [cond_true]
        rw [show (G.set d (k.av x)).getD i (.v undef) = G.getD i (.v undef) from by simp [List.getD_eq_getElem?_getD, hne]]
        exact hG.2 i hi
    · intro i hi hA
      cases hc : ds.contains d with
      | false =>
        have hne : d ≠ i := fun e => by rw [e] at hc; simp [hi] at hc
        exact hd i hi fun p hp => by
          rcases List.mem_cons.1 hp with rfl | hp
          · exact hne
          · exact hA p hp
      | true =>
        rw [cond_true]
        by_cases e : d = i
        · subst e
          by_cases hl : d < G.length
          · rw [hx]; simp [List.getD_eq_getElem?_getD, hl]
          · rw [List.getD_eq_getElem?_getD, List.getD_eq_getElem?_getD, List.getElem?_eq_none (by simp; omega), List.getElem?_eq_none (by have := hG.1; omega)]
        · rw [show (G.set d (k.av x)).getD i (.v undef) = G.getD i (.v undef) from by simp [List.getD_eq_getElem?_getD, e]]
          exact hd i hi fun p hp => by
            rcases List.mem_cons.1 hp with rfl | hp
            · exact e
            · exact hA p hp

theorem ent_of {A : LA} {ds : List Nat} {E F : List AV} {K : TS A → Prop} (hF : Sim ds E F) (h : inT A F K) : ∃ s, K s ∧ outT A s ds (hav (fun d => F.getD d (.v undef)) ds E) = F := by
  obtain ⟨s, hs, ho⟩ := inT_out h
  refine ⟨s, hs, ho ?_ ?_⟩
  · have h1 := hav_sim (D := fun d => F.getD d (.v undef)) (ds := ds) (E := E)
    exact ⟨hF.1.trans h1.1.symm, fun d hd => (hF.2 d hd).trans (h1.2 d hd).symm⟩
  · intro d hd _
    by_cases hl : d < E.length
    · exact hav_at hd hl
    · have h1 := hav_sim (D := fun d => F.getD d (.v undef)) (ds := ds) (E := E)
      rw [List.getD_eq_getElem?_getD, List.getD_eq_getElem?_getD, List.getElem?_eq_none (by have := h1.1; omega), List.getElem?_eq_none (by have := hF.1; omega)]

theorem code_sound {P : Program} {an : Nat → LA} : ∀ {c : Code} {Q : Exit → List AV → World → Prop} {E : List AV} {w : World}, (∀ f ∈ codeFns c, callable P f = true) → vc P an c Q E w →
    c.wp P (fun e a w' => ∃ E', a = acts E' ∧ Sim (dsts c) E E' ∧ Q e E' w') (acts E) w := by
  intro c
  induction c with
  | skip => exact fun _ h => wp_skip ⟨_, rfl, Sim.refl _ _, h⟩
  | region id ops draw =>
    intro Q E w hc h
    obtain ⟨ops⟩ := ops
    have hc' : ∀ o ∈ ops, ∀ f ∈ opFns o, callable P f = true := fun o ho f hf => hc f (List.mem_flatMap.2 ⟨o, ho, hf⟩)
    have hS : ∀ {E'}, E'.length = E.length → (∀ d, (∀ o ∈ ops, o.dst ≠ some d) → E'.getD d (.v undef) = E.getD d (.v undef)) → Sim (dsts (.region id ⟨ops⟩ draw)) E E' := fun hl hd =>
      ⟨hl, fun d hm => hd d fun o ho e => hm (List.mem_filterMap.2 ⟨o, ho, e⟩)⟩
    cases draw with
    | false => exact wp_region_lit (ops_sound hc' h fun E' w' hl hd hQ => ⟨E', rfl, hS hl hd, hQ⟩)
    | true =>
      simp only [vc] at h
      cases hflag : (an (1000000 + id)).isEmpty with
      | true =>
        rw [hflag, cond_true, Bool.cond_eq_ite] at h
        split at h
        · rename_i hb
          simp only [Bool.and_eq_true] at hb
          exact wp_region_quiet_lit hb.1 hb.2 (q_sound hc' h fun E' hl hd hQ w' ⟨n, hn⟩ => ⟨E', rfl, hS hl hd, hn ▸ hQ n⟩)
        · exact h.elim
      | false =>
        rw [hflag, cond_false, Bool.cond_eq_ite] at h
        split at h
        · rename_i hb
          simp only [Bool.and_eq_true] at hb
          cases hfull : (an (4000000 + id)).isEmpty with
          | true =>
            have h := h 1
            rw [hfull, cond_true] at h
            refine wp_region_any hb.1 (wpAny_of_F (lst := lastB P ops) (Q := fun a' w' => ∃ E', a' = acts E' ∧ Sim (dsts (.region id ⟨ops⟩ true)) E E' ∧ Q .normal E' w') (fun _ _ h => h) ?_)
            have := r_sound hc' hb.2 (listed := List.replicate ops.length false) (Q' := fun a' w' => ∃ E', a' = acts E' ∧ Sim (dsts (.region id ⟨ops⟩ true)) E E' ∧ Q .normal E' w') (fun k o _ hl => absurd hl (by simp [Array.getElem?_replicate]; split <;> rfl)) h fun E' w' hl hd hQ => ⟨E', rfl, hS hl hd, hQ⟩
            rw [List.toArray_replicate] at this
            exact this
          | false =>
            have h := h 1
            rw [hfull, cond_false] at h
            refine wp_region_any hb.1 (wpAny_of_F (lst := fun _ => true) (Q := fun a' w' => ∃ E', a' = acts E' ∧ Sim (dsts (.region id ⟨ops⟩ true)) E E' ∧ Q .normal E' w') (fun _ _ h => h) ?_)
            have := a_sound hc' hb.2 (listed := List.replicate ops.length false) (Q' := fun a' w' => ∃ E', a' = acts E' ∧ Sim (dsts (.region id ⟨ops⟩ true)) E E' ∧ Q .normal E' w') (fun k o _ hl => absurd hl (by simp [Array.getElem?_replicate]; split <;> rfl)) h fun E' w' hl hd hQ => ⟨E', rfl, hS hl hd, hQ⟩
            rw [List.toArray_replicate] at this
            exact this
        · exact h.elim
  | seq a b iha ihb =>
    intro Q E w hc h
    have L : ∀ d ∈ dsts a, d ∈ dsts (.seq a b) := fun d hd => List.mem_append_left _ hd
    have R : ∀ d ∈ dsts b, d ∈ dsts (.seq a b) := fun d hd => List.mem_append_right _ hd
    simp only [vc] at h
    cases hflag : (an (2000000 + (firstReg b).getD 0)).isEmpty with
    | true =>
      rw [hflag, cond_true] at h
      refine wp_seq (Code.wp_mono ?_ (iha (fun f hf => hc f (List.mem_append_left _ hf)) h))
      rintro e a' w' ⟨E', rfl, hs, hq⟩
      cases e with
      | normal =>
        refine Code.wp_mono ?_ (ihb (fun f hf => hc f (List.mem_append_right _ hf)) hq)
        rintro e a' w' ⟨E'', rfl, hs', hq'⟩
        exact ⟨E'', rfl, hs.trans hs' L R, hq'⟩
      | exit i => exact ⟨E', rfl, hs.mono L, hq⟩
      | ret => exact ⟨E', rfl, hs.mono L, hq⟩
      | _ => exact hq.elim
    | false =>
      rw [hflag, cond_false] at h
      obtain ⟨J, hJ, h⟩ := h
      refine wp_seq (Code.wp_mono ?_ (iha (fun f hf => hc f (List.mem_append_left _ hf)) h))
      rintro e a' w' ⟨E', rfl, hs, hq⟩
      cases e with
      | normal =>
        obtain ⟨s, hJs, he⟩ := ent_of hs hq
        have hb : vc P an b Q (outT (an (2000000 + (firstReg b).getD 0)).tail s (dsts a) (hav (fun d => E'.getD d (.v undef)) (dsts a) E)) w' := hJ (fun d => E'.getD d (.v undef)) s w' hJs
        rw [he] at hb
        refine Code.wp_mono ?_ (ihb (fun f hf => hc f (List.mem_append_right _ hf)) hb)
        rintro e a' w' ⟨E'', rfl, hs', hq'⟩
        exact ⟨E'', rfl, hs.trans hs' L R, hq'⟩
      | exit i => exact ⟨E', rfl, hs.mono L, hq⟩
      | ret => exact ⟨E', rfl, hs.mono L, hq⟩
      | _ => exact hq.elim
  | cond c x y ihx ihy =>
    intro Q E w hc h
    simp only [vc] at h
    split at h
    · rename_i b hb
      have hev : (acts E).eval c = .bool b := by rw [acts_eval, hb]; rfl
      cases b with
      | true =>
        refine wp_cond_true hev (Code.wp_mono ?_ (ihx (fun f hf => hc f (List.mem_append_left _ hf)) h))
        rintro e a' w' ⟨E', rfl, hs, hq⟩
        exact ⟨E', rfl, hs.mono fun d hd => List.mem_append_left _ hd, hq⟩
      | false =>
        refine wp_cond_false hev (Code.wp_mono ?_ (ihy (fun f hf => hc f (List.mem_append_right _ hf)) h))
        rintro e a' w' ⟨E', rfl, hs, hq⟩
        exact ⟨E', rfl, hs.mono fun d hd => List.mem_append_right _ hd, hq⟩
    · exact h.elim
  | block id c ih =>
    intro Q E w hc h
    refine wp_block (Code.wp_mono ?_ (ih hc h))
    rintro e a' w' ⟨E', rfl, hs, hq⟩
    cases e with
    | normal => exact ⟨E', rfl, hs, hq⟩
    | exit i =>
      simp only [Exit.inBlock]
      by_cases hi : i = id
      · subst hi
        rw [if_pos rfl]
        simp only [beq_self_eq_true, cond_true] at hq
        exact ⟨E', rfl, hs, hq⟩
      · rw [if_neg hi]
        dsimp only at hq
        rw [show (i == id) = false from by simpa using hi] at hq
        exact ⟨E', rfl, hs, hq⟩
    | ret => exact ⟨E', rfl, hs, hq⟩
    | _ => exact hq.elim
  | exit i => exact fun _ h => wp_exit ⟨_, rfl, Sim.refl _ _, h⟩
  | ret => exact fun _ h => wp_ret ⟨_, rfl, Sim.refl _ _, h⟩
  | loop c ih =>
    intro Q E w hc h
    obtain ⟨J, μ, h0, hstep⟩ := h
    have body : ∀ D s w', J s w' → c.wp P (fun e a w'' => ∃ E', a = acts E' ∧ Sim (dsts c) (outT (an ((firstReg c).getD 0)) s (dsts c) (hav D (dsts c) E)) E' ∧
        (match e with | .normal => inT (an ((firstReg c).getD 0)) E' (fun s' => J s' w'' ∧ μ s' w'' < μ s w') | .exit i => Q (.exit i) E' w'' | .ret => Q .ret E' w'' | _ => False)) (acts (outT (an ((firstReg c).getD 0)) s (dsts c) (hav D (dsts c) E))) w' :=
      fun D s w' hJ => ih hc (hstep D s w' hJ)
    generalize an ((firstReg c).getD 0) = A at J μ h0 hstep body
    have ent : ∀ {F : List AV} {K : TS A → Prop}, Sim (dsts c) E F → inT A F K → ∃ s, K s ∧ acts F = acts (outT A s (dsts c) (hav (fun d => F.getD d (.v undef)) (dsts c) E)) := fun {F K} hF h => by
      obtain ⟨s, hs, ho⟩ := inT_out h
      refine ⟨s, hs, ?_⟩
      rw [ho (ds := dsts c) (G := hav (fun d => F.getD d (.v undef)) (dsts c) E)]
      · have h1 := hav_sim (D := fun d => F.getD d (.v undef)) (ds := dsts c) (E := E)
        exact ⟨hF.1.trans h1.1.symm, fun d hd => (hF.2 d hd).trans (h1.2 d hd).symm⟩
      · intro d hd _
        by_cases hl : d < E.length
        · exact hav_at hd hl
        · have h1 := hav_sim (D := fun d => F.getD d (.v undef)) (ds := dsts c) (E := E)
          rw [List.getD_eq_getElem?_getD, List.getD_eq_getElem?_getD, List.getElem?_eq_none (by have := h1.1; omega), List.getElem?_eq_none (by have := hF.1; omega)]
    obtain ⟨s0, hs0, he0⟩ := ent (Sim.refl _ _) h0
    refine wp_loop_ghost (fun n a w' => ∃ s F, a = acts F ∧ Sim (dsts c) E F ∧ acts F = acts (outT A s (dsts c) (hav (fun d => F.getD d (.v undef)) (dsts c) E)) ∧ J s w' ∧ μ s w' = n) (μ s0 w) ⟨s0, E, rfl, Sim.refl _ _, he0, hs0, rfl⟩ ?_
    rintro n _ w' ⟨s, F, rfl, hF, he, hJ, rfl⟩
    rw [he]
    refine Code.wp_mono ?_ (body _ s w' hJ)
    rintro e a' w'' ⟨E', rfl, hs, hq⟩
    have hE' : Sim (dsts c) E E' := Sim.trans (Sim.trans hav_sim outT_sim (fun _ h => h) (fun _ h => h)) hs (fun _ h => h) (fun _ h => h)
    cases e with
    | normal =>
      obtain ⟨s', ⟨hJ', hμ⟩, he'⟩ := ent hE' hq
      exact ⟨μ s' w'', hμ, s', E', rfl, hE', he', hJ', rfl⟩
    | exit i => exact ⟨E', rfl, hE', hq⟩
    | ret => exact ⟨E', rfl, hE', hq⟩
    | _ => exact hq.elim
  | _ => exact fun _ h => h.elim

/-- The results are read. -/
def getR (P : Program) (E : List AV) (w : World) : List ResultVar → (AV → Prop) → Prop
  | [], K => K .nil
  | .tmp t :: rest, K => getR P E w rest fun a => K (.pair (E.getD t (.v undef)) a)
  | .cell d t :: rest, K => match E.getD d (.v undef) with
    | .v (.pointer (some ad)) => bif kdFits P t (kdOf P 12 t) then ld (kdOf P 12 t) w ad fun y => getR P E w rest fun a => K (.pair ((kdOf P 12 t).av y) a) else False
    | _ => False
def retK (k : Kd) (K : k.T → Prop) : List ResultVar → AV → Prop
  | [_], .pair x _ => unav k x K
  | _, ch => unav k (.tup ch) K
def retQ (P : Program) (fn : Func) (k : Kd) (R : k.T → World → Prop) : Exit → List AV → World → Prop
  | .normal, E, w => getR P E w fn.results.toList fun ch => retK k (fun y => R y w) fn.results.toList ch
  | .ret, E, w => getR P E w fn.results.toList fun ch => retK k (fun y => R y w) fn.results.toList ch
  | _, _, _ => False
theorem tup_elim {k : Kd} {K : k.T → Prop} {ch : AV} (h : unav k (.tup ch) K) (hl : ch.elems.length ≠ 1) : ∃ y, (match ch.elems with | [v] => v | l => .tuple l.toArray) = (k.av y).val ∧ K y := by
  obtain ⟨y, he, hy⟩ := unav_elim h
  refine ⟨y, ?_, hy⟩
  rw [← he]
  simp only [AV.val]
  generalize ch.elems = l at hl
  match l, hl with
  | [], _ => rfl
  | _ :: _ :: _, _ => rfl
theorem retK_elim {k : Kd} {K : k.T → Prop} {rs : List ResultVar} {ch : AV} (h : retK k K rs ch) (hl : ch.elems.length = rs.length) : ∃ y, (match ch.elems with | [v] => v | l => .tuple l.toArray) = (k.av y).val ∧ K y := by
  match rs, hl, h with
  | [], hl, h => exact tup_elim h (by rw [hl]; decide)
  | _ :: _ :: _, hl, h => exact tup_elim h (by rw [hl]; simp)
  | [r], hl, h =>
    cases ch with
    | pair x b =>
      obtain ⟨y, rfl, hy⟩ := unav_elim h
      refine ⟨y, ?_, hy⟩
      simp only [AV.elems, List.length_cons, List.length_nil, Nat.zero_add, Nat.add_eq_right, List.length_eq_zero_iff] at hl
      simp only [AV.elems, hl]
    | _ => simp [AV.elems] at hl

theorem kd_val_one {P : Program} {t : TypeId} {a : Addr} {w : World} {K : (kdOf P 12 t).T → Prop} (hf : kdFits P t (kdOf P 12 t) = true) (h : ld (kdOf P 12 t) w a K) :
    ∃ x, K x ∧ (loadVar t a).run P w = .ok ((kdOf P 12 t).av x).val w := by
  obtain ⟨x, hx, hr⟩ := ld_sound hf h
  refine ⟨x, hx, ?_⟩
  have := hr w (Sub.refl w)
  simpa [Instr.loadAt, Instr.sureAddr] using this

def resF (E : List AV) : ResultVar → Sem Value
  | .tmp t => pure ((acts E).tmps.getD t undef)
  | .cell a t => do loadVar t (← asAddr ((acts E).tmps.getD a undef))

theorem getR_sound {P : Program} {E : List AV} {w : World} : ∀ {rs : List ResultVar} {K : AV → Prop}, getR P E w rs K →
    ∃ ch, K ch ∧ (ch.elems).length = rs.length ∧ (rs.mapM (resF E)).run P w = .ok (ch.elems) w
  | [], K, h => ⟨.nil, h, rfl, by simp [AV.elems]⟩
  | .tmp t :: rest, K, h => by
    have h' : getR P E w rest fun a => K (.pair (E.getD t (.v undef)) a) := h
    obtain ⟨ch, hk, hl, hr⟩ := getR_sound h'
    refine ⟨_, hk, by simp [AV.elems, hl], ?_⟩
    rw [List.mapM_cons]
    simp only [Sem.run_bind, resF, acts_tmps, Sem.run_pure, Result.andThen_ok, hr]
    rfl
  | .cell d t :: rest, K, h => by
    simp only [getR] at h
    split at h
    · rename_i ad hd
      cases hf : kdFits P t (kdOf P 12 t) with
      | false => rw [hf] at h; exact h.elim
      | true =>
        rw [hf] at h
        obtain ⟨x, hx, hrun⟩ := kd_val_one hf h
        obtain ⟨ch, hk, hl, hr⟩ := getR_sound hx
        refine ⟨_, hk, by simp [AV.elems, hl], ?_⟩
        have hda : (acts E).tmps.getD d undef = .pointer (some ad) := by rw [acts_tmps, hd]; rfl
        rw [List.mapM_cons]
        simp only [Sem.run_bind, resF, hda, asAddr, Sem.run_pure, Result.andThen_ok, hr, hrun]
        rfl
    · exact h.elim

theorem results_sound {P : Program} {fn : Func} {E : List AV} {w : World} {K : AV → Prop} (h : getR P E w fn.results.toList K) :
    ∃ ch, K ch ∧ (ch.elems).length = fn.results.toList.length ∧ (results fn (acts E).tmps).run P w = .ok (match ch.elems with | [v] => v | l => .tuple l.toArray) w := by
  obtain ⟨ch, hk, hl, hr⟩ := getR_sound h
  refine ⟨ch, hk, hl, ?_⟩
  have e : results fn (acts E).tmps = (do let vs ← fn.results.mapM (resF E); pure (if h : vs.size = 1 then vs[0] else .tuple vs)) := by
    unfold results
    congr 1
  rw [e]
  generalize fn.results = rs at hl hr
  obtain ⟨rs⟩ := rs
  simp only [List.mapM_toArray, Sem.run_bind, Sem.run_map, hr, Sem.run_pure]
  generalize ch.elems = l
  match l with
  | [] => rfl
  | [v] => rfl
  | v :: u :: l => rfl

theorem calls_of_vc {P : Program} {f : FuncId} {fn : Func} {c : Code} {k : Kd} {w : World} {R : k.T → World → Prop} (hf : P.funcs[f]? = some fn) (hb : fn.body = some c) (hc : (codeFns c).all (callable P) = true)
    (an : Nat → LA) (args : List AV) (h : vc P an c (retQ P fn k R) (args ++ List.replicate (fn.ntmps - args.length) (.v undef)) w) : cl P f (args.map AV.val).toArray k w R := by
  refine calls_of_wp hf hb ?_
  have hE : ({ tmps := (args.map AV.val).toArray ++ Array.replicate (fn.ntmps - (args.map AV.val).toArray.size) undef, defers := [] } : Act) = acts (args ++ List.replicate (fn.ntmps - args.length) (.v undef)) := by
    simp [acts, val_v]
  rw [hE]
  have hR : ∀ {E : List AV} {w' : World}, (getR P E w' fn.results.toList fun ch => retK k (fun y => R y w') fn.results.toList ch) → ∃ v, (results fn (acts E).tmps).run P w' = .ok v w' ∧ ∃ x, Ending.returned v = .returned (k.av x).val ∧ R x w' := fun {E w'} h => by
    obtain ⟨ch, hk, hl, hr⟩ := results_sound h
    obtain ⟨y, hv, hy⟩ := retK_elim hk hl
    exact ⟨_, hr, y, by rw [hv], hy⟩
  refine Code.wp_mono ?_ (code_sound (fun g hg => List.all_eq_true.1 hc g hg) h)
  rintro e a w' ⟨E', rfl, _, hq⟩
  cases e with
  | normal => exact ⟨rfl, hR hq⟩
  | ret => exact ⟨rfl, hR hq⟩
  | _ => exact hq.elim

def bodyOf (fn : Func) : Code := fn.body.getD .skip
/-- A function's code asks this. -/
def fvc (P : Program) (an : Nat → LA) (fn : Func) (k : Kd) (args : List AV) (w : World) (R : k.T → World → Prop) : Prop :=
  vc P an (bodyOf fn) (retQ P fn k R) (args ++ List.replicate (fn.ntmps - args.length) (.v undef)) w
def fnOk (P : Program) (fn : Func) : Bool := fn.body.isSome && (codeFns (bodyOf fn)).all (callable P)
theorem cl_of {P : Program} {f : FuncId} {fn : Func} {k : Kd} {w : World} {R : k.T → World → Prop} (hf : P.funcs[f]? = some fn) (hb : fnOk P fn = true)
    {an : Nat → LA} {args : List AV} (h : fvc P an fn k args w R) : cl P f (args.map AV.val).toArray k w R := by
  simp only [fnOk, Bool.and_eq_true] at hb
  obtain ⟨c, hc⟩ := Option.isSome_iff_exists.1 hb.1
  have hbo : bodyOf fn = c := by simp [bodyOf, hc]
  rw [hbo] at hb
  unfold fvc at h
  rw [hbo] at h
  exact calls_of_vc hf hc hb.2 an args h
theorem cl_tie {P : Program} {f : FuncId} {fn : Func} {k : Kd} {w : World} {R : k.T → World → Prop} (hf : P.funcs[f]? = some fn) (hb : fnOk P fn = true) {an : Nat → LA} {args : List AV} {A : Prop} (e : A = fvc P an fn k args w R) (h : A) : cl P f (args.map AV.val).toArray k w R :=
  cl_of hf hb (Eq.mp e h)
end Go.Fl
