/- Regions that draw their order and hold operations that make memory or call: reads first, then each order of the others; that it suffices for every order. -/
import Derived.Test.YtkojpppnjloikaaDoorFlVd
import Derived.Below
namespace Go.Fl
open Go.RowKit

/-- Nothing that was there has turned. -/
abbrev Fr (w w' : World) : Prop := Below w.heap.size w w'
theorem Fr.refl (w : World) : Fr w w := Below.refl _ _
theorem Fr.trans {a b c : World} (h : Fr a b) (k : Fr b c) : Fr a c := Below.trans h (Below.mono k h.size)
theorem Fr.sub {w w' : World} (h : Fr w w') : Sub w w' := h.block

/-- An operation that may write, make memory, or call. -/
def effB (o : Oper) : Bool := match o.op with
  | .alloc _ | .box .. | .store .. | .buildSlice .. | .makeSlice .. | .makeMap .. | .mapUpdate .. | .range .. | .next .. | .typeAssert .. | .makeFunc .. => true
  | .call c => match c.callee with
    | .builtin .len | .builtin .max | .builtin .min => false
    | _ => true
  | .convert .. => true
  | _ => false
def readB (P : Program) (o : Oper) : Bool := match o.op with
  | .convert src dst _ => match P.underlying src, P.underlying dst with | some .string, some (.slice _) => false | some (.slice _), some (.slice _) => false | _, _ => true
  | _ => !effB o

/-- An operation that may read memory. -/
def memS (P : Program) (o : Oper) : Bool := match o.op with
  | .load .. | .lookup .. | .sliceToArrayPointer .. => true
  | .slice t _ _ _ mx => mx.isSome || (match P.underlying t with | some (.array ..) => true | _ => false)
  | .index t .. | .build t .. => (match P.underlying t with | some (.array ..) => true | _ => false)
  | .binOp _ t .. => (match P.underlying t with | some (.struct _) => true | some (.array ..) => true | some (.map ..) => true | _ => false)
  | .convert _ d _ => (match P.underlying d with | some (.int _) => false | _ => true)
  | .call c => (match c.argTypes.toList with | [t] => (match P.underlying t with | some (.map ..) => true | _ => false) | _ => false)
  | _ => false
theorem pure_any {P : Program} {E : List AV} {o : Oper} {K : AV → Prop} {w w0 : World} (hm : memS P o = false) (h : pureVC P E o K w) : pureVC P E o K w0 := by
  obtain ⟨dst, op, ty, pos, after, guard⟩ := o
  unfold pureVC at h ⊢
  unfold memS at hm
  cases op with
  | load => cases hm
  | lookup => cases hm
  | sliceToArrayPointer => cases hm
  | slice t x lo hi mx =>
    cases mx with
    | some m => simp at hm
    | none =>
      dsimp only at h hm ⊢
      split at h <;> first | exact h | (rename_i hu; rw [hu] at hm; simp at hm)
  | index t x ix =>
    dsimp only at h hm ⊢
    split at h <;> first | exact h | (rename_i hu; rw [hu] at hm; simp at hm)
  | build t parts =>
    dsimp only at h hm ⊢
    split at h <;> first | exact h | (rename_i hu; rw [hu] at hm; simp at hm)
  | binOp op t x y yt =>
    dsimp only at h hm ⊢
    split at h <;> first | exact h | (split at h <;> first | exact h | exact h.elim | (rename_i hu; rw [hu] at hm; simp at hm))
  | convert s d x =>
    dsimp only at h hm ⊢
    split at h
    · exact h
    · rename_i hu _; rw [hu] at hm; simp at hm
    · exact h
  | call c =>
    dsimp only at h hm ⊢
    split at h
    · rename_i hats
      rw [hats] at hm
      split at h <;> first | exact h | (rename_i hu; simp only [hu] at hm; simp at hm)
    all_goals exact h
  | _ => exact h

/-- An operation under its guard. -/
def gd (all : List Oper) (o : Oper) (E : List AV) (go skip : List AV → Prop) : Prop := match o.guard with
  | none => go E
  | some (j, want) => match guardVal all E j with
    | some (d, .v (.bool b)) => bif b then (match want with | true => go (E.set d (.v (.bool true))) | false => skip (E.set d (.v (.bool true))))
        else (match want with | true => skip (E.set d (.v (.bool false))) | false => go (E.set d (.v (.bool false))))
    | some (_, .v (.tuple ⟨[]⟩)) => skip E
    | _ => False

/-- What operation j waits for. -/
def ancB (all : List Oper) : Nat → Nat → Nat → Bool
  | 0, _, _ => false
  | f + 1, j, i => match all[j]? with
    | none => false
    | some o => o.after.toList.any fun e => Region.binds .any e && (e.on == i || ancB all f e.on i)
/-- It waits for all others that read memory. -/
def lastB (P : Program) (all : List Oper) (j : Nat) : Bool := (List.range all.length).all fun i => i == j || (match all[i]? with | some o => !memS P o | none => true) || ancB all all.length j i

def allL : List Nat → (Nat → Prop) → Prop
  | [], _ => True
  | [i], K => K i
  | i :: l, K => K i ∧ allL l K
theorem allL_mem : ∀ {l : List Nat} {K : Nat → Prop}, allL l K → ∀ i ∈ l, K i
  | [], _, _, i, hi => by cases hi
  | [j], _, h, i, hi => by simp only [List.mem_singleton] at hi; subst hi; exact h
  | j :: k :: l, K, h, i, hi => by
    rcases List.mem_cons.1 hi with rfl | hi
    · exact h.1
    · exact allL_mem (l := k :: l) h.2 i hi

def rVC (P : Program) (all : List Oper) (Q : List AV → World → Prop) : Nat → List Bool → List AV → World → Prop
  | 0, listed, E, w => bif (Region.ready .any all.toArray listed.toArray).isEmpty then Q E w else False
  | fuel + 1, listed, E, w =>
    match Region.ready .any all.toArray listed.toArray with
    | [] => Q E w
    | r :: rs => match (r :: rs).find? fun i => match all[i]? with | some o => readB P o && Region.free .any all.toArray listed.toArray i | none => false with
      | some i => match all[i]? with
        | some o => gd all o E (fun E => pureVC P E o (fun v => rVC P all Q fuel (listed.set i true) (putE E o.dst v) w) w) (fun E => rVC P all Q fuel (listed.set i true) (putE E o.dst (.v undef)) w)
        | none => False
      | none => allL (r :: rs) fun i => match all[i]? with
        | some o => gd all o E (fun E => opVC P E o (fun v w' => bif lastB P all i then rVC P all Q fuel (listed.set i true) (putE E o.dst v) w' else (Fr w w' ∧ rVC P all Q fuel (listed.set i true) (putE E o.dst v) w')) w) (fun E => rVC P all Q fuel (listed.set i true) (putE E o.dst (.v undef)) w)
        | none => False

/-- As 'rVC', without the reads first: each order of all. -/
def aVC (P : Program) (all : List Oper) (Q : List AV → World → Prop) : Nat → List Bool → List AV → World → Prop
  | 0, listed, E, w => bif (Region.ready .any all.toArray listed.toArray).isEmpty then Q E w else False
  | fuel + 1, listed, E, w =>
    match Region.ready .any all.toArray listed.toArray with
    | [] => Q E w
    | r :: rs => match (r :: rs).find? fun i => match all[i]? with | some o => readB P o && !memS P o && Region.free .any all.toArray listed.toArray i | none => false with
      | some i => match all[i]? with
        | some o => gd all o E (fun E => pureVC P E o (fun v => aVC P all Q fuel (listed.set i true) (putE E o.dst v) w) w) (fun E => aVC P all Q fuel (listed.set i true) (putE E o.dst (.v undef)) w)
        | none => False
      | none => allL (r :: rs) fun i => match all[i]? with
        | some o => gd all o E (fun E => opVC P E o (fun v w' => aVC P all Q fuel (listed.set i true) (putE E o.dst v) w') w) (fun E => aVC P all Q fuel (listed.set i true) (putE E o.dst (.v undef)) w)
        | none => False

/-! ### Every order -/
section
variable {P : Program} {ops : Array Oper}
def opF (P : Program) (ops : Array Oper) (i : Nat) (K : Act → World → Prop) (a : Act) (w : World) : Prop :=
  match ops[i]? with
  | none => K a w
  | some o => if Region.wanted o (yielded ops a.tmps) = true then ∀ Q : Exit → Act → World → Prop, o.wp P a w K Q else K (a.put o.dst undef) w
theorem opF_mono {i : Nat} {a : Act} {w : World} {K K' : Act → World → Prop} (h : ∀ a w, K a w → K' a w) (hh : opF P ops i K a w) : opF P ops i K' a w := by
  unfold opF at *
  split
  · rename_i ho; simp only [ho] at hh; exact h _ _ hh
  · rename_i o ho
    simp only [ho] at hh
    split
    · rename_i hw; rw [if_pos hw] at hh; exact fun Q => Oper.wp_mono h (hh Q)
    · rename_i hw; rw [if_neg hw] at hh; exact h _ _ hh
theorem opF_wpOp {Q : Exit → Act → World → Prop} {i : Nat} {a : Act} {w : World} {K : Act → World → Prop} (hh : opF P ops i K a w) : wpOp P ops Q i K a w := by
  unfold opF at hh
  unfold wpOp
  split
  · rename_i ho; simp only [ho] at hh; exact hh
  · rename_i o ho
    simp only [ho] at hh
    split
    · rename_i hw; rw [if_pos hw] at hh; exact .inl (hh Q)
    · rename_i hw; rw [if_neg hw] at hh; exact hh

def wpF (P : Program) (ops : Array Oper) (lst : Nat → Bool) (Q : Act → World → Prop) : Nat → Array Bool → Act → World → Prop
  | 0, listed, a, w => Region.ready .any ops listed = [] ∧ Q a w
  | fuel + 1, listed, a, w => (Region.ready .any ops listed = [] → Q a w) ∧
      ∀ i ∈ Region.ready .any ops listed, opF P ops i (fun a' w' => (lst i = false → Fr w w') ∧ wpF P ops lst Q fuel (listed.setIfInBounds i true) a' w') a w
theorem wpAny_of_F {lst : Nat → Bool} {Q : Act → World → Prop} {Q' : Exit → Act → World → Prop} (hQ : ∀ a w, Q a w → Q' .normal a w) : ∀ {fuel : Nat} {listed : Array Bool} {a : Act} {w : World}, wpF P ops lst Q fuel listed a w → wpAny P .any ops Q' fuel listed a w
  | 0, _, _, _, h => ⟨h.1, hQ _ _ h.2⟩
  | _ + 1, _, _, _, h => ⟨fun h0 => hQ _ _ (h.1 h0), fun i hi => opF_wpOp (opF_mono (fun _ _ h => wpAny_of_F hQ h.2) (h.2 i hi))⟩

/-- In every world that extends w, the operation yields v and nothing else. -/
def YF (P : Program) (ops : Array Oper) (o : Oper) (v : Value) (a : Act) (w : World) : Prop :=
  (Region.wanted o (yielded ops a.tmps) = true ∧ ∀ w', (memS P o = true → Fr w w') → (execOp a.eval o).run P w' = .ok (.value v) w') ∨ (Region.wanted o (yielded ops a.tmps) = false ∧ v = undef)
theorem YF.of_same {o : Oper} {v : Value} {a a' : Act} {w : World} (hy : YF P ops o v a w) (he : execOp a'.eval o = execOp a.eval o) (hw : Region.wanted o (yielded ops a'.tmps) = Region.wanted o (yielded ops a.tmps)) : YF P ops o v a' w := by
  unfold YF at *
  rw [he, hw]
  exact hy
theorem YF.fr {o : Oper} {v : Value} {a : Act} {w w' : World} (hy : YF P ops o v a w) (hf : memS P o = true → Fr w w') : YF P ops o v a w' := by
  rcases hy with ⟨h1, h2⟩ | h
  · exact .inl ⟨h1, fun w'' h => h2 w'' fun hm => (hf hm).trans (h hm)⟩
  · exact .inr h
theorem YF.opF {i : Nat} {o : Oper} {v : Value} {a : Act} {w : World} (hi : ops[i]? = some o) (hy : YF P ops o v a w) {K : Act → World → Prop} (h : K (a.put o.dst v) w) : opF P ops i K a w := by
  unfold Fl.opF
  simp only [hi]
  rcases hy with ⟨hw, hv⟩ | ⟨hw, rfl⟩
  · rw [if_pos hw]
    intro Q
    simp only [Oper.wp, hv w (fun _ => Fr.refl w), Oper.upon]
    exact h
  · rw [if_neg (by rw [hw]; decide)]; exact h

theorem opF_put {j : Nat} {oi oj : Oper} {v : Value} (hj : ops[j]? = some oj) (hap : oi.apart ops oj = true) (hsi : ∀ cs b, oi.op ≠ .select cs b) (hsj : ∀ cs b, oj.op ≠ .select cs b)
    {K : Act → World → Prop} {a : Act} {w : World} (hy : YF P ops oi v a w) (h : opF P ops j K (a.put oi.dst v) w) : opF P ops j (fun a' w' => YF P ops oi v a' w ∧ K (a'.put oi.dst v) w') a w := by
  obtain ⟨h1, h2, h3⟩ := Oper.apart_spec hap
  have keep : ∀ (a : Act), YF P ops oi v a w → ∀ u, YF P ops oi v (a.put oj.dst u) w := fun a hy u => hy.of_same (execOp_put oi hsi a oj.dst u h3) (wanted_put oi a oj.dst u h3)
  have keepD : ∀ d, YF P ops oi v { a with defers := d :: a.defers } w := fun d => hy.of_same rfl rfl
  unfold opF at *
  simp only [hj] at *
  rw [wanted_put oj a oi.dst v h1] at h
  split
  · rename_i hw
    rw [if_pos hw] at h
    intro Q
    have h := h fun _ _ _ => False
    unfold Oper.wp at *
    rw [execOp_put oj hsj a oi.dst v h1] at h
    generalize (execOp a.eval oj).run P w = r at *
    cases r with
    | ok n w' =>
      cases n <;> simp only [Oper.upon] at h ⊢
      case value u => exact ⟨keep a hy u, by rw [← Act.put_comm a v u h2]; exact h⟩
      case skip => exact ⟨keep a hy _, by rw [← Act.put_comm a v undef h2]; exact h⟩
      case defer d =>
        refine ⟨keep _ (keepD d) _, ?_⟩
        rw [← Act.put_comm _ v undef h2, ← Act.put_defers]
        exact h
      case enter f args =>
        refine Calls.mono h fun e w'' he => ?_
        cases e with
        | returned u => exact ⟨keep a hy u, by rw [← Act.put_comm a v u h2]; exact he⟩
        | panicked c => exact he.elim
        | outgrown => obtain ⟨_, _, he⟩ := he; exact he.elim
      case row row args => exact Rows.mono h fun u w'' he => ⟨keep a hy u, by rw [← Act.put_comm a v u h2]; exact he⟩
    | halt x w' => cases x <;> simp only [Oper.upon] at h
  · rename_i hw
    rw [if_neg hw] at h
    exact ⟨keep a hy _, by rw [← Act.put_comm a v undef h2]; exact h⟩

def Closed (ops : Array Oper) (listed : Array Bool) : Prop := ∀ (k : Nat) (o : Oper), ops[k]? = some o → listed.getD k false = true → ∀ e ∈ o.after, Region.binds .any e = true → listed.getD e.on false = true
theorem Closed.set {listed : Array Bool} {i : Nat} (h : Closed ops listed) (hr : i ∈ Region.ready .any ops listed) : Closed ops (listed.setIfInBounds i true) := by
  intro k o hk hl e he hb
  by_cases hki : k = i
  · subst hki
    obtain ⟨_, o', ho', hall⟩ := mem_ready.1 hr
    obtain rfl : o = o' := by rw [hk] at ho'; injection ho'
    exact getD_set_true (hall e he hb)
  · rw [getD_set_ne false (Ne.symm hki)] at hl
    exact getD_set_true (h k o hk hl e he hb)
theorem anc_listed {all : List Oper} {listed : Array Bool} (hC : Closed all.toArray listed) : ∀ {f j i : Nat}, (∀ o, all[j]? = some o → ∀ e ∈ o.after, Region.binds .any e = true → listed.getD e.on false = true) → ancB all f j i = true → listed.getD i false = true
  | 0, _, _, _, h => by simp [ancB] at h
  | f + 1, j, i, hj, h => by
    unfold ancB at h
    split at h
    · cases h
    · rename_i o ho
      simp only [List.any_eq_true, Bool.and_eq_true, Bool.or_eq_true, beq_iff_eq] at h
      obtain ⟨e, he, hb, hor⟩ := h
      have hl := hj o ho e (by simpa using he) hb
      rcases hor with rfl | hor
      · exact hl
      · exact anc_listed hC (fun o' ho' e' he' hb' => hC _ o' (by simpa using ho') hl e' he' hb') hor
theorem last_listed {all : List Oper} {listed : Array Bool} {j i : Nat} (hC : Closed all.toArray listed) (hr : j ∈ Region.ready .any all.toArray listed) (hl : lastB P all j = true) {oi : Oper} (hi : all[i]? = some oi) (hmem : memS P oi = true) (hne : i ≠ j) : listed.getD i false = true := by
  unfold lastB at hl
  rw [List.all_eq_true] at hl
  have := hl i (List.mem_range.2 (List.getElem?_eq_some_iff.1 hi).1)
  simp only [Bool.or_eq_true, beq_iff_eq, hne, false_or, hi, hmem, Bool.not_true, Bool.false_eq_true] at this
  obtain ⟨_, o, ho, hall⟩ := mem_ready.1 hr
  exact anc_listed hC (fun o' ho' => by
    obtain rfl : o' = o := by
      have ho : all[j]? = some o := by simpa using ho
      rw [ho'] at ho; injection ho
    exact hall) this

theorem wpF_first {all : List Oper} {lst : Nat → Bool} {Q : Act → World → Prop} {i : Nat} {oi : Oper} {v : Value} (hlst : memS P oi = true → ∀ j, lst j = lastB P all j) (hi : all.toArray[i]? = some oi) (hsel : ∀ (j : Nat) (o : Oper) cs b, all.toArray[j]? = some o → o.op ≠ .select cs b) :
    ∀ (fuel : Nat) (listed : Array Bool) (a : Act) (w : World), Closed all.toArray listed →
      (∀ j oj, all.toArray[j]? = some oj → j ≠ i → listed.getD j true = false → (∀ e ∈ oj.after, Region.binds .any e = true → e.on ≠ i) → oi.apart all.toArray oj = true) →
      i ∈ Region.ready .any all.toArray listed → YF P all.toArray oi v a w →
      wpF P all.toArray lst Q fuel (listed.setIfInBounds i true) (a.put oi.dst v) w → wpF P all.toArray lst Q (fuel + 1) listed a w := by
  intro fuel
  induction fuel with
  | zero =>
    intro listed a w hC _ hr hy H
    refine ⟨fun h => (by rw [h] at hr; cases hr), fun j hj => ?_⟩
    by_cases hji : j = i
    · subst hji; exact hy.opF hi ⟨fun _ => Fr.refl w, H⟩
    · have := ready_mono hj hji
      rw [H.1] at this
      cases this
  | succ fuel ih =>
    intro listed a w hC hfree hr hy H
    refine ⟨fun h => (by rw [h] at hr; cases hr), fun j hj => ?_⟩
    by_cases hji : j = i
    · subst hji; exact hy.opF hi ⟨fun _ => Fr.refl w, H⟩
    · have h1 := H.2 j (ready_mono hj hji)
      obtain ⟨hjun, oj, hoj, hall⟩ := mem_ready.1 hj
      have hiun := (mem_ready.1 hr).1
      have hlisted : listed.getD i false = true → False := fun h => by
        rcases Nat.lt_or_ge i listed.size with h' | h'
        · simp [h'] at hiun h; rw [hiun] at h; cases h
        · simp [Array.getElem?_eq_none h'] at h
      have hnot : ∀ e ∈ oj.after, Region.binds .any e = true → e.on ≠ i := fun e he hb heq => hlisted (heq ▸ hall e he hb)
      have hlast : memS P oi = true → lst j = false := fun hmem => by
        rw [hlst hmem]
        cases hl : lastB P all j with
        | false => rfl
        | true => exact (hlisted (last_listed hC hj hl (by simpa using hi) hmem (Ne.symm hji))).elim
      have h2 := opF_put hoj (hfree j oj hoj hji hjun hnot) (fun cs b => hsel i oi cs b hi) (fun cs b => hsel j oj cs b hoj) hy h1
      have hfree' : ∀ k ok, all.toArray[k]? = some ok → k ≠ i → (listed.setIfInBounds j true).getD k true = false →
          (∀ e ∈ ok.after, Region.binds .any e = true → e.on ≠ i) → oi.apart all.toArray ok = true := fun k ok hk hki hun hno => by
        refine hfree k ok hk hki ?_ hno
        by_cases hjk : j = k
        · subst hjk; exact hjun
        · rw [getD_set_ne true hjk] at hun; exact hun
      refine opF_mono (fun a' w' h3 => ⟨fun h => h3.2.1 h, ih (listed.setIfInBounds j true) a' w' (hC.set hj) hfree' (ready_mono hr (Ne.symm hji)) (h3.1.fr fun hm => h3.2.1 (hlast hm)) ?_⟩) h2
      rw [Array.setIfInBounds_comm _ _ hji]
      exact h3.2.2
end

theorem gd_sound {all : List Oper} {o : Oper} {E : List AV} {go skip : List AV → Prop} (h : gd all o E go skip) :
    (Region.wanted o (yielded all.toArray (acts E).tmps) = true ∧ go E) ∨ (Region.wanted o (yielded all.toArray (acts E).tmps) = false ∧ skip E) := by
  unfold gd at h
  split at h
  · rename_i hg; exact .inl ⟨by simp [Region.wanted, hg], h⟩
  · rename_i j want hg
    split at h
    · rename_i d b hv
      have hw := (wanted_of hg hv).1 b rfl
      have hE : E.set d (.v (.bool b)) = E := set_same (guardVal_spec hv).2
      cases b <;> cases want <;> simp only [cond_true, cond_false, hE] at h
      · exact .inl ⟨by rw [hw]; rfl, h⟩
      · exact .inr ⟨by rw [hw]; rfl, h⟩
      · exact .inr ⟨by rw [hw]; rfl, h⟩
      · exact .inl ⟨by rw [hw]; rfl, h⟩
    · rename_i hv
      exact .inr ⟨(wanted_of hg hv).2 rfl, h⟩
    · exact h.elim

theorem r_sound {P : Program} {all : List Oper} {Q : List AV → World → Prop} (hcall : ∀ o ∈ all, ∀ f ∈ opFns o, callable P f = true) (hsel : Region.noSelect all.toArray = true) {Q' : Act → World → Prop} :
    ∀ {fuel : Nat} {listed : List Bool} {E : List AV} {w : World}, Closed all.toArray listed.toArray → rVC P all Q fuel listed E w →
    (∀ E' w', E'.length = E.length → (∀ d, (∀ o ∈ all, o.dst ≠ some d) → E'.getD d (.v undef) = E.getD d (.v undef)) → Q E' w' → Q' (acts E') w') → wpF P all.toArray (lastB P all) Q' fuel listed.toArray (acts E) w := by
  intro fuel
  induction fuel with
  | zero =>
    intro listed E w hC h hq
    unfold rVC at h
    cases hr : (Region.ready .any all.toArray listed.toArray).isEmpty with
    | false => rw [hr] at h; exact h.elim
    | true => rw [hr] at h; exact ⟨List.isEmpty_iff.1 hr, hq _ _ rfl (fun _ _ => rfl) h⟩
  | succ fuel ih =>
    intro listed E w hC h hq
    have hset : ∀ i, (listed.toArray.setIfInBounds i true) = (listed.set i true).toArray := fun i => by simp
    have NEXT : ∀ {o : Oper} {i : Nat} {v : AV} {w' : World}, all[i]? = some o → i ∈ Region.ready .any all.toArray listed.toArray → rVC P all Q fuel (listed.set i true) (putE E o.dst v) w' →
        wpF P all.toArray (lastB P all) Q' fuel (listed.toArray.setIfInBounds i true) ((acts E).put o.dst v.val) w' := fun {o i v w'} ho hr h => by
      rw [hset, acts_put]
      refine ih (by rw [← hset]; exact hC.set hr) h fun E' w'' hl hs hQ => hq E' w'' (hl.trans (putE_length ..)) (fun d hd => (hs d hd).trans (putE_getD (hd o (List.mem_of_getElem? ho)))) hQ
    unfold rVC at h
    split at h
    · rename_i hr
      exact ⟨fun _ => hq _ _ rfl (fun _ _ => rfl) h, by rw [hr]; simp⟩
    · rename_i r rs hr
      split at h
      · rename_i i hfind
        have hmem : i ∈ Region.ready .any all.toArray listed.toArray := by rw [hr]; exact List.mem_of_find?_eq_some hfind
        have hp := List.find?_some hfind
        split at h
        · rename_i o ho
          simp only [ho, Bool.and_eq_true] at hp
          have hoA : all.toArray[i]? = some o := by simpa using ho
          have hY : ∃ v : AV, YF P all.toArray o v.val (acts E) w ∧ rVC P all Q fuel (listed.set i true) (putE E o.dst v) w := by
            rcases gd_sound h with ⟨hw, h⟩ | ⟨hw, h⟩
            · cases hm : memS P o with
              | true =>
                obtain ⟨v, hk, hrun⟩ := pure_sound h
                exact ⟨v, .inl ⟨hw, fun w' hf => by rw [acts_evalf]; exact hrun w' (hf hm).sub⟩, hk⟩
              | false =>
                obtain ⟨v, hk, hrun⟩ := pure_sound (pure_any (w0 := { w with heap := #[] }) hm h)
                exact ⟨v, .inl ⟨hw, fun w' _ => by rw [acts_evalf]; exact hrun w' fun k hk => by simp at hk⟩, hk⟩
            · exact ⟨.v undef, .inr ⟨hw, val_v _⟩, h⟩
          obtain ⟨v, hy, hk⟩ := hY
          exact wpF_first (fun _ _ => rfl) hoA (Region.noSelect_spec hsel) fuel _ _ _ hC (Region.free_spec hoA hp.2) hmem hy (NEXT ho hmem hk)
        · exact h.elim
      · refine ⟨fun h0 => (by rw [hr] at h0; cases h0), fun i hi => ?_⟩
        have h := allL_mem h i (by rw [← hr]; exact hi)
        split at h
        · rename_i o ho
          have hoA : all.toArray[i]? = some o := by simpa using ho
          unfold opF
          simp only [hoA]
          rcases gd_sound h with ⟨hw, h⟩ | ⟨hw, h⟩
          · rw [if_pos hw]
            intro QQ
            refine op_sound (hcall o (List.mem_of_getElem? ho)) h fun v w' hk => ?_
            cases hl : lastB P all i with
            | true => rw [hl] at hk; exact ⟨fun h => (by cases h), NEXT ho hi hk⟩
            | false => rw [hl] at hk; exact ⟨fun _ => hk.1, NEXT ho hi hk.2⟩
          · rw [if_neg (by rw [hw]; decide)]
            have := NEXT (v := .v undef) ho hi h
            rw [val_v] at this
            exact ⟨fun _ => Fr.refl w, this⟩
        · exact h.elim
theorem a_sound {P : Program} {all : List Oper} {Q : List AV → World → Prop} (hcall : ∀ o ∈ all, ∀ f ∈ opFns o, callable P f = true) (hsel : Region.noSelect all.toArray = true) {Q' : Act → World → Prop} :
    ∀ {fuel : Nat} {listed : List Bool} {E : List AV} {w : World}, Closed all.toArray listed.toArray → aVC P all Q fuel listed E w →
    (∀ E' w', E'.length = E.length → (∀ d, (∀ o ∈ all, o.dst ≠ some d) → E'.getD d (.v undef) = E.getD d (.v undef)) → Q E' w' → Q' (acts E') w') → wpF P all.toArray (fun _ => true) Q' fuel listed.toArray (acts E) w := by
  intro fuel
  induction fuel with
  | zero =>
    intro listed E w hC h hq
    unfold aVC at h
    cases hr : (Region.ready .any all.toArray listed.toArray).isEmpty with
    | false => rw [hr] at h; exact h.elim
    | true => rw [hr] at h; exact ⟨List.isEmpty_iff.1 hr, hq _ _ rfl (fun _ _ => rfl) h⟩
  | succ fuel ih =>
    intro listed E w hC h hq
    have hset : ∀ i, (listed.toArray.setIfInBounds i true) = (listed.set i true).toArray := fun i => by simp
    have NEXT : ∀ {o : Oper} {i : Nat} {v : AV} {w' : World}, all[i]? = some o → i ∈ Region.ready .any all.toArray listed.toArray → aVC P all Q fuel (listed.set i true) (putE E o.dst v) w' →
        wpF P all.toArray (fun _ => true) Q' fuel (listed.toArray.setIfInBounds i true) ((acts E).put o.dst v.val) w' := fun {o i v w'} ho hr h => by
      rw [hset, acts_put]
      refine ih (by rw [← hset]; exact hC.set hr) h fun E' w'' hl hs hQ => hq E' w'' (hl.trans (putE_length ..)) (fun d hd => (hs d hd).trans (putE_getD (hd o (List.mem_of_getElem? ho)))) hQ
    unfold aVC at h
    split at h
    · rename_i hr
      exact ⟨fun _ => hq _ _ rfl (fun _ _ => rfl) h, by rw [hr]; simp⟩
    · rename_i r rs hr
      split at h
      · rename_i i hfind
        have hmem : i ∈ Region.ready .any all.toArray listed.toArray := by rw [hr]; exact List.mem_of_find?_eq_some hfind
        have hp := List.find?_some hfind
        split at h
        · rename_i o ho
          simp only [ho, Bool.and_eq_true, Bool.not_eq_true'] at hp
          have hoA : all.toArray[i]? = some o := by simpa using ho
          have hm := hp.1.2
          have hY : ∃ v : AV, YF P all.toArray o v.val (acts E) w ∧ aVC P all Q fuel (listed.set i true) (putE E o.dst v) w := by
            rcases gd_sound h with ⟨hw, h⟩ | ⟨hw, h⟩
            · obtain ⟨v, hk, hrun⟩ := pure_sound (pure_any (w0 := { w with heap := #[] }) hm h)
              exact ⟨v, .inl ⟨hw, fun w' _ => by rw [acts_evalf]; exact hrun w' fun k hk => by simp at hk⟩, hk⟩
            · exact ⟨.v undef, .inr ⟨hw, val_v _⟩, h⟩
          obtain ⟨v, hy, hk⟩ := hY
          exact wpF_first (fun h => by rw [hm] at h; cases h) hoA (Region.noSelect_spec hsel) fuel _ _ _ hC (Region.free_spec hoA hp.2) hmem hy (NEXT ho hmem hk)
        · exact h.elim
      · refine ⟨fun h0 => (by rw [hr] at h0; cases h0), fun i hi => ?_⟩
        have h := allL_mem h i (by rw [← hr]; exact hi)
        split at h
        · rename_i o ho
          have hoA : all.toArray[i]? = some o := by simpa using ho
          unfold opF
          simp only [hoA]
          rcases gd_sound h with ⟨hw, h⟩ | ⟨hw, h⟩
          · rw [if_pos hw]
            intro QQ
            exact op_sound (hcall o (List.mem_of_getElem? ho)) h fun v w' hk => ⟨fun h => (by cases h), NEXT ho hi hk⟩
          · rw [if_neg (by rw [hw]; decide)]
            have := NEXT (v := .v undef) ho hi h
            rw [val_v] at this
            exact ⟨fun _ => Fr.refl w, this⟩
        · exact h.elim
end Go.Fl
