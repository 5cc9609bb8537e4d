/- What was shown of a region in the plain walk holds within a round of a range over a function. No program is named here. -/
import Derived.Test.YtkojpppnjloikaaDoorFlMem
import Derived.RangeFuncNested
import Derived.RangeFuncBound
import Derived.RangeFuncCalls
import Derived.RangeFuncLeaves
import Derived.RangeFuncFrom
import Derived.Shelf.Abstract
import Derived.ControlIn
import Derived.TacticsIn
import Derived.OrdersIn
namespace Go.Fl
open Go.RowKit

/-- The wide fence, within a round or without. -/
def wr (r : Option Nat) : Fence := { Fence.wide with round := r }
theorem opIn {P : Program} {r : Option Nat} {n : Nat} {o : Oper} {a : Act} {w : World} {next : Act → World → Prop} {Q : Exit → Act → World → Prop} (ho : ∀ c, o.op ≠ .defer c) (h : o.wp P a w next Q) : o.wpIn (wr r) n P a w next Q := by
  refine ⟨fun _ _ => trivial, ?_⟩
  rw [Oper.semAt_eq _ _ _ ho]
  unfold Oper.wp at h
  generalize (execOp a.eval o).run P w = rr at *
  have hd : ∀ m, (wr r).depth.isSome = true → 1 ≤ m := fun m h => by simp [wr, Fence.wide] at h
  cases rr with
  | ok x w' =>
    cases x with
    | value v => exact h
    | skip => exact h
    | defer d => exact h
    | enter f args => exact ⟨hd n, callsIn_wide.2 h⟩
    | row row args =>
      refine ⟨hd n, fun c cs _ => ?_⟩
      obtain ⟨v, w2, h1, h2⟩ := h c cs
      exact ⟨v, w2, h1, stepsIn_wide.2 h2⟩
    | _ => exact h.elim
  | halt x w' =>
    cases x with
    | panic v => exact h
    | _ => exact h.elim
theorem opIn_then {F : Fence} {n : Nat} {P : Program} {o : Oper} {a : Act} {w : World} {K K' : Act → World → Prop} {Q : Exit → Act → World → Prop} (h : o.wpIn F n P a w K (Exit.then K' Q)) : o.wpIn F n P a w K Q := by
  refine ⟨h.1, ?_⟩
  have h := h.2
  generalize (o.semAt F.round a.eval).run P w = r at *
  cases r with
  | ok x w' => cases x <;> exact h
  | halt x w' => cases x <;> exact h
theorem listIn {P : Program} {r : Option Nat} {n : Nat} {ops : Array Oper} {Q : Exit → Act → World → Prop} (hQ : ¬LetsOut Q) : ∀ {L : List Oper} {a : Act} {w : World}, (∀ o ∈ L, ∀ c, o.op ≠ .defer c) → wpList P ops Q L a w → wpListIn (wr r) n P ops Q L a w
  | [], a, w, _, h => h
  | o :: L, a, w, hd, h => by
    have hd' : ∀ o ∈ L, ∀ c, o.op ≠ .defer c := fun p hp => hd p (List.mem_cons_of_mem _ hp)
    rw [wpList] at h
    rw [wpListIn]
    split
    · rename_i hw
      rw [if_pos hw] at h
      rcases h with h | h
      · exact Oper.wpIn_mono (fun a w h => listIn hQ hd' h) (opIn (hd o (List.mem_cons_self ..)) h)
      · exact absurd h.2 hQ
    · rename_i hw
      rw [if_neg hw] at h
      exact ⟨fun _ _ => trivial, listIn hQ hd' h⟩
theorem wpListIn_app {F : Fence} {n : Nat} {P : Program} {ops : Array Oper} {Q : Exit → Act → World → Prop} {L2 : List Oper} : ∀ {L1 : List Oper} {a : Act} {w : World},
    wpListIn F n P ops (Exit.then (wpListIn F n P ops Q L2) Q) L1 a w → wpListIn F n P ops Q (L1 ++ L2) a w
  | [], a, w, h => h
  | o :: L1, a, w, h => by
    rw [List.cons_append]
    rw [wpListIn] at h ⊢
    split
    · rename_i hw
      rw [if_pos hw] at h
      exact Oper.wpIn_mono (fun a w h => wpListIn_app h) (opIn_then h)
    · rename_i hw
      rw [if_neg hw] at h
      exact ⟨h.1, wpListIn_app h.2⟩
/-- Code that is shown in the plain walk, without a round. -/
theorem inW {P : Program} {an : Nat → LA} {c : Code} {n : Nat} {Q : Exit → Act → World → Prop} {E : List AV} {w : World} (hc : (codeFns c).all (callable P) = true) (h : vc P an c (fun e E' w' => Q e (acts E') w') E w) : c.wpIn Fence.wide n P Q (acts E) w := by
  refine wpIn_wide.2 (wp_mono (code_sound (fun f hf => List.all_eq_true.1 hc f hf) h) ?_)
  rintro e a w' ⟨E', rfl, _, hq⟩
  exact hq
/-- Operations that are shown in the plain walk. -/
theorem opsW {P : Program} {r : Option Nat} {n : Nat} {all L : List Oper} {Q : Exit → Act → World → Prop} {E : List AV} {w : World} (hc : (L.flatMap opFns).all (callable P) = true) (hd : ∀ o ∈ L, ∀ c, o.op ≠ .defer c) (hQ : ¬LetsOut Q) (h : opsVC P all (fun E' w' => Q .normal (acts E') w') L E w) :
    wpListIn (wr r) n P all.toArray Q L (acts E) w := by
  refine listIn hQ hd (ops_sound (fun o ho f hf => List.all_eq_true.1 hc f (List.mem_flatMap.2 ⟨o, ho, hf⟩)) h ?_)
  exact fun E' w' _ _ hq => hq
/-- A region within a round. -/
theorem inR {P : Program} {l n id : Nat} {L : List Oper} {Q : Exit → Act → World → Prop} {E : List AV} {w : World} (hc : (L.flatMap opFns).all (callable P) = true) (hd : ∀ o ∈ L, ∀ c, o.op ≠ .defer c) (hQ : ¬LetsOut Q) (h : opsVC P L (fun E' w' => Q .normal (acts E') w') L E w) :
    (Code.region id L.toArray false).wpIn (Fence.wide.inRound l) n P Q (acts E) w := wpIn_region_lit (opsW (r := some l) hc hd hQ h)
/-- The same act with more deferred calls behind. -/
def more (ds : List Deferred) (a : Act) : Act := { a with defers := a.defers ++ ds }
theorem more_put (ds : List Deferred) (a : Act) (d : Option Tmp) (v : Value) : more ds (a.put d v) = (more ds a).put d v := by cases d <;> rfl
theorem more_eval (ds : List Deferred) (a : Act) : (more ds a).eval = a.eval := by funext x; cases x <;> rfl
theorem opIn_more {F : Fence} {n : Nat} {P : Program} {ds : List Deferred} {o : Oper} {a : Act} {w : World} {K K' : Act → World → Prop} {Q : Exit → Act → World → Prop} (hK : ∀ a w, K a w → K' (more ds a) w)
    (h : o.wpIn F n P a w K (fun e a w => Q e (more ds a) w)) : o.wpIn F n P (more ds a) w K' Q := by
  unfold Oper.wpIn at h ⊢
  rw [more_eval]
  refine ⟨h.1, ?_⟩
  have h := h.2
  have hL : LetsOut (fun e a w => Q e (more ds a) w) → LetsOut Q := fun ⟨a, w, h⟩ => ⟨_, w, h⟩
  generalize (o.semAt F.round a.eval).run P w = r at *
  cases r with
  | ok x w' =>
    cases x with
    | value v => have := hK _ _ h; rw [more_put] at this; exact this
    | skip => have := hK _ _ h; rw [more_put] at this; exact this
    | defer d => have := hK _ _ h; rw [more_put] at this; exact this
    | enter f args =>
      refine ⟨h.1, CallsIn.mono h.2 ?_⟩
      rintro (v | c | _) w2 h
      · have := hK _ _ h; rw [more_put] at this; exact this
      · exact h
      · exact hL h
    | row row args =>
      refine ⟨h.1, RowsIn.mono h.2 fun v w2 h => ?_⟩
      have := hK _ _ h; rw [more_put] at this; exact this
    | round l f tmps assign body =>
      refine ⟨h.1, RoundIn.mono h.2 ?_⟩
      rintro (v | c | _) w2 h
      · have := hK _ _ h; rw [more_put] at this; exact this
      · exact h
      · exact hL h
    | _ => exact h.elim
  | halt x w' =>
    cases x with
    | panic v => exact h
    | _ => exact h.elim
theorem listIn_more {F : Fence} {n : Nat} {P : Program} {ds : List Deferred} {ops : Array Oper} {Q : Exit → Act → World → Prop} : ∀ {L : List Oper} {a : Act} {w : World},
    wpListIn F n P ops (fun e a w => Q e (more ds a) w) L a w → wpListIn F n P ops Q L (more ds a) w
  | [], a, w, h => h
  | o :: L, a, w, h => by
    rw [wpListIn] at h ⊢
    have ht : (more ds a).tmps = a.tmps := rfl
    rw [ht]
    split
    · rename_i hw
      rw [if_pos hw] at h
      exact opIn_more (fun a w h => listIn_more h) h
    · rename_i hw
      rw [if_neg hw] at h
      rw [more_eval, ← more_put]
      exact ⟨h.1, listIn_more h.2⟩
def noDefer (L : List Oper) : Bool := L.all fun o => match o.op with | .defer _ => false | _ => true
theorem noDefer_of {L : List Oper} (h : noDefer L = true) {o : Oper} (ho : o ∈ L) (c : Call) : o.op ≠ .defer c := fun e => by
  have := List.all_eq_true.1 h o ho
  rw [e] at this
  cases this
theorem run_yieldOp {P : Program} {o : Oper} {a : Act} {t : TypeId} {x y : Operand} {l : Nat} {v : Value} (h : o.op = .call { callee := .value x, args := #[y], argTypes := #[t] }) (hx : a.eval x = .func (.yield l) #[] #[]) (hy : a.eval y = v) (w : World) :
    (execOp a.eval o).run P w = (Instr.yield l #[v]).run P w := by
  unfold execOp
  rw [h]
  simp [resolve, hx, hy, invoke, Deferred.ofValue]
/-- Changes of variables. -/
def up (e : Nat → AV) : List (Nat × AV) → Nat → AV
  | [], m => e m
  | (k, v) :: l, m => bif k == m then v else up e l m
end Go.Fl
