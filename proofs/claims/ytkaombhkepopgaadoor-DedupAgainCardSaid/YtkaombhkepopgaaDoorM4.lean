/- Contracts and plain laws that the claims of this seat lean on, put together. -/
import Derived.Test.YtkaombhkepopgaaDoorM3
import Derived.Test.YtkaombhkepopgaaDoorRows
import Derived.Lib.LaidTab
import Derived.LaidMore
import Derived.ProofKit
import Derived.Stop.LaidErr
import Derived.Stop.Joined
namespace Go.Proofs.YtkaombhkepopgaaDoor
open Go.RowKit Go.Fl Go.ChangeShapes Go.WideShapes Go.ChangeAt

abbrev noC : List Value := (Kd.av k_dedup_Encoder (none, (⟨none, 0, 0⟩, (0, ())))).cells
/-- Nobody: nil, or one that no call made. -/
def Nob (t : TypeId) (w : World) (p : Option Addr) : Prop := p = none ∨ ∃ g, p = some ⟨g, 0, none⟩ ∧ w.heap[g]? = some (.cells noC.toArray t (0, 0))
section
variable {w w' : World} {p : Option Addr} {t : TypeId}
theorem Nob.fr (h : Nob t w p) (hf : Fr w w') : Nob t w' p := h.imp id fun ⟨g, h1, h2⟩ => ⟨g, h1, hf.heap h2⟩
theorem nemade (h : Nob t w p) : cl Tryd.prog n_dedup_Encoder_made #[.pointer p] .B w fun (r : Bool) w' => r = false ∧ w = w' := by
  refine dedup_Encoder_made.cl ?_
  unfold dedup_Encoder_made
  rcases h with rfl | ⟨g, rfl, hg⟩
  · exact bF rfl ⟨rfl, rfl⟩
  · refine bT rfl ?_
    exact ldP0 (p := none) hg rfl ⟨rfl, rfl⟩
theorem ndmade (h : Nob t w p) : cl Tryd.prog n_dedup_Decoder_made #[.pointer p] .B w fun (r : Bool) w' => r = false ∧ w = w' := by
  refine dedup_Decoder_made.cl ?_
  unfold dedup_Decoder_made
  rcases h with rfl | ⟨g, rfl, hg⟩
  · exact bF rfl ⟨rfl, rfl⟩
  · refine bT rfl ?_
    exact ldP0 (p := none) hg rfl ⟨rfl, rfl⟩
/-- The zero record is stored, and read. -/
theorem rcZ {w u : World} {g : Nat} (hfu : Fr w u) (hg : w.heap.size ≤ g) (hu : u.heap[g]? = some (.cells (rcL rc0 []).toArray t_api_Record (0, 0))) {K : RecT → World → Prop} (hK : ∀ u', Fr w u' → K rc0 u') :
    st u ⟨g, 0, none⟩ (Kd.av k_api_Record (0, (0, ((zrow 32 (.int .u8 0)), (⟨none, 0, 0⟩, ()))))) fun w5 => ld k_api_Record w5 ⟨g, 0, none⟩ fun (r6 : y_api_Record) => K r6 w5 := by
  refine stR rc0 rc0_one hu fun w5 hb5 g5 s5 => ?_
  exact ldR hb5 (hK w5 (Mv.on (F := fun k => k = g) hfu (Mv.of_grown g5 rfl) fun j hj => by omega))
theorem nAdd {s : Sl} (h : Nob t w p) : cl Tryd.prog n_dedup_Encoder_Add #[.pointer p, .slice s.a s.n s.c] (.tup (.pair (.I .i64) (.pair k_api_Record (.pair (.I .i64) .nil)))) w fun (r : Int × RecT × Int × Unit) w' => r = (0, rc0, 6, ()) ∧ Fr w w' := by
  refine dedup_Encoder_Add.cl (p1 := s) ?_
  unfold dedup_Encoder_Add
  rw [avZ]
  refine nwI fun a1 w2 ha1 hs2 hf2 hb1 _ => ?_
  refine (nemade (h.fr hf2)).mono ?_
  rintro _ _ ⟨rfl, rfl⟩
  exact bT rfl (rcZ hf2 (by omega) hb1 fun u' hu' => ⟨rfl, hu'⟩)
theorem nMiss {n : Int} (h : Nob t w p) : cl Tryd.prog n_dedup_Encoder_Miss #[.pointer p, .int .i64 n] (.tup (.pair k_api_Record (.pair (.I .i64) .nil))) w fun (r : RecT × Int × Unit) w' => r = (rc0, 6, ()) ∧ Fr w w' := by
  refine dedup_Encoder_Miss.cl ?_
  unfold dedup_Encoder_Miss
  rw [avZ]
  refine nwI fun a1 w2 ha1 hs2 hf2 hb1 _ => ?_
  refine (nemade (h.fr hf2)).mono ?_
  rintro _ _ ⟨rfl, rfl⟩
  exact bT rfl (rcZ hf2 (by omega) hb1 fun u' hu' => ⟨rfl, hu'⟩)
theorem nDone {n : Int} (h : Nob t w p) : cl Tryd.prog n_dedup_Encoder_Done #[.pointer p, .int .i64 n] (.I .i64) w fun (r : Int) w' => r = 6 ∧ w = w' := by
  refine dedup_Encoder_Done.cl ?_
  unfold dedup_Encoder_Done
  refine (nemade h).mono ?_
  rintro _ _ ⟨rfl, rfl⟩
  exact bT rfl ⟨rfl, rfl⟩
theorem nSent (h : Nob t w p) : cl Tryd.prog n_dedup_Encoder_Sent #[.pointer p] (.I .i64) w fun (r : Int) w' => r = 0 ∧ w = w' := by
  refine dedup_Encoder_Sent.cl ?_
  unfold dedup_Encoder_Sent
  refine (nemade h).mono ?_
  rintro _ _ ⟨rfl, rfl⟩
  exact bT rfl ⟨rfl, rfl⟩
theorem nWaiting (h : Nob t w p) : cl Tryd.prog n_dedup_Encoder_Waiting #[.pointer p] (.I .i64) w fun (r : Int) w' => r = 0 ∧ w = w' := by
  refine dedup_Encoder_Waiting.cl ?_
  unfold dedup_Encoder_Waiting
  refine (nemade h).mono ?_
  rintro _ _ ⟨rfl, rfl⟩
  exact bT rfl ⟨rfl, rfl⟩
theorem nClose (h : Nob t w p) : cl Tryd.prog n_dedup_Encoder_Close #[.pointer p] (.tup .nil) w fun (_ : Unit) w' => w = w' := by
  refine dedup_Encoder_Close.cl ?_
  unfold dedup_Encoder_Close
  refine (nSent h).mono ?_
  rintro _ _ ⟨rfl, rfl⟩
  refine (nDone h).mono ?_
  rintro _ _ ⟨rfl, rfl⟩
  rfl
theorem nPeek (h : Nob t w p) : cl Tryd.prog n_dedup_Decoder_Peek #[.pointer p] (.tup (.pair .L (.pair .B .nil))) w fun (r : Sl × Bool × Unit) w' => r = (⟨none, 0, 0⟩, false, ()) ∧ w = w' := by
  refine dedup_Decoder_Peek.cl ?_
  unfold dedup_Decoder_Peek
  refine (ndmade h).mono ?_
  rintro _ _ ⟨rfl, rfl⟩
  exact bT rfl ⟨rfl, rfl⟩
theorem nPop (h : Nob t w p) : cl Tryd.prog n_dedup_Decoder_Pop #[.pointer p] (.tup (.pair .L (.pair .B .nil))) w fun (r : Sl × Bool × Unit) w' => r = (⟨none, 0, 0⟩, false, ()) ∧ w = w' := by
  refine dedup_Decoder_Pop.cl ?_
  unfold dedup_Decoder_Pop
  refine (nPeek h).mono ?_
  rintro _ _ ⟨rfl, rfl⟩
  exact bF rfl ⟨rfl, rfl⟩
theorem ndDone (h : Nob t w p) : cl Tryd.prog n_dedup_Decoder_Done #[.pointer p] (.I .i64) w fun (r : Int) w' => r = 0 ∧ w = w' := by
  refine dedup_Decoder_Done.cl ?_
  unfold dedup_Decoder_Done
  refine (ndmade h).mono ?_
  rintro _ _ ⟨rfl, rfl⟩
  exact bT rfl ⟨rfl, rfl⟩
theorem nHeld (h : Nob t w p) : cl Tryd.prog n_dedup_Decoder_Held #[.pointer p] (.I .i64) w fun (r : Int) w' => r = 0 ∧ w = w' := by
  refine dedup_Decoder_Held.cl ?_
  unfold dedup_Decoder_Held
  refine (ndmade h).mono ?_
  rintro _ _ ⟨rfl, rfl⟩
  exact bT rfl ⟨rfl, rfl⟩
theorem nTake {n : Int} {r : RecT} (h : Nob t w p) : cl Tryd.prog n_dedup_Decoder_Take #[.pointer p, .int .i64 n, (Kd.av k_api_Record r).val] (.I .i64) w fun (r : Int) w' => r = 6 ∧ Fr w w' := by
  refine dedup_Decoder_Take.cl (p2 := r) ?_
  unfold dedup_Decoder_Take
  rw [rc_av r]
  refine nwI fun a1 w2 ha1 hs2 hf2 hb1 _ => ?_
  refine (ndmade (h.fr hf2)).mono ?_
  rintro _ _ ⟨rfl, rfl⟩
  exact bT rfl ⟨rfl, hf2⟩
end
/-- One of two. -/
theorem ix2 {w w' : World} {g : Nat} {a b : Option Addr} {t : TypeId} (h : w.heap[g]? = some (.cells #[.pointer a, .pointer b] t (0, 0))) (hf : Fr w w') {i : Int} (h0 : 0 ≤ i) (h1 : i < 2) {K : Option Addr → Prop} (k : ∀ q, q = a ∨ q = b → K q) : ixa (some ⟨g, 0, none⟩) 2 i 1 fun a => ld .P w' a K := by
  refine ⟨h0, by omega, ?_⟩
  show ld .P w' (atOff _ _ _) K
  rw [atH]
  have : i = 0 ∨ i = 1 := by omega
  rcases this with rfl | rfl
  · exact ldP0 (p := a) (hf.heap h) rfl (k _ (.inl rfl))
  · exact ldP0 (p := b) (hf.heap h) rfl (k _ (.inr rfl))
theorem DedupNobody_ok {w : World} (p : y_flumelaw11_Do) (hd : Dig w) : cl Tryd.prog n_flumelaw11_DedupNobody #[(Kd.av k_flumelaw11_Do p).val] .B w fun (r : Bool) w' => r = true ∧ Fr w w' := by
  refine flumelaw11_DedupNobody.cl (p0 := p) ?_
  unfold flumelaw11_DedupNobody
  refine nwI fun a1 w2 ha1 hs2 hf2 hb1 _ => ?_
  refine nwI fun a3 w4 ha3 hs4 hf4 hb3 _ => ?_
  refine nwI fun a5 w6 ha5 hs6 hf6 hb5 _ => ?_
  have hn0 : ∀ (t : TypeId) {u : World}, Nob t u none := fun _ _ => .inl rfl
  have hz : rc0.2.2.1.1 = u8s (List.replicate 32 0) := by simp [rc0, zrow, u8s]
  have hd38 : deC (p, [], [], []) = _ := deC_eq (p, [], [], [])
  have hB : ∀ {u : World}, Fr w2 u → ∀ {K : Sl → Prop}, K p.2.2.1 → ld .L u ((⟨a1, 0, none⟩ : Addr).add 2) K := by
    intro u hf K hk
    rw [addOff]
    exact ldL0 (s := p.2.2.1) (hf.heap hb1) rfl hk
  have hN : ∀ {u : World}, Fr w2 u → ∀ {K : Int → Prop}, K p.2.1 → ld (.I .i64) u ((⟨a1, 0, none⟩ : Addr).add 1) K := by
    intro u hf K hk
    rw [addOff]
    exact ldI0 (n := p.2.1) (hf.heap hb1) rfl hk
  have hR : ∀ {u : World}, Fr w2 u → ∀ {K : RecT → Prop}, K p.2.2.2.1 → ld k_api_Record u ((⟨a1, 0, none⟩ : Addr).add 3) K := by
    intro u hf K hk
    rw [addOff]
    refine ld_all k_api_Record p.2.2.2.1 rfl (pre := [.int .i64 p.1, .int .i64 p.2.1, slV p.2.2.1]) (post := []) (t := t_flumelaw11_Do) (f := (0, 0)) (by rw [hf.heap hb1, rc_av]; exact congrArg (fun c : List Value => some (Obj.cells c.toArray t_flumelaw11_Do (0, 0))) (by rw [show (Kd.av k_flumelaw11_Do p).cells = deC (p, [], [], []) from rfl, hd38]; simp)) hk
  have hf26 : Fr w2 w6 := hf4.trans hf6
  have hE : Nob t_dedup_Encoder w6 (some ⟨a3, 0, none⟩) := .inr ⟨a3, rfl, hf6.heap hb3⟩
  refine lpI (fun (s' : Int × Unit) v => ∃ i : Nat, i ≤ 2 ∧ s'.1 = i ∧ Fr w6 v) (fun s' _ => (2 - s'.1).toNat) ⟨0, by decide, rfl, Fr.refl _⟩ ?_
  rintro D ⟨i', ⟨⟩⟩ v ⟨i, hi, rfl, hfv⟩
  dsimp -zeta only at hi ⊢
  refine bD ?_ ?_ <;> intro hlt
  · refine ix2 hb5 hfv (by omega) (by omega) fun q hq => ?_
    have hq : Nob t_dedup_Encoder v q := by
      rcases hq with rfl | rfl
      · exact hn0 _
      · exact hE.fr hfv
    refine hB (hf26.trans hfv) ?_
    refine (nAdd (s := p.2.2.1) hq).mono ?_
    rintro _ w15 ⟨rfl, hf15⟩
    refine newR rc0 rc0_one fun a16 w18 ha16 hf18 hb16 => ?_
    have hf18' := hf15.trans hf18
    have hv18 := hfv.trans hf18'
    refine hN (hf26.trans hv18) ?_
    refine (nMiss (n := p.2.1) (hq.fr hf18')).mono ?_
    rintro _ w21 ⟨rfl, hf21⟩
    refine newR rc0 rc0_one fun a22 w24 ha22 hf24 hb22 => ?_
    have hf24' := hf21.trans hf24
    have hb16' := hf24'.heap hb16
    have hq24 := hq.fr (hf18'.trans hf24')
    refine (nClose hq24).mono ?_
    rintro _ _ rfl
    refine bF rfl ?_
    refine ldR hb16' ?_
    refine (Same_ok (p := rc0) (q := rc0) (l := []) (l' := []) hz hz (Bs.nil _ _) (Bs.nil _ _)).mono ?_
    rintro _ w29 ⟨rfl, hf29⟩
    refine bF (by simp) ?_
    refine ldR (hf29.heap hb22) ?_
    refine (Same_ok (p := rc0) (q := rc0) (l := []) (l' := []) hz hz (Bs.nil _ _) (Bs.nil _ _)).mono ?_
    rintro _ w32 ⟨rfl, hf32⟩
    have hf32' := ((hv18.trans hf24').trans hf29).trans hf32
    have hq32 := hq24.fr (hf29.trans hf32)
    refine bF (by simp) (bF rfl (bF rfl ?_))
    refine hN (hf26.trans hf32') ?_
    refine (nDone (n := p.2.1) hq32).mono ?_
    rintro _ _ ⟨rfl, rfl⟩
    refine bF rfl ?_
    refine (nSent hq32).mono ?_
    rintro _ _ ⟨rfl, rfl⟩
    refine (nWaiting hq32).mono ?_
    rintro _ _ ⟨rfl, rfl⟩
    refine bF (by kernel_rfl) ?_
    rw [i64w (n := (i : Int) + 1) (by omega) (by omega)]
    exact ⟨⟨i + 1, by omega, rfl, hf32'⟩, by omega⟩
  have hf2v : Fr w2 v := hf26.trans hfv
  refine nwI fun a40 w41 ha40 hs41 hf41 hb40 _ => ?_
  refine nwI fun a42 w43 ha42 hs43 hf43 hb42 _ => ?_
  have hf43' : Fr w2 w43 := hf2v.trans (hf41.trans hf43)
  have hE2 : Nob t_dedup_Decoder w43 (some ⟨a40, 0, none⟩) := .inr ⟨a40, rfl, hf43.heap hb40⟩
  refine lpI (fun (s' : Int × Unit) u => ∃ i : Nat, i ≤ 2 ∧ s'.1 = i ∧ Fr w43 u) (fun s' _ => (2 - s'.1).toNat) ⟨0, by decide, rfl, Fr.refl _⟩ ?_
  rintro D ⟨i', ⟨⟩⟩ u ⟨i, hi, rfl, hfu⟩
  dsimp -zeta only at hi ⊢
  refine bD ?_ ?_ <;> intro hlt
  · refine ix2 hb42 hfu (by omega) (by omega) fun q hq => ?_
    have hq : Nob t_dedup_Decoder u q := by
      rcases hq with rfl | rfl
      · exact hn0 _
      · exact hE2.fr hfu
    refine (nPop hq).mono ?_
    rintro _ _ ⟨rfl, rfl⟩
    refine (nPeek hq).mono ?_
    rintro _ _ ⟨rfl, rfl⟩
    refine bN (by decide) (bF rfl (bF rfl ?_))
    refine hN (hf43'.trans hfu) (hR (hf43'.trans hfu) ?_)
    refine (nTake (n := p.2.1) (r := p.2.2.2.1) hq).mono ?_
    rintro _ w57 ⟨rfl, hf57⟩
    refine bF rfl ?_
    refine (ndDone (hq.fr hf57)).mono ?_
    rintro _ _ ⟨rfl, rfl⟩
    refine (nHeld (hq.fr hf57)).mono ?_
    rintro _ _ ⟨rfl, rfl⟩
    refine bF (by kernel_rfl) ?_
    rw [i64w (n := (i : Int) + 1) (by omega) (by omega)]
    exact ⟨⟨i + 1, by omega, rfl, hfu.trans hf57⟩, by omega⟩
  have hfwu : Fr w u := hf2.trans (hf43'.trans hfu)
  have hmk : ∀ {u : World} {q : Option Addr}, (q = none ∨ ∃ g, q = some ⟨g, 0, none⟩ ∧ u.heap[g]? = some (.cells ((Kd.av k_store_Store (z_store_row, (none, (0, (0, (0, ())))))).cells).toArray t_store_Store (0, 0))) → cl Tryd.prog n_store_Store_Made #[.pointer q] .B u fun (r : Bool) w' => r = false ∧ u = w' := by
    intro u q hq
    refine store_Store_Made.cl ?_
    unfold store_Store_Made
    refine (store_Store_made.cl (Q := fun (r : Bool) w' => r = false ∧ u = w') ?_).mono fun _ _ h => h
    unfold store_Store_made
    rcases hq with rfl | ⟨g, rfl, hg⟩
    · exact bF rfl ⟨rfl, rfl⟩
    · refine bT rfl ?_
      dsimp -zeta only [nz]
      rw [addOff]
      refine ldM0 (r := none) hg rfl ?_
      exact qnMapNo u_map_api_Sum_int ⟨rfl, rfl⟩
  refine (dedup_NewEncoder.cl (Q := fun (r : Option Addr) w' => r = none ∧ u = w') ?_).mono ?_
  · unfold dedup_NewEncoder
    refine (hmk (.inl rfl)).mono ?_
    rintro _ _ ⟨rfl, rfl⟩
    exact bT rfl ⟨rfl, rfl⟩
  rintro _ _ ⟨rfl, rfl⟩
  refine bT rfl ?_
  refine nwI fun a64 w65 ha64 hs65 hf65 hb64 _ => ?_
  refine (dedup_NewDecoder.cl (Q := fun (r : Option Addr) w' => r = none ∧ w65 = w') ?_).mono ?_
  · unfold dedup_NewDecoder
    refine (hmk (.inr ⟨a64, rfl, hb64⟩)).mono ?_
    rintro _ _ ⟨rfl, rfl⟩
    exact bT rfl ⟨rfl, rfl⟩
  rintro _ _ ⟨rfl, rfl⟩
  exact bT rfl (awake11 hd (hfwu.trans hf65))
end Go.Proofs.YtkaombhkepopgaaDoor
namespace Go.Fl

theorem alikeF_is {b : List UInt8} : ∀ {f i j m : Nat}, m < alikeF b f i j → j + m < b.length ∧ b[i + m]? = b[j + m]?
  | 0, _, _, m, h => by simp [alikeF] at h
  | f + 1, i, j, m, h => by
    unfold alikeF at h
    split at h
    · rename_i hc
      cases m with
      | zero => exact hc
      | succ m =>
        have := alikeF_is (b := b) (f := f) (i := i + 1) (j := j + 1) (m := m) (by omega)
        rw [show i + 1 + m = i + (m + 1) from by omega, show j + 1 + m = j + (m + 1) from by omega] at this
        exact this
    · omega
theorem longF_alike {b : List UInt8} {p : Nat} : ∀ {f back : Nat} {s : Nat × Nat}, (s.2 ≤ alikeF b 66 (p - s.1) p) → (longF b p f back s).2 ≤ alikeF b 66 (p - (longF b p f back s).1) p
  | 0, _, _, h => h
  | f + 1, back, s, h => by
    rw [longF]
    refine longF_alike ?_
    split
    · exact Nat.le_refl _
    · exact h
theorem longF_max {b : List UInt8} {p : Nat} : ∀ {f back : Nat} {s : Nat × Nat}, s.2 ≤ (longF b p f back s).2 ∧ ∀ k, back ≤ k → k < back + f → alikeF b 66 (p - k) p ≤ (longF b p f back s).2
  | 0, _, _ => ⟨Nat.le_refl _, fun k h1 h2 => by omega⟩
  | f + 1, back, s => by
    rw [longF]
    obtain ⟨h1, h2⟩ := longF_max (b := b) (p := p) (f := f) (back := back + 1) (s := if s.2 < alikeF b 66 (p - back) p then (back, alikeF b 66 (p - back) p) else s)
    have h3 : s.2 ≤ (if s.2 < alikeF b 66 (p - back) p then (back, alikeF b 66 (p - back) p) else s).2 ∧ alikeF b 66 (p - back) p ≤ (if s.2 < alikeF b 66 (p - back) p then (back, alikeF b 66 (p - back) p) else s).2 := by
      split
      · exact ⟨by dsimp only; omega, Nat.le_refl _⟩
      · exact ⟨Nat.le_refl _, by omega⟩
    refine ⟨by omega, fun k hk hk' => ?_⟩
    by_cases e : k = back
    · subst e; omega
    · exact h2 k (by omega) (by omega)
theorem longS_is {b : List UInt8} {p m : Nat} (h : m < (longS b p).2) : p + m < b.length ∧ b[p - (longS b p).1 + m]? = b[p + m]? :=
  alikeF_is (Nat.lt_of_lt_of_le h (longF_alike (Nat.zero_le _)))
theorem longS_max {b : List UInt8} {p k : Nat} (h1 : 1 ≤ k) (h2 : k ≤ min 512 p) : alikeF b 66 (p - k) p ≤ (longS b p).2 := longF_max.2 k h1 (by omega)

/-- A stretch back gives what stands there. -/
theorem again_take {b pre : List UInt8} {p back : Nat} (hb : 1 ≤ back) (hbp : back ≤ p) : ∀ {n : Nat}, p + n ≤ b.length → (∀ m, m < n → b[p - back + m]? = b[p + m]?) → againF back n (pre ++ b.take p) = pre ++ b.take (p + n)
  | 0, _, _ => rfl
  | n + 1, hl, h => by
    rw [againF_snoc, again_take hb hbp (by omega) (fun m hm => h m (by omega))]
    have hget : (pre ++ b.take (p + n)).getD ((pre ++ b.take (p + n)).length - back) 0 = b[p + n]'(by omega) := by
      rw [List.length_append, List.length_take, Nat.min_eq_left (by omega), List.getD_eq_getElem?_getD, List.getElem?_append_right (by omega), List.getElem?_take, if_pos (by omega)]
      have := h n (by omega)
      rw [List.getElem?_eq_getElem (by omega), List.getElem?_eq_getElem (by omega), Option.some.injEq] at this
      rw [show pre.length + (p + n) - back - pre.length = p - back + n from by omega, List.getElem?_eq_getElem (by omega), Option.getD_some]
      exact this
    rw [hget, List.append_assoc, ← List.take_succ_eq_append_getElem (by omega)]
    rfl
/-- Fuel does not matter. -/
abbrev restR (most : Int) (l out : List UInt8) : List UInt8 × Nat := restF most l.length l out
theorem restR_cons (most : Int) (c : UInt8) (t out : List UInt8) : restR most (c :: t) out =
    if (stepS out c t).2.2 ≠ 0 then ([], (stepS out c t).2.2) else if ((stepS out c t).1.length : Int) > most - out.length then ([], 71)
    else restR most ((c :: t).drop (stepS out c t).2.1) (out ++ (stepS out c t).1) := by
  unfold restR
  rw [List.length_cons, restF_step]
  by_cases h : (stepS out c t).2.2 ≠ 0
  · rw [if_pos h, if_pos h]
  · rw [if_neg h, if_neg h]
    have := (stepS_le out c t).2 (by omega)
    rw [restF_any (f := t.length) (g := ((c :: t).drop (stepS out c t).2.1).length) (by rw [List.length_drop, List.length_cons]; omega) (Nat.le_refl _)]
theorem rest_plain {most : Int} (rest : List UInt8) : ∀ (n : Nat) (l out : List UInt8), l.length ≤ n → (out.length : Int) + l.length ≤ most → restR most (plainS l ++ rest) out = restR most rest (out ++ l)
  | n, [], out, _, _ => by rw [plainS_nil, List.nil_append, List.append_nil]
  | 0, c :: l, out, h, _ => by simp at h
  | n + 1, c :: l, out, h, hm => by
    rw [plainS_step (by simp), List.cons_append, restR_cons]
    generalize hL : c :: l = L at *
    have hLl : 1 ≤ L.length := by rw [← hL]; simp
    have hc : (UInt8.ofNat (min 128 L.length - 1)).toNat = min 128 L.length - 1 := by simp; omega
    have hs : stepS out (UInt8.ofNat (min 128 L.length - 1)) (L.take 128 ++ plainS (L.drop 128) ++ rest) = (L.take 128, min 128 L.length + 1, 0) := by
      unfold stepS
      rw [hc, if_pos (by omega), if_neg (by simp; omega)]
      congr 1
      · rw [List.append_assoc, List.take_append_of_le_length (by rw [List.length_take]; omega), List.take_of_length_le (by rw [List.length_take]; omega)]
      · congr 1; omega
    rw [hs]
    simp only [ne_eq, not_true_eq_false, if_false]
    rw [if_neg (by rw [List.length_take]; omega), List.drop_succ_cons, List.append_assoc]
    have hd : ((L.take 128 ++ (plainS (L.drop 128) ++ rest)).drop (min 128 L.length)) = plainS (L.drop 128) ++ rest := by
      rw [List.drop_append_of_le_length (by rw [List.length_take]; omega), List.drop_eq_nil_of_le (by rw [List.length_take]; omega), List.nil_append]
    rw [hd, rest_plain rest n (L.drop 128) (out ++ L.take 128) (by rw [List.length_drop]; omega) (by rw [List.length_append, List.length_take, List.length_drop]; omega), List.append_assoc, List.take_append_drop]
theorem moreN_two {x : Nat} (h : x < 16384) : moreN x ≤ 1 := by
  unfold moreN moreF
  split
  · omega
  · unfold moreF
    rw [if_pos (by omega)]
    omega
theorem numB_two {x : Nat} (h : x ≤ 512) : (numB x).length ≤ 2 := by rw [numB_length]; have := moreN_two (x := x) (by omega); omega
theorem numB_one {x : Nat} (h : x < 128) : (numB x).length = 1 := by rw [numB_length]; unfold moreN moreF; rw [if_pos h]
theorem lookS_app {l rest : List UInt8} (h : (lookS l).2.2 = 0) : lookS (l ++ rest) = lookS l ∧ (lookS l).2.1 ≤ l.length := by
  obtain ⟨n, k, e, hL⟩ : ∃ n k e, lookS l = (n, k, e) := ⟨_, _, _, rfl⟩
  rw [hL] at h ⊢
  obtain rfl : e = 0 := h
  obtain ⟨h1, h2, h3, h4⟩ := look_back hL
  refine ⟨?_, h2⟩
  rw [← List.take_append_drop k l, List.append_assoc, h3, look_num h4, h1]
theorem step_match {out rest : List UInt8} {n back : Nat} (hn : 3 ≤ n) (hn' : n ≤ 66) (hb : 1 ≤ back) (hb' : back ≤ 512) (ho : back ≤ out.length) :
    stepS out (UInt8.ofNat (n + 125)) (numB back ++ rest) = (addF back n out, (numB back).length + 1, 0) := by
  have hc : (UInt8.ofNat (n + 125)).toNat = n + 125 := by simp; omega
  unfold stepS
  rw [hc, if_neg (by omega), look_num (by omega)]
  simp only
  rw [if_neg (by decide), if_neg (by omega), numB_length, Nat.add_sub_cancel]
/-- What was shortened is restored, behind whatever stood there. -/
theorem rest_short {most : Int} {b : List UInt8} (pre rest : List UInt8) (hm : (pre.length : Int) + b.length ≤ most) : ∀ (f lo p : Nat), b.length + 1 ≤ f + p → lo ≤ p → p ≤ b.length →
    restR most (shortF b f lo p ++ rest) (pre ++ b.take lo) = restR most rest (pre ++ b)
  | 0, lo, p, hf, _, hp => by omega
  | f + 1, lo, p, hf, hlo, hp => by
    rw [shortF]
    have hfit := longS_fits hp
    split
    · split
      · exact rest_short pre rest hm f lo (p + 1) (by omega) (by omega) (by omega)
      · rename_i hpl h3
        have hdl : ((b.take p).drop lo).length = p - lo := by rw [List.length_drop, List.length_take]; omega
        rw [List.append_assoc, rest_plain _ _ _ _ (Nat.le_refl _) (by rw [hdl, List.length_append, List.length_take]; omega)]
        have e : pre ++ b.take lo ++ (b.take p).drop lo = pre ++ b.take p := by
          have h := List.take_append_drop lo (b.take p)
          rw [List.take_take, Nat.min_eq_left hlo] at h
          rw [List.append_assoc, h]
        rw [e, List.cons_append, restR_cons, List.append_assoc, step_match (by omega) hfit.2.1 (hfit.2.2.2 (by omega)) (by omega) (by rw [List.length_append, List.length_take]; omega)]
        simp only [ne_eq, not_true_eq_false, if_false]
        rw [if_neg (by rw [addF_length, List.length_append, List.length_take]; omega), ← addF_spec, List.drop_succ_cons, List.drop_left,
          again_take (hfit.2.2.2 (by omega)) (by omega) (by omega) (fun m hm => (longS_is hm).2)]
        exact rest_short pre rest hm f _ _ (by omega) (Nat.le_refl _) (by omega)
    · obtain rfl : p = b.length := by omega
      rw [rest_plain _ _ _ _ (Nat.le_refl _) (by rw [List.length_drop, List.length_append, List.length_take]; omega), List.append_assoc, List.take_append_drop]
theorem rest_back (b : List UInt8) : restS (shortS b) b.length = (b, 0) := by
  have := rest_short (most := b.length) (b := b) [] [] (by simp) (b.length + 1) 0 0 (by omega) (Nat.le_refl _) (Nat.zero_le _)
  rw [List.append_nil] at this
  exact this
theorem rest_twice (a b : List UInt8) : restS (shortS a ++ shortS b) ((a.length : Int) + b.length) = (a ++ b, 0) := by
  have h1 := rest_short (most := (a.length : Int) + b.length) (b := a) [] (shortS b) (by simp; omega) (a.length + 1) 0 0 (by omega) (Nat.le_refl _) (Nat.zero_le _)
  have h2 := rest_short (most := (a.length : Int) + b.length) (b := b) a [] (by omega) (b.length + 1) 0 0 (by omega) (Nat.le_refl _) (Nat.zero_le _)
  rw [List.append_nil, List.take_zero, List.append_nil] at h2
  exact h1.trans h2

/-- How long bytes are as they are. -/
theorem plain_len : ∀ (n : Nat) (l : List UInt8), l.length ≤ n → 3 * (plainS l).length ≤ 4 * l.length + 3 ∧ (l.length ≤ 128 → (plainS l).length ≤ l.length + 1)
  | n, [], _ => by simp [plainS_nil]
  | 0, c :: l, h => by simp at h
  | n + 1, c :: l, h => by
    rw [plainS_step (by simp)]
    generalize hL : c :: l = L at *
    have hLl : 1 ≤ L.length := by rw [← hL]; simp
    obtain ⟨h1, h2⟩ := plain_len n (L.drop 128) (by rw [List.length_drop]; omega)
    rw [List.length_cons, List.length_append, List.length_take]
    rw [List.length_drop] at h1 h2
    refine ⟨?_, fun h => ?_⟩
    · by_cases h128 : L.length ≤ 128
      · have : plainS (L.drop 128) = [] := by rw [List.drop_eq_nil_of_le h128, plainS_nil]
        rw [this]
        simp
        omega
      · omega
    · have : plainS (L.drop 128) = [] := by rw [List.drop_eq_nil_of_le h, plainS_nil]
      rw [this]
      simp
      omega
theorem short_len {b : List UInt8} : ∀ (f lo p : Nat), b.length + 1 ≤ f + p → lo ≤ p → p ≤ b.length → 3 * (shortF b f lo p).length ≤ 4 * (b.length - lo) + 3
  | 0, lo, p, hf, _, hp => by omega
  | f + 1, lo, p, hf, hlo, hp => by
    rw [shortF]
    have hfit := longS_fits hp
    split
    · split
      · exact short_len f lo (p + 1) (by omega) (by omega) (by omega)
      · have hdl : ((b.take p).drop lo).length = p - lo := by rw [List.length_drop, List.length_take]; omega
        have h1 := plain_len _ ((b.take p).drop lo) (Nat.le_refl _)
        have h2 := short_len (b := b) f (p + (longS b p).2) (p + (longS b p).2) (by omega) (Nat.le_refl _) (by omega)
        have h3 := numB_two (x := (longS b p).1) (by omega)
        rw [List.length_append, List.length_cons, List.length_append]
        rw [hdl] at h1
        omega
    · have h1 := plain_len _ (b.drop lo) (Nat.le_refl _)
      rw [List.length_drop] at h1
      omega
theorem shortS_len (b : List UInt8) : (shortS b).length ≤ b.length + b.length / 3 + 1 := by
  have := short_len (b := b) (b.length + 1) 0 0 (by omega) (Nat.le_refl _) (Nat.zero_le _)
  unfold shortS
  omega
/-- A token is the same with others behind. -/
theorem step_app {out t rest : List UInt8} {c : UInt8} (h : (stepS out c t).2.2 = 0) : stepS out c (t ++ rest) = stepS out c t ∧ (stepS out c t).2.1 ≤ t.length + 1 := by
  refine ⟨?_, (stepS_le out c t).1⟩
  unfold stepS at h ⊢
  by_cases h1 : c.toNat < 128
  · simp only [h1, if_true] at h ⊢
    by_cases h2 : t.length < c.toNat + 1
    · simp only [h2, if_true] at h; exact absurd h (by decide)
    · rw [if_neg h2, if_neg (by rw [List.length_append]; omega), List.take_append_of_le_length (by omega)]
  · simp only [h1, if_false] at h ⊢
    by_cases h2 : (lookS t).2.2 = 2
    · rw [if_pos h2] at h; exact absurd h (by decide)
    · rw [if_neg h2] at h
      by_cases h3 : (lookS t).2.2 ≠ 0 ∨ c.toNat > 191 ∨ (lookS t).1 < 1 ∨ (lookS t).1 > 512 ∨ (lookS t).1 > out.length
      · rw [if_pos h3] at h; exact absurd h (by decide)
      · rw [(lookS_app (rest := rest) (by omega)).1]
theorem rest_app {most : Int} (rest : List UInt8) : ∀ (n : Nat) {l out x : List UInt8}, l.length ≤ n → restR most l out = (x, 0) → restR most (l ++ rest) out = restR most rest x
  | n, [], out, x, _, h => by
    have : x = out := by have := congrArg Prod.fst h; exact this.symm
    rw [this]; rfl
  | 0, c :: t, out, x, hn, _ => by simp at hn
  | n + 1, c :: t, out, x, hn, h => by
    rw [restR_cons] at h
    by_cases h1 : (stepS out c t).2.2 ≠ 0
    · rw [if_pos h1] at h
      have := congrArg Prod.snd h
      exact absurd this h1
    · rw [if_neg h1] at h
      by_cases h2 : ((stepS out c t).1.length : Int) > most - out.length
      · rw [if_pos h2] at h
        cases h
      · rw [if_neg h2] at h
        obtain ⟨e1, e2⟩ := step_app (rest := rest) (show (stepS out c t).2.2 = 0 by omega)
        have h3 := (stepS_le out c t).2 (by omega)
        rw [List.cons_append, restR_cons, e1, if_neg h1, if_neg h2]
        rw [← rest_app rest n (l := (c :: t).drop (stepS out c t).2.1) (by rw [List.length_drop, List.length_cons]; simp at hn; omega) h]
        rw [← List.cons_append, List.drop_append_of_le_length (by rw [List.length_cons]; omega)]
theorem rest_pre {most : Int} : ∀ (n : Nat) {l out x : List UInt8}, l.length ≤ n → restR most l out = (x, 0) → ∃ y, x = out ++ y
  | n, [], out, x, _, h => ⟨[], by have := congrArg Prod.fst h; simpa [restR, restF] using this.symm⟩
  | 0, c :: t, out, x, hn, _ => by simp at hn
  | n + 1, c :: t, out, x, hn, h => by
    rw [restR_cons] at h
    split at h
    · rename_i h1; exact absurd (congrArg Prod.snd h) h1
    · rename_i h1
      split at h
      · cases h
      · have h3 := (stepS_le out c t).2 (by omega)
        obtain ⟨y, hy⟩ := rest_pre n (l := (c :: t).drop (stepS out c t).2.1) (by rw [List.length_drop, List.length_cons]; simp at hn; omega) h
        exact ⟨(stepS out c t).1 ++ y, by rw [hy, List.append_assoc]⟩
theorem step_adds {out t : List UInt8} {c : UInt8} (h : (stepS out c t).2.2 = 0) : 1 ≤ (stepS out c t).1.length := by
  unfold stepS at h ⊢
  by_cases h1 : c.toNat < 128
  · simp only [h1, if_true] at h ⊢
    by_cases h2 : t.length < c.toNat + 1
    · simp only [h2, if_true] at h; exact absurd h (by decide)
    · rw [if_neg h2, List.length_take]; omega
  · simp only [h1, if_false] at h ⊢
    by_cases h2 : (lookS t).2.2 = 2
    · rw [if_pos h2] at h; exact absurd h (by decide)
    · rw [if_neg h2] at h ⊢
      by_cases h3 : (lookS t).2.2 ≠ 0 ∨ c.toNat > 191 ∨ (lookS t).1 < 1 ∨ (lookS t).1 > 512 ∨ (lookS t).1 > out.length
      · rw [if_pos h3] at h; exact absurd h (by decide)
      · rw [if_neg h3, addF_length]; omega
/-- What can be restored needs just its own room. -/
theorem rest_room {most most' : Int} : ∀ (n : Nat) {l out x : List UInt8}, l.length ≤ n → (out.length : Int) ≤ max most' 0 → restR most l out = (x, 0) →
    restR most' l out = if (x.length : Int) ≤ max most' 0 then (x, 0) else ([], 71)
  | n, [], out, x, _, ho, h => by
    have e : x = out := (congrArg Prod.fst h).symm
    subst e
    rw [if_pos ho]; rfl
  | 0, c :: t, out, x, hn, _, _ => by simp at hn
  | n + 1, c :: t, out, x, hn, ho, h => by
    rw [restR_cons] at h ⊢
    by_cases h1 : (stepS out c t).2.2 ≠ 0
    · rw [if_pos h1] at h
      exact absurd (congrArg Prod.snd h) h1
    · rw [if_neg h1] at h ⊢
      by_cases h2 : ((stepS out c t).1.length : Int) > most - out.length
      · rw [if_pos h2] at h
        cases h
      · rw [if_neg h2] at h
        have h3 := (stepS_le out c t).2 (by omega)
        have h4 := step_adds (out := out) (c := c) (t := t) (by omega)
        have hl : ((c :: t).drop (stepS out c t).2.1).length ≤ n := by rw [List.length_drop, List.length_cons]; simp at hn; omega
        obtain ⟨y, hy⟩ := rest_pre n hl h
        have hxl := congrArg List.length hy
        rw [List.length_append, List.length_append] at hxl
        by_cases h5 : ((stepS out c t).1.length : Int) > most' - out.length
        · rw [if_pos h5, if_neg (by omega)]
        · rw [if_neg h5]
          exact rest_room n hl (by rw [List.length_append]; omega) h
end Go.Fl
namespace Go.Proofs.YtkaombhkepopgaaDoor
open Go.RowKit Go.Fl

/-- Each is there with its chunk. -/
def AllT (l : List (List UInt8 × Bool)) : Prop := ∀ b ∈ l, b.2 = true
theorem AllT.set {l : List (List UInt8 × Bool)} (h : AllT l) (i : Nat) (b : List UInt8) : AllT (l.set i (b, true)) := fun x hx => by
  rcases List.mem_or_eq_of_mem_set hx with hx | hx
  · exact h x hx
  · rw [hx]
theorem AllT.snoc {l : List (List UInt8 × Bool)} (h : AllT l) (b : List UInt8) : AllT (l ++ [(b, true)]) := fun x hx => by
  rcases List.mem_append.1 hx with hx | hx
  · exact h x hx
  · rw [List.mem_singleton] at hx; rw [hx]
theorem take_all {d : De} {s : Sto} {i k z : Int} {dd l : List UInt8} (h : AllT d.list) (hne : (takeS d s i k z dd l).2.2 ≠ 110) : AllT (takeS d s i k z dd l).1.list := by
  unfold takeS at hne ⊢
  split
  · exact h
  · rename_i h1
    rw [if_neg h1] at hne
    split
    · exact h
    · rename_i h2
      rw [if_neg h2] at hne
      split
      · exact h
      · rename_i h3
        rw [if_neg h3] at hne
        dsimp only at hne ⊢
        have h0 : (opnS s k z dd l).2.2 = 0 := Classical.byContradiction fun hh => h3 ⟨hh, hne⟩
        rw [h0, decide_eq_true rfl]
        split
        · exact h.snoc _
        · exact h.set _ _
/-- What was missed comes with its chunk. -/
theorem take_lit {d : De} {s s' : Sto} {i k z k' z' : Int} {dd l dd' l' b : List UInt8} (h : AllT d.list) (hc : (takeS d s i k z dd l).2.2 = 110) (hk : k' ≠ 1) (ho : openS k' z' dd' l' = (b, 0)) :
    (takeS (takeS d s i k z dd l).1 s' i k' z' dd' l').2.2 = 0 ∧ AllT (takeS (takeS d s i k z dd l).1 s' i k' z' dd' l').1.list := by
  have ho' : (opnS s' k' z' dd' l').2 = (b, 0) := by
    unfold opnS
    rw [if_neg fun h => hk h.1, ho]
  by_cases h1 : i < 1 ∨ i - d.done - 1 > d.list.length ∨ i - d.done - 1 ≥ 8
  · unfold takeS at hc; rw [if_pos h1] at hc; cases hc
  by_cases h2 : i - d.done - 1 < 0 ∨ (d.list[(i - d.done - 1).toNat]?).map (·.2) = some true
  · unfold takeS at hc; rw [if_neg h1, if_pos h2] at hc; cases hc
  have e1 : takeS d s i k z dd l = if (opnS s k z dd l).2.2 ≠ 0 ∧ (opnS s k z dd l).2.2 ≠ 110 then (d, (opnS s k z dd l).1, (opnS s k z dd l).2.2)
      else ({ d with list := if i - d.done - 1 = d.list.length then d.list ++ [((opnS s k z dd l).2.1, decide ((opnS s k z dd l).2.2 = 0))] else d.list.set (i - d.done - 1).toNat ((opnS s k z dd l).2.1, decide ((opnS s k z dd l).2.2 = 0)) }, (opnS s k z dd l).1, (opnS s k z dd l).2.2) := by
    unfold takeS; rw [if_neg h1, if_neg h2]
  by_cases h3 : (opnS s k z dd l).2.2 ≠ 0 ∧ (opnS s k z dd l).2.2 ≠ 110
  · rw [e1, if_pos h3] at hc; exact absurd hc h3.2
  rw [e1, if_neg h3] at hc ⊢
  dsimp only at hc ⊢
  rw [hc]
  obtain ⟨j, hj⟩ : ∃ j : Nat, i - d.done - 1 = (j : Int) := ⟨(i - d.done - 1).toNat, by omega⟩
  rw [hj, Int.toNat_natCast]
  obtain ⟨L, hL⟩ : ∃ L, (if (j : Int) = d.list.length then d.list ++ [((opnS s k z dd l).2.1, decide ((110 : Int) = 0))] else d.list.set j ((opnS s k z dd l).2.1, decide ((110 : Int) = 0))) = L := ⟨_, rfl⟩
  rw [hL]
  have hjl : j < L.length := by
    rw [← hL]
    split
    · rw [List.length_append, List.length_singleton]; omega
    · rw [List.length_set]; omega
  have hat : L[j]? = some ((opnS s k z dd l).2.1, false) := by
    rw [← hL]
    split
    · rw [List.getElem?_append_right (by omega), show j - d.list.length = 0 from by omega]; rfl
    · rw [List.getElem?_set_self (by omega)]; rfl
  have hoth : ∀ (n : Nat) x, n ≠ j → L[n]? = some x → x.2 = true := by
    intro n x hn hx
    rw [← hL] at hx
    split at hx
    · rename_i hjj
      rcases Nat.lt_or_ge n d.list.length with h' | h'
      · rw [List.getElem?_append_left h'] at hx
        exact h x (List.mem_of_getElem? hx)
      · rw [List.getElem?_eq_none (by rw [List.length_append, List.length_singleton]; omega)] at hx; cases hx
    · rw [List.getElem?_set_ne (Ne.symm hn)] at hx
      exact h x (List.mem_of_getElem? hx)
  have e2 : takeS ⟨L, d.done⟩ s' i k' z' dd' l' = (⟨L.set j (b, true), d.done⟩, (opnS s' k' z' dd' l').1, 0) := by
    unfold takeS
    dsimp only
    rw [hj, Int.toNat_natCast, if_neg (by omega), if_neg (by rw [hat]; simp), ho', if_neg (by simp), if_neg (by omega)]
    rfl
  rw [e2]
  refine ⟨rfl, fun x hx => ?_⟩
  obtain ⟨n, hn⟩ := List.getElem?_of_mem hx
  by_cases e : n = j
  · subst e
    rw [List.getElem?_set_self hjl] at hn
    rw [← Option.some.inj hn]
  · dsimp only at hn
    rw [List.getElem?_set_ne (Ne.symm e)] at hn
    exact hoth n x e hn
theorem pop_all {d : De} (h : AllT d.list) : AllT (popS d).list ∧ (popS d).list.length ≤ d.list.length ∧ (popS d).done ≤ d.done + 1 ∧ (popS d).done + (popS d).list.length = d.done + d.list.length := by
  unfold popS
  split
  · rename_i hp
    refine ⟨fun b hb => h b (List.mem_of_mem_drop hb), by dsimp only; rw [List.length_drop]; omega, Nat.le_refl _, ?_⟩
    have : d.list ≠ [] := fun e => by unfold peekS at hp; rw [e] at hp; cases hp
    have := List.length_pos_iff.2 this
    dsimp only; rw [List.length_drop]; omega
  · exact ⟨h, Nat.le_refl _, Nat.le_succ _, rfl⟩
/-- What is there is not taken again. -/
theorem take_again {d : De} {s : Sto} {i k z : Int} {dd l : List UInt8} (h : AllT d.list) (hl : d.list.length ≤ 8) (h1 : 1 ≤ i) (h2 : i ≤ (d.list.length : Int) + d.done) : takeS d s i k z dd l = (d, s, 0) := by
  unfold takeS
  rw [if_neg (by omega), if_pos]
  by_cases h3 : i - d.done - 1 < 0
  · exact .inl h3
  · right
    have hj : (i - d.done - 1).toNat < d.list.length := by omega
    rw [List.getElem?_eq_getElem hj, Option.map_some, h _ (List.getElem_mem hj)]
theorem MakeC.opens {w : World} {Z : Nat → Prop} {b : List UInt8} {p : RecT} (h : MakeC w Z b false p) (h1 : 1 ≤ b.length) (h2 : b.length ≤ 256) :
    ∃ l, Bs w p.2.2.2.1 l ∧ l.length ≤ 256 ∧ p.1 ≠ 1 ∧ openS p.1 p.2.1 (dig b) l = (b, 0) := by
  obtain ⟨hk, hB⟩ := h.bs
  have hz := h.1
  by_cases hs : (shortS b).length < b.length
  · rw [if_pos hs] at hk hB
    refine ⟨_, hB, by omega, by omega, ?_⟩
    unfold openS chkS
    rw [hk, hz, rest_back]
    simp only [if_true]
    rw [if_neg (by
      rw [if_pos ⟨.inr (.inr ⟨trivial, by omega⟩), by omega, by omega⟩]
      simp)]
    simp
  · rw [if_neg hs] at hk hB
    refine ⟨_, hB, by omega, by omega, ?_⟩
    unfold openS chkS
    rw [hk, hz]
    rw [if_neg (by
      rw [if_pos ⟨.inr (.inl ⟨rfl, rfl⟩), by omega, by omega⟩]
      simp)]
    simp
section
variable {w0 w : World} {Z : Nat → Prop} {ga gb ge gd : Nat} {sa sb : Sto} {e : En} {d : De}
theorem through_ok {p : Sl} {b : List UInt8} {m : Nat} (h : Two w0 w Z ga gb ge gd sa sb e d) (hb : Bs w0 p b) (hbl : b.length ≤ 140737488351232) (hdn : e.done = 0) (hln : e.list.length ≤ 8) (hP : PB sa m) (hm : m ≤ 1000) (hd0 : d.done = 0) (hdl : d.list.length ≤ 8) (hA : AllT d.list) :
    cl Tryd.prog n_flumelaw11_through #[.pointer (some ⟨ge, 0, none⟩), .pointer (some ⟨gd, 0, none⟩), .slice p.a p.n p.c] .B w fun (_ : Bool) w' =>
      ∃ Z' sa' sb' e' d', Two w0 w' Z' ga gb ge gd sa' sb' e' d' ∧ Stp w Z w' Z' ∧ e'.done = 0 ∧ e'.list.length ≤ 8 ∧ PB sa' (m + 1) ∧ d'.done = 0 ∧ d'.list.length ≤ 8 ∧ AllT d'.list := by
  refine flumelaw11_through.cl (p2 := p) ?_
  unfold flumelaw11_through
  refine (h.add (Cb.old hb h.fr h.base) hbl (by omega) hln (hP.mono (by omega))).mono ?_
  rintro ⟨i, q, r⟩ w2 hr
  have hone : (∀ v ∈ q.2.2.1.1, v.oneCell' = true) := by
    rcases hr with ⟨⟨_, h⟩ | ⟨_, _, h⟩, _⟩ | ⟨_, _, _, _, _, Z2, hM, _, _⟩
    · injection h with _ h; injection h with h _; rw [h]; exact rc0_one
    · injection h with _ h; injection h with h _; rw [h]; exact rc0_one
    · exact u8s_hone _ hM.2.1
  refine newR q hone fun a3 w5 ha3 hf5 hb5 => ?_
  rcases hr with ⟨hbad, hf2⟩ | ⟨q1, q2, q3, q4, q5, Z2, hM, h2, s2⟩
  · have hf := hf2.trans hf5
    have fin : ∀ _ : Bool, ∃ Z' sa' sb' e' d', Two w0 w5 Z' ga gb ge gd sa' sb' e' d' ∧ Stp w Z w5 Z' ∧ e'.done = 0 ∧ e'.list.length ≤ 8 ∧ PB sa' (m + 1) ∧ d'.done = 0 ∧ d'.list.length ≤ 8 ∧ AllT d'.list :=
      fun _ => ⟨Z, sa, sb, e, d, h.other hf, Stp.of_fr hf, hdn, hln, hP.mono (by omega), hd0, hdl, hA⟩
    refine bNe ?_ ?_ <;> intro h0
    · refine bE ?_ ?_ <;> intro h1
      · refine bE ?_ ?_ <;> intro h2
        · exact fin true
        · exact fin true
      · exact fin true
    · exfalso
      rcases hbad with ⟨_, h⟩ | ⟨_, _, h⟩
      · injection h with _ h; injection h with _ h; rw [h] at h0; cases h0
      · injection h with _ h; injection h with _ h; rw [h] at h0; cases h0
  · dsimp -zeta only at q4 q5 hM ⊢
    have h2' := h2.other hf5
    have s5 := s2.fr hf5
    have hel' : (addS e sa b).1.list.length ≤ 8 := by
      show (e.list ++ [_]).length ≤ 8
      rw [List.length_append, List.length_singleton]; omega
    refine bF (by rw [q5]; rfl) ?_
    refine ldR hb5 ?_
    obtain ⟨l, hB, hl⟩ : ∃ l, Bs w2 q.2.2.2.1 l ∧ l.length ≤ 256 := by
      have h3 := hM.2.2
      split at h3
      · exact ⟨[], by rw [h3.2]; exact Bs.nil _ _, by simp⟩
      · split at h3
        · exact ⟨_, h3.2.bs, by omega⟩
        · exact ⟨_, h3.2.bs, q3⟩
    have hz3 : ¬Z2 a3 := fun hz => by
      obtain ⟨⟨FA, FB, xa, xb, hZ, k1, k2, k3, k4⟩, k5, k6, k7, k8⟩ := h2
      rw [hZ] at hz
      rcases hz with hk | hk | hk | hk
      · have := k1.fl _ hk; omega
      · have := k2.fl _ hk; omega
      · have := k3.lt; omega
      · have := k4.lt; omega
    refine (h2'.take (p1 := i) hM.2.1 (hB.fr hf5) (by omega) (by omega) hdl (by rw [q4]; omega)).mono ?_
    rintro r7 w8 ⟨h7, Z8, h8, s8⟩
    obtain ⟨t1, t2⟩ := takeS_len (s := sb) (i := i) (k := q.1) (z := q.2.1) (d := dig b) (l := l) hdl
    have hb8 := s8.heap hb5 hz3
    have hz8 := s8.not (Array.getElem?_eq_some_iff.1 hb5).1 hz3
    have s58 := s5.trans s8
    have fin : r7 ≠ 110 → ∃ Z' sa' sb' e' d', Two w0 w8 Z' ga gb ge gd sa' sb' e' d' ∧ Stp w Z w8 Z' ∧ e'.done = 0 ∧ e'.list.length ≤ 8 ∧ PB sa' (m + 1) ∧ d'.done = 0 ∧ d'.list.length ≤ 8 ∧ AllT d'.list :=
      fun hne => ⟨Z8, _, _, _, _, h8, s58, hdn, hel', hP.add e _, t2.trans hd0, t1, take_all hA (h7 ▸ hne)⟩
    refine bE ?_ ?_ <;> intro h0
    · exact fin (fun h => by rw [h0] at h; cases h)
    refine bE ?_ ?_ <;> intro h110
    · rw [h7] at h110
      have hd8 : (addS e sa b).1.done = 0 := hdn
      have hle : (addS e sa b).1.list.length = e.list.length + 1 := by simp [addS]
      refine (h8.miss (p1 := i) (by omega) hel').mono ?_
      rintro ⟨q9, r9⟩ w10 ⟨⟨hbad, _⟩ | ⟨k, c, hk1, hk2, hk3, hk4, hk5, hM9⟩, hf10⟩
      · exfalso
        rw [hd8, hle, q4] at hbad
        omega
      dsimp -zeta only at hk5 hM9 ⊢
      refine newR q9 (u8s_hone _ hM9.2.1) fun a11 w13 ha11 hf13 hb13 => ?_
      have h13 := h8.other (hf10.trans hf13)
      have hb3 := hf13.heap (hf10.heap hb8)
      refine ldI0 (n := q.1) hb3 rfl ?_
      have hq1 : q.1 = 1 := by
        apply Classical.byContradiction
        intro hq1
        have h3 := hM.2.2
        have : ∃ c, openS q.1 q.2.1 (dig b) l = c ∧ c.2 ≠ 110 := by
          refine ⟨_, rfl, ?_⟩
          unfold openS
          split
          · simp
          · split
            · simp
            · split <;> split <;> simp
        obtain ⟨c, hc, hc2⟩ := this
        have hop : (opnS sb q.1 q.2.1 (dig b) l).2.2 ≠ 110 := by
          unfold opnS
          rw [if_neg fun h => hq1 h.1, hc]
          exact hc2
        unfold takeS at h110
        split at h110
        · cases h110
        · split at h110
          · cases h110
          · split at h110
            · exact hop h110
            · exact hop h110
      refine bT (by rw [hq1]; rfl) ?_
      refine bT (by rw [hk5]; rfl) ?_
      refine ldR hb13 ?_
      obtain ⟨l9, hB9, hl9, hne9, ho9⟩ := hM9.opens hk3 hk4
      refine (h13.take (p1 := i) hM9.2.1 (hB9.fr hf13) (by omega) (by rw [t2]; omega) t1 (by rw [q4]; omega)).mono ?_
      rintro r16 w17 ⟨h16, Z17, h17, s17⟩
      obtain ⟨u1, u2⟩ := take_lit (s' := (takeS d sb i q.1 q.2.1 (dig b) l).2.1) hA h110 hne9 ho9
      obtain ⟨v1, v2⟩ := takeS_len (s := (takeS d sb i q.1 q.2.1 (dig b) l).2.1) (i := i) (k := q9.1) (z := q9.2.1) (d := dig c.1) (l := l9) t1
      exact ⟨Z17, _, _, _, _, h17, (s58.fr (hf10.trans hf13)).trans s17, hdn, hel', hP.add e _, (v2.trans t2).trans hd0, v1, u2⟩
    · exact fin h110
/-- Rows of digests that are the same. -/
theorem sumsEq_ok {w : World} {s t : Sl} {ls : List (List UInt8)} {b1 b2 : Nat} (h : w.ownsRow b1 t_api_Sum 32 (.slice s.a s.n s.c) s.n (sumsV ls)) (h' : w.ownsRow b2 t_api_Sum 32 (.slice t.a t.n t.c) t.n (sumsV ls)) (hs : s.n = ls.length) (ht : t.n = ls.length) (h32 : ∀ l ∈ ls, l.length = 32) (hl : ls.length ≤ 1000) :
    cl Tryd.prog n_slices_Equal_api_Sum_api_Sum #[.slice s.a s.n s.c, .slice t.a t.n t.c] .B w fun (r : Bool) w' => r = true ∧ Fr w w' := by
  refine slices_Equal_api_Sum_api_Sum.cl (p0 := s) (p1 := t) ?_
  unfold slices_Equal_api_Sum_api_Sum
  refine bNe (fun h => by omega) fun _ => ?_
  refine lpI (fun (s' : Int × Unit) v => ∃ i : Nat, i ≤ ls.length ∧ s'.1 = i ∧ Fr w v) (fun s' _ => (s.n - s'.1).toNat) ⟨0, Nat.zero_le _, rfl, Fr.refl _⟩ ?_
  rintro D ⟨i', ⟨⟩⟩ v ⟨i, hi, rfl, hv⟩
  dsimp -zeta only at hi ⊢
  refine bD ?_ ?_ <;> intro hlt
  · have hi1 : i < ls.length := by omega
    have hli := h32 _ (List.getElem_mem hi1)
    refine rowFl w h h32 hi1 hv (fun x hx => ?_) hs
    refine rowFl w h' h32 hi1 hv (fun y hy => ?_) ht
    rw [hx, hy]
    refine qnNe hli hli ?_
    intro n10
    refine bF (by simp) ?_
    rw [i64w (n := (i : Int) + 1) (by omega) (by omega)]
    exact ⟨⟨i + 1, by omega, rfl, hv.trans (Fr.drewN _ _)⟩, by omega⟩
  · exact ⟨rfl, hv⟩
end
theorem DedupAgain_ok {w : World} {s : Sl} {xs : List (Sl × List UInt8)} {p1 : Int} {p : RecT} {dd l : List UInt8} (hd : Dig w) (h : BsR w s xs) (hin : RcIn w p dd l) (hll : l.length ≤ 140737488351232) :
    cl Tryd.prog n_flumelaw11_DedupAgain #[.slice s.a s.n s.c, .int .i64 p1, (Kd.av k_api_Record p).val] .B w fun (r : Bool) w' => r = true ∧ Fr w w' := by
  refine flumelaw11_DedupAgain.cl (p0 := s) (p1 := p1) (p2 := p) ?_
  unfold flumelaw11_DedupAgain
  rw [rc_av p]
  refine nwI fun a1 w2 ha1 hs2 hf2 hb1 _ => ?_
  have h2 := h.fr hf2
  refine (light_ok h2).mono ?_
  rintro ok _ ⟨hl, rfl⟩
  have hsn := h.len
  refine bB ?_ ?_ <;> intro hok
  · exact awake11 hd hf2
  refine bD ?_ ?_ <;> intro h8
  · exact awake11 hd hf2
  obtain ⟨hl1, hl2⟩ := hl (by simpa using hok)
  rw [addOff]
  refine ldL0 (s := p.2.2.2.1) hb1 (rc_c34 p) ?_
  refine bD ?_ ?_ <;> intro hbig
  · exact awake11 hd hf2
  refine (two_ok (hd.fr hf2)).mono ?_
  rintro r12 w13 ⟨Z, ga, gb, ge, gd, ma, ra, mb, rb, rfl, _, hT⟩
  refine lpI (fun (s' : Int × Unit) v => ∃ (i : Nat) (Z : Nat → Prop) (sa sb : Sto) (e : En) (d : De), i ≤ xs.length ∧ s'.1 = i ∧ Two w2 v Z ga gb ge gd sa sb e d ∧ e.done = 0 ∧ e.list.length ≤ 8 ∧ PB sa i ∧ d.done = 0 ∧ d.list.length ≤ 8 ∧ AllT d.list) (fun s' _ => (s.n - s'.1).toNat)
    ⟨0, Z, _, _, _, _, Nat.zero_le _, rfl, hT, rfl, by simp, PB.nil _ _ _, rfl, by simp, fun b hb => absurd hb (by simp)⟩ ?_
  rintro D ⟨i', ⟨⟩⟩ v ⟨i, Z, sa, sb, e, d, hi, rfl, hv, hed, hel, hP, hdd, hdl, hA⟩
  dsimp -zeta only at hi ⊢
  refine bD ?_ ?_ <;> intro hlt
  · have hi1 : i < xs.length := by omega
    refine h2.ix hv.fr rfl hi1 fun _ => ?_
    have hBi := h2.all _ (List.getElem_mem hi1)
    have hli := hl2 _ (List.getElem_mem hi1)
    refine (through_ok hv hBi (by omega) hed hel hP (by omega) hdd hdl hA).mono ?_
    rintro r20 w21 ⟨Z2, sa2, sb2, e2, d2, k1, _, k2, k3, k4, k5, k6, k7⟩
    rw [i64w (n := (i : Int) + 1) (by omega) (by omega)]
    exact ⟨⟨i + 1, Z2, sa2, sb2, e2, d2, by omega, rfl, k1, k2, k3, k4, k5, k6, k7⟩, by omega⟩
  obtain ⟨N, hN⟩ : ∃ N : Int, IntKind.i64.wrap (Int.tmod (IntKind.u64.wrap p1) 9) = N := ⟨_, rfl⟩
  have hNb : 0 ≤ N ∧ N < 9 := by
    have h0 : 0 ≤ IntKind.u64.wrap p1 := by simp only [IntKind.wrap, IntKind.bits, IntKind.signed]; simp; omega
    have h1 : 0 ≤ Int.tmod (IntKind.u64.wrap p1) 9 := Int.tmod_nonneg _ h0
    have h2 : Int.tmod (IntKind.u64.wrap p1) 9 < 9 := Int.tmod_lt_of_pos _ (by omega)
    rw [i64w (by omega) (by omega)] at hN
    omega
  rw [hN]
  refine lpI (fun (s' : Int × Unit) u => ∃ (i : Nat) (d : De), i ≤ N.toNat ∧ s'.1 = i ∧ Two w2 u Z ga gb ge gd sa sb e d ∧ d.done ≤ i ∧ d.list.length ≤ 8 ∧ AllT d.list) (fun s' _ => (N - s'.1).toNat)
    ⟨0, d, Nat.zero_le _, rfl, hv, by omega, hdl, hA⟩ ?_
  rintro D ⟨i', ⟨⟩⟩ u ⟨i, d, hi, rfl, hu, hdd, hdl, hA⟩
  dsimp -zeta only at hi ⊢
  refine bD ?_ ?_ <;> intro hlt2
  · refine (hu.pop (by omega) hdl).mono ?_
    rintro r26 w27 ⟨_, _, k1, _⟩
    obtain ⟨p1, p2, p3, _⟩ := pop_all hA
    rw [i64w (n := (i : Int) + 1) (by omega) (by omega)]
    exact ⟨⟨i + 1, popS d, by omega, rfl, k1, by omega, by omega, p1⟩, by omega⟩
  refine hu.held.mono ?_
  rintro _ _ ⟨rfl, rfl⟩
  refine hu.ddone.mono ?_
  rintro _ _ ⟨rfl, rfl⟩
  refine hu.listB.mono ?_
  rintro x32 w33 ⟨hn32, ho32, hf33⟩
  have hu33 := hu.other hf33
  rw [i64w (n := (d.list.length : Int) + (d.done : Int)) (by omega) (by omega)]
  have hlt33 : ∀ {w : World} {Z : Nat → Prop} {sb : Sto} {d : De}, Two w2 w Z ga gb ge gd sa sb e d → ∀ k, Z k → k < w.heap.size := fun {w Z sb d} h k hz => by
    obtain ⟨⟨FA, FB, xa, xb, hZ, k1, k2, k3, k4⟩, k5, k6, k7, k8⟩ := h
    rw [hZ] at hz
    rcases hz with hk | hk | hk | hk
    · exact k1.fl _ hk
    · exact k2.fl _ hk
    · have := k3.lt; omega
    · have := k4.lt; omega
  have ha1 : ¬Z a1 := fun hz => by
    have := hu33.base _ hz
    have := (Array.getElem?_eq_some_iff.1 hb1).1
    omega
  refine lpI (fun (s' : Int × Unit) v => ∃ (j : Nat) (Z' : Nat → Prop), 1 ≤ j ∧ j ≤ d.list.length + d.done + 1 ∧ s'.1 = j ∧ Two w2 v Z' ga gb ge gd sa sb e d ∧ Stp w33 Z v Z') (fun s' _ => ((d.list.length : Int) + d.done + 1 - s'.1).toNat)
    ⟨1, Z, Nat.le_refl _, by omega, rfl, hu33, Stp.refl _ _⟩ ?_
  rintro D ⟨j', ⟨⟩⟩ v2 ⟨j, Z', hj1, hj2, rfl, hv2, hst⟩
  dsimp -zeta only at hj2 ⊢
  refine bD ?_ ?_ <;> intro hjl
  · refine ldR (hv2.fr.heap hb1) ?_
    refine (hv2.take (p1 := (j : Int)) hin.sum ((hin.data.fr hf2).fr hv2.fr) hll (by omega) hdl (by omega)).mono ?_
    rintro r39 w40 ⟨h39, Z2, k1, s1⟩
    rw [take_again hA hdl (by omega) (by omega)] at h39 k1
    subst h39
    refine bF rfl ?_
    rw [i64w (n := (j : Int) + 1) (by omega) (by omega)]
    exact ⟨⟨j + 1, Z2, by omega, by omega, rfl, k1, hst.trans s1⟩, by omega⟩
  refine hv2.held.mono ?_
  rintro _ _ ⟨rfl, rfl⟩
  refine bT (by simp) ?_
  refine hv2.ddone.mono ?_
  rintro _ _ ⟨rfl, rfl⟩
  refine bT (by simp) ?_
  refine hv2.listB.mono ?_
  rintro x45 w46 ⟨hn45, ho45, hf46⟩
  have hs32 : ∀ l ∈ sb.l.map (·.sum), l.length = 32 := fun l hl => by
    obtain ⟨c, hc, rfl⟩ := List.mem_map.1 hl
    obtain ⟨⟨FA, FB, xa, xb, hZ, k1, k2, k3, k4⟩, k5, k6, k7, k8⟩ := hu
    obtain ⟨k, hk, rfl⟩ := List.mem_iff_getElem.1 hc
    have hki : k < xb.ids.length := by rw [k2.len]; exact hk
    have := (k2.slt (List.getElem?_eq_getElem hki) (List.getElem?_eq_getElem hk)).1
    rw [← this]
    exact k2.mem.f32 _
  have hlen64 : sb.l.length ≤ 64 := by
    obtain ⟨⟨FA, FB, xa, xb, hZ, k1, k2, k3, k4⟩, k5, k6, k7, k8⟩ := hu
    have := k2.lm
    have := k2.sz
    omega
  have ho32' := own_kp ho32 hst.mv.kp fun ad ha hz => by
    have h1 := (World.ownsRow.lt ho32 ad.block (by rw [ha]; rfl)).1
    have := hlt33 hu _ hz
    omega
  refine (sumsEq_ok ho45 (own_kept ho32' hf46) (by rw [List.length_map]; exact hn45) (by rw [List.length_map]; exact hn32) hs32 (by rw [List.length_map]; omega)).mono ?_
  rintro _ w48 ⟨rfl, hf48⟩
  exact bT rfl (awake11 hd (hf2.trans ((hv2.other hf46).other hf48).fr))
end Go.Proofs.YtkaombhkepopgaaDoor
namespace Go.Proofs.YtkaombhkepopgaaDoor
open Go.RowKit Go.Fl

abbrev laid2 : List (String × DataW Unit) := [("flume/digest.first", Rows.laid_flume_digest_first), ("flume/digest.rounds", Rows.laid_flume_digest_rounds)]
/-- The door's own heap meets the condition. -/
theorem door_met (os : Os) (args : Array Value) : laidMetH Tryd.prog laid2 ((World.doorLaid Tryd.prog 400 os).forCall (fun _ _ => 0) ⟨#[], args, []⟩).memory :=
  laidMetH_of_parts3 (fuel := 8) (laidMet_of_run' 8 (by kernel_rfl) (by kernel_rfl)) (by kernel_rfl) (by kernel_rfl)
theorem glob_of_tab {W : World} {name : String} {zs : List Int} {g : Nat} (h : Lib.TabIs Tryd.prog W name .u32 zs) (hg : Tryd.prog.globalNamed name = some g) : Glob W g zs := fun i hi => by
  rw [h.cell hg i hi, List.getD_eq_getElem?_getD, List.getElem?_eq_getElem hi]
  rfl
def tabTyB (P : Program) (g n : Nat) : Bool := match (P.globals[g]?).map (·.type) with
  | some t => match P.underlying t with
    | some (.array m e) => match P.underlying e with
      | some (.int .u32) => m == n && P.cellsOf e == 1 && P.cellsOf t == n
      | _ => false
    | _ => false
  | none => false
theorem tab_of {P : Program} {W : World} {name : String} {zs : List Int} {rest : List (String × DataW Unit)} {g n : Nat} (hg : P.globalNamed name = some g) (hB : tabTyB P g n = true) (h : laidMet P ((name, Lib.tabData .u32 zs) :: rest) W) : Lib.TabIs P W name .u32 zs := by
  unfold tabTyB at hB
  split at hB
  · rename_i t ht
    split at hB
    · rename_i m e hu
      split at hB
      · rename_i he
        simp only [Bool.and_eq_true, beq_iff_eq] at hB
        obtain ⟨⟨rfl, h1⟩, h2⟩ := hB
        exact Lib.tabIs_of_head hg ht hu he h1 h2 h
      · cases hB
    · cases hB
  · cases hB
theorem dig_of_laid {W : World} (h : laidMetH Tryd.prog laid2 W) : Dig W := by
  rw [MakeChecks.laidMetH_plain _ _ _ (by kernel_rfl)] at h
  have h1 : laidMet Tryd.prog (("flume/digest.first", Lib.tabData .u32 F0) :: [("flume/digest.rounds", Lib.tabData .u32 K0)]) W := h
  exact ⟨glob_of_tab (tab_of (g := g_digest_first) (n := 8) (by kernel_rfl) (by kernel_rfl) h1) (by kernel_rfl), glob_of_tab (tab_of (g := g_digest_rounds) (n := 64) (by kernel_rfl) (by kernel_rfl) h1.tail) (by kernel_rfl)⟩
end Go.Proofs.YtkaombhkepopgaaDoor
namespace Go.Proofs.YtkaombhkepopgaaDoor
open Go.RowKit Go.Fl Go.ChangeShapes Go.WideShapes Go.ChangeAt

section
variable {H : Type} {enc : TypeId × Value → H} {w : World} {base : Nat}
theorem reach_eq {n : Nat} (h : n ≤ reachBytes) : n ≤ 140737488351232 := h
set_option maxRecDepth 100000 in
theorem DedupLess_law {p0 p1 : Int} {v : Value} {dd : DataW H} {ps : List MemPlace} {a : Option Addr} {len cap : Nat} {zs : List Int} (hd : Dig w) (_ : (Lit.int .i64 p0).wf = true) (_ : (Lit.int .i64 p1).wf = true)
    (hv : Value.okWide Tryd.prog w .any base t_s_s_uint8 v) (h : DataW.Trod enc Tryd.prog w 0 (fun _ => true) true t_s_s_uint8 v dd ps) (hw : ∀ n ∈ dd.weights Tryd.prog t_s_s_uint8, n ≤ reachBytes) (h3 : RowK .u8 w a len cap zs) :
    Calls Tryd.prog n_flumelaw11_DedupLess #[.int .i64 p0, .int .i64 p1, v, .slice a len cap] w fun e w' => e = .returned (.bool true) ∧ Below w.heap.size w w' := by
  refine lawE ?_
  have hx := rows_in hv h hw
  obtain ⟨s, xs, rfl, hB, hl⟩ := hx
  obtain ⟨l, hb⟩ := rowB h3
  exact DedupLess_ok (c := ⟨a, len, cap⟩) hd hB (reach_eq hl.2) hb
set_option maxRecDepth 100000 in
theorem DedupLets_law {v : Value} {dd : DataW H} {ps : List MemPlace} (hd : Dig w)
    (hv : Value.okWide Tryd.prog w .any base t_s_s_uint8 v) (h : DataW.Trod enc Tryd.prog w 0 (fun _ => true) true t_s_s_uint8 v dd ps) (hw : ∀ n ∈ dd.weights Tryd.prog t_s_s_uint8, n ≤ reachBytes) :
    Calls Tryd.prog n_flumelaw11_DedupLets #[v] w fun e w' => e = .returned (.bool true) ∧ Below w.heap.size w w' := by
  refine lawE ?_
  obtain ⟨s, xs, rfl, hB, hl⟩ := rows_in hv h hw
  exact DedupLets_ok hd hB
set_option maxRecDepth 100000 in
theorem DedupBounds_law {p0 p1 : Int} {v : Value} {dd : DataW H} {ps : List MemPlace} (hd : Dig w) (_ : (Lit.int .i64 p0).wf = true) (_ : (Lit.int .i64 p1).wf = true)
    (hv : Value.okWide Tryd.prog w .any base t_s_flumelaw11_Do v) (h : DataW.Trod enc Tryd.prog w 0 (fun _ => true) true t_s_flumelaw11_Do v dd ps) (hw : ∀ n ∈ dd.weights Tryd.prog t_s_flumelaw11_Do, n ≤ reachBytes) :
    Calls Tryd.prog n_flumelaw11_DedupBounds #[.int .i64 p0, .int .i64 p1, v] w fun e w' => e = .returned (.bool true) ∧ Below w.heap.size w w' := by
  refine lawE ?_
  obtain ⟨s, xs, rfl, h1, h2, h3⟩ := des_in hv h hw
  exact DedupBounds_ok hd h1 h2 h3
set_option maxRecDepth 100000 in
theorem de_in {v : Value} {dd : DataW H} {ps : List MemPlace} (hv : Value.okWide Tryd.prog w .any base t_flumelaw11_Do v) (h : DataW.Trod enc Tryd.prog w 0 (fun _ => true) true t_flumelaw11_Do v dd ps) (hw : ∀ n ∈ dd.weights Tryd.prog t_flumelaw11_Do, n ≤ reachBytes) :
    ∃ e : DE, v = (Kd.av k_flumelaw11_Do e.1).val ∧ DEIn w e := by
  obtain ⟨cs, rfl, _⟩ := Go.WideShapes.okWide_struct u_flumelaw11_Do hv
  obtain ⟨fuel, hf⟩ := h
  obtain ⟨e, hcs, hR⟩ := de_of_cellsW hf hw
  refine ⟨e, ?_, hR⟩
  have h1 : cs.toList = deC e := hcs
  have : cs = (deC e).toArray := (Array.toArray_toList (xs := cs)).symm.trans (congrArg List.toArray h1)
  exact congrArg Value.agg this
set_option maxRecDepth 100000 in
theorem DedupNobody_law {v : Value} {dd : DataW H} {ps : List MemPlace} (hd : Dig w)
    (hv : Value.okWide Tryd.prog w .any base t_flumelaw11_Do v) (h : DataW.Trod enc Tryd.prog w 0 (fun _ => true) true t_flumelaw11_Do v dd ps) (hw : ∀ n ∈ dd.weights Tryd.prog t_flumelaw11_Do, n ≤ reachBytes) :
    Calls Tryd.prog n_flumelaw11_DedupNobody #[v] w fun e w' => e = .returned (.bool true) ∧ Below w.heap.size w w' := by
  refine lawE ?_
  obtain ⟨e, rfl, _⟩ := de_in hv h hw
  exact DedupNobody_ok e.1 hd
set_option maxRecDepth 100000 in
theorem DedupAgain_law {p1 : Int} {v v2 : Value} {dd dd2 : DataW H} {ps ps2 : List MemPlace} (hd : Dig w)
    (hv : Value.okWide Tryd.prog w .any base t_s_s_uint8 v) (h : DataW.Trod enc Tryd.prog w 0 (fun _ => true) true t_s_s_uint8 v dd ps) (hw : ∀ n ∈ dd.weights Tryd.prog t_s_s_uint8, n ≤ reachBytes) (_ : (Lit.int .i64 p1).wf = true)
    (hv2 : Value.okWide Tryd.prog w .any base t_api_Record v2) (h2 : DataW.Trod enc Tryd.prog w 0 (fun _ => true) true t_api_Record v2 dd2 ps2) (hw2 : ∀ n ∈ dd2.weights Tryd.prog t_api_Record, n ≤ reachBytes) :
    Calls Tryd.prog n_flumelaw11_DedupAgain #[v, .int .i64 p1, v2] w fun e w' => e = .returned (.bool true) ∧ Below w.heap.size w w' := by
  refine lawE ?_
  obtain ⟨s, xs, rfl, hB, hl⟩ := rows_in hv h hw
  obtain ⟨p, d, l, rfl, hR⟩ := rec_inW hv2 h2 hw2
  exact DedupAgain_ok hd hB hR.1 (reach_eq hR.2)
end
end Go.Proofs.YtkaombhkepopgaaDoor
